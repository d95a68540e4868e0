import Derived.Test.YtfedjgblgnkbcaaDoorRepC
namespace Go.Proofs.YtfedjgblgnkbcaaDoor
open Go.RowKit Go.Sort

set_option maxRecDepth 100000 in
set_option maxHeartbeats 4000000 in
theorem refOblig_any (c m a n d s : Int) (hc : inI c) (hm : inI m) (ha : inI a) (hn : inI n) (hd : inI d) (w : World) :
    Calls Tryd.prog 6 #[.agg #[.int .i64 c, .int .i64 m, .int .i64 a, .int .i64 n, .int .i64 d, .int .i64 s]] w fun e w' => e = .returned (.string ⟨(owesT c m a n d s).toArray⟩) ∧ Below w.heap.size w w' := by
  have hB0 := (Below.refl w.heap.size w).alloc (Nat.le_refl _) (.cells #[.int .i64 c, .int .i64 m, .int .i64 a, .int .i64 n, .int .i64 d, .int .i64 s] 23)
  have bx0 := Blk.new w 23 #[.int .i64 c, .int .i64 m, .int .i64 a, .int .i64 n, .int .i64 d, .int .i64 s] w.heap.size rfl
  obtain ⟨W, hW⟩ : ∃ W, Hid (w.alloc (.cells #[.int .i64 c, .int .i64 m, .int .i64 a, .int .i64 n, .int .i64 d, .int .i64 s] 23) = W) := ⟨_, Lib.hid rfl⟩
  rw [hW.out] at hB0 bx0
  have HX := Lib.hid bx0
  have k0 := (bx0).cell 0
  have k1 := (bx0).cell 1
  have k2 := (bx0).cell 2
  have k3 := (bx0).cell 3
  have k4 := (bx0).cell 4
  have k5 := (bx0).cell 5
  simp at k0 k1 k2 k3 k4 k5
  have q0 := cell_regrown k0
  have q1 := cell_regrown k1
  have q2 := cell_regrown k2
  have q3 := cell_regrown k3
  have q4 := cell_regrown k4
  have q5 := cell_regrown k5
  have Nc : ∀ d' os, Calls Tryd.prog 13 #[.int .i64 c] (grow (redrawn W d') os) fun e w'' => e = .returned (.string ⟨(numI c).toArray⟩) ∧ ∃ p : Regrown, w'' = grow (redrawn W p.d) p.os := fun d' os => Calls.regrown_of (number_any c hc _)
  have lc := numI_len c
  have Nm : ∀ d' os, Calls Tryd.prog 13 #[.int .i64 m] (grow (redrawn W d') os) fun e w'' => e = .returned (.string ⟨(numI m).toArray⟩) ∧ ∃ p : Regrown, w'' = grow (redrawn W p.d) p.os := fun d' os => Calls.regrown_of (number_any m hm _)
  have lm := numI_len m
  have Na : ∀ d' os, Calls Tryd.prog 13 #[.int .i64 a] (grow (redrawn W d') os) fun e w'' => e = .returned (.string ⟨(numI a).toArray⟩) ∧ ∃ p : Regrown, w'' = grow (redrawn W p.d) p.os := fun d' os => Calls.regrown_of (number_any a ha _)
  have la := numI_len a
  have Nn : ∀ d' os, Calls Tryd.prog 13 #[.int .i64 n] (grow (redrawn W d') os) fun e w'' => e = .returned (.string ⟨(numI n).toArray⟩) ∧ ∃ p : Regrown, w'' = grow (redrawn W p.d) p.os := fun d' os => Calls.regrown_of (number_any n hn _)
  have ln := numI_len n
  have Nd : ∀ d' os, Calls Tryd.prog 13 #[.int .i64 d] (grow (redrawn W d') os) fun e w'' => e = .returned (.string ⟨(numI d).toArray⟩) ∧ ∃ p : Regrown, w'' = grow (redrawn W p.d) p.os := fun d' os => Calls.regrown_of (number_any d hd _)
  have ld := numI_len d
  obtain ⟨xc, hxc⟩ : ∃ x, Hid (numI c = x) := ⟨_, Lib.hid rfl⟩
  rw [hxc.out] at Nc lc
  obtain ⟨xm, hxm⟩ : ∃ x, Hid (numI m = x) := ⟨_, Lib.hid rfl⟩
  rw [hxm.out] at Nm lm
  obtain ⟨xa, hxa⟩ : ∃ x, Hid (numI a = x) := ⟨_, Lib.hid rfl⟩
  rw [hxa.out] at Na la
  obtain ⟨xn, hxn⟩ : ∃ x, Hid (numI n = x) := ⟨_, Lib.hid rfl⟩
  rw [hxn.out] at Nn ln
  obtain ⟨xd, hxd⟩ : ∃ x, Hid (numI d = x) := ⟨_, Lib.hid rfl⟩
  rw [hxd.out] at Nd ld
  obtain ⟨y1, hy1⟩ : ∃ y, Hid ([111, 119, 101, 115, 32] ++ xc = y) := ⟨_, Lib.hid rfl⟩
  have e1 : (⟨#[111, 119, 101, 115, 32]⟩ : ByteArray) ++ ⟨xc.toArray⟩ = ⟨y1.toArray⟩ := by rw [← hy1.out]; exact app_bytes [111, 119, 101, 115, 32] xc
  have z1 : y1.length ≤ 26 := by rw [← hy1.out, List.length_append]; first | omega | (simp; omega)
  have n1 : ¬ 9223372036854775807 < 5 + xc.length := by omega
  obtain ⟨y2, hy2⟩ : ∃ y, Hid (y1 ++ [32] = y) := ⟨_, Lib.hid rfl⟩
  have e2 : (⟨y1.toArray⟩ : ByteArray) ++ ⟨#[32]⟩ = ⟨y2.toArray⟩ := by rw [← hy2.out]; exact app_bytes y1 [32]
  have z2 : y2.length ≤ 27 := by rw [← hy2.out, List.length_append]; first | omega | (simp; omega)
  have n2 : ¬ 9223372036854775807 < y1.length + 1 := by omega
  obtain ⟨y3, hy3⟩ : ∃ y, Hid (y2 ++ xm = y) := ⟨_, Lib.hid rfl⟩
  have e3 : (⟨y2.toArray⟩ : ByteArray) ++ ⟨xm.toArray⟩ = ⟨y3.toArray⟩ := by rw [← hy3.out]; exact app_bytes y2 xm
  have z3 : y3.length ≤ 48 := by rw [← hy3.out, List.length_append]; first | omega | (simp; omega)
  have n3 : ¬ 9223372036854775807 < y2.length + xm.length := by omega
  obtain ⟨y4, hy4⟩ : ∃ y, Hid (y3 ++ [32] = y) := ⟨_, Lib.hid rfl⟩
  have e4 : (⟨y3.toArray⟩ : ByteArray) ++ ⟨#[32]⟩ = ⟨y4.toArray⟩ := by rw [← hy4.out]; exact app_bytes y3 [32]
  have z4 : y4.length ≤ 49 := by rw [← hy4.out, List.length_append]; first | omega | (simp; omega)
  have n4 : ¬ 9223372036854775807 < y3.length + 1 := by omega
  obtain ⟨y5, hy5⟩ : ∃ y, Hid (y4 ++ xa = y) := ⟨_, Lib.hid rfl⟩
  have e5 : (⟨y4.toArray⟩ : ByteArray) ++ ⟨xa.toArray⟩ = ⟨y5.toArray⟩ := by rw [← hy5.out]; exact app_bytes y4 xa
  have z5 : y5.length ≤ 70 := by rw [← hy5.out, List.length_append]; first | omega | (simp; omega)
  have n5 : ¬ 9223372036854775807 < y4.length + xa.length := by omega
  obtain ⟨y6, hy6⟩ : ∃ y, Hid (y5 ++ [32] = y) := ⟨_, Lib.hid rfl⟩
  have e6 : (⟨y5.toArray⟩ : ByteArray) ++ ⟨#[32]⟩ = ⟨y6.toArray⟩ := by rw [← hy6.out]; exact app_bytes y5 [32]
  have z6 : y6.length ≤ 71 := by rw [← hy6.out, List.length_append]; first | omega | (simp; omega)
  have n6 : ¬ 9223372036854775807 < y5.length + 1 := by omega
  obtain ⟨y7, hy7⟩ : ∃ y, Hid (y6 ++ xn = y) := ⟨_, Lib.hid rfl⟩
  have e7 : (⟨y6.toArray⟩ : ByteArray) ++ ⟨xn.toArray⟩ = ⟨y7.toArray⟩ := by rw [← hy7.out]; exact app_bytes y6 xn
  have z7 : y7.length ≤ 92 := by rw [← hy7.out, List.length_append]; first | omega | (simp; omega)
  have n7 : ¬ 9223372036854775807 < y6.length + xn.length := by omega
  obtain ⟨y8, hy8⟩ : ∃ y, Hid (y7 ++ [32] = y) := ⟨_, Lib.hid rfl⟩
  have e8 : (⟨y7.toArray⟩ : ByteArray) ++ ⟨#[32]⟩ = ⟨y8.toArray⟩ := by rw [← hy8.out]; exact app_bytes y7 [32]
  have z8 : y8.length ≤ 93 := by rw [← hy8.out, List.length_append]; first | omega | (simp; omega)
  have n8 : ¬ 9223372036854775807 < y7.length + 1 := by omega
  obtain ⟨y9, hy9⟩ : ∃ y, Hid (y8 ++ xd = y) := ⟨_, Lib.hid rfl⟩
  have e9 : (⟨y8.toArray⟩ : ByteArray) ++ ⟨xd.toArray⟩ = ⟨y9.toArray⟩ := by rw [← hy9.out]; exact app_bytes y8 xd
  have z9 : y9.length ≤ 114 := by rw [← hy9.out, List.length_append]; first | omega | (simp; omega)
  have n9 : ¬ 9223372036854775807 < y8.length + xd.length := by omega
  have HO : Hid (owesT c m a n d s = y9 ++ 32 :: stT s) := Lib.hid (by
    rw [← hy9.out, ← hy8.out, ← hy7.out, ← hy6.out, ← hy5.out, ← hy4.out, ← hy3.out, ← hy2.out, ← hy1.out, ← hxc.out, ← hxm.out, ← hxa.out, ← hxn.out, ← hxd.out]
    simp [owesT, numsT])
  rw [HO.out]
  clear HO hc hm ha hn hd bx0 k0 k1 k2 k3 k4 k5 z1 z2 z3 z4 z5 z6 z7 z8
  clear hxc lc
  clear hxm lm
  clear hxa la
  clear hxn ln
  clear hxd ld
  clear hy1
  clear hy2
  clear hy3
  clear hy4
  clear hy5
  clear hy6
  clear hy7
  clear hy8
  clear hy9
  go_enter Tryd.func6, Tryd.ntmps6
  go_upto_region 1 with fail
  rw [hW.out]
  refine wp_region_quiet_below (by kernel_rfl) (by kernel_rfl) ?_
  repeat (quiet_step (first | with_reducible exact Nc _ _ | with_reducible exact Nm _ _ | with_reducible exact Na _ _ | with_reducible exact Nn _ _ | with_reducible exact Nd _ _))
  refine wpQuiet_nil ?_
  intro _ hw'
  obtain ⟨⟨dq, osq⟩, hw''⟩ := hw'
  subst hw''
  have hbv := below_regrown W dq osq
  clear q0 q1 q2 q3 q4 q5 Nc Nm Na Nn Nd e1 e2 e3 e4 e5 e6 e7 e8 e9 n1 n2 n3 n4 n5 n6 n7 n8 n9
  generalize grow (redrawn W dq) osq = V at *
  have bxV := HX.out.past hbv
  have k5 := bxV.cell 5
  have bxA := fun o => bxV.alloc o
  have j5 : ∀ o : Obj, (V.alloc o).cell? ⟨w.heap.size, 5, none⟩ = some (.int .i64 s) := fun o => (bxA o).cell 5
  simp at k5
  have hf := Below.past hB0 hbv hB0.size
  clear hbv bxV bxA
  by_cases hs : 0 ≤ s ∧ s ≤ 5
  · obtain rfl | rfl | rfl | rfl | rfl | rfl : s = 0 ∨ s = 1 ∨ s = 2 ∨ s = 3 ∨ s = 4 ∨ s = 5 := by omega
    all_goals
      have e1 : (⟨y9.toArray⟩ : ByteArray) ++ ⟨#[32]⟩ = ⟨(y9 ++ [32]).toArray⟩ := app_bytes y9 [32]
      go_wp2_with fail
      go_ret
      refine ⟨?_, hf.alloc hf.size _⟩
      exact congrArg (fun l : List UInt8 => Ending.returned (Value.string ⟨l.toArray⟩)) (by simp [stT, stTab])
  · have HN : Hid (stT s = [110, 111, 110, 101]) := Lib.hid (by unfold stT; rw [if_neg hs])
    have e1 : (⟨y9.toArray⟩ : ByteArray) ++ ⟨#[32, 110, 111, 110, 101]⟩ = ⟨(y9 ++ 32 :: [110, 111, 110, 101]).toArray⟩ := app_bytes y9 [32, 110, 111, 110, 101]
    by_cases h0 : s < 0
    · clear hs
      go_wp2_with fail
      go_ret
      refine ⟨?_, hf.alloc hf.size _⟩
      rw [HN.out]
      rfl
    · have h1 : 5 < s := by omega
      clear hs
      go_wp2_with fail
      go_ret
      refine ⟨?_, hf.alloc hf.size _⟩
      rw [HN.out]
      rfl
end Go.Proofs.YtfedjgblgnkbcaaDoor
