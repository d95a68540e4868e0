import Derived.Test.YtfedjgblgnkbcaaDoorRepA
namespace Go.Proofs.YtfedjgblgnkbcaaDoor
open Go.RowKit

/-! ### report.Obligation, report.Answer -/
theorem Rd.litD {sz n : Nat} (W : World) (arr : Array Value) (e : TypeId) (g : Nat) (hg : g = W.heap.size) (hn : arr.size = n * sz) : Rd (W.alloc (.cells arr e)).drew (W.alloc (.cells arr e)).drew.heap.size sz (some ⟨g, 0, none⟩) n arr.toList := Rd.lit W arr e g hg hn
theorem Rd.litA {sz n : Nat} (W : World) (arr : Array Value) (e : TypeId) (g : Nat) (o : Obj) (hg : g = W.heap.size) (hn : arr.size = n * sz) : Rd ((W.alloc (.cells arr e)).alloc o).drew ((W.alloc (.cells arr e)).alloc o).drew.heap.size sz (some ⟨g, 0, none⟩) n arr.toList := (Rd.lit W arr e g hg hn).alloc o
set_option maxHeartbeats 1000000 in
theorem statusQ (s : Int) (w : World) : Calls Tryd.prog 12 #[.int .i64 s] w fun e w' => e = .returned (.string ⟨(stT s).toArray⟩) ∧ w' = w := by
  by_cases hs : 1 ≤ s ∧ s ≤ 5
  · obtain rfl | rfl | rfl | rfl | rfl : s = 1 ∨ s = 2 ∨ s = 3 ∨ s = 4 ∨ s = 5 := by omega
    all_goals
      go_enter Tryd.func12, Tryd.ntmps12
      go_wp2_with fail
      go_ret
      exact ⟨rfl, rfl⟩
  · have q1 : (s == 1) = false := by simp; omega
    have q2 : (s == 2) = false := by simp; omega
    have q3 : (s == 3) = false := by simp; omega
    have q4 : (s == 4) = false := by simp; omega
    have q5 : (s == 5) = false := by simp; omega
    have HN : Hid (stT s = [110, 111, 110, 101]) := Lib.hid (by
      unfold stT
      split
      · obtain rfl : s = 0 := by omega
        rfl
      · rfl)
    rw [HN.out]
    clear hs
    go_enter Tryd.func12, Tryd.ntmps12
    go_wp2_with fail
    go_ret
    exact ⟨rfl, rfl⟩
set_option maxRecDepth 100000 in
set_option maxHeartbeats 8000000 in
theorem oblig_any (c m a n d s : Int) (hc : inI c) (hm : inI m) (ha : inI a) (hn : inI n) (hd : inI d) (w : World) (hw : TabOk w) :
    Calls Tryd.prog 5 #[.agg #[.int .i64 c, .int .i64 m, .int .i64 a, .int .i64 n, .int .i64 d, .int .i64 s]] w fun e w' => e = .returned (.string ⟨(owesT c m a n d s).toArray⟩) ∧ Below w.heap.size w w' := by
  have hB0 := (Below.refl w.heap.size w).alloc (Nat.le_refl _) (.cells #[.int .i64 c, .int .i64 m, .int .i64 a, .int .i64 n, .int .i64 d, .int .i64 s] 23)
  have bx0 := Blk.new w 23 #[.int .i64 c, .int .i64 m, .int .i64 a, .int .i64 n, .int .i64 d, .int .i64 s] w.heap.size rfl
  obtain ⟨W, hW⟩ : ∃ W, Hid (w.alloc (.cells #[.int .i64 c, .int .i64 m, .int .i64 a, .int .i64 n, .int .i64 d, .int .i64 s] 23) = W) := ⟨_, Lib.hid rfl⟩
  rw [hW.out] at hB0 bx0
  have HT := Lib.hid (hw.past hB0)
  have KP : ∀ w', Below W.heap.size W w' → (w'.cell? ⟨w.heap.size, 0, none⟩ = some (.int .i64 c) ∧ w'.cell? ⟨w.heap.size, 1, none⟩ = some (.int .i64 m) ∧ w'.cell? ⟨w.heap.size, 2, none⟩ = some (.int .i64 a) ∧ w'.cell? ⟨w.heap.size, 3, none⟩ = some (.int .i64 n) ∧ w'.cell? ⟨w.heap.size, 4, none⟩ = some (.int .i64 d) ∧ w'.cell? ⟨w.heap.size, 5, none⟩ = some (.int .i64 s) ∧ Below W.heap.size W w') := fun w' hb => ⟨(bx0.past hb).cell 0, (bx0.past hb).cell 1, (bx0.past hb).cell 2, (bx0.past hb).cell 3, (bx0.past hb).cell 4, (bx0.past hb).cell 5, hb⟩
  obtain ⟨k0, k1, k2, k3, k4, k5, _⟩ := KP W (Below.refl _ _)
  have HKP := Lib.hid KP
  have hWW := Below.refl W.heap.size W
  have HZ1 : Hid (∀ z ∈ [c, m, a], inI z) := Lib.hid (by simp; exact ⟨hc, hm, ha⟩)
  have HZ2 : Hid (∀ z ∈ [n, d], inI z) := Lib.hid (by simp; exact ⟨hn, hd⟩)
  have HD1 := Lib.hid (fun A W' hr ht => digits_int [111, 119, 101, 115] (by decide) A 3 3 [c, m, a] W' hr (by omega) HZ1.out ht)
  obtain ⟨x, hx⟩ : ∃ x, Hid ([111, 119, 101, 115] ++ numsT [c, m, a] = x) := ⟨_, Lib.hid rfl⟩
  have hxl : x.length ≤ 100 := by
    rw [← hx.out, List.length_append]
    have := numsT_len [c, m, a]
    simp at this ⊢
    omega
  rw [hx.out] at HD1
  have HD2 := Lib.hid (fun A W' hr ht => digits_i64 x (by omega) A 2 2 [n, d] W' hr (by omega) HZ2.out ht)
  obtain ⟨y, hy⟩ : ∃ y, Hid (x ++ numsT [n, d] = y) := ⟨_, Lib.hid rfl⟩
  have hyl : y.length ≤ 200 := by
    rw [← hy.out, List.length_append]
    have := numsT_len [n, d]
    simp at this
    omega
  rw [hy.out] at HD2
  have HS := Lib.hid (statusQ s)
  have hsl := stT_len s
  have HO : Hid (owesT c m a n d s = y ++ 32 :: stT s) := Lib.hid (by unfold owesT; rw [hx.out, hy.out, List.append_assoc]; rfl)
  rw [HO.out]
  generalize stT s = z at *
  have h1 : (⟨y.toArray⟩ : ByteArray) ++ ⟨#[32]⟩ = ⟨(y ++ [32]).toArray⟩ := app_bytes y [32]
  have h2 : (⟨(y ++ [32]).toArray⟩ : ByteArray) ++ ⟨z.toArray⟩ = ⟨(y ++ [32] ++ z).toArray⟩ := app_bytes _ z
  have n1 : ¬ 9223372036854775807 < y.length + 1 := by omega
  have n2 : ¬ 9223372036854775807 < y.length + 1 + z.length := by omega
  clear bx0 KP hw hc hm ha hn hd HZ1 HZ2 hx hy HO hxl
  go_enter Tryd.func5, Tryd.ntmps5
  go_upto_region 1 with fail
  rw [hW.out]
  go_region_held3 (fun w' => w'.cell? ⟨w.heap.size, 0, none⟩ = some (.int .i64 c) ∧ w'.cell? ⟨w.heap.size, 1, none⟩ = some (.int .i64 m) ∧ w'.cell? ⟨w.heap.size, 2, none⟩ = some (.int .i64 a) ∧ w'.cell? ⟨w.heap.size, 3, none⟩ = some (.int .i64 n) ∧ w'.cell? ⟨w.heap.size, 4, none⟩ = some (.int .i64 d) ∧ w'.cell? ⟨w.heap.size, 5, none⟩ = some (.int .i64 s) ∧ Below W.heap.size W w') ((go_split_ands; refine HKP.out _ ?_; first | assumption | exact Below.drew (by assumption) | exact Below.next (by assumption) (by assumption) | exact Below.alloc (by assumption) (Below.size (by assumption)) _)) (first
    | (go_at_call 11; go_split_ands; refine (HD1.out _ _ ?_ (HT.out.past (by assumption))).mono ?_; (first | exact Rd.lit _ _ _ _ rfl rfl | exact Rd.litD _ _ _ _ rfl rfl | (refine Rd.litD _ _ _ _ ?_ ?_ <;> (first | rfl | (simp; done))) | (refine Rd.litA _ _ _ _ _ ?_ ?_ <;> (first | rfl | (simp; done)))); rintro e w4 ⟨rfl, hb4⟩)
    | (go_at_call 12; go_split_ands; refine (HS.out _).mono ?_; rintro e w6 ⟨rfl, rfl⟩)
    | (go_at_call 10; go_split_ands; refine (HD2.out _ _ ?_ (HT.out.past (by assumption))).mono ?_; (first | exact Rd.lit _ _ _ _ rfl rfl | exact Rd.litD _ _ _ _ rfl rfl | (refine Rd.past ?_ hb4; refine Rd.litD _ _ _ _ ?_ ?_ <;> (first | rfl | (simp; done))) | (refine Rd.past ?_ hb4; refine Rd.litA _ _ _ _ _ ?_ ?_ <;> (first | rfl | (simp; done)))); rintro e w5 ⟨rfl, hb5⟩))
  all_goals
    go_split_ands
    go_wp2_with fail
    go_ret
    refine ⟨rfl, Below.past hB0 ?_ hB0.size⟩
    first | assumption | exact Below.drew (by assumption)

/-- An answer's line. -/
def answT (e z : Int) : List UInt8 := if e = 0 then [111, 107] ++ numsT [z] else [101, 114, 114, 111, 114, 32] ++ errT e
set_option maxRecDepth 100000 in
set_option maxHeartbeats 2000000 in
theorem answer_any (e z : Int) (hz : inI z) (w : World) (hw : TabOk w) :
    Calls Tryd.prog 7 #[.agg #[.int .i64 e, .int .i64 z]] w fun r w' => r = .returned (.string ⟨(answT e z).toArray⟩) ∧ Below w.heap.size w w' := by
  have hB0 := (Below.refl w.heap.size w).alloc (Nat.le_refl _) (.cells #[.int .i64 e, .int .i64 z] 26)
  have bx0 := Blk.new w 26 #[.int .i64 e, .int .i64 z] w.heap.size rfl
  obtain ⟨W, hW⟩ : ∃ W, Hid (w.alloc (.cells #[.int .i64 e, .int .i64 z] 26) = W) := ⟨_, Lib.hid rfl⟩
  rw [hW.out] at hB0 bx0
  have HT := Lib.hid (hw.past hB0)
  have k0 := (bx0).cell 0
  have k1 := (bx0).cell 1
  simp at k0 k1
  by_cases h0 : e = 0
  · subst h0
    have HD2 := Lib.hid (fun A W' hr ht => digits_i64 [111, 107] (by decide) A 1 1 [z] W' hr (by omega) (by simpa using hz) ht)
    have HO : Hid (answT 0 z = [111, 107] ++ numsT [z]) := Lib.hid rfl
    rw [HO.out]
    have hWo := hB0.alloc hB0.size (.cells #[.int .i64 z] 2)
    have HTo := Lib.hid (HT.out.past ((Below.refl W.heap.size W).alloc (Nat.le_refl _) (.cells #[.int .i64 z] 2)))
    clear hw hz bx0
    go_enter Tryd.func7, Tryd.ntmps7
    go_upto_region 1 with fail
    rw [hW.out]
    go_wp2_with fail
    refine (HD2.out _ _ (Rd.lit _ _ _ _ rfl rfl) HTo.out).mono ?_
    rintro r w5 ⟨rfl, hb5⟩
    go_wp2_with fail
    go_ret
    exact ⟨rfl, Below.past hWo hb5 hWo.size⟩
  · have HE := Lib.hid (errno_any e)
    have HO : Hid (answT e z = [101, 114, 114, 111, 114, 32] ++ errT e) := Lib.hid (if_neg h0)
    have hel := errT_len e
    rw [HO.out]
    generalize errT e = y at *
    have h1 : (⟨#[101, 114, 114, 111, 114, 32]⟩ : ByteArray) ++ ⟨y.toArray⟩ = ⟨([101, 114, 114, 111, 114, 32] ++ y).toArray⟩ := app_bytes [101, 114, 114, 111, 114, 32] y
    have q0 : (e != 0) = true := by simpa using h0
    clear hw hz bx0 h0
    go_enter Tryd.func7, Tryd.ntmps7
    go_upto_region 1 with fail
    rw [hW.out]
    go_wp2_with fail
    refine (HE.out _).mono ?_
    rintro r w5 ⟨rfl, hb5⟩
    go_wp2_with fail
    go_ret
    exact ⟨rfl, Below.past hB0 hb5 hB0.size⟩
end Go.Proofs.YtfedjgblgnkbcaaDoor
