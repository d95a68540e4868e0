import Derived.Test.YtehemhpfdajbdaaDoorChnG
import Derived.Test.YtehemhpfdajbdaaDoorChnH
import Derived.Test.YtehemhpfdajbdaaDoorChaC
import Derived.Deep.RegionHeld
namespace Go.Proofs.YtehemhpfdajbdaaDoor
open Go.RowKit

/-! ### The law ChartNames -/
/-- The condition of a drawn region may be sharpened on the way. -/
theorem wpAnyH_sharp {P : Program} {ops : Array Oper} {Q : Exit → Act → World → Prop} {md : Region.Mode} {S S' : World → Prop} (hs : ∀ w, S' w → S w) :
    ∀ (fuel : Nat) (listed : Array Bool) (a : Act) (w : World), wpAnyH P md ops Q S' fuel listed a w → wpAnyH P md ops Q S fuel listed a w
  | 0, _, _, _, h => h
  | fuel + 1, _, _, _, h => ⟨h.1, fun i hi => wpOp_mono (fun a' w' h' => ⟨hs _ h'.1, wpAnyH_sharp hs fuel _ a' w' h'.2⟩) (h.2 i hi)⟩
theorem accC_neq (x y : Acc) (v : Bool) (hv : eqA x y = v) (w : World) : (binOp .neq 23 (.agg #[.int .i64 x.kind, .int .i64 x.member]) (.agg #[.int .i64 y.kind, .int .i64 y.member])).run Tryd.prog w = .ok (.bool (!v)) w := by
  have u3 := Tryd.underlying3
  have hS : Tryd.prog.underlying 23 = some (.struct (Tryd.prog.fieldsOf 23)) := by kernel_rfl
  have hp : Tryd.prog.stoodInHeld 23 = false := by kernel_rfl
  subst hv
  rw [run_neq_struct, show (10000 : Nat) = 9999 + 1 from rfl, run_equalIn_agg w 9999 23 _ _ hS hp]
  simp only [Program.fieldsOf, Tryd.underlying23]
  go_simp
  unfold eqA
  by_cases h1 : x.kind = y.kind <;> by_cases h2 : x.member = y.member <;> simp [h1, h2]
theorem NaOk.ch {w : World} (h : NaOk w) : ChOk w := ⟨h.1 9 (by omega), h.2⟩
theorem wdC_len (k : Nat) : (wdC k).length ≤ 7 := by
  unfold wdC
  split <;> simp
theorem name_len (a : Acc) : (nameA a).length ≤ 50 := by
  have h := wdC_len a.kind.toNat
  have h2 : (decS a.member.toNat).length ≤ 2 := by unfold decS; split <;> simp
  unfold nameA
  split
  · split
    · omega
    · simp; omega
  · simp
theorem ofA_nil : ofA [] = none := Option.isNone_iff_eq_none.1 (by decide +kernel)
theorem name_ne {a : Acc} (h : okA a = true) : nameA a ≠ [] := fun e => by
  have h2 := of_name a (okA_mem h)
  rw [e, ofA_nil] at h2
  cases h2
theorem eqA_refl2 (x : Acc) : eqA x x = true := by simp [eqA]
theorem accV_ints (o : Option Acc) : ∃ x y, accV o = .agg #[.int .i64 x, .int .i64 y] := by
  cases o with
  | none => exact ⟨0, 0, rfl⟩
  | some a => exact ⟨_, _, rfl⟩

set_option maxRecDepth 10000 in
theorem chartNames_long (kd mm : Int) (s : List UInt8) (hs : 50 < s.length) (w : World) (hw : CnOk w) : Calls Tryd.prog 3 #[.agg #[.int .i64 kd, .int .i64 mm], .string ⟨s.toArray⟩] w fun e w' => e = .returned (.bool true) ∧ Below w.heap.size w w' := by
  have hB0 := (Below.refl w.heap.size w).alloc (Nat.le_refl _) (.cells #[.int .i64 kd, .int .i64 mm] 23)
  have q0 : (50 : Int) < (s.length : Nat) := by omega
  have HA := Lib.hid (awake13 _ (hw.past hB0).na.ch)
  clear hs
  go_enter Tryd.func3, Tryd.ntmps3
  go_wp2_with fail
  refine HA.out.mono ?_
  rintro e w1 ⟨rfl, hb1⟩
  go_wp2_with fail
  go_ret
  exact ⟨rfl, Below.past hB0 hb1 hB0.size⟩

set_option maxRecDepth 10000 in
set_option maxHeartbeats 4000000 in
theorem chartNames_short (kd mm : Int) (s : List UInt8) (hs : s.length ≤ 50) (w : World) (hw : CnOk w) (hm : MlOk w) : Calls Tryd.prog 3 #[.agg #[.int .i64 kd, .int .i64 mm], .string ⟨s.toArray⟩] w fun e w' => e = .returned (.bool true) ∧ Below w.heap.size w w' := by
  have hB0 := (Below.refl w.heap.size w).alloc (Nat.le_refl _) (.cells #[.int .i64 kd, .int .i64 mm] 23)
  have bx0 := Blk.new w 23 #[.int .i64 kd, .int .i64 mm] w.heap.size rfl
  have q0 : ¬ (50 : Int) < (s.length : Nat) := by omega
  obtain ⟨W, hW⟩ : ∃ W, Hid (w.alloc (.cells #[.int .i64 kd, .int .i64 mm] 23) = W) := ⟨_, Lib.hid rfl⟩
  rw [hW.out] at hB0 bx0
  have HN := Lib.hid (name_at kd mm W (hw.past hB0).na)
  have HS := Lib.hid (name_len ⟨kd, mm⟩)
  obtain ⟨nm, hnm⟩ : ∃ nm, Hid (nameA ⟨kd, mm⟩ = nm) := ⟨_, Lib.hid rfl⟩
  have HRN := Lib.hid (fun W => refName_at kd mm W)
  rw [hnm.out] at HN HRN HS
  have HOF := Lib.hid (fun w' hw' hm' => of_any s hs w' hw' hm')
  obtain ⟨bk, bm, hbkm⟩ := accV_ints (ofA s)
  obtain ⟨er, her⟩ : ∃ er, Hid (errV (ofA s) = er) := ⟨_, Lib.hid rfl⟩
  rw [hbkm, her.out] at HOF
  have HBK := Lib.hid hbkm
  have HRO := Lib.hid (fun W => refOf_any s W)
  obtain ⟨z, hz⟩ : ∃ z, Hid (idxN s 0 (accs 16) = z) := ⟨_, Lib.hid rfl⟩
  rw [hz.out] at HRO
  have e0 := (bx0).cell 0
  have e1 := (bx0).cell 1
  simp at e0 e1
  have HI : Hid ((z = -1 ∧ bk = 0 ∧ bm = 0 ∧ er = 3) ∨ ∃ (j : Nat) (x : Acc), z = j ∧ (accs 16)[j]? = some x ∧ bk = x.kind ∧ bm = x.member ∧ er = 0) := Lib.hid (by
    rcases of_idx s with ⟨h1, h2⟩ | ⟨j, x, h1, h2, h3, h4⟩
    · rw [h2] at hbkm
      simp only [accV, Value.agg.injEq, Array.mk.injEq, List.cons.injEq, Value.int.injEq, true_and, and_true] at hbkm
      exact .inl ⟨by rw [← hz.out, h1], hbkm.1.symm, hbkm.2.symm, by rw [← her.out, h2]; rfl⟩
    · rw [h3] at hbkm
      simp only [accV, Value.agg.injEq, Array.mk.injEq, List.cons.injEq, Value.int.injEq, true_and, and_true] at hbkm
      exact .inr ⟨j, x, by rw [← hz.out, h1], h2, hbkm.1.symm, hbkm.2.symm, by rw [← her.out, h3]; rfl⟩)
  clear hs hbkm
  go_enter Tryd.func3, Tryd.ntmps3
  go_upto_region 3 with fail
  rw [hW.out]
  go_wp2_with fail
  refine HN.out.mono ?_
  rintro e w1 ⟨rfl, hb1⟩
  have hB1 := Below.past hB0 hb1 hB0.size
  have bx1 := bx0.past hb1
  clear e0 e1 HN
  go_wp2_with fail
  refine (HOF.out _ (hw.past hB1) (hm.past hB1)).mono ?_
  rintro e w2 ⟨rfl, hb2⟩
  have hB2 := Below.past hB1 hb2 hB1.size
  have bx2 := bx1.past hb2
  have hB3 := hB2.alloc hB2.size (.cells #[.int .i64 bk, .int .i64 bm] 23)
  have bx3 := bx2.alloc (.cells #[.int .i64 bk, .int .i64 bm] 23)
  have bb3 := Blk.new w2 23 #[.int .i64 bk, .int .i64 bm] w2.heap.size rfl
  obtain ⟨w3, hw3⟩ : ∃ w3, Hid (w2.alloc (.cells #[.int .i64 bk, .int .i64 bm] 23) = w3) := ⟨_, Lib.hid rfl⟩
  rw [hw3.out] at hB3 bx3 bb3
  go_upto_region 5 with fail
  rw [hw3.out]
  go_wp2_with fail
  refine (HRO.out _).mono ?_
  rintro e w4 ⟨rfl, hb4⟩
  have hB4 := Below.past hB3 hb4 hB3.size
  have bx4 := bx3.past hb4
  have bb4 := bb3.past hb4
  go_upto_region 6 with fail
  have e0 := (bb4).cell 0
  have e1 := (bb4).cell 1
  simp at e0 e1
  rcases HI.out with hc | hc
  · obtain ⟨rfl, rfl, rfl, rfl⟩ := hc
    have hq := fun w => accC_neq ⟨0, 0⟩ ⟨0, 0⟩ true rfl w
    simp only [Bool.not_true] at hq
    have hS0 : w4.drew.cell? ⟨w2.heap.size, 0, none⟩ = some (.int .i64 0) ∧ w4.drew.cell? ⟨w2.heap.size, 1, none⟩ = some (.int .i64 0) := ⟨e0, e1⟩
    refine wp_region_held_drew (S := fun w' => w'.cell? ⟨w2.heap.size, 0, none⟩ = some (.int .i64 0) ∧ w'.cell? ⟨w2.heap.size, 1, none⟩ = some (.int .i64 0)) (by kernel_rfl) hS0 (fun hHeld => ?_)
    clear hS0
    refine wpAnyH_take (i := 0) (v := ?_) rfl (by kernel_rfl) (by kernel_rfl) (by kernel_rfl) (fun _ _ _ h => h) (Or.inl ⟨by rfl, ?_⟩) (by assumption) ?_
    rotate_left
    · (intro w' hSw; (try dsimp only at hSw); first | (go_simp; done) | (go_simp; with_reducible rfl))
    try simp only [Act.put, List.getElem_toArray, List.getElem_cons_zero, List.getElem_cons_succ, List.setIfInBounds_toArray, List.set_cons_zero, List.set_cons_succ]
    refine wpAnyH_take (i := 1) (v := ?_) rfl (by kernel_rfl) (by kernel_rfl) (by kernel_rfl) (fun _ _ _ h => h) (Or.inl ⟨by rfl, ?_⟩) (by assumption) ?_
    rotate_left
    · (intro w' hSw; (try dsimp only at hSw); first | (go_simp; done) | (go_simp; with_reducible rfl))
    try simp only [Act.put, List.getElem_toArray, List.getElem_cons_zero, List.getElem_cons_succ, List.setIfInBounds_toArray, List.set_cons_zero, List.set_cons_succ]
    refine wpAnyH_take (i := 2) (v := ?_) rfl (by kernel_rfl) (by kernel_rfl) (by kernel_rfl) (fun _ _ _ h => h) (Or.inl ⟨by rfl, ?_⟩) (by assumption) ?_
    rotate_left
    · (intro w' hSw; (try dsimp only at hSw); first | (go_simp; done) | (go_simp; with_reducible rfl))
    try simp only [Act.put, List.getElem_toArray, List.getElem_cons_zero, List.getElem_cons_succ, List.setIfInBounds_toArray, List.set_cons_zero, List.set_cons_succ]
    refine wpAnyH_take (i := 3) (v := undef) rfl (by kernel_rfl) (by kernel_rfl) (by kernel_rfl) (fun _ _ _ h => h) (Or.inr ⟨by rfl, rfl⟩) (by assumption) ?_
    try simp only [Act.put, List.getElem_toArray, List.getElem_cons_zero, List.getElem_cons_succ, List.setIfInBounds_toArray, List.set_cons_zero, List.set_cons_succ]
    refine wpAnyH_take (i := 4) (v := undef) rfl (by kernel_rfl) (by kernel_rfl) (by kernel_rfl) (fun _ _ _ h => h) (Or.inr ⟨by rfl, rfl⟩) (by assumption) ?_
    try simp only [Act.put, List.getElem_toArray, List.getElem_cons_zero, List.getElem_cons_succ, List.setIfInBounds_toArray, List.set_cons_zero, List.set_cons_succ]
    refine wpAnyH_take (i := 5) (v := undef) rfl (by kernel_rfl) (by kernel_rfl) (by kernel_rfl) (fun _ _ _ h => h) (Or.inr ⟨by rfl, rfl⟩) (by assumption) ?_
    try simp only [Act.put, List.getElem_toArray, List.getElem_cons_zero, List.getElem_cons_succ, List.setIfInBounds_toArray, List.set_cons_zero, List.set_cons_succ]
    refine wpAnyH_take (i := 6) (v := undef) rfl (by kernel_rfl) (by kernel_rfl) (by kernel_rfl) (fun _ _ _ h => h) (Or.inr ⟨by rfl, rfl⟩) (by assumption) ?_
    try simp only [Act.put, List.getElem_toArray, List.getElem_cons_zero, List.getElem_cons_succ, List.setIfInBounds_toArray, List.set_cons_zero, List.set_cons_succ]
    refine wpAnyH_take (i := 7) (v := undef) rfl (by kernel_rfl) (by kernel_rfl) (by kernel_rfl) (fun _ _ _ h => h) (Or.inr ⟨by rfl, rfl⟩) (by assumption) ?_
    try simp only [Act.put, List.getElem_toArray, List.getElem_cons_zero, List.getElem_cons_succ, List.setIfInBounds_toArray, List.set_cons_zero, List.set_cons_succ]
    refine wpAnyH_take (i := 8) (v := undef) rfl (by kernel_rfl) (by kernel_rfl) (by kernel_rfl) (fun _ _ _ h => h) (Or.inr ⟨by rfl, rfl⟩) (by assumption) ?_
    try simp only [Act.put, List.getElem_toArray, List.getElem_cons_zero, List.getElem_cons_succ, List.setIfInBounds_toArray, List.set_cons_zero, List.set_cons_succ]
    refine wpAnyH_take (i := 9) (v := undef) rfl (by kernel_rfl) (by kernel_rfl) (by kernel_rfl) (fun _ _ _ h => h) (Or.inr ⟨by rfl, rfl⟩) (by assumption) ?_
    try simp only [Act.put, List.getElem_toArray, List.getElem_cons_zero, List.getElem_cons_succ, List.setIfInBounds_toArray, List.set_cons_zero, List.set_cons_succ]
    refine wpAnyH_take (i := 10) (v := undef) rfl (by kernel_rfl) (by kernel_rfl) (by kernel_rfl) (fun _ _ _ h => h) (Or.inr ⟨by rfl, rfl⟩) (by assumption) ?_
    try simp only [Act.put, List.getElem_toArray, List.getElem_cons_zero, List.getElem_cons_succ, List.setIfInBounds_toArray, List.set_cons_zero, List.set_cons_succ]
    refine wpAnyH_take (i := 11) (v := undef) rfl (by kernel_rfl) (by kernel_rfl) (by kernel_rfl) (fun _ _ _ h => h) (Or.inr ⟨by rfl, rfl⟩) (by assumption) ?_
    try simp only [Act.put, List.getElem_toArray, List.getElem_cons_zero, List.getElem_cons_succ, List.setIfInBounds_toArray, List.set_cons_zero, List.set_cons_succ]
    refine wpAnyH_take (i := 12) (v := undef) rfl (by kernel_rfl) (by kernel_rfl) (by kernel_rfl) (fun _ _ _ h => h) (Or.inr ⟨by rfl, rfl⟩) (by assumption) ?_
    try simp only [Act.put, List.getElem_toArray, List.getElem_cons_zero, List.getElem_cons_succ, List.setIfInBounds_toArray, List.set_cons_zero, List.set_cons_succ]
    refine wpAnyH_take (i := 13) (v := ?_) rfl (by kernel_rfl) (by kernel_rfl) (by kernel_rfl) (fun _ _ _ h => h) (Or.inl ⟨by rfl, ?_⟩) (by assumption) ?_
    rotate_left
    · (intro w' hSw; (try dsimp only at hSw); first | (go_simp; done) | (go_simp; with_reducible rfl))
    try simp only [Act.put, List.getElem_toArray, List.getElem_cons_zero, List.getElem_cons_succ, List.setIfInBounds_toArray, List.set_cons_zero, List.set_cons_succ]
    refine wpAnyH_take (i := 14) (v := ?_) rfl (by kernel_rfl) (by kernel_rfl) (by kernel_rfl) (fun _ _ _ h => h) (Or.inl ⟨by rfl, ?_⟩) (by assumption) ?_
    rotate_left
    · (intro w' hSw; (try dsimp only at hSw); first | (go_simp; done) | (go_simp; with_reducible rfl))
    try simp only [Act.put, List.getElem_toArray, List.getElem_cons_zero, List.getElem_cons_succ, List.setIfInBounds_toArray, List.set_cons_zero, List.set_cons_succ]
    refine wpAnyH_take (i := 15) (v := ?_) rfl (by kernel_rfl) (by kernel_rfl) (by kernel_rfl) (fun _ _ _ h => h) (Or.inl ⟨by rfl, ?_⟩) (by assumption) ?_
    rotate_left
    · (intro w' hSw; (try dsimp only at hSw); first | (go_simp; done) | (go_simp; with_reducible rfl))
    try simp only [Act.put, List.getElem_toArray, List.getElem_cons_zero, List.getElem_cons_succ, List.setIfInBounds_toArray, List.set_cons_zero, List.set_cons_succ]
    refine wpAnyH_take (i := 16) (v := ?_) rfl (by kernel_rfl) (by kernel_rfl) (by kernel_rfl) (fun _ _ _ h => h) (Or.inl ⟨by rfl, ?_⟩) (by assumption) ?_
    rotate_left
    · (intro w' hSw; (try dsimp only at hSw); first | (go_simp; done) | (go_simp; with_reducible rfl))
    try simp only [Act.put, List.getElem_toArray, List.getElem_cons_zero, List.getElem_cons_succ, List.setIfInBounds_toArray, List.set_cons_zero, List.set_cons_succ]
    refine wpAnyH_take (i := 17) (v := ?_) rfl (by kernel_rfl) (by kernel_rfl) (by kernel_rfl) (fun _ _ _ h => h) (Or.inl ⟨by rfl, ?_⟩) (by assumption) ?_
    rotate_left
    · (intro w' hSw; (try dsimp only at hSw); first | (go_simp; done) | (go_simp; with_reducible rfl))
    try simp only [Act.put, List.getElem_toArray, List.getElem_cons_zero, List.getElem_cons_succ, List.setIfInBounds_toArray, List.set_cons_zero, List.set_cons_succ]
    refine wpAnyH_take (i := 18) (v := ?_) rfl (by kernel_rfl) (by kernel_rfl) (by kernel_rfl) (fun _ _ _ h => h) (Or.inl ⟨by rfl, ?_⟩) (by assumption) ?_
    rotate_left
    · (intro w' hSw; (try dsimp only at hSw); first | (go_simp; done) | (go_simp; with_reducible rfl))
    try simp only [Act.put, List.getElem_toArray, List.getElem_cons_zero, List.getElem_cons_succ, List.setIfInBounds_toArray, List.set_cons_zero, List.set_cons_succ]
    refine wpAnyH_take (i := 19) (v := ?_) rfl (by kernel_rfl) (by kernel_rfl) (by kernel_rfl) (fun _ _ _ h => h) (Or.inl ⟨by rfl, ?_⟩) (by assumption) ?_
    rotate_left
    · (intro w' hSw; (try dsimp only at hSw); first | (go_simp; done) | (go_simp; with_reducible rfl))
    try simp only [Act.put, List.getElem_toArray, List.getElem_cons_zero, List.getElem_cons_succ, List.setIfInBounds_toArray, List.set_cons_zero, List.set_cons_succ]
    refine wpAnyH_take (i := 20) (v := ?_) rfl (by kernel_rfl) (by kernel_rfl) (by kernel_rfl) (fun _ _ _ h => h) (Or.inl ⟨by rfl, ?_⟩) (by assumption) ?_
    rotate_left
    · (intro w' hSw; (try dsimp only at hSw); first | (go_simp; done) | (go_simp; with_reducible rfl))
    try simp only [Act.put, List.getElem_toArray, List.getElem_cons_zero, List.getElem_cons_succ, List.setIfInBounds_toArray, List.set_cons_zero, List.set_cons_succ]
    refine wpAnyH_take (i := 21) (v := ?_) rfl (by kernel_rfl) (by kernel_rfl) (by kernel_rfl) (fun _ _ _ h => h) (Or.inl ⟨by rfl, ?_⟩) (by assumption) ?_
    rotate_left
    · (intro w' hSw; (try dsimp only at hSw); first | (go_simp; done) | (go_simp; with_reducible rfl))
    try simp only [Act.put, List.getElem_toArray, List.getElem_cons_zero, List.getElem_cons_succ, List.setIfInBounds_toArray, List.set_cons_zero, List.set_cons_succ]
    refine wpAnyH_take (i := 22) (v := ?_) rfl (by kernel_rfl) (by kernel_rfl) (by kernel_rfl) (fun _ _ _ h => h) (Or.inl ⟨by rfl, ?_⟩) (by assumption) ?_
    rotate_left
    · (intro w' hSw; (try dsimp only at hSw); first | (go_simp; done) | (go_simp; with_reducible rfl))
    try simp only [Act.put, List.getElem_toArray, List.getElem_cons_zero, List.getElem_cons_succ, List.setIfInBounds_toArray, List.set_cons_zero, List.set_cons_succ]
    refine wpAnyH_take (i := 23) (v := ?_) rfl (by kernel_rfl) (by kernel_rfl) (by kernel_rfl) (fun _ _ _ h => h) (Or.inl ⟨by rfl, ?_⟩) (by assumption) ?_
    rotate_left
    · (intro w' hSw; (try dsimp only at hSw); first | (go_simp; done) | (go_simp; with_reducible rfl))
    try simp only [Act.put, List.getElem_toArray, List.getElem_cons_zero, List.getElem_cons_succ, List.setIfInBounds_toArray, List.set_cons_zero, List.set_cons_succ]
    refine wpAnyH_take (i := 24) (v := ?_) rfl (by kernel_rfl) (by kernel_rfl) (by kernel_rfl) (fun _ _ _ h => h) (Or.inl ⟨by rfl, ?_⟩) (by assumption) ?_
    rotate_left
    · (intro w' hSw; (try dsimp only at hSw); first | (go_simp; done) | (go_simp; with_reducible rfl))
    try simp only [Act.put, List.getElem_toArray, List.getElem_cons_zero, List.getElem_cons_succ, List.setIfInBounds_toArray, List.set_cons_zero, List.set_cons_succ]
    refine wpAnyH_take (i := 25) (v := ?_) rfl (by kernel_rfl) (by kernel_rfl) (by kernel_rfl) (fun _ _ _ h => h) (Or.inl ⟨by rfl, ?_⟩) (by assumption) ?_
    rotate_left
    · (intro w' hSw; (try dsimp only at hSw); first | (go_simp; done) | (go_simp; with_reducible rfl))
    try simp only [Act.put, List.getElem_toArray, List.getElem_cons_zero, List.getElem_cons_succ, List.setIfInBounds_toArray, List.set_cons_zero, List.set_cons_succ]
    refine wpAnyH_take (i := 26) (v := ?_) rfl (by kernel_rfl) (by kernel_rfl) (by kernel_rfl) (fun _ _ _ h => h) (Or.inl ⟨by rfl, ?_⟩) (by assumption) ?_
    rotate_left
    · (intro w' hSw; (try dsimp only at hSw); first | (go_simp; done) | (go_simp; with_reducible rfl))
    try simp only [Act.put, List.getElem_toArray, List.getElem_cons_zero, List.getElem_cons_succ, List.setIfInBounds_toArray, List.set_cons_zero, List.set_cons_succ]
    refine wpAnyH_done (by kernel_rfl) ?_ _
    clear hHeld e0 e1
    have hB5 := hB4.drew
    have bx5 := bx4.past (Below.drew (Below.refl _ _))
    obtain ⟨w5, hw5⟩ : ∃ w5, Hid (w4.drew = w5) := ⟨_, Lib.hid rfl⟩
    rw [hw5.out] at hB5 bx5
    rw [hw5.out]
    have f0 := (bx5).cell 0
    have f1 := (bx5).cell 1
    simp at f0 f1
    go_wp2_with fail
    refine (HRN.out _).mono ?_
    rintro e w6 ⟨rfl, hb6⟩
    have hB6 := Below.past hB5 hb6 hB5.size
    have bx6 := bx5.past hb6
    clear f0 f1
    go_wp2_with fail
    cases hok : okA ⟨kd, mm⟩ with
    | true =>
      have HO2 : Hid (∀ w', CnOk w' → MlOk w' → Calls Tryd.prog 6 #[.string ⟨nm.toArray⟩] w' fun e w'' => e = .returned (.tuple #[.agg #[.int .i64 kd, .int .i64 mm], .int .i64 0]) ∧ Below w'.heap.size w' w'') := Lib.hid fun w' h1 h2 => by
        have h3 := of_any nm HS.out w' h1 h2
        rw [← hnm.out, of_name _ (okA_mem hok)] at h3
        rw [← hnm.out]
        exact h3
      have hq1 : (nm == []) = false := by
        have h3 := name_ne hok
        rw [hnm.out] at h3
        simpa using h3
      have hq2 := fun w => acc_eql ⟨kd, mm⟩ ⟨kd, mm⟩ w
      rw [eqA_refl2] at hq2
      refine (HO2.out _ (hw.past hB6) (hm.past hB6)).mono ?_
      rintro e w7 ⟨rfl, hb7⟩
      have hB7 := Below.past hB6 hb7 hB6.size
      have bx7 := bx6.past hb7
      have hB8 := hB7.alloc hB7.size (.cells #[.int .i64 kd, .int .i64 mm] 23)
      have bx8 := bx7.alloc (.cells #[.int .i64 kd, .int .i64 mm] 23)
      have bc8 := Blk.new w7 23 #[.int .i64 kd, .int .i64 mm] w7.heap.size rfl
      obtain ⟨w8, hw8⟩ : ∃ w8, Hid (w7.alloc (.cells #[.int .i64 kd, .int .i64 mm] 23) = w8) := ⟨_, Lib.hid rfl⟩
      rw [hw8.out] at hB8 bx8 bc8
      go_upto_region 11 with fail
      rw [hw8.out]
      go_wp2_with fail
      refine (awake13 _ (hw.past hB8).na.ch).mono ?_
      rintro e w9 ⟨rfl, hb9⟩
      have hB9 := Below.past hB8 hb9 hB8.size
      have bx9 := bx8.past hb9
      have bc9 := bc8.past hb9
      have f0 := (bx9).cell 0
      have f1 := (bx9).cell 1
      simp at f0 f1
      have g0 := (bc9).cell 0
      have g1 := (bc9).cell 1
      simp at g0 g1
      go_wp2_with fail
      go_ret
      exact ⟨rfl, hB9⟩
    | false =>
      have hnil : nm = [] := by
        rw [← hnm.out]; unfold nameA; rw [if_neg (by rw [hok]; simp)]
      subst hnil
      have HO2 : Hid (∀ w', CnOk w' → MlOk w' → Calls Tryd.prog 6 #[.string ⟨#[]⟩] w' fun e w'' => e = .returned (.tuple #[.agg #[.int .i64 0, .int .i64 0], .int .i64 3]) ∧ Below w'.heap.size w' w'') := Lib.hid fun w' h1 h2 => by
        have h3 := of_any [] (by simp) w' h1 h2
        rw [ofA_nil] at h3
        exact h3
      refine (HO2.out _ (hw.past hB6) (hm.past hB6)).mono ?_
      rintro e w7 ⟨rfl, hb7⟩
      have hB7 := Below.past hB6 hb7 hB6.size
      have hB8 := hB7.alloc hB7.size (.cells #[.int .i64 0, .int .i64 0] 23)
      obtain ⟨w8, hw8⟩ : ∃ w8, Hid (w7.alloc (.cells #[.int .i64 0, .int .i64 0] 23) = w8) := ⟨_, Lib.hid rfl⟩
      rw [hw8.out] at hB8
      go_upto_region 11 with fail
      rw [hw8.out]
      go_wp2_with fail
      refine (awake13 _ (hw.past hB8).na.ch).mono ?_
      rintro e w9 ⟨rfl, hb9⟩
      have hB9 := Below.past hB8 hb9 hB8.size
      go_wp2_with fail
      go_ret
      exact ⟨rfl, hB9⟩
  · obtain ⟨j, x, rfl, hj, rfl, rfl, rfl⟩ := hc
    have hq := fun w => accC_neq x x true (by simp [eqA]) w
    simp only [Bool.not_true] at hq
    have hjl : j < 54 := by
      have h1 := (List.getElem?_eq_some_iff.1 hj).1
      rw [accs_len] at h1
      exact h1
    have hji : (j : Int) < 54 := by omega
    have hS0 : w4.drew.cell? ⟨w2.heap.size, 0, none⟩ = some (.int .i64 x.kind) ∧ w4.drew.cell? ⟨w2.heap.size, 1, none⟩ = some (.int .i64 x.member) ∧ Below w4.heap.size w4 w4.drew := ⟨e0, e1, Below.drew (Below.refl _ _)⟩
    refine wp_region_held_drew (S := fun w' => w'.cell? ⟨w2.heap.size, 0, none⟩ = some (.int .i64 x.kind) ∧ w'.cell? ⟨w2.heap.size, 1, none⟩ = some (.int .i64 x.member) ∧ Below w4.heap.size w4 w') (by kernel_rfl) hS0 (fun hHeld => ?_)
    clear hS0
    refine wpAnyH_take (i := 0) (v := ?_) rfl (by kernel_rfl) (by kernel_rfl) (by kernel_rfl) (fun _ _ _ h => h) (Or.inl ⟨by rfl, ?_⟩) (by assumption) ?_
    rotate_left
    · (intro w' hSw; (try dsimp only at hSw); first | (go_simp; done) | (go_simp; with_reducible rfl))
    try simp only [Act.put, List.getElem_toArray, List.getElem_cons_zero, List.getElem_cons_succ, List.setIfInBounds_toArray, List.set_cons_zero, List.set_cons_succ]
    refine wpAnyH_take (i := 1) (v := ?_) rfl (by kernel_rfl) (by kernel_rfl) (by kernel_rfl) (fun _ _ _ h => h) (Or.inl ⟨by rfl, ?_⟩) (by assumption) ?_
    rotate_left
    · (intro w' hSw; (try dsimp only at hSw); first | (go_simp; done) | (go_simp; with_reducible rfl))
    try simp only [Act.put, List.getElem_toArray, List.getElem_cons_zero, List.getElem_cons_succ, List.setIfInBounds_toArray, List.set_cons_zero, List.set_cons_succ]
    refine wpAnyH_take (i := 2) (v := ?_) rfl (by kernel_rfl) (by kernel_rfl) (by kernel_rfl) (fun _ _ _ h => h) (Or.inl ⟨by rfl, ?_⟩) (by assumption) ?_
    rotate_left
    · (intro w' hSw; (try dsimp only at hSw); first | (go_simp; done) | (go_simp; with_reducible rfl))
    try simp only [Act.put, List.getElem_toArray, List.getElem_cons_zero, List.getElem_cons_succ, List.setIfInBounds_toArray, List.set_cons_zero, List.set_cons_succ]
    refine wpAnyH_take (i := 3) (v := ?_) rfl (by kernel_rfl) (by kernel_rfl) (by kernel_rfl) (fun _ _ _ h => h) (Or.inl ⟨by rfl, ?_⟩) (by assumption) ?_
    rotate_left
    · (intro w' hSw; (try dsimp only at hSw); first | (go_simp; done) | (go_simp; with_reducible rfl))
    try simp only [Act.put, List.getElem_toArray, List.getElem_cons_zero, List.getElem_cons_succ, List.setIfInBounds_toArray, List.set_cons_zero, List.set_cons_succ]
    refine wpAnyH_take (i := 4) (v := ?_) rfl (by kernel_rfl) (by kernel_rfl) (by kernel_rfl) (fun _ _ _ h => h) (Or.inl ⟨by rfl, ?_⟩) (by assumption) ?_
    rotate_left
    · (intro w' hSw; (try dsimp only at hSw); first | (go_simp; done) | (go_simp; with_reducible rfl))
    try simp only [Act.put, List.getElem_toArray, List.getElem_cons_zero, List.getElem_cons_succ, List.setIfInBounds_toArray, List.set_cons_zero, List.set_cons_succ]
    refine wpAnyH_take (i := 5) (v := ?_) rfl (by kernel_rfl) (by kernel_rfl) (by kernel_rfl) (fun _ _ _ h => h) (Or.inl ⟨by rfl, ?_⟩) (by assumption) ?_
    rotate_left
    · (intro w' hSw; (try dsimp only at hSw); first | (go_simp; done) | (go_simp; with_reducible rfl))
    try simp only [Act.put, List.getElem_toArray, List.getElem_cons_zero, List.getElem_cons_succ, List.setIfInBounds_toArray, List.set_cons_zero, List.set_cons_succ]
    refine wpAnyH_take (i := 6) (v := ?_) rfl (by kernel_rfl) (by kernel_rfl) (by kernel_rfl) (fun _ _ _ h => h) (Or.inl ⟨by rfl, ?_⟩) (by assumption) ?_
    rotate_left
    · (intro w' hSw; (try dsimp only at hSw); first | (go_simp; done) | (go_simp; with_reducible rfl))
    try simp only [Act.put, List.getElem_toArray, List.getElem_cons_zero, List.getElem_cons_succ, List.setIfInBounds_toArray, List.set_cons_zero, List.set_cons_succ]
    refine wpAnyH_take (i := 8) (v := ?_) rfl (by kernel_rfl) (by kernel_rfl) (by kernel_rfl) (fun _ _ _ h => h) (Or.inl ⟨by rfl, ?_⟩) (by assumption) ?_
    rotate_left
    · (intro w' hSw; (try dsimp only at hSw); first | (go_simp; done) | (go_simp; with_reducible rfl))
    try simp only [Act.put, List.getElem_toArray, List.getElem_cons_zero, List.getElem_cons_succ, List.setIfInBounds_toArray, List.set_cons_zero, List.set_cons_succ]
    refine wpAnyH_ready (rs := [7]) (by kernel_rfl) (by simp) ?_
    refine AllReadyH.cons rfl (fun K hK => ?_) AllReadyH.nil
    go_simp
    go_at_call 8
    refine (all_yes 16 (by omega) _).mono ?_
    rintro e w5 ⟨v, rfl, hown, hb5⟩
    obtain ⟨A, cc, rfl⟩ := own_form hown
    have hrd := Rd.of_own hown
    obtain ⟨rb, ro, rfl, hbb, hcx⟩ := hrd.elem Acc.cells_len hj hjl
    have c0 := hcx 0 _ rfl
    have c1 := hcx 1 _ rfl
    simp only [Nat.add_zero] at c0
    have hb45 : Below w4.heap.size w4 w5 := Below.past (Below.drew (Below.refl _ _)) hb5 (Nat.le_refl _)
    clear hHeld hown hcx e0 e1
    have bb5 := bb4.past hb45
    refine hK.out _ _ (⟨bb5.cell 0, bb5.cell 1, hb45⟩) (fun hHeld => ?_)
    try simp only [Act.put, List.getElem_toArray, List.getElem_cons_zero, List.getElem_cons_succ, List.setIfInBounds_toArray, List.set_cons_zero, List.set_cons_succ]
    refine wpAnyH_sharp (S' := fun w' => (w'.cell? ⟨w2.heap.size, 0, none⟩ = some (.int .i64 x.kind) ∧ w'.cell? ⟨w2.heap.size, 1, none⟩ = some (.int .i64 x.member) ∧ Below w4.heap.size w4 w') ∧ w'.cell? ⟨rb, ro + j * 2, none⟩ = some (.int .i64 x.kind) ∧ w'.cell? ⟨rb, ro + j * 2 + 1, none⟩ = some (.int .i64 x.member)) (fun _ h => h.1) _ _ _ _ ?_
    have hS1 := And.intro hHeld (And.intro c0 c1)
    clear hHeld c0 c1
    refine wpAnyH_take (i := 9) (v := ?_) rfl (by kernel_rfl) (by kernel_rfl) (by kernel_rfl) (fun _ _ _ h => h) (Or.inl ⟨by rfl, ?_⟩) (by assumption) ?_
    rotate_left
    · (intro w' hSw; (try dsimp only at hSw); first | (go_simp; done) | (go_simp; with_reducible rfl))
    try simp only [Act.put, List.getElem_toArray, List.getElem_cons_zero, List.getElem_cons_succ, List.setIfInBounds_toArray, List.set_cons_zero, List.set_cons_succ]
    refine wpAnyH_take (i := 10) (v := ?_) rfl (by kernel_rfl) (by kernel_rfl) (by kernel_rfl) (fun _ _ _ h => h) (Or.inl ⟨by rfl, ?_⟩) (by assumption) ?_
    rotate_left
    · (intro w' hSw; (try dsimp only at hSw); first | (go_simp; done) | (go_simp; with_reducible rfl))
    try simp only [Act.put, List.getElem_toArray, List.getElem_cons_zero, List.getElem_cons_succ, List.setIfInBounds_toArray, List.set_cons_zero, List.set_cons_succ]
    refine wpAnyH_take (i := 11) (v := ?_) rfl (by kernel_rfl) (by kernel_rfl) (by kernel_rfl) (fun _ _ _ h => h) (Or.inl ⟨by rfl, ?_⟩) (by assumption) ?_
    rotate_left
    · (intro w' hSw; (try dsimp only at hSw); first | (go_simp; done) | (go_simp; with_reducible rfl))
    try simp only [Act.put, List.getElem_toArray, List.getElem_cons_zero, List.getElem_cons_succ, List.setIfInBounds_toArray, List.set_cons_zero, List.set_cons_succ]
    refine wpAnyH_take (i := 12) (v := ?_) rfl (by kernel_rfl) (by kernel_rfl) (by kernel_rfl) (fun _ _ _ h => h) (Or.inl ⟨by rfl, ?_⟩) (by assumption) ?_
    rotate_left
    · (intro w' hSw; (try dsimp only at hSw); first | (go_simp; done) | (go_simp; with_reducible rfl))
    try simp only [Act.put, List.getElem_toArray, List.getElem_cons_zero, List.getElem_cons_succ, List.setIfInBounds_toArray, List.set_cons_zero, List.set_cons_succ]
    refine wpAnyH_take (i := 13) (v := ?_) rfl (by kernel_rfl) (by kernel_rfl) (by kernel_rfl) (fun _ _ _ h => h) (Or.inl ⟨by rfl, ?_⟩) (by assumption) ?_
    rotate_left
    · (intro w' hSw; (try dsimp only at hSw); first | (go_simp; done) | (go_simp; with_reducible rfl))
    try simp only [Act.put, List.getElem_toArray, List.getElem_cons_zero, List.getElem_cons_succ, List.setIfInBounds_toArray, List.set_cons_zero, List.set_cons_succ]
    refine wpAnyH_take (i := 14) (v := ?_) rfl (by kernel_rfl) (by kernel_rfl) (by kernel_rfl) (fun _ _ _ h => h) (Or.inl ⟨by rfl, ?_⟩) (by assumption) ?_
    rotate_left
    · (intro w' hSw; (try dsimp only at hSw); first | (go_simp; done) | (go_simp; with_reducible rfl))
    try simp only [Act.put, List.getElem_toArray, List.getElem_cons_zero, List.getElem_cons_succ, List.setIfInBounds_toArray, List.set_cons_zero, List.set_cons_succ]
    refine wpAnyH_take (i := 15) (v := ?_) rfl (by kernel_rfl) (by kernel_rfl) (by kernel_rfl) (fun _ _ _ h => h) (Or.inl ⟨by rfl, ?_⟩) (by assumption) ?_
    rotate_left
    · (intro w' hSw; (try dsimp only at hSw); first | (go_simp; done) | (go_simp; with_reducible rfl))
    try simp only [Act.put, List.getElem_toArray, List.getElem_cons_zero, List.getElem_cons_succ, List.setIfInBounds_toArray, List.set_cons_zero, List.set_cons_succ]
    refine wpAnyH_take (i := 16) (v := ?_) rfl (by kernel_rfl) (by kernel_rfl) (by kernel_rfl) (fun _ _ _ h => h) (Or.inl ⟨by rfl, ?_⟩) (by assumption) ?_
    rotate_left
    · (intro w' hSw; (try dsimp only at hSw); first | (go_simp; done) | (go_simp; with_reducible rfl))
    try simp only [Act.put, List.getElem_toArray, List.getElem_cons_zero, List.getElem_cons_succ, List.setIfInBounds_toArray, List.set_cons_zero, List.set_cons_succ]
    refine wpAnyH_take (i := 17) (v := ?_) rfl (by kernel_rfl) (by kernel_rfl) (by kernel_rfl) (fun _ _ _ h => h) (Or.inl ⟨by rfl, ?_⟩) (by assumption) ?_
    rotate_left
    · (intro w' hSw; (try dsimp only at hSw); first | (go_simp; done) | (go_simp; with_reducible rfl))
    try simp only [Act.put, List.getElem_toArray, List.getElem_cons_zero, List.getElem_cons_succ, List.setIfInBounds_toArray, List.set_cons_zero, List.set_cons_succ]
    refine wpAnyH_take (i := 18) (v := undef) rfl (by kernel_rfl) (by kernel_rfl) (by kernel_rfl) (fun _ _ _ h => h) (Or.inr ⟨by rfl, rfl⟩) (by assumption) ?_
    try simp only [Act.put, List.getElem_toArray, List.getElem_cons_zero, List.getElem_cons_succ, List.setIfInBounds_toArray, List.set_cons_zero, List.set_cons_succ]
    refine wpAnyH_take (i := 19) (v := undef) rfl (by kernel_rfl) (by kernel_rfl) (by kernel_rfl) (fun _ _ _ h => h) (Or.inr ⟨by rfl, rfl⟩) (by assumption) ?_
    try simp only [Act.put, List.getElem_toArray, List.getElem_cons_zero, List.getElem_cons_succ, List.setIfInBounds_toArray, List.set_cons_zero, List.set_cons_succ]
    refine wpAnyH_take (i := 20) (v := undef) rfl (by kernel_rfl) (by kernel_rfl) (by kernel_rfl) (fun _ _ _ h => h) (Or.inr ⟨by rfl, rfl⟩) (by assumption) ?_
    try simp only [Act.put, List.getElem_toArray, List.getElem_cons_zero, List.getElem_cons_succ, List.setIfInBounds_toArray, List.set_cons_zero, List.set_cons_succ]
    refine wpAnyH_take (i := 21) (v := undef) rfl (by kernel_rfl) (by kernel_rfl) (by kernel_rfl) (fun _ _ _ h => h) (Or.inr ⟨by rfl, rfl⟩) (by assumption) ?_
    try simp only [Act.put, List.getElem_toArray, List.getElem_cons_zero, List.getElem_cons_succ, List.setIfInBounds_toArray, List.set_cons_zero, List.set_cons_succ]
    refine wpAnyH_take (i := 22) (v := undef) rfl (by kernel_rfl) (by kernel_rfl) (by kernel_rfl) (fun _ _ _ h => h) (Or.inr ⟨by rfl, rfl⟩) (by assumption) ?_
    try simp only [Act.put, List.getElem_toArray, List.getElem_cons_zero, List.getElem_cons_succ, List.setIfInBounds_toArray, List.set_cons_zero, List.set_cons_succ]
    refine wpAnyH_take (i := 23) (v := undef) rfl (by kernel_rfl) (by kernel_rfl) (by kernel_rfl) (fun _ _ _ h => h) (Or.inr ⟨by rfl, rfl⟩) (by assumption) ?_
    try simp only [Act.put, List.getElem_toArray, List.getElem_cons_zero, List.getElem_cons_succ, List.setIfInBounds_toArray, List.set_cons_zero, List.set_cons_succ]
    refine wpAnyH_take (i := 24) (v := undef) rfl (by kernel_rfl) (by kernel_rfl) (by kernel_rfl) (fun _ _ _ h => h) (Or.inr ⟨by rfl, rfl⟩) (by assumption) ?_
    try simp only [Act.put, List.getElem_toArray, List.getElem_cons_zero, List.getElem_cons_succ, List.setIfInBounds_toArray, List.set_cons_zero, List.set_cons_succ]
    refine wpAnyH_take (i := 25) (v := ?_) rfl (by kernel_rfl) (by kernel_rfl) (by kernel_rfl) (fun _ _ _ h => h) (Or.inl ⟨by rfl, ?_⟩) (by assumption) ?_
    rotate_left
    · (intro w' hSw; (try dsimp only at hSw); first | (go_simp; done) | (go_simp; with_reducible rfl))
    try simp only [Act.put, List.getElem_toArray, List.getElem_cons_zero, List.getElem_cons_succ, List.setIfInBounds_toArray, List.set_cons_zero, List.set_cons_succ]
    refine wpAnyH_take (i := 26) (v := ?_) rfl (by kernel_rfl) (by kernel_rfl) (by kernel_rfl) (fun _ _ _ h => h) (Or.inl ⟨by rfl, ?_⟩) (by assumption) ?_
    rotate_left
    · (intro w' hSw; (try dsimp only at hSw); first | (go_simp; done) | (go_simp; with_reducible rfl))
    try simp only [Act.put, List.getElem_toArray, List.getElem_cons_zero, List.getElem_cons_succ, List.setIfInBounds_toArray, List.set_cons_zero, List.set_cons_succ]
    refine wpAnyH_done (by kernel_rfl) ?_ _
    clear hS1
    have hB5 := Below.past hB4 hb45 hB4.size
    have bx5 := bx4.past hb45
    have f0 := (bx5).cell 0
    have f1 := (bx5).cell 1
    simp at f0 f1
    go_wp2_with fail
    refine (HRN.out _).mono ?_
    rintro e w6 ⟨rfl, hb6⟩
    have hB6 := Below.past hB5 hb6 hB5.size
    have bx6 := bx5.past hb6
    clear f0 f1
    go_wp2_with fail
    cases hok : okA ⟨kd, mm⟩ with
    | true =>
      have HO2 : Hid (∀ w', CnOk w' → MlOk w' → Calls Tryd.prog 6 #[.string ⟨nm.toArray⟩] w' fun e w'' => e = .returned (.tuple #[.agg #[.int .i64 kd, .int .i64 mm], .int .i64 0]) ∧ Below w'.heap.size w' w'') := Lib.hid fun w' h1 h2 => by
        have h3 := of_any nm HS.out w' h1 h2
        rw [← hnm.out, of_name _ (okA_mem hok)] at h3
        rw [← hnm.out]
        exact h3
      have hq1 : (nm == []) = false := by
        have h3 := name_ne hok
        rw [hnm.out] at h3
        simpa using h3
      have hq2 := fun w => acc_eql ⟨kd, mm⟩ ⟨kd, mm⟩ w
      rw [eqA_refl2] at hq2
      refine (HO2.out _ (hw.past hB6) (hm.past hB6)).mono ?_
      rintro e w7 ⟨rfl, hb7⟩
      have hB7 := Below.past hB6 hb7 hB6.size
      have bx7 := bx6.past hb7
      have hB8 := hB7.alloc hB7.size (.cells #[.int .i64 kd, .int .i64 mm] 23)
      have bx8 := bx7.alloc (.cells #[.int .i64 kd, .int .i64 mm] 23)
      have bc8 := Blk.new w7 23 #[.int .i64 kd, .int .i64 mm] w7.heap.size rfl
      obtain ⟨w8, hw8⟩ : ∃ w8, Hid (w7.alloc (.cells #[.int .i64 kd, .int .i64 mm] 23) = w8) := ⟨_, Lib.hid rfl⟩
      rw [hw8.out] at hB8 bx8 bc8
      go_upto_region 11 with fail
      rw [hw8.out]
      go_wp2_with fail
      refine (awake13 _ (hw.past hB8).na.ch).mono ?_
      rintro e w9 ⟨rfl, hb9⟩
      have hB9 := Below.past hB8 hb9 hB8.size
      have bx9 := bx8.past hb9
      have bc9 := bc8.past hb9
      have f0 := (bx9).cell 0
      have f1 := (bx9).cell 1
      simp at f0 f1
      have g0 := (bc9).cell 0
      have g1 := (bc9).cell 1
      simp at g0 g1
      go_wp2_with fail
      go_ret
      exact ⟨rfl, hB9⟩
    | false =>
      have hnil : nm = [] := by
        rw [← hnm.out]; unfold nameA; rw [if_neg (by rw [hok]; simp)]
      subst hnil
      have HO2 : Hid (∀ w', CnOk w' → MlOk w' → Calls Tryd.prog 6 #[.string ⟨#[]⟩] w' fun e w'' => e = .returned (.tuple #[.agg #[.int .i64 0, .int .i64 0], .int .i64 3]) ∧ Below w'.heap.size w' w'') := Lib.hid fun w' h1 h2 => by
        have h3 := of_any [] (by simp) w' h1 h2
        rw [ofA_nil] at h3
        exact h3
      refine (HO2.out _ (hw.past hB6) (hm.past hB6)).mono ?_
      rintro e w7 ⟨rfl, hb7⟩
      have hB7 := Below.past hB6 hb7 hB6.size
      have hB8 := hB7.alloc hB7.size (.cells #[.int .i64 0, .int .i64 0] 23)
      obtain ⟨w8, hw8⟩ : ∃ w8, Hid (w7.alloc (.cells #[.int .i64 0, .int .i64 0] 23) = w8) := ⟨_, Lib.hid rfl⟩
      rw [hw8.out] at hB8
      go_upto_region 11 with fail
      rw [hw8.out]
      go_wp2_with fail
      refine (awake13 _ (hw.past hB8).na.ch).mono ?_
      rintro e w9 ⟨rfl, hb9⟩
      have hB9 := Below.past hB8 hb9 hB8.size
      go_wp2_with fail
      go_ret
      exact ⟨rfl, hB9⟩
end Go.Proofs.YtehemhpfdajbdaaDoor
