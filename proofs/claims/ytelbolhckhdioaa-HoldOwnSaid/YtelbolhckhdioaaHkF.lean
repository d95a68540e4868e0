import Derived.Test.YtelbolhckhdioaaBokQ
import Derived.IntWalk
/-! ## from BkvM -/
namespace Go.Proofs.Ytelbolhckhdioaa.TBk
open Go.RowKit Go.Proofs.Ytelbolhckhdioaa

variable {rm : Int} {vq : Value}
structure RbkV (rm : Int) (vq : Value) (w : World) (g base M A : Nat) (v : Value) (L : List Ent) (p : Int) : Prop where
  form : ∃ X c, v = .slice X L.length c
  blk : Blk w g 49 #[.int .i64 M, .int .i64 A, v, .int .i64 p, .int .i64 rm, vq]
  row : w.ownsRow base 110 4 v L.length (L.flatMap Ent.cells)
  ok : ∀ e ∈ L, EntOk e
  len : L.length ≤ 1000
theorem RbkV.past {w w' : World} {g base M A : Nat} {v : Value} {L : List Ent} {p : Int} (h : RbkV rm vq w g base M A v L p) (hb : Below w.heap.size w w') : RbkV rm vq w' g base M A v L p :=
  ⟨h.form, h.blk.past hb, own_pastK h.row hb, h.ok, h.len⟩
set_option maxHeartbeats 4000000 in
set_option maxRecDepth 100000 in
theorem refBal_any (g base M A : Nat) (v : Value) (L : List Ent) (p : Int) (s : Spt) (w : World) (hx : RbkV rm vq w g base M A v L p) :
    Calls Try.prog 61 #[.pointer (some ⟨g, 0, none⟩), .agg #[.int .i64 s.k, .int .i64 s.m], .int .i64 s.a] w fun e w' => e = .returned (.int .i64 (amount (atB L s).sum)) ∧ Below w.heap.size w w' := by
  obtain ⟨X, cX, hv⟩ := hx.form
  subst hv
  have bt0 := Blk.new w 52 #[.int .i64 s.k, .int .i64 s.m] w.heap.size rfl
  have hB0 := (Below.refl w.heap.size w).alloc (Nat.le_refl _) (.cells #[.int .i64 s.k, .int .i64 s.m] 52)
  have hx0 := hx.past hB0
  obtain ⟨W, hW⟩ : ∃ W, Hid (w.alloc (.cells #[.int .i64 s.k, .int .i64 s.m] 52) = W) := ⟨_, Lib.hid rfl⟩
  rw [hW.out] at bt0 hB0 hx0
  have hWs : w.heap.size < W.heap.size := bt0.lt
  have HB0 := Lib.hid hB0
  have HX := Lib.hid hx0
  have HBT := Lib.hid bt0
  obtain ⟨n, hn⟩ : ∃ n, Hid (L.length = n) := ⟨_, Lib.hid rfl⟩
  have hnl := hx.len
  have HBK := Lib.hid hx0.blk
  have HRD := Lib.hid (Rd.of_own hx0.row)
  rw [hn.out] at hnl HBK HRD
  obtain ⟨S, hS⟩ : ∃ S, Hid ((atB L s).sum = S) := ⟨_, Lib.hid rfl⟩
  rw [hS.out]
  clear hx hx0 bt0 hB0
  go_enter Try.func61, Try.ntmps61
  go_upto_region 1 with fail
  rw [hW.out]
  have hdr := Below.drew (Below.refl W.heap.size W)
  have hS0 : W.drew.cell? ⟨g, 2, none⟩ = some (.slice X n cX) ∧ W.drew.cell? ⟨w.heap.size, 0, none⟩ = some (.int .i64 s.k) ∧ W.drew.cell? ⟨w.heap.size, 1, none⟩ = some (.int .i64 s.m) := ⟨HBK.out.cell 2, HBT.out.cell 0, HBT.out.cell 1⟩
  refine wp_region_held_drew (S := fun w' => w'.cell? ⟨g, 2, none⟩ = some (.slice X n cX) ∧ w'.cell? ⟨w.heap.size, 0, none⟩ = some (.int .i64 s.k) ∧ w'.cell? ⟨w.heap.size, 1, none⟩ = some (.int .i64 s.m)) (by kernel_rfl) hS0 (fun hHeld => ?_)
  clear hS0
  refine wpAnyH_take (i := 0) (v := ?_) rfl (by kernel_rfl) (by kernel_rfl) (by kernel_rfl) (fun _ _ _ h => h) (Or.inl ⟨by rfl, ?_⟩) (by assumption) ?_
  rotate_left
  · (intro w' hSw; (try dsimp only at hSw); first | (go_simp; done) | (go_simp; with_reducible rfl))
  try simp only [Act.put, List.getElem_toArray, List.getElem_cons_zero, List.getElem_cons_succ, List.setIfInBounds_toArray, List.set_cons_zero, List.set_cons_succ]
  refine wpAnyH_take (i := 1) (v := ?_) rfl (by kernel_rfl) (by kernel_rfl) (by kernel_rfl) (fun _ _ _ h => h) (Or.inl ⟨by rfl, ?_⟩) (by assumption) ?_
  rotate_left
  · (intro w' hSw; (try dsimp only at hSw); first | (go_simp; done) | (go_simp; with_reducible rfl))
  try simp only [Act.put, List.getElem_toArray, List.getElem_cons_zero, List.getElem_cons_succ, List.setIfInBounds_toArray, List.set_cons_zero, List.set_cons_succ]
  refine wpAnyH_take (i := 2) (v := ?_) rfl (by kernel_rfl) (by kernel_rfl) (by kernel_rfl) (fun _ _ _ h => h) (Or.inl ⟨by rfl, ?_⟩) (by assumption) ?_
  rotate_left
  · (intro w' hSw; (try dsimp only at hSw); first | (go_simp; done) | (go_simp; with_reducible rfl))
  try simp only [Act.put, List.getElem_toArray, List.getElem_cons_zero, List.getElem_cons_succ, List.setIfInBounds_toArray, List.set_cons_zero, List.set_cons_succ]
  refine wpAnyH_take (i := 3) (v := ?_) rfl (by kernel_rfl) (by kernel_rfl) (by kernel_rfl) (fun _ _ _ h => h) (Or.inl ⟨by rfl, ?_⟩) (by assumption) ?_
  rotate_left
  · (intro w' hSw; (try dsimp only at hSw); first | (go_simp; done) | (go_simp; with_reducible rfl))
  try simp only [Act.put, List.getElem_toArray, List.getElem_cons_zero, List.getElem_cons_succ, List.setIfInBounds_toArray, List.set_cons_zero, List.set_cons_succ]
  refine wpAnyH_take (i := 4) (v := ?_) rfl (by kernel_rfl) (by kernel_rfl) (by kernel_rfl) (fun _ _ _ h => h) (Or.inl ⟨by rfl, ?_⟩) (by assumption) ?_
  rotate_left
  · (intro w' hSw; (try dsimp only at hSw); first | (go_simp; done) | (go_simp; with_reducible rfl))
  try simp only [Act.put, List.getElem_toArray, List.getElem_cons_zero, List.getElem_cons_succ, List.setIfInBounds_toArray, List.set_cons_zero, List.set_cons_succ]
  refine wpAnyH_take (i := 5) (v := ?_) rfl (by kernel_rfl) (by kernel_rfl) (by kernel_rfl) (fun _ _ _ h => h) (Or.inl ⟨by rfl, ?_⟩) (by assumption) ?_
  rotate_left
  · (intro w' hSw; (try dsimp only at hSw); first | (go_simp; done) | (go_simp; with_reducible rfl))
  try simp only [Act.put, List.getElem_toArray, List.getElem_cons_zero, List.getElem_cons_succ, List.setIfInBounds_toArray, List.set_cons_zero, List.set_cons_succ]
  refine wpAnyH_ready (rs := [6]) (by kernel_rfl) (by simp) ?_
  refine AllReadyH.cons rfl (fun K hK => ?_) AllReadyH.nil
  go_simp
  go_at_call 60
  have HAT := Lib.hid (refAt_any X n cX L s _ (HRD.out.past hdr) hnl)
  unfold IntsPost at HAT
  refine HAT.out.mono ?_
  rintro e w1 ⟨u, rfl, hu, hb1'⟩
  have hb1 : Below W.heap.size W w1 := undrewK hb1'
  obtain ⟨Au, cu, rfl⟩ := own_form hu
  have HB1 := Lib.hid (Below.past HB0.out hb1 (by omega))
  have HBK1 := Lib.hid (HBK.out.past hb1)
  have HBT1 := Lib.hid (HBT.out.past hb1)
  have HRU := Lib.hid (Rd.of_own hu)
  have hs1 := HB1.out.size
  clear hb1' hb1 hu HAT hHeld
  refine hK.out _ _ (⟨HBK1.out.cell 2, HBT1.out.cell 0, HBT1.out.cell 1⟩) (fun hHeld => ?_)
  try simp only [Act.put, List.getElem_toArray, List.getElem_cons_zero, List.getElem_cons_succ, List.setIfInBounds_toArray, List.set_cons_zero, List.set_cons_succ]
  refine wpAnyH_ready (rs := [7]) (by kernel_rfl) (by simp) ?_
  refine AllReadyH.cons rfl (fun K hK => ?_) AllReadyH.nil
  go_simp
  go_at_call 58
  have HSM := Lib.hid (refSum_any Au _ cu _ w1 HRU.out (Nat.le_trans (atB_len L s) (by rw [hn.out]; exact hnl)) (atB_in HX.out.ok s))
  rw [hS.out] at HSM
  refine HSM.out.mono ?_
  rintro e w2 ⟨rfl, rfl⟩
  clear HSM hHeld
  refine hK.out _ _ (⟨HBK1.out.cell 2, HBT1.out.cell 0, HBT1.out.cell 1⟩) (fun hHeld => ?_)
  try simp only [Act.put, List.getElem_toArray, List.getElem_cons_zero, List.getElem_cons_succ, List.setIfInBounds_toArray, List.set_cons_zero, List.set_cons_succ]
  refine wpAnyH_take (i := 8) (v := ?_) rfl (by kernel_rfl) (by kernel_rfl) (by kernel_rfl) (fun _ _ _ h => h) (Or.inl ⟨by rfl, ?_⟩) (by assumption) ?_
  rotate_left
  · (intro w' hSw; (try dsimp only at hSw); first | (go_simp; done) | (go_simp; with_reducible rfl))
  try simp only [Act.put, List.getElem_toArray, List.getElem_cons_zero, List.getElem_cons_succ, List.setIfInBounds_toArray, List.set_cons_zero, List.set_cons_succ]
  refine wpAnyH_take (i := 9) (v := ?_) rfl (by kernel_rfl) (by kernel_rfl) (by kernel_rfl) (fun _ _ _ h => h) (Or.inl ⟨by rfl, ?_⟩) (by assumption) ?_
  rotate_left
  · (intro w' hSw; (try dsimp only at hSw); first | (go_simp; done) | (go_simp; with_reducible rfl))
  try simp only [Act.put, List.getElem_toArray, List.getElem_cons_zero, List.getElem_cons_succ, List.setIfInBounds_toArray, List.set_cons_zero, List.set_cons_succ]
  refine wpAnyH_take (i := 10) (v := ?_) rfl (by kernel_rfl) (by kernel_rfl) (by kernel_rfl) (fun _ _ _ h => h) (Or.inl ⟨by rfl, ?_⟩) (by assumption) ?_
  rotate_left
  · (intro w' hSw; (try dsimp only at hSw); first | (go_simp; done) | (go_simp; with_reducible rfl))
  try simp only [Act.put, List.getElem_toArray, List.getElem_cons_zero, List.getElem_cons_succ, List.setIfInBounds_toArray, List.set_cons_zero, List.set_cons_succ]
  refine wpAnyH_take (i := 11) (v := ?_) rfl (by kernel_rfl) (by kernel_rfl) (by kernel_rfl) (fun _ _ _ h => h) (Or.inl ⟨by rfl, ?_⟩) (by assumption) ?_
  rotate_left
  · (intro w' hSw; (try dsimp only at hSw); first | (go_simp; done) | (go_simp; with_reducible rfl))
  try simp only [Act.put, List.getElem_toArray, List.getElem_cons_zero, List.getElem_cons_succ, List.setIfInBounds_toArray, List.set_cons_zero, List.set_cons_succ]
  refine wpAnyH_take (i := 12) (v := ?_) rfl (by kernel_rfl) (by kernel_rfl) (by kernel_rfl) (fun _ _ _ h => h) (Or.inl ⟨by rfl, ?_⟩) (by assumption) ?_
  rotate_left
  · (intro w' hSw; (try dsimp only at hSw); first | (go_simp; done) | (go_simp; with_reducible rfl))
  try simp only [Act.put, List.getElem_toArray, List.getElem_cons_zero, List.getElem_cons_succ, List.setIfInBounds_toArray, List.set_cons_zero, List.set_cons_succ]
  refine wpAnyH_done (by kernel_rfl) ?_ _
  clear hHeld
  go_wp2_with fail
  go_ret
  exact ⟨rfl, HB1.out⟩
set_option maxHeartbeats 4000000 in
set_option maxRecDepth 100000 in
theorem refHas_any14 (g base M A : Nat) (v : Value) (L : List Ent) (p : Int) (s : Spt) (w : World) (hM : M ≤ 16) (hx : RbkV rm vq w g base M A v L p) :
    Calls Try.prog 57 #[.pointer (some ⟨g, 0, none⟩), .agg #[.int .i64 s.k, .int .i64 s.m], .int .i64 s.a] w fun e w' => e = .returned (.bool (okP M A s)) ∧ Below w.heap.size w w' := by
  have bt0 := Blk.new w 52 #[.int .i64 s.k, .int .i64 s.m] w.heap.size rfl
  have hB0 := (Below.refl w.heap.size w).alloc (Nat.le_refl _) (.cells #[.int .i64 s.k, .int .i64 s.m] 52)
  have hx0 := hx.past hB0
  obtain ⟨W, hW⟩ : ∃ W, Hid (w.alloc (.cells #[.int .i64 s.k, .int .i64 s.m] 52) = W) := ⟨_, Lib.hid rfl⟩
  rw [hW.out] at bt0 hB0 hx0
  have hWs : w.heap.size < W.heap.size := bt0.lt
  have HB0 := Lib.hid hB0
  have HBT := Lib.hid bt0
  have HBK := Lib.hid hx0.blk
  have HPL := Lib.hid (place_yes M hM s.acc W.drew)
  obtain ⟨I, hI⟩ : ∃ I, Hid (idxA 0 (accs M) s.acc = I) := ⟨_, Lib.hid rfl⟩
  have HOK : Hid (okP M A s = (decide (0 ≤ I) && (decide (0 ≤ s.a) && decide (s.a < A)))) := Lib.hid (by rw [place_okP hM, hI.out])
  rw [hI.out] at HPL
  obtain ⟨R, hR⟩ : ∃ R, Hid (okP M A s = R) := ⟨_, Lib.hid rfl⟩
  rw [hR.out] at HOK ⊢
  clear hx hx0 bt0 hB0
  go_enter Try.func57, Try.ntmps57
  go_upto_region 1 with fail
  rw [hW.out]
  have hS0 : W.drew.cell? ⟨g, 0, none⟩ = some (.int .i64 M) ∧ W.drew.cell? ⟨g, 1, none⟩ = some (.int .i64 A) ∧ W.drew.cell? ⟨w.heap.size, 0, none⟩ = some (.int .i64 s.k) ∧ W.drew.cell? ⟨w.heap.size, 1, none⟩ = some (.int .i64 s.m) := ⟨HBK.out.cell 0, HBK.out.cell 1, HBT.out.cell 0, HBT.out.cell 1⟩
  refine wp_region_held_drew (S := fun w' => w'.cell? ⟨g, 0, none⟩ = some (.int .i64 M) ∧ w'.cell? ⟨g, 1, none⟩ = some (.int .i64 A) ∧ w'.cell? ⟨w.heap.size, 0, none⟩ = some (.int .i64 s.k) ∧ w'.cell? ⟨w.heap.size, 1, none⟩ = some (.int .i64 s.m)) (by kernel_rfl) hS0 (fun hHeld => ?_)
  clear hS0
  refine wpAnyH_take (i := 0) (v := ?_) rfl (by kernel_rfl) (by kernel_rfl) (by kernel_rfl) (fun _ _ _ h => h) (Or.inl ⟨by rfl, ?_⟩) (by assumption) ?_
  rotate_left
  · (intro w' hSw; (try dsimp only at hSw); first | (go_simp; done) | (go_simp; with_reducible rfl))
  try simp only [Act.put, List.getElem_toArray, List.getElem_cons_zero, List.getElem_cons_succ, List.setIfInBounds_toArray, List.set_cons_zero, List.set_cons_succ]
  refine wpAnyH_take (i := 1) (v := ?_) rfl (by kernel_rfl) (by kernel_rfl) (by kernel_rfl) (fun _ _ _ h => h) (Or.inl ⟨by rfl, ?_⟩) (by assumption) ?_
  rotate_left
  · (intro w' hSw; (try dsimp only at hSw); first | (go_simp; done) | (go_simp; with_reducible rfl))
  try simp only [Act.put, List.getElem_toArray, List.getElem_cons_zero, List.getElem_cons_succ, List.setIfInBounds_toArray, List.set_cons_zero, List.set_cons_succ]
  refine wpAnyH_take (i := 2) (v := ?_) rfl (by kernel_rfl) (by kernel_rfl) (by kernel_rfl) (fun _ _ _ h => h) (Or.inl ⟨by rfl, ?_⟩) (by assumption) ?_
  rotate_left
  · (intro w' hSw; (try dsimp only at hSw); first | (go_simp; done) | (go_simp; with_reducible rfl))
  try simp only [Act.put, List.getElem_toArray, List.getElem_cons_zero, List.getElem_cons_succ, List.setIfInBounds_toArray, List.set_cons_zero, List.set_cons_succ]
  refine wpAnyH_take (i := 3) (v := ?_) rfl (by kernel_rfl) (by kernel_rfl) (by kernel_rfl) (fun _ _ _ h => h) (Or.inl ⟨by rfl, ?_⟩) (by assumption) ?_
  rotate_left
  · (intro w' hSw; (try dsimp only at hSw); first | (go_simp; done) | (go_simp; with_reducible rfl))
  try simp only [Act.put, List.getElem_toArray, List.getElem_cons_zero, List.getElem_cons_succ, List.setIfInBounds_toArray, List.set_cons_zero, List.set_cons_succ]
  refine wpAnyH_take (i := 4) (v := ?_) rfl (by kernel_rfl) (by kernel_rfl) (by kernel_rfl) (fun _ _ _ h => h) (Or.inl ⟨by rfl, ?_⟩) (by assumption) ?_
  rotate_left
  · (intro w' hSw; (try dsimp only at hSw); first | (go_simp; done) | (go_simp; with_reducible rfl))
  try simp only [Act.put, List.getElem_toArray, List.getElem_cons_zero, List.getElem_cons_succ, List.setIfInBounds_toArray, List.set_cons_zero, List.set_cons_succ]
  refine wpAnyH_ready (rs := [5]) (by kernel_rfl) (by simp) ?_
  refine AllReadyH.cons rfl (fun K hK => ?_) AllReadyH.nil
  go_simp
  go_at_call 112
  refine HPL.out.mono ?_
  rintro e w1 ⟨rfl, hb1'⟩
  have hb1 : Below W.heap.size W w1 := undrewK hb1'
  have HB1 := Lib.hid (Below.past HB0.out hb1 (by omega))
  have HBK1 := Lib.hid (HBK.out.past hb1)
  have HBT1 := Lib.hid (HBT.out.past hb1)
  clear hb1' hb1 HPL hHeld
  refine hK.out _ _ (⟨HBK1.out.cell 0, HBK1.out.cell 1, HBT1.out.cell 0, HBT1.out.cell 1⟩) (fun hHeld => ?_)
  try simp only [Act.put, List.getElem_toArray, List.getElem_cons_zero, List.getElem_cons_succ, List.setIfInBounds_toArray, List.set_cons_zero, List.set_cons_succ]
  by_cases h1 : 0 ≤ I
  · have d1' := decide_eq_true h1
    by_cases h2 : 0 ≤ s.a
    · have d2' := decide_eq_true h2
      have HRR : Hid (R = decide (s.a < (A : Int))) := Lib.hid (by rw [HOK.out, d1', d2']; rfl)
      clear h1 h2
      refine wpAnyH_take (i := 6) (v := ?_) rfl (by kernel_rfl) (by kernel_rfl) (by kernel_rfl) (fun _ _ _ h => h) (Or.inl ⟨by rfl, ?_⟩) (by assumption) ?_
      rotate_left
      · (intro w' hSw; (try dsimp only at hSw); first | (go_simp; done) | (go_simp; with_reducible rfl))
      try simp only [Act.put, List.getElem_toArray, List.getElem_cons_zero, List.getElem_cons_succ, List.setIfInBounds_toArray, List.set_cons_zero, List.set_cons_succ]
      refine wpAnyH_take (i := 7) (v := ?_) rfl (by kernel_rfl) (by kernel_rfl) (by kernel_rfl) (fun _ _ _ h => h) (Or.inl ⟨by rfl, ?_⟩) (by assumption) ?_
      rotate_left
      · (intro w' hSw; (try dsimp only at hSw); first | (go_simp; done) | (go_simp; with_reducible rfl))
      try simp only [Act.put, List.getElem_toArray, List.getElem_cons_zero, List.getElem_cons_succ, List.setIfInBounds_toArray, List.set_cons_zero, List.set_cons_succ]
      refine wpAnyH_take (i := 8) (v := ?_) rfl (by kernel_rfl) (by kernel_rfl) (by kernel_rfl) (fun _ _ _ h => h) (Or.inl ⟨by rfl, ?_⟩) (by assumption) ?_
      rotate_left
      · (intro w' hSw; (try dsimp only at hSw); first | (go_simp; done) | (go_simp; with_reducible rfl))
      try simp only [Act.put, List.getElem_toArray, List.getElem_cons_zero, List.getElem_cons_succ, List.setIfInBounds_toArray, List.set_cons_zero, List.set_cons_succ]
      refine wpAnyH_take (i := 9) (v := ?_) rfl (by kernel_rfl) (by kernel_rfl) (by kernel_rfl) (fun _ _ _ h => h) (Or.inl ⟨by rfl, ?_⟩) (by assumption) ?_
      rotate_left
      · (intro w' hSw; (try dsimp only at hSw); first | (go_simp; done) | (go_simp; with_reducible rfl))
      try simp only [Act.put, List.getElem_toArray, List.getElem_cons_zero, List.getElem_cons_succ, List.setIfInBounds_toArray, List.set_cons_zero, List.set_cons_succ]
      refine wpAnyH_take (i := 10) (v := ?_) rfl (by kernel_rfl) (by kernel_rfl) (by kernel_rfl) (fun _ _ _ h => h) (Or.inl ⟨by rfl, ?_⟩) (by assumption) ?_
      rotate_left
      · (intro w' hSw; (try dsimp only at hSw); first | (go_simp; done) | (go_simp; with_reducible rfl))
      try simp only [Act.put, List.getElem_toArray, List.getElem_cons_zero, List.getElem_cons_succ, List.setIfInBounds_toArray, List.set_cons_zero, List.set_cons_succ]
      refine wpAnyH_take (i := 11) (v := ?_) rfl (by kernel_rfl) (by kernel_rfl) (by kernel_rfl) (fun _ _ _ h => h) (Or.inl ⟨by rfl, ?_⟩) (by assumption) ?_
      rotate_left
      · (intro w' hSw; (try dsimp only at hSw); first | (go_simp; done) | (go_simp; with_reducible rfl))
      try simp only [Act.put, List.getElem_toArray, List.getElem_cons_zero, List.getElem_cons_succ, List.setIfInBounds_toArray, List.set_cons_zero, List.set_cons_succ]
      refine wpAnyH_take (i := 12) (v := ?_) rfl (by kernel_rfl) (by kernel_rfl) (by kernel_rfl) (fun _ _ _ h => h) (Or.inl ⟨by rfl, ?_⟩) (by assumption) ?_
      rotate_left
      · (intro w' hSw; (try dsimp only at hSw); first | (go_simp; done) | (go_simp; with_reducible rfl))
      try simp only [Act.put, List.getElem_toArray, List.getElem_cons_zero, List.getElem_cons_succ, List.setIfInBounds_toArray, List.set_cons_zero, List.set_cons_succ]
      refine wpAnyH_take (i := 13) (v := ?_) rfl (by kernel_rfl) (by kernel_rfl) (by kernel_rfl) (fun _ _ _ h => h) (Or.inl ⟨by rfl, ?_⟩) (by assumption) ?_
      rotate_left
      · (intro w' hSw; (try dsimp only at hSw); first | (go_simp; done) | (go_simp; with_reducible rfl))
      try simp only [Act.put, List.getElem_toArray, List.getElem_cons_zero, List.getElem_cons_succ, List.setIfInBounds_toArray, List.set_cons_zero, List.set_cons_succ]
      refine wpAnyH_take (i := 14) (v := ?_) rfl (by kernel_rfl) (by kernel_rfl) (by kernel_rfl) (fun _ _ _ h => h) (Or.inl ⟨by rfl, ?_⟩) (by assumption) ?_
      rotate_left
      · (intro w' hSw; (try dsimp only at hSw); first | (go_simp; done) | (go_simp; with_reducible rfl))
      try simp only [Act.put, List.getElem_toArray, List.getElem_cons_zero, List.getElem_cons_succ, List.setIfInBounds_toArray, List.set_cons_zero, List.set_cons_succ]
      refine wpAnyH_take (i := 15) (v := ?_) rfl (by kernel_rfl) (by kernel_rfl) (by kernel_rfl) (fun _ _ _ h => h) (Or.inl ⟨by rfl, ?_⟩) (by assumption) ?_
      rotate_left
      · (intro w' hSw; (try dsimp only at hSw); first | (go_simp; done) | (go_simp; with_reducible rfl))
      try simp only [Act.put, List.getElem_toArray, List.getElem_cons_zero, List.getElem_cons_succ, List.setIfInBounds_toArray, List.set_cons_zero, List.set_cons_succ]
      refine wpAnyH_take (i := 16) (v := ?_) rfl (by kernel_rfl) (by kernel_rfl) (by kernel_rfl) (fun _ _ _ h => h) (Or.inl ⟨by rfl, ?_⟩) (by assumption) ?_
      rotate_left
      · (intro w' hSw; (try dsimp only at hSw); first | (go_simp; done) | (go_simp; with_reducible rfl))
      try simp only [Act.put, List.getElem_toArray, List.getElem_cons_zero, List.getElem_cons_succ, List.setIfInBounds_toArray, List.set_cons_zero, List.set_cons_succ]
      refine wpAnyH_take (i := 17) (v := ?_) rfl (by kernel_rfl) (by kernel_rfl) (by kernel_rfl) (fun _ _ _ h => h) (Or.inl ⟨by rfl, ?_⟩) (by assumption) ?_
      rotate_left
      · (intro w' hSw; (try dsimp only at hSw); first | (go_simp; done) | (go_simp; with_reducible rfl))
      try simp only [Act.put, List.getElem_toArray, List.getElem_cons_zero, List.getElem_cons_succ, List.setIfInBounds_toArray, List.set_cons_zero, List.set_cons_succ]
      refine wpAnyH_take (i := 18) (v := ?_) rfl (by kernel_rfl) (by kernel_rfl) (by kernel_rfl) (fun _ _ _ h => h) (Or.inl ⟨by rfl, ?_⟩) (by assumption) ?_
      rotate_left
      · (intro w' hSw; (try dsimp only at hSw); first | (go_simp; done) | (go_simp; with_reducible rfl))
      try simp only [Act.put, List.getElem_toArray, List.getElem_cons_zero, List.getElem_cons_succ, List.setIfInBounds_toArray, List.set_cons_zero, List.set_cons_succ]
      refine wpAnyH_take (i := 19) (v := ?_) rfl (by kernel_rfl) (by kernel_rfl) (by kernel_rfl) (fun _ _ _ h => h) (Or.inl ⟨by rfl, ?_⟩) (by assumption) ?_
      rotate_left
      · (intro w' hSw; (try dsimp only at hSw); first | (go_simp; done) | (go_simp; with_reducible rfl))
      try simp only [Act.put, List.getElem_toArray, List.getElem_cons_zero, List.getElem_cons_succ, List.setIfInBounds_toArray, List.set_cons_zero, List.set_cons_succ]
      refine wpAnyH_done (by kernel_rfl) ?_ _
      clear hHeld
      go_wp2_with fail
      go_ret
      exact ⟨by rw [HRR.out]; rfl, HB1.out⟩
    · have d2' := decide_eq_false h2
      have HRR : Hid (R = false) := Lib.hid (by rw [HOK.out, d2']; simp)
      clear h1 h2
      refine wpAnyH_take (i := 6) (v := ?_) rfl (by kernel_rfl) (by kernel_rfl) (by kernel_rfl) (fun _ _ _ h => h) (Or.inl ⟨by rfl, ?_⟩) (by assumption) ?_
      rotate_left
      · (intro w' hSw; (try dsimp only at hSw); first | (go_simp; done) | (go_simp; with_reducible rfl))
      try simp only [Act.put, List.getElem_toArray, List.getElem_cons_zero, List.getElem_cons_succ, List.setIfInBounds_toArray, List.set_cons_zero, List.set_cons_succ]
      refine wpAnyH_take (i := 7) (v := ?_) rfl (by kernel_rfl) (by kernel_rfl) (by kernel_rfl) (fun _ _ _ h => h) (Or.inl ⟨by rfl, ?_⟩) (by assumption) ?_
      rotate_left
      · (intro w' hSw; (try dsimp only at hSw); first | (go_simp; done) | (go_simp; with_reducible rfl))
      try simp only [Act.put, List.getElem_toArray, List.getElem_cons_zero, List.getElem_cons_succ, List.setIfInBounds_toArray, List.set_cons_zero, List.set_cons_succ]
      refine wpAnyH_take (i := 8) (v := ?_) rfl (by kernel_rfl) (by kernel_rfl) (by kernel_rfl) (fun _ _ _ h => h) (Or.inl ⟨by rfl, ?_⟩) (by assumption) ?_
      rotate_left
      · (intro w' hSw; (try dsimp only at hSw); first | (go_simp; done) | (go_simp; with_reducible rfl))
      try simp only [Act.put, List.getElem_toArray, List.getElem_cons_zero, List.getElem_cons_succ, List.setIfInBounds_toArray, List.set_cons_zero, List.set_cons_succ]
      refine wpAnyH_take (i := 9) (v := ?_) rfl (by kernel_rfl) (by kernel_rfl) (by kernel_rfl) (fun _ _ _ h => h) (Or.inl ⟨by rfl, ?_⟩) (by assumption) ?_
      rotate_left
      · (intro w' hSw; (try dsimp only at hSw); first | (go_simp; done) | (go_simp; with_reducible rfl))
      try simp only [Act.put, List.getElem_toArray, List.getElem_cons_zero, List.getElem_cons_succ, List.setIfInBounds_toArray, List.set_cons_zero, List.set_cons_succ]
      refine wpAnyH_take (i := 10) (v := ?_) rfl (by kernel_rfl) (by kernel_rfl) (by kernel_rfl) (fun _ _ _ h => h) (Or.inl ⟨by rfl, ?_⟩) (by assumption) ?_
      rotate_left
      · (intro w' hSw; (try dsimp only at hSw); first | (go_simp; done) | (go_simp; with_reducible rfl))
      try simp only [Act.put, List.getElem_toArray, List.getElem_cons_zero, List.getElem_cons_succ, List.setIfInBounds_toArray, List.set_cons_zero, List.set_cons_succ]
      refine wpAnyH_take (i := 11) (v := ?_) rfl (by kernel_rfl) (by kernel_rfl) (by kernel_rfl) (fun _ _ _ h => h) (Or.inl ⟨by rfl, ?_⟩) (by assumption) ?_
      rotate_left
      · (intro w' hSw; (try dsimp only at hSw); first | (go_simp; done) | (go_simp; with_reducible rfl))
      try simp only [Act.put, List.getElem_toArray, List.getElem_cons_zero, List.getElem_cons_succ, List.setIfInBounds_toArray, List.set_cons_zero, List.set_cons_succ]
      refine wpAnyH_take (i := 12) (v := undef) rfl (by kernel_rfl) (by kernel_rfl) (by kernel_rfl) (fun _ _ _ h => h) (Or.inr ⟨by rfl, rfl⟩) (by assumption) ?_
      try simp only [Act.put, List.getElem_toArray, List.getElem_cons_zero, List.getElem_cons_succ, List.setIfInBounds_toArray, List.set_cons_zero, List.set_cons_succ]
      refine wpAnyH_take (i := 13) (v := undef) rfl (by kernel_rfl) (by kernel_rfl) (by kernel_rfl) (fun _ _ _ h => h) (Or.inr ⟨by rfl, rfl⟩) (by assumption) ?_
      try simp only [Act.put, List.getElem_toArray, List.getElem_cons_zero, List.getElem_cons_succ, List.setIfInBounds_toArray, List.set_cons_zero, List.set_cons_succ]
      refine wpAnyH_take (i := 14) (v := undef) rfl (by kernel_rfl) (by kernel_rfl) (by kernel_rfl) (fun _ _ _ h => h) (Or.inr ⟨by rfl, rfl⟩) (by assumption) ?_
      try simp only [Act.put, List.getElem_toArray, List.getElem_cons_zero, List.getElem_cons_succ, List.setIfInBounds_toArray, List.set_cons_zero, List.set_cons_succ]
      refine wpAnyH_take (i := 15) (v := undef) rfl (by kernel_rfl) (by kernel_rfl) (by kernel_rfl) (fun _ _ _ h => h) (Or.inr ⟨by rfl, rfl⟩) (by assumption) ?_
      try simp only [Act.put, List.getElem_toArray, List.getElem_cons_zero, List.getElem_cons_succ, List.setIfInBounds_toArray, List.set_cons_zero, List.set_cons_succ]
      refine wpAnyH_take (i := 16) (v := undef) rfl (by kernel_rfl) (by kernel_rfl) (by kernel_rfl) (fun _ _ _ h => h) (Or.inr ⟨by rfl, rfl⟩) (by assumption) ?_
      try simp only [Act.put, List.getElem_toArray, List.getElem_cons_zero, List.getElem_cons_succ, List.setIfInBounds_toArray, List.set_cons_zero, List.set_cons_succ]
      refine wpAnyH_take (i := 17) (v := undef) rfl (by kernel_rfl) (by kernel_rfl) (by kernel_rfl) (fun _ _ _ h => h) (Or.inr ⟨by rfl, rfl⟩) (by assumption) ?_
      try simp only [Act.put, List.getElem_toArray, List.getElem_cons_zero, List.getElem_cons_succ, List.setIfInBounds_toArray, List.set_cons_zero, List.set_cons_succ]
      refine wpAnyH_take (i := 18) (v := ?_) rfl (by kernel_rfl) (by kernel_rfl) (by kernel_rfl) (fun _ _ _ h => h) (Or.inl ⟨by rfl, ?_⟩) (by assumption) ?_
      rotate_left
      · (intro w' hSw; (try dsimp only at hSw); first | (go_simp; done) | (go_simp; with_reducible rfl))
      try simp only [Act.put, List.getElem_toArray, List.getElem_cons_zero, List.getElem_cons_succ, List.setIfInBounds_toArray, List.set_cons_zero, List.set_cons_succ]
      refine wpAnyH_take (i := 19) (v := ?_) rfl (by kernel_rfl) (by kernel_rfl) (by kernel_rfl) (fun _ _ _ h => h) (Or.inl ⟨by rfl, ?_⟩) (by assumption) ?_
      rotate_left
      · (intro w' hSw; (try dsimp only at hSw); first | (go_simp; done) | (go_simp; with_reducible rfl))
      try simp only [Act.put, List.getElem_toArray, List.getElem_cons_zero, List.getElem_cons_succ, List.setIfInBounds_toArray, List.set_cons_zero, List.set_cons_succ]
      refine wpAnyH_done (by kernel_rfl) ?_ _
      clear hHeld
      go_wp2_with fail
      go_ret
      exact ⟨by rw [HRR.out]; rfl, HB1.out⟩
  · have d1' := decide_eq_false h1
    have HRR : Hid (R = false) := Lib.hid (by rw [HOK.out, d1']; rfl)
    clear h1
    refine wpAnyH_take (i := 6) (v := ?_) rfl (by kernel_rfl) (by kernel_rfl) (by kernel_rfl) (fun _ _ _ h => h) (Or.inl ⟨by rfl, ?_⟩) (by assumption) ?_
    rotate_left
    · (intro w' hSw; (try dsimp only at hSw); first | (go_simp; done) | (go_simp; with_reducible rfl))
    try simp only [Act.put, List.getElem_toArray, List.getElem_cons_zero, List.getElem_cons_succ, List.setIfInBounds_toArray, List.set_cons_zero, List.set_cons_succ]
    refine wpAnyH_take (i := 7) (v := ?_) rfl (by kernel_rfl) (by kernel_rfl) (by kernel_rfl) (fun _ _ _ h => h) (Or.inl ⟨by rfl, ?_⟩) (by assumption) ?_
    rotate_left
    · (intro w' hSw; (try dsimp only at hSw); first | (go_simp; done) | (go_simp; with_reducible rfl))
    try simp only [Act.put, List.getElem_toArray, List.getElem_cons_zero, List.getElem_cons_succ, List.setIfInBounds_toArray, List.set_cons_zero, List.set_cons_succ]
    refine wpAnyH_take (i := 8) (v := undef) rfl (by kernel_rfl) (by kernel_rfl) (by kernel_rfl) (fun _ _ _ h => h) (Or.inr ⟨by rfl, rfl⟩) (by assumption) ?_
    try simp only [Act.put, List.getElem_toArray, List.getElem_cons_zero, List.getElem_cons_succ, List.setIfInBounds_toArray, List.set_cons_zero, List.set_cons_succ]
    refine wpAnyH_take (i := 9) (v := undef) rfl (by kernel_rfl) (by kernel_rfl) (by kernel_rfl) (fun _ _ _ h => h) (Or.inr ⟨by rfl, rfl⟩) (by assumption) ?_
    try simp only [Act.put, List.getElem_toArray, List.getElem_cons_zero, List.getElem_cons_succ, List.setIfInBounds_toArray, List.set_cons_zero, List.set_cons_succ]
    refine wpAnyH_take (i := 10) (v := ?_) rfl (by kernel_rfl) (by kernel_rfl) (by kernel_rfl) (fun _ _ _ h => h) (Or.inl ⟨by rfl, ?_⟩) (by assumption) ?_
    rotate_left
    · (intro w' hSw; (try dsimp only at hSw); first | (go_simp; done) | (go_simp; with_reducible rfl))
    try simp only [Act.put, List.getElem_toArray, List.getElem_cons_zero, List.getElem_cons_succ, List.setIfInBounds_toArray, List.set_cons_zero, List.set_cons_succ]
    refine wpAnyH_take (i := 11) (v := ?_) rfl (by kernel_rfl) (by kernel_rfl) (by kernel_rfl) (fun _ _ _ h => h) (Or.inl ⟨by rfl, ?_⟩) (by assumption) ?_
    rotate_left
    · (intro w' hSw; (try dsimp only at hSw); first | (go_simp; done) | (go_simp; with_reducible rfl))
    try simp only [Act.put, List.getElem_toArray, List.getElem_cons_zero, List.getElem_cons_succ, List.setIfInBounds_toArray, List.set_cons_zero, List.set_cons_succ]
    refine wpAnyH_take (i := 12) (v := undef) rfl (by kernel_rfl) (by kernel_rfl) (by kernel_rfl) (fun _ _ _ h => h) (Or.inr ⟨by rfl, rfl⟩) (by assumption) ?_
    try simp only [Act.put, List.getElem_toArray, List.getElem_cons_zero, List.getElem_cons_succ, List.setIfInBounds_toArray, List.set_cons_zero, List.set_cons_succ]
    refine wpAnyH_take (i := 13) (v := undef) rfl (by kernel_rfl) (by kernel_rfl) (by kernel_rfl) (fun _ _ _ h => h) (Or.inr ⟨by rfl, rfl⟩) (by assumption) ?_
    try simp only [Act.put, List.getElem_toArray, List.getElem_cons_zero, List.getElem_cons_succ, List.setIfInBounds_toArray, List.set_cons_zero, List.set_cons_succ]
    refine wpAnyH_take (i := 14) (v := undef) rfl (by kernel_rfl) (by kernel_rfl) (by kernel_rfl) (fun _ _ _ h => h) (Or.inr ⟨by rfl, rfl⟩) (by assumption) ?_
    try simp only [Act.put, List.getElem_toArray, List.getElem_cons_zero, List.getElem_cons_succ, List.setIfInBounds_toArray, List.set_cons_zero, List.set_cons_succ]
    refine wpAnyH_take (i := 15) (v := undef) rfl (by kernel_rfl) (by kernel_rfl) (by kernel_rfl) (fun _ _ _ h => h) (Or.inr ⟨by rfl, rfl⟩) (by assumption) ?_
    try simp only [Act.put, List.getElem_toArray, List.getElem_cons_zero, List.getElem_cons_succ, List.setIfInBounds_toArray, List.set_cons_zero, List.set_cons_succ]
    refine wpAnyH_take (i := 16) (v := undef) rfl (by kernel_rfl) (by kernel_rfl) (by kernel_rfl) (fun _ _ _ h => h) (Or.inr ⟨by rfl, rfl⟩) (by assumption) ?_
    try simp only [Act.put, List.getElem_toArray, List.getElem_cons_zero, List.getElem_cons_succ, List.setIfInBounds_toArray, List.set_cons_zero, List.set_cons_succ]
    refine wpAnyH_take (i := 17) (v := undef) rfl (by kernel_rfl) (by kernel_rfl) (by kernel_rfl) (fun _ _ _ h => h) (Or.inr ⟨by rfl, rfl⟩) (by assumption) ?_
    try simp only [Act.put, List.getElem_toArray, List.getElem_cons_zero, List.getElem_cons_succ, List.setIfInBounds_toArray, List.set_cons_zero, List.set_cons_succ]
    refine wpAnyH_take (i := 18) (v := ?_) rfl (by kernel_rfl) (by kernel_rfl) (by kernel_rfl) (fun _ _ _ h => h) (Or.inl ⟨by rfl, ?_⟩) (by assumption) ?_
    rotate_left
    · (intro w' hSw; (try dsimp only at hSw); first | (go_simp; done) | (go_simp; with_reducible rfl))
    try simp only [Act.put, List.getElem_toArray, List.getElem_cons_zero, List.getElem_cons_succ, List.setIfInBounds_toArray, List.set_cons_zero, List.set_cons_succ]
    refine wpAnyH_take (i := 19) (v := ?_) rfl (by kernel_rfl) (by kernel_rfl) (by kernel_rfl) (fun _ _ _ h => h) (Or.inl ⟨by rfl, ?_⟩) (by assumption) ?_
    rotate_left
    · (intro w' hSw; (try dsimp only at hSw); first | (go_simp; done) | (go_simp; with_reducible rfl))
    try simp only [Act.put, List.getElem_toArray, List.getElem_cons_zero, List.getElem_cons_succ, List.setIfInBounds_toArray, List.set_cons_zero, List.set_cons_succ]
    refine wpAnyH_done (by kernel_rfl) ?_ _
    clear hHeld
    go_wp2_with fail
    go_ret
    exact ⟨by rw [HRR.out]; rfl, HB1.out⟩
end Go.Proofs.Ytelbolhckhdioaa.TBk

/-! ## from BkvN -/
namespace Go.Proofs.Ytelbolhckhdioaa.TBk
open Go.RowKit Go.Proofs.Ytelbolhckhdioaa

variable {rm : Int} {vq : Value}
set_option maxHeartbeats 4000000 in
set_option maxRecDepth 100000 in
theorem behind_any (g base M A : Nat) (v : Value) (L : List Ent) (p : Int) (P : Option Addr) (n c : Nat) (l : List Ent) (k : Nat) (f : Ent) (w : World) (hx : RbkV rm vq w g base M A v L p) (hr : Rd w w.heap.size 4 P n (l.flatMap Ent.cells)) (hn : n ≤ 1000) (hok : ∀ e ∈ l, EntOk e) (hf : l[k]? = some f) (hs1 : inI (atB L f.spt).sum) (hs2 : inI (atB l f.spt).sum) (hs3 : inI ((atB L f.spt).sum + (atB l f.spt).sum)) :
    Calls Try.prog 62 #[.pointer (some ⟨g, 0, none⟩), .slice P n c, .int .i64 (k : Nat)] w fun e w' => e = .returned (.tuple #[.int .i64 ((atB L f.spt).sum + (atB l f.spt).sum), .int .i64 (atB l f.spt).sum]) ∧ Below w.heap.size w w' := by
  have HL := Lib.hid (hr.len Ent.cells_len (by omega))
  have hkn : k < n := by have := (List.getElem?_eq_some_iff.1 hf).1; have := HL.out; omega
  have hkz : (k : Int) < (n : Int) := by omega
  obtain ⟨b_f, off_f, rfl, hcell⟩ := ent_cells hr hf hkn
  have HCE := Lib.hid hcell
  have HR := Lib.hid hr
  have HX := Lib.hid hx
  have HAT := Lib.hid (fun w' (hb : Below w.heap.size w w') => refAt_any (some ⟨b_f, off_f, none⟩) n c l f.spt w' (hr.past hb) hn)
  unfold IntsPost at HAT
  have HIN := Lib.hid (atB_in hok f.spt)
  have HLE := Lib.hid (Nat.le_trans (atB_len l f.spt) (by rw [HL.out]; omega) : (atB l f.spt).length ≤ 1000)
  obtain ⟨S, hS⟩ : ∃ S, Hid ((atB l f.spt).sum = S) := ⟨_, Lib.hid rfl⟩
  obtain ⟨b, hb0⟩ : ∃ S, Hid ((atB L f.spt).sum = S) := ⟨_, Lib.hid rfl⟩
  rw [hS.out] at hs2 hs3 ⊢
  rw [hb0.out] at hs1 hs3 ⊢
  have hw1 : IntKind.i64.wrap (b + S) = b + S := IntWalk.i64_in _ (by unfold inI at hs3; omega)
  have HS2 := Lib.hid hs2
  have HS1 := Lib.hid hs1
  clear hx hr hcell hok hf hs1 hs2 hs3
  go_enter Try.func62, Try.ntmps62
  go_upto_region 1 with fail
  have hdr := Below.drew (Below.refl w.heap.size w)
  have hS0 : w.drew.cell? ⟨b_f, off_f + k * 4, none⟩ = some (.int .i64 f.k) ∧ w.drew.cell? ⟨b_f, off_f + k * 4 + 1, none⟩ = some (.int .i64 f.m) ∧ w.drew.cell? ⟨b_f, off_f + k * 4 + 2, none⟩ = some (.int .i64 f.a) := HCE.out _ hdr
  refine wp_region_held_drew (S := fun w' => w'.cell? ⟨b_f, off_f + k * 4, none⟩ = some (.int .i64 f.k) ∧ w'.cell? ⟨b_f, off_f + k * 4 + 1, none⟩ = some (.int .i64 f.m) ∧ w'.cell? ⟨b_f, off_f + k * 4 + 2, none⟩ = some (.int .i64 f.a)) (by kernel_rfl) hS0 (fun hHeld => ?_)
  clear hS0
  refine wpAnyH_take (i := 0) (v := ?_) rfl (by kernel_rfl) (by kernel_rfl) (by kernel_rfl) (fun _ _ _ h => h) (Or.inl ⟨by rfl, ?_⟩) (by assumption) ?_
  rotate_left
  · (intro w' hSw; (try dsimp only at hSw); first | (go_simp; done) | (go_simp; with_reducible rfl))
  try simp only [Act.put, List.getElem_toArray, List.getElem_cons_zero, List.getElem_cons_succ, List.setIfInBounds_toArray, List.set_cons_zero, List.set_cons_succ]
  refine wpAnyH_take (i := 1) (v := ?_) rfl (by kernel_rfl) (by kernel_rfl) (by kernel_rfl) (fun _ _ _ h => h) (Or.inl ⟨by rfl, ?_⟩) (by assumption) ?_
  rotate_left
  · (intro w' hSw; (try dsimp only at hSw); first | (go_simp; done) | (go_simp; with_reducible rfl))
  try simp only [Act.put, List.getElem_toArray, List.getElem_cons_zero, List.getElem_cons_succ, List.setIfInBounds_toArray, List.set_cons_zero, List.set_cons_succ]
  refine wpAnyH_take (i := 2) (v := ?_) rfl (by kernel_rfl) (by kernel_rfl) (by kernel_rfl) (fun _ _ _ h => h) (Or.inl ⟨by rfl, ?_⟩) (by assumption) ?_
  rotate_left
  · (intro w' hSw; (try dsimp only at hSw); first | (go_simp; done) | (go_simp; with_reducible rfl))
  try simp only [Act.put, List.getElem_toArray, List.getElem_cons_zero, List.getElem_cons_succ, List.setIfInBounds_toArray, List.set_cons_zero, List.set_cons_succ]
  refine wpAnyH_take (i := 3) (v := ?_) rfl (by kernel_rfl) (by kernel_rfl) (by kernel_rfl) (fun _ _ _ h => h) (Or.inl ⟨by rfl, ?_⟩) (by assumption) ?_
  rotate_left
  · (intro w' hSw; (try dsimp only at hSw); first | (go_simp; done) | (go_simp; with_reducible rfl))
  try simp only [Act.put, List.getElem_toArray, List.getElem_cons_zero, List.getElem_cons_succ, List.setIfInBounds_toArray, List.set_cons_zero, List.set_cons_succ]
  refine wpAnyH_take (i := 4) (v := ?_) rfl (by kernel_rfl) (by kernel_rfl) (by kernel_rfl) (fun _ _ _ h => h) (Or.inl ⟨by rfl, ?_⟩) (by assumption) ?_
  rotate_left
  · (intro w' hSw; (try dsimp only at hSw); first | (go_simp; done) | (go_simp; with_reducible rfl))
  try simp only [Act.put, List.getElem_toArray, List.getElem_cons_zero, List.getElem_cons_succ, List.setIfInBounds_toArray, List.set_cons_zero, List.set_cons_succ]
  refine wpAnyH_take (i := 5) (v := ?_) rfl (by kernel_rfl) (by kernel_rfl) (by kernel_rfl) (fun _ _ _ h => h) (Or.inl ⟨by rfl, ?_⟩) (by assumption) ?_
  rotate_left
  · (intro w' hSw; (try dsimp only at hSw); first | (go_simp; done) | (go_simp; with_reducible rfl))
  try simp only [Act.put, List.getElem_toArray, List.getElem_cons_zero, List.getElem_cons_succ, List.setIfInBounds_toArray, List.set_cons_zero, List.set_cons_succ]
  refine wpAnyH_take (i := 6) (v := ?_) rfl (by kernel_rfl) (by kernel_rfl) (by kernel_rfl) (fun _ _ _ h => h) (Or.inl ⟨by rfl, ?_⟩) (by assumption) ?_
  rotate_left
  · (intro w' hSw; (try dsimp only at hSw); first | (go_simp; done) | (go_simp; with_reducible rfl))
  try simp only [Act.put, List.getElem_toArray, List.getElem_cons_zero, List.getElem_cons_succ, List.setIfInBounds_toArray, List.set_cons_zero, List.set_cons_succ]
  refine wpAnyH_take (i := 7) (v := ?_) rfl (by kernel_rfl) (by kernel_rfl) (by kernel_rfl) (fun _ _ _ h => h) (Or.inl ⟨by rfl, ?_⟩) (by assumption) ?_
  rotate_left
  · (intro w' hSw; (try dsimp only at hSw); first | (go_simp; done) | (go_simp; with_reducible rfl))
  try simp only [Act.put, List.getElem_toArray, List.getElem_cons_zero, List.getElem_cons_succ, List.setIfInBounds_toArray, List.set_cons_zero, List.set_cons_succ]
  refine wpAnyH_take (i := 8) (v := ?_) rfl (by kernel_rfl) (by kernel_rfl) (by kernel_rfl) (fun _ _ _ h => h) (Or.inl ⟨by rfl, ?_⟩) (by assumption) ?_
  rotate_left
  · (intro w' hSw; (try dsimp only at hSw); first | (go_simp; done) | (go_simp; with_reducible rfl))
  try simp only [Act.put, List.getElem_toArray, List.getElem_cons_zero, List.getElem_cons_succ, List.setIfInBounds_toArray, List.set_cons_zero, List.set_cons_succ]
  refine wpAnyH_take (i := 9) (v := ?_) rfl (by kernel_rfl) (by kernel_rfl) (by kernel_rfl) (fun _ _ _ h => h) (Or.inl ⟨by rfl, ?_⟩) (by assumption) ?_
  rotate_left
  · (intro w' hSw; (try dsimp only at hSw); first | (go_simp; done) | (go_simp; with_reducible rfl))
  try simp only [Act.put, List.getElem_toArray, List.getElem_cons_zero, List.getElem_cons_succ, List.setIfInBounds_toArray, List.set_cons_zero, List.set_cons_succ]
  refine wpAnyH_take (i := 10) (v := ?_) rfl (by kernel_rfl) (by kernel_rfl) (by kernel_rfl) (fun _ _ _ h => h) (Or.inl ⟨by rfl, ?_⟩) (by assumption) ?_
  rotate_left
  · (intro w' hSw; (try dsimp only at hSw); first | (go_simp; done) | (go_simp; with_reducible rfl))
  try simp only [Act.put, List.getElem_toArray, List.getElem_cons_zero, List.getElem_cons_succ, List.setIfInBounds_toArray, List.set_cons_zero, List.set_cons_succ]
  refine wpAnyH_ready (rs := [11]) (by kernel_rfl) (by simp) ?_
  refine AllReadyH.cons rfl (fun K hK => ?_) AllReadyH.nil
  go_simp
  go_at_call 60
  refine (HAT.out _ hdr).mono ?_
  rintro e w1 ⟨u, rfl, hu, hb1'⟩
  have hb1 : Below w.heap.size w w1 := undrewK hb1'
  obtain ⟨Au, cu, rfl⟩ := own_form hu
  have HB1 := Lib.hid hb1
  have HRU := Lib.hid (Rd.of_own hu)
  have hsz1 := hb1.size
  clear hb1' hb1 hu hHeld
  refine hK.out _ _ (HCE.out _ HB1.out) (fun hHeld => ?_)
  try simp only [Act.put, List.getElem_toArray, List.getElem_cons_zero, List.getElem_cons_succ, List.setIfInBounds_toArray, List.set_cons_zero, List.set_cons_succ]
  refine wpAnyH_ready (rs := [12]) (by kernel_rfl) (by simp) ?_
  refine AllReadyH.cons rfl (fun K hK => ?_) AllReadyH.nil
  go_simp
  go_at_call 58
  have HSM := Lib.hid (refSum_any Au _ cu _ w1 HRU.out HLE.out HIN.out)
  rw [hS.out, (amount_inK HS2.out).1, (amount_inK HS2.out).2] at HSM
  refine HSM.out.mono ?_
  rintro e w2 ⟨rfl, rfl⟩
  clear HSM hHeld
  refine hK.out _ _ (HCE.out _ HB1.out) (fun hHeld => ?_)
  try simp only [Act.put, List.getElem_toArray, List.getElem_cons_zero, List.getElem_cons_succ, List.setIfInBounds_toArray, List.set_cons_zero, List.set_cons_succ]
  refine wpAnyH_take (i := 13) (v := ?_) rfl (by kernel_rfl) (by kernel_rfl) (by kernel_rfl) (fun _ _ _ h => h) (Or.inl ⟨by rfl, ?_⟩) (by assumption) ?_
  rotate_left
  · (intro w' hSw; (try dsimp only at hSw); first | (go_simp; done) | (go_simp; with_reducible rfl))
  try simp only [Act.put, List.getElem_toArray, List.getElem_cons_zero, List.getElem_cons_succ, List.setIfInBounds_toArray, List.set_cons_zero, List.set_cons_succ]
  refine wpAnyH_take (i := 14) (v := ?_) rfl (by kernel_rfl) (by kernel_rfl) (by kernel_rfl) (fun _ _ _ h => h) (Or.inl ⟨by rfl, ?_⟩) (by assumption) ?_
  rotate_left
  · (intro w' hSw; (try dsimp only at hSw); first | (go_simp; done) | (go_simp; with_reducible rfl))
  try simp only [Act.put, List.getElem_toArray, List.getElem_cons_zero, List.getElem_cons_succ, List.setIfInBounds_toArray, List.set_cons_zero, List.set_cons_succ]
  refine wpAnyH_take (i := 15) (v := ?_) rfl (by kernel_rfl) (by kernel_rfl) (by kernel_rfl) (fun _ _ _ h => h) (Or.inl ⟨by rfl, ?_⟩) (by assumption) ?_
  rotate_left
  · (intro w' hSw; (try dsimp only at hSw); first | (go_simp; done) | (go_simp; with_reducible rfl))
  try simp only [Act.put, List.getElem_toArray, List.getElem_cons_zero, List.getElem_cons_succ, List.setIfInBounds_toArray, List.set_cons_zero, List.set_cons_succ]
  refine wpAnyH_take (i := 16) (v := ?_) rfl (by kernel_rfl) (by kernel_rfl) (by kernel_rfl) (fun _ _ _ h => h) (Or.inl ⟨by rfl, ?_⟩) (by assumption) ?_
  rotate_left
  · (intro w' hSw; (try dsimp only at hSw); first | (go_simp; done) | (go_simp; with_reducible rfl))
  try simp only [Act.put, List.getElem_toArray, List.getElem_cons_zero, List.getElem_cons_succ, List.setIfInBounds_toArray, List.set_cons_zero, List.set_cons_succ]
  refine wpAnyH_take (i := 17) (v := ?_) rfl (by kernel_rfl) (by kernel_rfl) (by kernel_rfl) (fun _ _ _ h => h) (Or.inl ⟨by rfl, ?_⟩) (by assumption) ?_
  rotate_left
  · (intro w' hSw; (try dsimp only at hSw); first | (go_simp; done) | (go_simp; with_reducible rfl))
  try simp only [Act.put, List.getElem_toArray, List.getElem_cons_zero, List.getElem_cons_succ, List.setIfInBounds_toArray, List.set_cons_zero, List.set_cons_succ]
  refine wpAnyH_done (by kernel_rfl) ?_ _
  clear hHeld
  go_upto_region 2 with fail
  have hdr1 := Below.drew (Below.refl w1.heap.size w1)
  have hS0 : w1.drew.cell? ⟨b_f, off_f + k * 4, none⟩ = some (.int .i64 f.k) ∧ w1.drew.cell? ⟨b_f, off_f + k * 4 + 1, none⟩ = some (.int .i64 f.m) ∧ w1.drew.cell? ⟨b_f, off_f + k * 4 + 2, none⟩ = some (.int .i64 f.a) := HCE.out _ (Below.past HB1.out hdr1 hsz1)
  refine wp_region_held_drew (S := fun w' => w'.cell? ⟨b_f, off_f + k * 4, none⟩ = some (.int .i64 f.k) ∧ w'.cell? ⟨b_f, off_f + k * 4 + 1, none⟩ = some (.int .i64 f.m) ∧ w'.cell? ⟨b_f, off_f + k * 4 + 2, none⟩ = some (.int .i64 f.a)) (by kernel_rfl) hS0 (fun hHeld => ?_)
  clear hS0
  refine wpAnyH_take (i := 0) (v := ?_) rfl (by kernel_rfl) (by kernel_rfl) (by kernel_rfl) (fun _ _ _ h => h) (Or.inl ⟨by rfl, ?_⟩) (by assumption) ?_
  rotate_left
  · (intro w' hSw; (try dsimp only at hSw); first | (go_simp; done) | (go_simp; with_reducible rfl))
  try simp only [Act.put, List.getElem_toArray, List.getElem_cons_zero, List.getElem_cons_succ, List.setIfInBounds_toArray, List.set_cons_zero, List.set_cons_succ]
  refine wpAnyH_take (i := 1) (v := ?_) rfl (by kernel_rfl) (by kernel_rfl) (by kernel_rfl) (fun _ _ _ h => h) (Or.inl ⟨by rfl, ?_⟩) (by assumption) ?_
  rotate_left
  · (intro w' hSw; (try dsimp only at hSw); first | (go_simp; done) | (go_simp; with_reducible rfl))
  try simp only [Act.put, List.getElem_toArray, List.getElem_cons_zero, List.getElem_cons_succ, List.setIfInBounds_toArray, List.set_cons_zero, List.set_cons_succ]
  refine wpAnyH_take (i := 2) (v := ?_) rfl (by kernel_rfl) (by kernel_rfl) (by kernel_rfl) (fun _ _ _ h => h) (Or.inl ⟨by rfl, ?_⟩) (by assumption) ?_
  rotate_left
  · (intro w' hSw; (try dsimp only at hSw); first | (go_simp; done) | (go_simp; with_reducible rfl))
  try simp only [Act.put, List.getElem_toArray, List.getElem_cons_zero, List.getElem_cons_succ, List.setIfInBounds_toArray, List.set_cons_zero, List.set_cons_succ]
  refine wpAnyH_take (i := 3) (v := ?_) rfl (by kernel_rfl) (by kernel_rfl) (by kernel_rfl) (fun _ _ _ h => h) (Or.inl ⟨by rfl, ?_⟩) (by assumption) ?_
  rotate_left
  · (intro w' hSw; (try dsimp only at hSw); first | (go_simp; done) | (go_simp; with_reducible rfl))
  try simp only [Act.put, List.getElem_toArray, List.getElem_cons_zero, List.getElem_cons_succ, List.setIfInBounds_toArray, List.set_cons_zero, List.set_cons_succ]
  refine wpAnyH_take (i := 4) (v := ?_) rfl (by kernel_rfl) (by kernel_rfl) (by kernel_rfl) (fun _ _ _ h => h) (Or.inl ⟨by rfl, ?_⟩) (by assumption) ?_
  rotate_left
  · (intro w' hSw; (try dsimp only at hSw); first | (go_simp; done) | (go_simp; with_reducible rfl))
  try simp only [Act.put, List.getElem_toArray, List.getElem_cons_zero, List.getElem_cons_succ, List.setIfInBounds_toArray, List.set_cons_zero, List.set_cons_succ]
  refine wpAnyH_take (i := 5) (v := ?_) rfl (by kernel_rfl) (by kernel_rfl) (by kernel_rfl) (fun _ _ _ h => h) (Or.inl ⟨by rfl, ?_⟩) (by assumption) ?_
  rotate_left
  · (intro w' hSw; (try dsimp only at hSw); first | (go_simp; done) | (go_simp; with_reducible rfl))
  try simp only [Act.put, List.getElem_toArray, List.getElem_cons_zero, List.getElem_cons_succ, List.setIfInBounds_toArray, List.set_cons_zero, List.set_cons_succ]
  refine wpAnyH_take (i := 6) (v := ?_) rfl (by kernel_rfl) (by kernel_rfl) (by kernel_rfl) (fun _ _ _ h => h) (Or.inl ⟨by rfl, ?_⟩) (by assumption) ?_
  rotate_left
  · (intro w' hSw; (try dsimp only at hSw); first | (go_simp; done) | (go_simp; with_reducible rfl))
  try simp only [Act.put, List.getElem_toArray, List.getElem_cons_zero, List.getElem_cons_succ, List.setIfInBounds_toArray, List.set_cons_zero, List.set_cons_succ]
  refine wpAnyH_take (i := 7) (v := ?_) rfl (by kernel_rfl) (by kernel_rfl) (by kernel_rfl) (fun _ _ _ h => h) (Or.inl ⟨by rfl, ?_⟩) (by assumption) ?_
  rotate_left
  · (intro w' hSw; (try dsimp only at hSw); first | (go_simp; done) | (go_simp; with_reducible rfl))
  try simp only [Act.put, List.getElem_toArray, List.getElem_cons_zero, List.getElem_cons_succ, List.setIfInBounds_toArray, List.set_cons_zero, List.set_cons_succ]
  refine wpAnyH_take (i := 8) (v := ?_) rfl (by kernel_rfl) (by kernel_rfl) (by kernel_rfl) (fun _ _ _ h => h) (Or.inl ⟨by rfl, ?_⟩) (by assumption) ?_
  rotate_left
  · (intro w' hSw; (try dsimp only at hSw); first | (go_simp; done) | (go_simp; with_reducible rfl))
  try simp only [Act.put, List.getElem_toArray, List.getElem_cons_zero, List.getElem_cons_succ, List.setIfInBounds_toArray, List.set_cons_zero, List.set_cons_succ]
  refine wpAnyH_take (i := 9) (v := ?_) rfl (by kernel_rfl) (by kernel_rfl) (by kernel_rfl) (fun _ _ _ h => h) (Or.inl ⟨by rfl, ?_⟩) (by assumption) ?_
  rotate_left
  · (intro w' hSw; (try dsimp only at hSw); first | (go_simp; done) | (go_simp; with_reducible rfl))
  try simp only [Act.put, List.getElem_toArray, List.getElem_cons_zero, List.getElem_cons_succ, List.setIfInBounds_toArray, List.set_cons_zero, List.set_cons_succ]
  refine wpAnyH_take (i := 10) (v := ?_) rfl (by kernel_rfl) (by kernel_rfl) (by kernel_rfl) (fun _ _ _ h => h) (Or.inl ⟨by rfl, ?_⟩) (by assumption) ?_
  rotate_left
  · (intro w' hSw; (try dsimp only at hSw); first | (go_simp; done) | (go_simp; with_reducible rfl))
  try simp only [Act.put, List.getElem_toArray, List.getElem_cons_zero, List.getElem_cons_succ, List.setIfInBounds_toArray, List.set_cons_zero, List.set_cons_succ]
  refine wpAnyH_take (i := 12) (v := ?_) rfl (by kernel_rfl) (by kernel_rfl) (by kernel_rfl) (fun _ _ _ h => h) (Or.inl ⟨by rfl, ?_⟩) (by assumption) ?_
  rotate_left
  · (intro w' hSw; (try dsimp only at hSw); first | (go_simp; done) | (go_simp; with_reducible rfl))
  try simp only [Act.put, List.getElem_toArray, List.getElem_cons_zero, List.getElem_cons_succ, List.setIfInBounds_toArray, List.set_cons_zero, List.set_cons_succ]
  refine wpAnyH_take (i := 14) (v := ?_) rfl (by kernel_rfl) (by kernel_rfl) (by kernel_rfl) (fun _ _ _ h => h) (Or.inl ⟨by rfl, ?_⟩) (by assumption) ?_
  rotate_left
  · (intro w' hSw; (try dsimp only at hSw); first | (go_simp; done) | (go_simp; with_reducible rfl))
  try simp only [Act.put, List.getElem_toArray, List.getElem_cons_zero, List.getElem_cons_succ, List.setIfInBounds_toArray, List.set_cons_zero, List.set_cons_succ]
  refine wpAnyH_ready (rs := [11]) (by kernel_rfl) (by simp) ?_
  refine AllReadyH.cons rfl (fun K hK => ?_) AllReadyH.nil
  go_simp
  go_at_call 61
  have HBA := Lib.hid (refBal_any g base M A v L p f.spt _ (HX.out.past (Below.past HB1.out hdr1 hsz1)))
  rw [hb0.out, amount_of HS1.out] at HBA
  refine HBA.out.mono ?_
  rintro e w3 ⟨rfl, hb3'⟩
  have hb3 : Below w1.heap.size w1 w3 := undrewK hb3'
  have HB3 := Lib.hid (Below.past HB1.out hb3 hsz1)
  clear hb3' hb3 HBA hHeld
  refine hK.out _ _ (HCE.out _ HB3.out) (fun hHeld => ?_)
  try simp only [Act.put, List.getElem_toArray, List.getElem_cons_zero, List.getElem_cons_succ, List.setIfInBounds_toArray, List.set_cons_zero, List.set_cons_succ]
  refine wpAnyH_take (i := 13) (v := ?_) rfl (by kernel_rfl) (by kernel_rfl) (by kernel_rfl) (fun _ _ _ h => h) (Or.inl ⟨by rfl, ?_⟩) (by assumption) ?_
  rotate_left
  · (intro w' hSw; (try dsimp only at hSw); first | (go_simp; done) | (go_simp; with_reducible rfl))
  try simp only [Act.put, List.getElem_toArray, List.getElem_cons_zero, List.getElem_cons_succ, List.setIfInBounds_toArray, List.set_cons_zero, List.set_cons_succ]
  refine wpAnyH_take (i := 15) (v := ?_) rfl (by kernel_rfl) (by kernel_rfl) (by kernel_rfl) (fun _ _ _ h => h) (Or.inl ⟨by rfl, ?_⟩) (by assumption) ?_
  rotate_left
  · (intro w' hSw; (try dsimp only at hSw); first | (go_simp; done) | (go_simp; with_reducible rfl))
  try simp only [Act.put, List.getElem_toArray, List.getElem_cons_zero, List.getElem_cons_succ, List.setIfInBounds_toArray, List.set_cons_zero, List.set_cons_succ]
  refine wpAnyH_take (i := 16) (v := ?_) rfl (by kernel_rfl) (by kernel_rfl) (by kernel_rfl) (fun _ _ _ h => h) (Or.inl ⟨by rfl, ?_⟩) (by assumption) ?_
  rotate_left
  · (intro w' hSw; (try dsimp only at hSw); first | (go_simp; done) | (go_simp; with_reducible rfl))
  try simp only [Act.put, List.getElem_toArray, List.getElem_cons_zero, List.getElem_cons_succ, List.setIfInBounds_toArray, List.set_cons_zero, List.set_cons_succ]
  refine wpAnyH_done (by kernel_rfl) ?_ _
  clear hHeld
  go_wp2_with fail
  refine bodyPost_ret (v := .tuple #[.int .i64 (b + S), .int .i64 S]) (by simp [results, Try.results62, go_sem]) rfl ⟨rfl, HB3.out⟩
end Go.Proofs.Ytelbolhckhdioaa.TBk

/-! ## from BkvO -/
namespace Go.Proofs.Ytelbolhckhdioaa.TBk
open Go.RowKit Go.Proofs.Ytelbolhckhdioaa

variable {rm : Int} {vq : Value}
set_option maxHeartbeats 8000000 in
set_option maxRecDepth 100000 in
theorem refWrong14_any (g base M A : Nat) (v : Value) (L : List Ent) (p : Int) (bl : List Int) (P : Option Addr) (n c : Nat) (l : List Ent) (w : World) (hM : M ≤ 16) (hA : A ≤ 9) (hinv : Inv M A bl L) (hx : RbkV rm vq w g base M A v L p) (hr : Rd w w.heap.size 4 P n (l.flatMap Ent.cells)) (hn : n ≤ 1000) (hok : ∀ e ∈ l, EntOk e) :
    Calls Try.prog 16 #[.pointer (some ⟨g, 0, none⟩), .slice P n c] w fun e w' => e = .returned (.int .i64 (chgK M A bl l)) ∧ Below w.heap.size w w' := by
  have HL := Lib.hid (hr.len Ent.cells_len (by omega))
  have HR := Lib.hid hr
  have HX := Lib.hid hx
  have HG := Lib.hid hok
  have HI := Lib.hid hinv
  have HBK := Lib.hid hx.blk
  have q0 : ¬ (1024 : Int) < (n : Int) := by omega
  obtain ⟨RK, hRK⟩ : ∃ R, Hid (chgK M A bl l = R) := ⟨_, Lib.hid rfl⟩
  rw [hRK.out]
  clear hx hr hok hinv
  go_enter Try.func16, Try.ntmps16
  go_wp2_with fail
  clear q0
  go_loopw [5] (fun i wr => ∃ k : Nat, k ≤ n ∧ i = .int .i64 (k : Nat) ∧ Hid (∀ e ∈ l.take k, okP M A e.spt = true) ∧ Hid (Below w.heap.size w wr)) (fun i _ => n - (intOf i).toNat)
  case atStart => exact ⟨0, by omega, rfl, Lib.hid (fun e he => absurd he (by simp)), Lib.hid (Below.refl _ _)⟩
  case round =>
    obtain ⟨k, hk, rfl, HOK, HB⟩ := hrel
    have hs := HB.out.size
    by_cases hlt : k < n
    · have hlz : (k : Int) < (n : Int) := by omega
      obtain ⟨f, hgf⟩ : ∃ f, l[k]? = some f := ⟨_, List.getElem?_eq_getElem (by rw [HL.out]; exact hlt)⟩
      have HT_f : Hid (l.take (k + 1) = l.take k ++ [f]) := Lib.hid (by rw [List.take_add_one, hgf]; rfl)
      have HM_f := Lib.hid (List.mem_of_getElem? hgf)
      obtain ⟨b_f, off_f, hPe, hcell⟩ := ent_cells HR.out hgf hlt
      subst hPe
      have HCE := Lib.hid hcell
      clear hcell hgf
      go_upto_region 6 with fail
      have hdr := Below.drew (Below.refl wr.heap.size wr)
      have hS0 : wr.drew.cell? ⟨b_f, off_f + k * 4, none⟩ = some (.int .i64 f.k) ∧ wr.drew.cell? ⟨b_f, off_f + k * 4 + 1, none⟩ = some (.int .i64 f.m) ∧ wr.drew.cell? ⟨b_f, off_f + k * 4 + 2, none⟩ = some (.int .i64 f.a) := HCE.out _ (Below.past HB.out hdr hs)
      refine wp_region_held_drew (S := fun w' => w'.cell? ⟨b_f, off_f + k * 4, none⟩ = some (.int .i64 f.k) ∧ w'.cell? ⟨b_f, off_f + k * 4 + 1, none⟩ = some (.int .i64 f.m) ∧ w'.cell? ⟨b_f, off_f + k * 4 + 2, none⟩ = some (.int .i64 f.a)) (by kernel_rfl) hS0 (fun hHeld => ?_)
      clear hS0
      refine wpAnyH_take (i := 0) (v := ?_) rfl (by kernel_rfl) (by kernel_rfl) (by kernel_rfl) (fun _ _ _ h => h) (Or.inl ⟨by rfl, ?_⟩) (by assumption) ?_
      rotate_left
      · (intro w' hSw; (try dsimp only at hSw); first | (go_simp; done) | (go_simp; with_reducible rfl))
      try simp only [Act.put, List.getElem_toArray, List.getElem_cons_zero, List.getElem_cons_succ, List.setIfInBounds_toArray, List.set_cons_zero, List.set_cons_succ]
      refine wpAnyH_take (i := 1) (v := ?_) rfl (by kernel_rfl) (by kernel_rfl) (by kernel_rfl) (fun _ _ _ h => h) (Or.inl ⟨by rfl, ?_⟩) (by assumption) ?_
      rotate_left
      · (intro w' hSw; (try dsimp only at hSw); first | (go_simp; done) | (go_simp; with_reducible rfl))
      try simp only [Act.put, List.getElem_toArray, List.getElem_cons_zero, List.getElem_cons_succ, List.setIfInBounds_toArray, List.set_cons_zero, List.set_cons_succ]
      refine wpAnyH_take (i := 2) (v := ?_) rfl (by kernel_rfl) (by kernel_rfl) (by kernel_rfl) (fun _ _ _ h => h) (Or.inl ⟨by rfl, ?_⟩) (by assumption) ?_
      rotate_left
      · (intro w' hSw; (try dsimp only at hSw); first | (go_simp; done) | (go_simp; with_reducible rfl))
      try simp only [Act.put, List.getElem_toArray, List.getElem_cons_zero, List.getElem_cons_succ, List.setIfInBounds_toArray, List.set_cons_zero, List.set_cons_succ]
      refine wpAnyH_take (i := 3) (v := ?_) rfl (by kernel_rfl) (by kernel_rfl) (by kernel_rfl) (fun _ _ _ h => h) (Or.inl ⟨by rfl, ?_⟩) (by assumption) ?_
      rotate_left
      · (intro w' hSw; (try dsimp only at hSw); first | (go_simp; done) | (go_simp; with_reducible rfl))
      try simp only [Act.put, List.getElem_toArray, List.getElem_cons_zero, List.getElem_cons_succ, List.setIfInBounds_toArray, List.set_cons_zero, List.set_cons_succ]
      refine wpAnyH_take (i := 4) (v := ?_) rfl (by kernel_rfl) (by kernel_rfl) (by kernel_rfl) (fun _ _ _ h => h) (Or.inl ⟨by rfl, ?_⟩) (by assumption) ?_
      rotate_left
      · (intro w' hSw; (try dsimp only at hSw); first | (go_simp; done) | (go_simp; with_reducible rfl))
      try simp only [Act.put, List.getElem_toArray, List.getElem_cons_zero, List.getElem_cons_succ, List.setIfInBounds_toArray, List.set_cons_zero, List.set_cons_succ]
      refine wpAnyH_take (i := 5) (v := ?_) rfl (by kernel_rfl) (by kernel_rfl) (by kernel_rfl) (fun _ _ _ h => h) (Or.inl ⟨by rfl, ?_⟩) (by assumption) ?_
      rotate_left
      · (intro w' hSw; (try dsimp only at hSw); first | (go_simp; done) | (go_simp; with_reducible rfl))
      try simp only [Act.put, List.getElem_toArray, List.getElem_cons_zero, List.getElem_cons_succ, List.setIfInBounds_toArray, List.set_cons_zero, List.set_cons_succ]
      refine wpAnyH_take (i := 6) (v := ?_) rfl (by kernel_rfl) (by kernel_rfl) (by kernel_rfl) (fun _ _ _ h => h) (Or.inl ⟨by rfl, ?_⟩) (by assumption) ?_
      rotate_left
      · (intro w' hSw; (try dsimp only at hSw); first | (go_simp; done) | (go_simp; with_reducible rfl))
      try simp only [Act.put, List.getElem_toArray, List.getElem_cons_zero, List.getElem_cons_succ, List.setIfInBounds_toArray, List.set_cons_zero, List.set_cons_succ]
      refine wpAnyH_take (i := 7) (v := ?_) rfl (by kernel_rfl) (by kernel_rfl) (by kernel_rfl) (fun _ _ _ h => h) (Or.inl ⟨by rfl, ?_⟩) (by assumption) ?_
      rotate_left
      · (intro w' hSw; (try dsimp only at hSw); first | (go_simp; done) | (go_simp; with_reducible rfl))
      try simp only [Act.put, List.getElem_toArray, List.getElem_cons_zero, List.getElem_cons_succ, List.setIfInBounds_toArray, List.set_cons_zero, List.set_cons_succ]
      refine wpAnyH_take (i := 8) (v := ?_) rfl (by kernel_rfl) (by kernel_rfl) (by kernel_rfl) (fun _ _ _ h => h) (Or.inl ⟨by rfl, ?_⟩) (by assumption) ?_
      rotate_left
      · (intro w' hSw; (try dsimp only at hSw); first | (go_simp; done) | (go_simp; with_reducible rfl))
      try simp only [Act.put, List.getElem_toArray, List.getElem_cons_zero, List.getElem_cons_succ, List.setIfInBounds_toArray, List.set_cons_zero, List.set_cons_succ]
      refine wpAnyH_take (i := 9) (v := ?_) rfl (by kernel_rfl) (by kernel_rfl) (by kernel_rfl) (fun _ _ _ h => h) (Or.inl ⟨by rfl, ?_⟩) (by assumption) ?_
      rotate_left
      · (intro w' hSw; (try dsimp only at hSw); first | (go_simp; done) | (go_simp; with_reducible rfl))
      try simp only [Act.put, List.getElem_toArray, List.getElem_cons_zero, List.getElem_cons_succ, List.setIfInBounds_toArray, List.set_cons_zero, List.set_cons_succ]
      refine wpAnyH_take (i := 10) (v := ?_) rfl (by kernel_rfl) (by kernel_rfl) (by kernel_rfl) (fun _ _ _ h => h) (Or.inl ⟨by rfl, ?_⟩) (by assumption) ?_
      rotate_left
      · (intro w' hSw; (try dsimp only at hSw); first | (go_simp; done) | (go_simp; with_reducible rfl))
      try simp only [Act.put, List.getElem_toArray, List.getElem_cons_zero, List.getElem_cons_succ, List.setIfInBounds_toArray, List.set_cons_zero, List.set_cons_succ]
      refine wpAnyH_ready (rs := [11]) (by kernel_rfl) (by simp) ?_
      refine AllReadyH.cons rfl (fun K hK => ?_) AllReadyH.nil
      go_simp
      go_at_call 57
      have HHA := Lib.hid (refHas_any14 g base M A v L p f.spt _ hM (HX.out.past (Below.past HB.out hdr hs)))
      obtain ⟨O, hO⟩ : ∃ O, Hid (okP M A f.spt = O) := ⟨_, Lib.hid rfl⟩
      rw [hO.out] at HHA
      refine HHA.out.mono ?_
      rintro e w3 ⟨rfl, hb3'⟩
      have hb3 : Below wr.heap.size wr w3 := undrewK hb3'
      have HB3 := Lib.hid (Below.past HB.out hb3 hs)
      clear hb3' hb3 HHA hHeld
      refine hK.out _ _ (HCE.out _ HB3.out) (fun hHeld => ?_)
      try simp only [Act.put, List.getElem_toArray, List.getElem_cons_zero, List.getElem_cons_succ, List.setIfInBounds_toArray, List.set_cons_zero, List.set_cons_succ]
      cases O with
      | true =>
        have HOK2 : Hid (∀ e ∈ l.take (k + 1), okP M A e.spt = true) := Lib.hid fun e he => by
          rw [HT_f.out] at he
          rcases List.mem_append.1 he with he | he
          · exact HOK.out e he
          · simp at he; rw [he]; exact hO.out
        refine wpAnyH_take (i := 12) (v := ?_) rfl (by kernel_rfl) (by kernel_rfl) (by kernel_rfl) (fun _ _ _ h => h) (Or.inl ⟨by rfl, ?_⟩) (by assumption) ?_
        rotate_left
        · (intro w' hSw; (try dsimp only at hSw); first | (go_simp; done) | (go_simp; with_reducible rfl))
        try simp only [Act.put, List.getElem_toArray, List.getElem_cons_zero, List.getElem_cons_succ, List.setIfInBounds_toArray, List.set_cons_zero, List.set_cons_succ]
        refine wpAnyH_done (by kernel_rfl) ?_ _
        clear hHeld
        go_wp2_with fail
        go_roundw
        case rel => exact ⟨k + 1, by omega, by go_num, HOK2, HB3⟩
        case measure => simp [intOf]; omega
      | false =>
        have HK : Hid (RK = 8) := Lib.hid (by
          rw [← hRK.out]; unfold chgK
          rw [if_neg (fun h => by have := List.all_eq_true.1 h f HM_f.out; rw [hO.out] at this; cases this)])
        refine wpAnyH_take (i := 12) (v := ?_) rfl (by kernel_rfl) (by kernel_rfl) (by kernel_rfl) (fun _ _ _ h => h) (Or.inl ⟨by rfl, ?_⟩) (by assumption) ?_
        rotate_left
        · (intro w' hSw; (try dsimp only at hSw); first | (go_simp; done) | (go_simp; with_reducible rfl))
        try simp only [Act.put, List.getElem_toArray, List.getElem_cons_zero, List.getElem_cons_succ, List.setIfInBounds_toArray, List.set_cons_zero, List.set_cons_succ]
        refine wpAnyH_done (by kernel_rfl) ?_ _
        clear hHeld
        go_wp2_with fail
        go_ret
        exact ⟨by rw [HK.out]; rfl, HB3.out⟩
    · have hlz : ¬ (k : Int) < (n : Int) := by omega
      obtain rfl : n = k := by omega
      have hT : l.take n = l := List.take_of_length_le (by rw [HL.out]; exact Nat.le_refl _)
      have HOKA : Hid (∀ e ∈ l, okP M A e.spt = true) := Lib.hid (by have := HOK.out; rwa [hT] at this)
      have HALL : Hid ((l.all fun e => okP M A e.spt) = true) := Lib.hid (List.all_eq_true.2 HOKA.out)
      clear hT HOK
      go_wp2_with fail
      obtain ⟨w2, hw2⟩ : ∃ w2, Hid (wr = w2) := ⟨_, Lib.hid rfl⟩
      have HB20 : Hid (Below w.heap.size w wr) := HB
      go_loopw [6] (fun i wz => ∃ j : Nat, j ≤ A ∧ i = .int .i64 (j : Nat) ∧ Hid (∀ i, i < j → (ofK l i).sum = 0) ∧ Hid (Below w.heap.size w wz)) (fun i _ => A - (intOf i).toNat)
      case atStart => exact ⟨0, by omega, rfl, Lib.hid (fun i hi => by omega), HB20⟩
      case round =>
        obtain ⟨j, hj, rfl, HZ, HC⟩ := hrel
        have hcs := HC.out.size
        have bk := HBK.out.past HC.out
        have p1 := bk.cell 1
        simp at p1
        clear bk
        by_cases hjA : j < A
        · have hjz : (j : Int) < (A : Int) := by omega
          have HOF := Lib.hid (refOf14_any P n c l j wr (HR.out.past HC.out) hn)
          unfold IntsPost at HOF
          obtain ⟨S, hS⟩ : ∃ S, Hid ((ofK l j).sum = S) := ⟨_, Lib.hid rfl⟩
          have HLJ := Lib.hid (Nat.le_trans (ofK_len l j) (by rw [HL.out]; exact hn) : (ofK l j).length ≤ 1000)
          go_wp2_with fail
          refine HOF.out.mono ?_
          rintro e w4 ⟨u, rfl, hu, hb4⟩
          obtain ⟨Au, cu, rfl⟩ := own_form hu
          have HC4 := Lib.hid (Below.past HC.out hb4 hcs)
          have HSM := Lib.hid (refSum_any Au _ cu _ w4 (Rd.of_own hu) HLJ.out (ofK_in HG.out j))
          rw [hS.out] at HSM
          clear hb4 hu p1
          by_cases hz : S = 0
          · subst hz
            rw [show amount 0 = 0 from rfl, show over 0 = 0 from rfl] at HSM
            have HZ2 : Hid (∀ i, i < j + 1 → (ofK l i).sum = 0) := Lib.hid fun i hi => by
              rcases Nat.lt_or_ge i j with h | h
              · exact HZ.out i h
              · obtain rfl : i = j := by omega
                exact hS.out
            go_wp2_with fail
            refine HSM.out.mono ?_
            rintro e w5 ⟨rfl, rfl⟩
            go_wp2_with fail
            go_roundw
            case rel => exact ⟨j + 1, by omega, by go_num, HZ2, HC4⟩
            case measure => simp [intOf]; omega
          · have HK : Hid (RK = 17) := Lib.hid (by
              rw [← hRK.out]; unfold chgK
              rw [if_pos HALL.out, if_pos (List.any_eq_true.2 ⟨j, List.mem_range.2 (by omega), by unfold badJ; rw [hS.out]; exact decide_eq_true hz⟩)])
            by_cases hin : inI S
            · rw [(amount_inK hin).1, (amount_inK hin).2] at HSM
              have q1 : (S != 0) = true := by simpa using hz
              go_wp2_with fail
              refine HSM.out.mono ?_
              rintro e w5 ⟨rfl, rfl⟩
              go_wp2_with fail
              go_ret
              exact ⟨by rw [HK.out]; rfl, HC4.out⟩
            · rw [(amount_outK hin).1, (amount_outK hin).2] at HSM
              go_wp2_with fail
              refine HSM.out.mono ?_
              rintro e w5 ⟨rfl, rfl⟩
              go_wp2_with fail
              go_ret
              exact ⟨by rw [HK.out]; rfl, HC4.out⟩
        · have hjz : ¬ (j : Int) < (A : Int) := by omega
          obtain rfl : A = j := by omega
          have HNB : Hid (¬ (List.range 9).any (badJ l) = true) := Lib.hid fun h => by
            obtain ⟨i, hi, hb⟩ := List.any_eq_true.1 h
            unfold badJ at hb
            have h0 : (ofK l i).sum = 0 := by
              rcases Nat.lt_or_ge i A with h' | h'
              · exact HZ.out i h'
              · have : ofK l i = [] := by
                  unfold ofK
                  rw [List.filter_eq_nil_iff.2 fun e he hc => ?_]; rfl
                  have h1 := (okP_iff.1 (HOKA.out e he)).2.2
                  have h2 : e.spt.a = e.a := rfl
                  simp at hc
                  omega
                rw [this]; rfl
            rw [h0] at hb; simp at hb
          clear HZ
          go_wp2_with fail
          clear p1
          go_loopw [9] (fun i wz => ∃ k : Nat, k ≤ n ∧ i = .int .i64 (k : Nat) ∧ Hid (∀ e ∈ l.take k, ovS M bl l e.spt = false) ∧ Hid (Below w.heap.size w wz)) (fun i _ => n - (intOf i).toNat)
          case atStart => exact ⟨0, by omega, rfl, Lib.hid (fun e he => absurd he (by simp)), HC⟩
          case round =>
            obtain ⟨k, hk, rfl, HOV, HD⟩ := hrel
            have hds := HD.out.size
            by_cases hlt : k < n
            · have hlz : (k : Int) < (n : Int) := by omega
              obtain ⟨f, hgf⟩ : ∃ f, l[k]? = some f := ⟨_, List.getElem?_eq_getElem (by rw [HL.out]; exact hlt)⟩
              have HT_f : Hid (l.take (k + 1) = l.take k ++ [f]) := Lib.hid (by rw [List.take_add_one, hgf]; rfl)
              have HM_f := Lib.hid (List.mem_of_getElem? hgf)
              obtain ⟨b_f, off_f, hPe, hcell⟩ := ent_cells HR.out hgf hlt
              subst hPe
              have HCE := Lib.hid hcell
              have HSP := Lib.hid (HOKA.out f HM_f.out)
              have HMS : Hid (f.spt ∈ sptsOf l) := Lib.hid (spts_mem.2 ⟨f, HM_f.out, rfl⟩)
              obtain ⟨S, hS⟩ : ∃ S, Hid ((atB l f.spt).sum = S) := ⟨_, Lib.hid rfl⟩
              obtain ⟨b, hb0⟩ : ∃ S, Hid ((atB L f.spt).sum = S) := ⟨_, Lib.hid rfl⟩
              have HIB : Hid (inI b) := Lib.hid (by rw [← hb0.out]; exact HI.out.inn _ (List.mem_of_getElem? (HI.out.bal _ HSP.out)))
              have HNW : Hid (nowB M bl l f.spt = b + S) := Lib.hid (by
                unfold nowB; rw [List.getD_eq_getElem?_getD, HI.out.bal _ HSP.out, hb0.out, hS.out]; rfl)
              have HK2 : Hid (ovS M bl l f.spt = true → RK = 2) := Lib.hid (fun h => by
                rw [← hRK.out]; unfold chgK
                rw [if_pos HALL.out, if_neg HNB.out, if_pos (List.any_eq_true.2 ⟨f.spt, HMS.out, h⟩)])
              have HAT := Lib.hid (fun w' (hb : Below w.heap.size w w') => refAt_any (some ⟨b_f, off_f, none⟩) n c l f.spt w' (HR.out.past hb) hn)
              unfold IntsPost at HAT
              have HLE := Lib.hid (Nat.le_trans (atB_len l f.spt) (by rw [HL.out]; exact hn) : (atB l f.spt).length ≤ 1000)
              clear hcell hgf
              go_upto_region 17 with fail
              have hdr := Below.drew (Below.refl wr.heap.size wr)
              have hS0 : wr.drew.cell? ⟨b_f, off_f + k * 4, none⟩ = some (.int .i64 f.k) ∧ wr.drew.cell? ⟨b_f, off_f + k * 4 + 1, none⟩ = some (.int .i64 f.m) ∧ wr.drew.cell? ⟨b_f, off_f + k * 4 + 2, none⟩ = some (.int .i64 f.a) := HCE.out _ (Below.past HD.out hdr hds)
              refine wp_region_held_drew (S := fun w' => w'.cell? ⟨b_f, off_f + k * 4, none⟩ = some (.int .i64 f.k) ∧ w'.cell? ⟨b_f, off_f + k * 4 + 1, none⟩ = some (.int .i64 f.m) ∧ w'.cell? ⟨b_f, off_f + k * 4 + 2, none⟩ = some (.int .i64 f.a)) (by kernel_rfl) hS0 (fun hHeld => ?_)
              clear hS0
              refine wpAnyH_take (i := 0) (v := ?_) rfl (by kernel_rfl) (by kernel_rfl) (by kernel_rfl) (fun _ _ _ h => h) (Or.inl ⟨by rfl, ?_⟩) (by assumption) ?_
              rotate_left
              · (intro w' hSw; (try dsimp only at hSw); first | (go_simp; done) | (go_simp; with_reducible rfl))
              try simp only [Act.put, List.getElem_toArray, List.getElem_cons_zero, List.getElem_cons_succ, List.setIfInBounds_toArray, List.set_cons_zero, List.set_cons_succ]
              refine wpAnyH_take (i := 1) (v := ?_) rfl (by kernel_rfl) (by kernel_rfl) (by kernel_rfl) (fun _ _ _ h => h) (Or.inl ⟨by rfl, ?_⟩) (by assumption) ?_
              rotate_left
              · (intro w' hSw; (try dsimp only at hSw); first | (go_simp; done) | (go_simp; with_reducible rfl))
              try simp only [Act.put, List.getElem_toArray, List.getElem_cons_zero, List.getElem_cons_succ, List.setIfInBounds_toArray, List.set_cons_zero, List.set_cons_succ]
              refine wpAnyH_take (i := 2) (v := ?_) rfl (by kernel_rfl) (by kernel_rfl) (by kernel_rfl) (fun _ _ _ h => h) (Or.inl ⟨by rfl, ?_⟩) (by assumption) ?_
              rotate_left
              · (intro w' hSw; (try dsimp only at hSw); first | (go_simp; done) | (go_simp; with_reducible rfl))
              try simp only [Act.put, List.getElem_toArray, List.getElem_cons_zero, List.getElem_cons_succ, List.setIfInBounds_toArray, List.set_cons_zero, List.set_cons_succ]
              refine wpAnyH_take (i := 3) (v := ?_) rfl (by kernel_rfl) (by kernel_rfl) (by kernel_rfl) (fun _ _ _ h => h) (Or.inl ⟨by rfl, ?_⟩) (by assumption) ?_
              rotate_left
              · (intro w' hSw; (try dsimp only at hSw); first | (go_simp; done) | (go_simp; with_reducible rfl))
              try simp only [Act.put, List.getElem_toArray, List.getElem_cons_zero, List.getElem_cons_succ, List.setIfInBounds_toArray, List.set_cons_zero, List.set_cons_succ]
              refine wpAnyH_take (i := 4) (v := ?_) rfl (by kernel_rfl) (by kernel_rfl) (by kernel_rfl) (fun _ _ _ h => h) (Or.inl ⟨by rfl, ?_⟩) (by assumption) ?_
              rotate_left
              · (intro w' hSw; (try dsimp only at hSw); first | (go_simp; done) | (go_simp; with_reducible rfl))
              try simp only [Act.put, List.getElem_toArray, List.getElem_cons_zero, List.getElem_cons_succ, List.setIfInBounds_toArray, List.set_cons_zero, List.set_cons_succ]
              refine wpAnyH_take (i := 5) (v := ?_) rfl (by kernel_rfl) (by kernel_rfl) (by kernel_rfl) (fun _ _ _ h => h) (Or.inl ⟨by rfl, ?_⟩) (by assumption) ?_
              rotate_left
              · (intro w' hSw; (try dsimp only at hSw); first | (go_simp; done) | (go_simp; with_reducible rfl))
              try simp only [Act.put, List.getElem_toArray, List.getElem_cons_zero, List.getElem_cons_succ, List.setIfInBounds_toArray, List.set_cons_zero, List.set_cons_succ]
              refine wpAnyH_take (i := 6) (v := ?_) rfl (by kernel_rfl) (by kernel_rfl) (by kernel_rfl) (fun _ _ _ h => h) (Or.inl ⟨by rfl, ?_⟩) (by assumption) ?_
              rotate_left
              · (intro w' hSw; (try dsimp only at hSw); first | (go_simp; done) | (go_simp; with_reducible rfl))
              try simp only [Act.put, List.getElem_toArray, List.getElem_cons_zero, List.getElem_cons_succ, List.setIfInBounds_toArray, List.set_cons_zero, List.set_cons_succ]
              refine wpAnyH_take (i := 7) (v := ?_) rfl (by kernel_rfl) (by kernel_rfl) (by kernel_rfl) (fun _ _ _ h => h) (Or.inl ⟨by rfl, ?_⟩) (by assumption) ?_
              rotate_left
              · (intro w' hSw; (try dsimp only at hSw); first | (go_simp; done) | (go_simp; with_reducible rfl))
              try simp only [Act.put, List.getElem_toArray, List.getElem_cons_zero, List.getElem_cons_succ, List.setIfInBounds_toArray, List.set_cons_zero, List.set_cons_succ]
              refine wpAnyH_take (i := 8) (v := ?_) rfl (by kernel_rfl) (by kernel_rfl) (by kernel_rfl) (fun _ _ _ h => h) (Or.inl ⟨by rfl, ?_⟩) (by assumption) ?_
              rotate_left
              · (intro w' hSw; (try dsimp only at hSw); first | (go_simp; done) | (go_simp; with_reducible rfl))
              try simp only [Act.put, List.getElem_toArray, List.getElem_cons_zero, List.getElem_cons_succ, List.setIfInBounds_toArray, List.set_cons_zero, List.set_cons_succ]
              refine wpAnyH_take (i := 9) (v := ?_) rfl (by kernel_rfl) (by kernel_rfl) (by kernel_rfl) (fun _ _ _ h => h) (Or.inl ⟨by rfl, ?_⟩) (by assumption) ?_
              rotate_left
              · (intro w' hSw; (try dsimp only at hSw); first | (go_simp; done) | (go_simp; with_reducible rfl))
              try simp only [Act.put, List.getElem_toArray, List.getElem_cons_zero, List.getElem_cons_succ, List.setIfInBounds_toArray, List.set_cons_zero, List.set_cons_succ]
              refine wpAnyH_take (i := 10) (v := ?_) rfl (by kernel_rfl) (by kernel_rfl) (by kernel_rfl) (fun _ _ _ h => h) (Or.inl ⟨by rfl, ?_⟩) (by assumption) ?_
              rotate_left
              · (intro w' hSw; (try dsimp only at hSw); first | (go_simp; done) | (go_simp; with_reducible rfl))
              try simp only [Act.put, List.getElem_toArray, List.getElem_cons_zero, List.getElem_cons_succ, List.setIfInBounds_toArray, List.set_cons_zero, List.set_cons_succ]
              refine wpAnyH_ready (rs := [11]) (by kernel_rfl) (by simp) ?_
              refine AllReadyH.cons rfl (fun K hK => ?_) AllReadyH.nil
              go_simp
              go_at_call 60
              refine (HAT.out _ (Below.past HD.out hdr hds)).mono ?_
              rintro e w4 ⟨u, rfl, hu, hb4'⟩
              have hb4 : Below wr.heap.size wr w4 := undrewK hb4'
              obtain ⟨Au, cu, rfl⟩ := own_form hu
              have HD4 := Lib.hid (Below.past HD.out hb4 hds)
              have HRU := Lib.hid (Rd.of_own hu)
              have hs4 := HD4.out.size
              clear hb4' hb4 hu hHeld
              refine hK.out _ _ (HCE.out _ HD4.out) (fun hHeld => ?_)
              try simp only [Act.put, List.getElem_toArray, List.getElem_cons_zero, List.getElem_cons_succ, List.setIfInBounds_toArray, List.set_cons_zero, List.set_cons_succ]
              refine wpAnyH_ready (rs := [12]) (by kernel_rfl) (by simp) ?_
              refine AllReadyH.cons rfl (fun K hK => ?_) AllReadyH.nil
              go_simp
              go_at_call 58
              have HSM := Lib.hid (refSum_any Au _ cu _ w4 HRU.out HLE.out (atB_in HG.out f.spt))
              rw [hS.out] at HSM
              obtain ⟨aS, haS⟩ : ∃ x, Hid (amount S = x) := ⟨_, Lib.hid rfl⟩
              obtain ⟨oS, hoS⟩ : ∃ x, Hid (over S = x) := ⟨_, Lib.hid rfl⟩
              rw [haS.out, hoS.out] at HSM
              refine HSM.out.mono ?_
              rintro e w5 ⟨rfl, rfl⟩
              clear HSM hHeld
              refine hK.out _ _ (HCE.out _ HD4.out) (fun hHeld => ?_)
              try simp only [Act.put, List.getElem_toArray, List.getElem_cons_zero, List.getElem_cons_succ, List.setIfInBounds_toArray, List.set_cons_zero, List.set_cons_succ]
              refine wpAnyH_take (i := 13) (v := ?_) rfl (by kernel_rfl) (by kernel_rfl) (by kernel_rfl) (fun _ _ _ h => h) (Or.inl ⟨by rfl, ?_⟩) (by assumption) ?_
              rotate_left
              · (intro w' hSw; (try dsimp only at hSw); first | (go_simp; done) | (go_simp; with_reducible rfl))
              try simp only [Act.put, List.getElem_toArray, List.getElem_cons_zero, List.getElem_cons_succ, List.setIfInBounds_toArray, List.set_cons_zero, List.set_cons_succ]
              refine wpAnyH_take (i := 14) (v := ?_) rfl (by kernel_rfl) (by kernel_rfl) (by kernel_rfl) (fun _ _ _ h => h) (Or.inl ⟨by rfl, ?_⟩) (by assumption) ?_
              rotate_left
              · (intro w' hSw; (try dsimp only at hSw); first | (go_simp; done) | (go_simp; with_reducible rfl))
              try simp only [Act.put, List.getElem_toArray, List.getElem_cons_zero, List.getElem_cons_succ, List.setIfInBounds_toArray, List.set_cons_zero, List.set_cons_succ]
              refine wpAnyH_take (i := 15) (v := ?_) rfl (by kernel_rfl) (by kernel_rfl) (by kernel_rfl) (fun _ _ _ h => h) (Or.inl ⟨by rfl, ?_⟩) (by assumption) ?_
              rotate_left
              · (intro w' hSw; (try dsimp only at hSw); first | (go_simp; done) | (go_simp; with_reducible rfl))
              try simp only [Act.put, List.getElem_toArray, List.getElem_cons_zero, List.getElem_cons_succ, List.setIfInBounds_toArray, List.set_cons_zero, List.set_cons_succ]
              refine wpAnyH_take (i := 16) (v := ?_) rfl (by kernel_rfl) (by kernel_rfl) (by kernel_rfl) (fun _ _ _ h => h) (Or.inl ⟨by rfl, ?_⟩) (by assumption) ?_
              rotate_left
              · (intro w' hSw; (try dsimp only at hSw); first | (go_simp; done) | (go_simp; with_reducible rfl))
              try simp only [Act.put, List.getElem_toArray, List.getElem_cons_zero, List.getElem_cons_succ, List.setIfInBounds_toArray, List.set_cons_zero, List.set_cons_succ]
              refine wpAnyH_take (i := 17) (v := ?_) rfl (by kernel_rfl) (by kernel_rfl) (by kernel_rfl) (fun _ _ _ h => h) (Or.inl ⟨by rfl, ?_⟩) (by assumption) ?_
              rotate_left
              · (intro w' hSw; (try dsimp only at hSw); first | (go_simp; done) | (go_simp; with_reducible rfl))
              try simp only [Act.put, List.getElem_toArray, List.getElem_cons_zero, List.getElem_cons_succ, List.setIfInBounds_toArray, List.set_cons_zero, List.set_cons_succ]
              refine wpAnyH_done (by kernel_rfl) ?_ _
              clear hHeld
              by_cases hin : inI S
              · obtain rfl : S = aS := (amount_inK hin).1.symm.trans haS.out
                obtain rfl : 0 = oS := (amount_inK hin).2.symm.trans hoS.out
                go_upto_region 20 with fail
                have hdr4 := Below.drew (Below.refl w4.heap.size w4)
                have hS0 : w4.drew.cell? ⟨b_f, off_f + k * 4, none⟩ = some (.int .i64 f.k) ∧ w4.drew.cell? ⟨b_f, off_f + k * 4 + 1, none⟩ = some (.int .i64 f.m) ∧ w4.drew.cell? ⟨b_f, off_f + k * 4 + 2, none⟩ = some (.int .i64 f.a) := HCE.out _ (Below.past HD4.out hdr4 hs4)
                refine wp_region_held_drew (S := fun w' => w'.cell? ⟨b_f, off_f + k * 4, none⟩ = some (.int .i64 f.k) ∧ w'.cell? ⟨b_f, off_f + k * 4 + 1, none⟩ = some (.int .i64 f.m) ∧ w'.cell? ⟨b_f, off_f + k * 4 + 2, none⟩ = some (.int .i64 f.a)) (by kernel_rfl) hS0 (fun hHeld => ?_)
                clear hS0
                refine wpAnyH_take (i := 0) (v := ?_) rfl (by kernel_rfl) (by kernel_rfl) (by kernel_rfl) (fun _ _ _ h => h) (Or.inl ⟨by rfl, ?_⟩) (by assumption) ?_
                rotate_left
                · (intro w' hSw; (try dsimp only at hSw); first | (go_simp; done) | (go_simp; with_reducible rfl))
                try simp only [Act.put, List.getElem_toArray, List.getElem_cons_zero, List.getElem_cons_succ, List.setIfInBounds_toArray, List.set_cons_zero, List.set_cons_succ]
                refine wpAnyH_take (i := 1) (v := ?_) rfl (by kernel_rfl) (by kernel_rfl) (by kernel_rfl) (fun _ _ _ h => h) (Or.inl ⟨by rfl, ?_⟩) (by assumption) ?_
                rotate_left
                · (intro w' hSw; (try dsimp only at hSw); first | (go_simp; done) | (go_simp; with_reducible rfl))
                try simp only [Act.put, List.getElem_toArray, List.getElem_cons_zero, List.getElem_cons_succ, List.setIfInBounds_toArray, List.set_cons_zero, List.set_cons_succ]
                refine wpAnyH_take (i := 2) (v := ?_) rfl (by kernel_rfl) (by kernel_rfl) (by kernel_rfl) (fun _ _ _ h => h) (Or.inl ⟨by rfl, ?_⟩) (by assumption) ?_
                rotate_left
                · (intro w' hSw; (try dsimp only at hSw); first | (go_simp; done) | (go_simp; with_reducible rfl))
                try simp only [Act.put, List.getElem_toArray, List.getElem_cons_zero, List.getElem_cons_succ, List.setIfInBounds_toArray, List.set_cons_zero, List.set_cons_succ]
                refine wpAnyH_take (i := 3) (v := ?_) rfl (by kernel_rfl) (by kernel_rfl) (by kernel_rfl) (fun _ _ _ h => h) (Or.inl ⟨by rfl, ?_⟩) (by assumption) ?_
                rotate_left
                · (intro w' hSw; (try dsimp only at hSw); first | (go_simp; done) | (go_simp; with_reducible rfl))
                try simp only [Act.put, List.getElem_toArray, List.getElem_cons_zero, List.getElem_cons_succ, List.setIfInBounds_toArray, List.set_cons_zero, List.set_cons_succ]
                refine wpAnyH_take (i := 4) (v := ?_) rfl (by kernel_rfl) (by kernel_rfl) (by kernel_rfl) (fun _ _ _ h => h) (Or.inl ⟨by rfl, ?_⟩) (by assumption) ?_
                rotate_left
                · (intro w' hSw; (try dsimp only at hSw); first | (go_simp; done) | (go_simp; with_reducible rfl))
                try simp only [Act.put, List.getElem_toArray, List.getElem_cons_zero, List.getElem_cons_succ, List.setIfInBounds_toArray, List.set_cons_zero, List.set_cons_succ]
                refine wpAnyH_take (i := 5) (v := ?_) rfl (by kernel_rfl) (by kernel_rfl) (by kernel_rfl) (fun _ _ _ h => h) (Or.inl ⟨by rfl, ?_⟩) (by assumption) ?_
                rotate_left
                · (intro w' hSw; (try dsimp only at hSw); first | (go_simp; done) | (go_simp; with_reducible rfl))
                try simp only [Act.put, List.getElem_toArray, List.getElem_cons_zero, List.getElem_cons_succ, List.setIfInBounds_toArray, List.set_cons_zero, List.set_cons_succ]
                refine wpAnyH_take (i := 6) (v := ?_) rfl (by kernel_rfl) (by kernel_rfl) (by kernel_rfl) (fun _ _ _ h => h) (Or.inl ⟨by rfl, ?_⟩) (by assumption) ?_
                rotate_left
                · (intro w' hSw; (try dsimp only at hSw); first | (go_simp; done) | (go_simp; with_reducible rfl))
                try simp only [Act.put, List.getElem_toArray, List.getElem_cons_zero, List.getElem_cons_succ, List.setIfInBounds_toArray, List.set_cons_zero, List.set_cons_succ]
                refine wpAnyH_take (i := 7) (v := ?_) rfl (by kernel_rfl) (by kernel_rfl) (by kernel_rfl) (fun _ _ _ h => h) (Or.inl ⟨by rfl, ?_⟩) (by assumption) ?_
                rotate_left
                · (intro w' hSw; (try dsimp only at hSw); first | (go_simp; done) | (go_simp; with_reducible rfl))
                try simp only [Act.put, List.getElem_toArray, List.getElem_cons_zero, List.getElem_cons_succ, List.setIfInBounds_toArray, List.set_cons_zero, List.set_cons_succ]
                refine wpAnyH_take (i := 8) (v := ?_) rfl (by kernel_rfl) (by kernel_rfl) (by kernel_rfl) (fun _ _ _ h => h) (Or.inl ⟨by rfl, ?_⟩) (by assumption) ?_
                rotate_left
                · (intro w' hSw; (try dsimp only at hSw); first | (go_simp; done) | (go_simp; with_reducible rfl))
                try simp only [Act.put, List.getElem_toArray, List.getElem_cons_zero, List.getElem_cons_succ, List.setIfInBounds_toArray, List.set_cons_zero, List.set_cons_succ]
                refine wpAnyH_take (i := 9) (v := ?_) rfl (by kernel_rfl) (by kernel_rfl) (by kernel_rfl) (fun _ _ _ h => h) (Or.inl ⟨by rfl, ?_⟩) (by assumption) ?_
                rotate_left
                · (intro w' hSw; (try dsimp only at hSw); first | (go_simp; done) | (go_simp; with_reducible rfl))
                try simp only [Act.put, List.getElem_toArray, List.getElem_cons_zero, List.getElem_cons_succ, List.setIfInBounds_toArray, List.set_cons_zero, List.set_cons_succ]
                refine wpAnyH_take (i := 10) (v := ?_) rfl (by kernel_rfl) (by kernel_rfl) (by kernel_rfl) (fun _ _ _ h => h) (Or.inl ⟨by rfl, ?_⟩) (by assumption) ?_
                rotate_left
                · (intro w' hSw; (try dsimp only at hSw); first | (go_simp; done) | (go_simp; with_reducible rfl))
                try simp only [Act.put, List.getElem_toArray, List.getElem_cons_zero, List.getElem_cons_succ, List.setIfInBounds_toArray, List.set_cons_zero, List.set_cons_succ]
                refine wpAnyH_take (i := 12) (v := ?_) rfl (by kernel_rfl) (by kernel_rfl) (by kernel_rfl) (fun _ _ _ h => h) (Or.inl ⟨by rfl, ?_⟩) (by assumption) ?_
                rotate_left
                · (intro w' hSw; (try dsimp only at hSw); first | (go_simp; done) | (go_simp; with_reducible rfl))
                try simp only [Act.put, List.getElem_toArray, List.getElem_cons_zero, List.getElem_cons_succ, List.setIfInBounds_toArray, List.set_cons_zero, List.set_cons_succ]
                refine wpAnyH_ready (rs := [11]) (by kernel_rfl) (by simp) ?_
                refine AllReadyH.cons rfl (fun K hK => ?_) AllReadyH.nil
                go_simp
                go_at_call 61
                have HBA := Lib.hid (refBal_any g base M A v L p f.spt _ (HX.out.past (Below.past HD4.out hdr4 hs4)))
                rw [hb0.out, amount_of HIB.out] at HBA
                refine HBA.out.mono ?_
                rintro e w6 ⟨rfl, hb6'⟩
                have hb6 : Below w4.heap.size w4 w6 := undrewK hb6'
                have HD6 := Lib.hid (Below.past HD4.out hb6 hs4)
                have hs6 := HD6.out.size
                clear hb6' hb6 HBA hHeld
                refine hK.out _ _ (HCE.out _ HD6.out) (fun hHeld => ?_)
                try simp only [Act.put, List.getElem_toArray, List.getElem_cons_zero, List.getElem_cons_succ, List.setIfInBounds_toArray, List.set_cons_zero, List.set_cons_succ]
                refine wpAnyH_ready (rs := [13]) (by kernel_rfl) (by simp) ?_
                refine AllReadyH.cons rfl (fun K hK => ?_) AllReadyH.nil
                go_simp
                have HD7 := Lib.hid (HD6.out.alloc hs6 (.cells #[.int .i64 b, .int .i64 S] 2))
                have hrl : Rd _ _ 1 _ 2 ([b, S].flatMap i64Cells) := Rd.lit (n := 2) (sz := 1) w6 #[.int .i64 b, .int .i64 S] 2 w6.heap.size rfl rfl
                have HSM := Lib.hid (refSum_any _ 2 2 [b, S] _ hrl (by omega) (fun z hz => by
                  simp only [List.mem_cons, List.not_mem_nil, or_false] at hz
                  rcases hz with rfl | rfl
                  · exact HIB.out
                  · exact hin))
                rw [show [b, S].sum = b + S by simp] at HSM
                clear hrl hHeld
                refine hK.out _ _ (HCE.out _ HD7.out) (fun hHeld => ?_)
                try simp only [Act.put, List.getElem_toArray, List.getElem_cons_zero, List.getElem_cons_succ, List.setIfInBounds_toArray, List.set_cons_zero, List.set_cons_succ]
                refine wpAnyH_ready (rs := [14]) (by kernel_rfl) (by simp) ?_
                refine AllReadyH.cons rfl (fun K hK => ?_) AllReadyH.nil
                go_simp
                go_at_call 58
                obtain ⟨aT, haT⟩ : ∃ x, Hid (amount (b + S) = x) := ⟨_, Lib.hid rfl⟩
                obtain ⟨oT, hoT⟩ : ∃ x, Hid (over (b + S) = x) := ⟨_, Lib.hid rfl⟩
                rw [haT.out, hoT.out] at HSM
                refine HSM.out.mono ?_
                rintro e w8 ⟨rfl, rfl⟩
                clear HSM hHeld
                refine hK.out _ _ (HCE.out _ HD7.out) (fun hHeld => ?_)
                try simp only [Act.put, List.getElem_toArray, List.getElem_cons_zero, List.getElem_cons_succ, List.setIfInBounds_toArray, List.set_cons_zero, List.set_cons_succ]
                refine wpAnyH_take (i := 15) (v := ?_) rfl (by kernel_rfl) (by kernel_rfl) (by kernel_rfl) (fun _ _ _ h => h) (Or.inl ⟨by rfl, ?_⟩) (by assumption) ?_
                rotate_left
                · (intro w' hSw; (try dsimp only at hSw); first | (go_simp; done) | (go_simp; with_reducible rfl))
                try simp only [Act.put, List.getElem_toArray, List.getElem_cons_zero, List.getElem_cons_succ, List.setIfInBounds_toArray, List.set_cons_zero, List.set_cons_succ]
                refine wpAnyH_take (i := 16) (v := ?_) rfl (by kernel_rfl) (by kernel_rfl) (by kernel_rfl) (fun _ _ _ h => h) (Or.inl ⟨by rfl, ?_⟩) (by assumption) ?_
                rotate_left
                · (intro w' hSw; (try dsimp only at hSw); first | (go_simp; done) | (go_simp; with_reducible rfl))
                try simp only [Act.put, List.getElem_toArray, List.getElem_cons_zero, List.getElem_cons_succ, List.setIfInBounds_toArray, List.set_cons_zero, List.set_cons_succ]
                refine wpAnyH_take (i := 17) (v := ?_) rfl (by kernel_rfl) (by kernel_rfl) (by kernel_rfl) (fun _ _ _ h => h) (Or.inl ⟨by rfl, ?_⟩) (by assumption) ?_
                rotate_left
                · (intro w' hSw; (try dsimp only at hSw); first | (go_simp; done) | (go_simp; with_reducible rfl))
                try simp only [Act.put, List.getElem_toArray, List.getElem_cons_zero, List.getElem_cons_succ, List.setIfInBounds_toArray, List.set_cons_zero, List.set_cons_succ]
                refine wpAnyH_take (i := 18) (v := ?_) rfl (by kernel_rfl) (by kernel_rfl) (by kernel_rfl) (fun _ _ _ h => h) (Or.inl ⟨by rfl, ?_⟩) (by assumption) ?_
                rotate_left
                · (intro w' hSw; (try dsimp only at hSw); first | (go_simp; done) | (go_simp; with_reducible rfl))
                try simp only [Act.put, List.getElem_toArray, List.getElem_cons_zero, List.getElem_cons_succ, List.setIfInBounds_toArray, List.set_cons_zero, List.set_cons_succ]
                refine wpAnyH_done (by kernel_rfl) ?_ _
                clear hHeld
                by_cases hin2 : inI (b + S)
                · obtain rfl : 0 = oT := (amount_inK hin2).2.symm.trans hoT.out
                  have HOV2 : Hid (∀ e ∈ l.take (k + 1), ovS M bl l e.spt = false) := Lib.hid fun e he => by
                    rw [HT_f.out] at he
                    rcases List.mem_append.1 he with he | he
                    · exact HOV.out e he
                    · simp at he; subst he
                      unfold ovS; rw [hS.out, HNW.out, decide_eq_true hin, decide_eq_true hin2]; rfl
                  go_wp2_with fail
                  go_roundw
                  case rel => exact ⟨k + 1, by omega, by go_num, HOV2, HD7⟩
                  case measure => simp [intOf]; omega
                · obtain rfl : 2 = oT := (amount_outK hin2).2.symm.trans hoT.out
                  have HK := Lib.hid (HK2.out (by unfold ovS; rw [HNW.out, decide_eq_false hin2]; simp))
                  go_wp2_with fail
                  go_ret
                  exact ⟨by rw [HK.out]; rfl, HD7.out⟩
              · have HK := Lib.hid (HK2.out (by unfold ovS; rw [hS.out, decide_eq_false hin]; simp))
                obtain rfl : 0 = aS := (amount_outK hin).1.symm.trans haS.out
                obtain rfl : 2 = oS := (amount_outK hin).2.symm.trans hoS.out
                go_wp2_with fail
                go_ret
                exact ⟨by rw [HK.out]; rfl, HD4.out⟩
            · have hlz : ¬ (k : Int) < (n : Int) := by omega
              obtain rfl : n = k := by omega
              have hT : l.take n = l := List.take_of_length_le (by rw [HL.out]; exact Nat.le_refl _)
              have HK : Hid (RK = 0) := Lib.hid (by
                have h := HOV.out
                rw [hT] at h
                rw [← hRK.out]; unfold chgK
                rw [if_pos HALL.out, if_neg HNB.out, if_neg (fun h' => by
                  obtain ⟨s, hs, hb⟩ := List.any_eq_true.1 h'
                  obtain ⟨e, he, rfl⟩ := spts_mem.1 hs
                  rw [h e he] at hb; cases hb)])
              clear hT
              go_wp2_with fail
              go_ret
              exact ⟨by rw [HK.out]; rfl, HD.out⟩
end Go.Proofs.Ytelbolhckhdioaa.TBk

/-! ## from BkvP -/
namespace Go.Proofs.Ytelbolhckhdioaa.TBk
open Go.RowKit Go.Proofs.Ytelbolhckhdioaa

variable {rm : Int} {vq : Value}
def PostRPost (rm : Int) (vq : Value) (g base M A : Nat) (v : Value) (bl : List Int) (L : List Ent) (p : Int) (l : List Ent) (w : World) (e : Ending) (w' : World) : Prop :=
  e = .returned (.int .i64 (postK M A bl l)) ∧ ∃ v', RbkV rm vq w' g base M A v' (postLL M A bl L l) (postP M A bl l p) ∧ OnlyG g v w w' ∧ (v'.ownBlock = v.ownBlock ∨ ∃ k, v'.ownBlock = some k ∧ w.heap.size ≤ k)
theorem postR_no {g base M A : Nat} {v : Value} {bl : List Int} {L : List Ent} {p : Int} {l : List Ent} {w w' : World} {K : Int} (hx : RbkV rm vq w g base M A v L p) (hk : postK M A bl l = K) (h0 : K ≠ 0) (hb : Below w.heap.size w w') : PostRPost rm vq g base M A v bl L p l w (.returned (.int .i64 K)) w' := by
  refine ⟨by rw [hk], v, ?_, OnlyG.of_below hb, .inl rfl⟩
  rw [postLL, postP, hk, if_neg h0, if_neg h0]; exact hx.past hb
/-- What holds at the head of each round of the second loop. -/
structure RpSt (rm : Int) (vq : Value) (W : World) (g base M A : Nat) (v : Value) (p : Int) (L : List Ent) (v' : Value) (w : World) : Prop where
  book : RbkV rm vq w g base M A v' L p
  only : OnlyG g v W w
  own : v'.ownBlock = v.ownBlock ∨ ∃ k, v'.ownBlock = some k ∧ W.heap.size ≤ k
theorem RpSt.next {W w w1 w2 : World} {g base M A : Nat} {v v' v2 : Value} {p : Int} {L : List Ent} (h : RpSt rm vq W g base M A v p L v' w) (hb : Below w.heap.size w w1) (f : Ent) (hf : EntOk f) (hl : L.length + 1 ≤ 1000) (hown : w2.ownsRow base 110 4 v2 (L.length + 1) (L.flatMap Ent.cells ++ f.cells)) (hg : w1.grownBy w2 v'.ownBlock) (hd : v2.ownBlock = v'.ownBlock ∨ v2.ownBlock = some w1.heap.size) : RpSt rm vq W g base M A v p (L ++ [f]) v2 (w2.setCell ⟨g, 2, none⟩ v2) := by
  have hrow1 := own_pastK h.book.row hb
  have hblk1 := h.book.blk.past hb
  have bz : Blk w2 g _ _ := Blk.grown hblk1 hg (own_blk_ne hrow1 hblk1 (by decide))
  have hbs := hb.size
  have hws := h.only.size
  obtain ⟨X, cX, rfl⟩ := own_form hown
  have hLL : (L ++ [f]).length = L.length + 1 := by simp
  refine ⟨⟨⟨X, cX, by rw [hLL]⟩, bz.put 2 _, ?_, ?_, by rw [hLL]; exact hl⟩, ?_, ?_⟩
  · rw [hLL, List.flatMap_append]
    simpa using own_far (p := ⟨g, 2, none⟩) hown (own_blk_ne hown bz (by decide)) _
  · intro e he
    rcases List.mem_append.1 he with h1 | h1
    · exact h.book.ok e h1
    · rw [List.mem_singleton] at h1; rw [h1]; exact hf
  · refine OnlyG.setCell (p := ⟨g, 2, none⟩) ?_ rfl _
    have ho := h.only.below hb
    rcases h.own with h1 | ⟨k, h1, h2⟩
    · rw [h1] at hg; exact ho.grown hg
    · exact ⟨hg.os.trans ho.os, hg.tape.trans ho.tape, hg.output.trans ho.output, Nat.le_trans ho.size hg.size, fun j hj h3 h4 => (hg.block j (Nat.lt_of_lt_of_le hj ho.size) (fun e => by rw [h1] at e; cases e; omega)).trans (ho.block j hj h3 h4)⟩
  · rcases hd with h1 | h1
    · rw [h1]; exact h.own
    · exact .inr ⟨_, h1, by omega⟩
theorem RpSt.last {W w : World} {g base M A : Nat} {v v' : Value} {p : Int} {L : List Ent} (h : RpSt rm vq W g base M A v p L v' w) : RbkV rm vq (w.setCell ⟨g, 3, none⟩ (.int .i64 (p + 1))) g base M A v' L (p + 1) ∧ OnlyG g v W (w.setCell ⟨g, 3, none⟩ (.int .i64 (p + 1))) :=
  ⟨⟨h.book.form, h.book.blk.put 3 _, own_far (p := ⟨g, 3, none⟩) h.book.row (own_blk_ne h.book.row h.book.blk (by decide)) _, h.book.ok, h.book.len⟩, h.only.setCell ⟨g, 3, none⟩ rfl _⟩
set_option maxHeartbeats 8000000 in
set_option maxRecDepth 100000 in
theorem refPost_any (g base M A : Nat) (v : Value) (bl : List Int) (L : List Ent) (p : Int) (P : Option Addr) (n c : Nat) (l : List Ent) (w : World) (hM : M ≤ 16) (hA : A ≤ 9) (hinv : Inv M A bl L) (hx : RbkV rm vq w g base M A v L p) (hr : Rd w w.heap.size 4 P n (l.flatMap Ent.cells)) (hbs : 0 < n → BesideK g v P) (hn : n ≤ 500) (hLn : L.length + l.length ≤ 1000) (hok : ∀ e ∈ l, EntOk e) (hp : 0 ≤ p ∧ p ≤ 1000000) (hbase : base ≤ w.heap.size) :
    Calls Try.prog 18 #[.pointer (some ⟨g, 0, none⟩), .slice P n c] w (PostRPost rm vq g base M A v bl L p l w) := by
  have HL := Lib.hid (hr.len Ent.cells_len (by omega))
  have HR := Lib.hid hr
  have HX := Lib.hid hx
  have HG := Lib.hid hok
  have HI := Lib.hid hinv
  have HBS := Lib.hid hbs
  have HP := Lib.hid hp
  have HLN := Lib.hid hLn
  obtain ⟨i0, hi0, hz0, hz1, hz2⟩ := info_parts entInfo
  have HWR := Lib.hid (refWrong14_any g base M A v L p bl P n c l w hM hA hinv hx hr (by omega) hok)
  obtain ⟨K, hK⟩ : ∃ R, Hid (chgK M A bl l = R) := ⟨_, Lib.hid rfl⟩
  rw [hK.out] at HWR
  clear hx hr hok hinv hbs hp hLn
  go_enter Try.func18, Try.ntmps18
  go_wp2_with fail
  refine HWR.out.mono ?_
  rintro e w1 ⟨rfl, hb1⟩
  have HB1 := Lib.hid hb1
  clear hb1 HWR
  by_cases hk0 : K = 0
  · subst hk0
    go_wp2_with fail
    go_loopw [6] (fun i wr => ∃ k : Nat, k ≤ n ∧ i = .int .i64 (k : Nat) ∧ Hid ((l.take k).any (fun e => fundB (chgOf M bl l e.spt)) = false) ∧ Hid (Below w.heap.size w wr)) (fun i _ => n - (intOf i).toNat)
    case atStart => exact ⟨0, by omega, rfl, Lib.hid rfl, HB1⟩
    case round =>
      obtain ⟨k, hk, rfl, HF, HB⟩ := hrel
      have hs := HB.out.size
      by_cases hlt : k < n
      · have hlz : (k : Int) < (n : Int) := by omega
        have hg_f : l[k]? = some (l[k]'(by have := HL.out; omega)) := List.getElem?_eq_getElem _
        obtain ⟨b_f, off_f, rfl, hbb_f, hc_f⟩ := (HR.out.past HB.out).elem Ent.cells_len hg_f hlt
        have HT_f := Lib.hid (show l.take (k + 1) = l.take k ++ [(l[k]'(by have := HL.out; omega))] from List.take_succ_eq_append_getElem (by have := HL.out; omega))
        have HM_f := Lib.hid (show (l[k]'(by have := HL.out; omega)) ∈ l from List.getElem_mem _)
        have HG_f := Lib.hid hg_f
        generalize (l[k]'(by have := HL.out; omega)) = f at *
        have c0 := hc_f 0 _ rfl
        have c1 := hc_f 1 _ rfl
        have c2 := hc_f 2 _ rfl
        have c3 := hc_f 3 _ rfl
        clear hc_f hg_f
        simp only [Nat.add_zero] at c0
        have hin := ent_in HI.out hK.out HM_f.out
        have HBH := Lib.hid (behind_any g base M A v L p (some ⟨b_f, off_f, none⟩) n c l k f wr (HX.out.past HB.out) (HR.out.past HB.out) (by omega) HG.out HG_f.out hin.1 hin.2.1 hin.2.2.1)
        obtain ⟨S, hS⟩ : ∃ S, Hid ((atB l f.spt).sum = S) := ⟨_, Lib.hid rfl⟩
        obtain ⟨N, hN⟩ : ∃ S, Hid (nowB M bl l f.spt = S) := ⟨_, Lib.hid rfl⟩
        rw [← hin.2.2.2, hS.out, hN.out] at HBH
        obtain ⟨F, hF⟩ : ∃ F, Hid (frB f.spt = F) := ⟨_, Lib.hid rfl⟩
        have HFU : Hid (fundB (chgOf M bl l f.spt) = (!F && (decide (S < 0) && decide (N < 0)))) := Lib.hid (by
          unfold fundB chgOf; simp only; rw [hF.out, hS.out, hN.out])
        have HFR := Lib.hid (fun w => refFree_any f.spt w)
        rw [hF.out] at HFR
        obtain ⟨B, hB⟩ : ∃ B, Hid (fundB (chgOf M bl l f.spt) = B) := ⟨_, Lib.hid rfl⟩
        rw [hB.out] at HFU
        clear hin c0 c1 c2 c3
        go_wp2_with fail
        refine HBH.out.mono ?_
        rintro e w3 ⟨rfl, hb3⟩
        have HB3 := Lib.hid (Below.past HB.out hb3 hs)
        have hs3 := HB3.out.size
        obtain ⟨b3, o3, he3, _, hc3⟩ := (HR.out.past HB3.out).elem Ent.cells_len HG_f.out hlt
        cases he3
        have c0 := hc3 0 _ rfl
        have c1 := hc3 1 _ rfl
        simp only [Nat.add_zero] at c0
        clear hb3 hc3 HBH
        go_wp2_with fail
        refine (HFR.out _).mono ?_
        rintro e w4 ⟨rfl, hb4⟩
        have HB4 := Lib.hid (Below.past HB3.out hb4 hs3)
        clear hb4 c0 c1 HFR
        cases B with
        | true =>
          have hft : F = false ∧ S < 0 ∧ N < 0 := by have := HFU.out; simp at this; exact this
          obtain ⟨rfl, hs0, hn0⟩ := hft
          have HK : Hid (postK M A bl l = 13) := Lib.hid (by
            unfold postK
            rw [if_pos hK.out, chgL_any hK.out, if_pos (List.any_eq_true.2 ⟨f, HM_f.out, hB.out⟩)])
          go_wp2_with fail
          go_ret
          exact postR_no HX.out HK.out (by decide) HB4.out
        | false =>
          have HF2 : Hid ((l.take (k + 1)).any (fun e => fundB (chgOf M bl l e.spt)) = false) := Lib.hid (by rw [HT_f.out, List.any_append, HF.out]; simp [hB.out])
          cases F with
          | true =>
            go_wp2_with fail
            go_roundw
            case rel => exact ⟨k + 1, by omega, by go_num, HF2, HB4⟩
            case measure => simp [intOf]; omega
          | false =>
            by_cases h1 : S < 0
            · have h2 : ¬ N < 0 := fun h2 => by
                have h3 := HFU.out
                rw [decide_eq_true h1, decide_eq_true h2] at h3; cases h3
              go_wp2_with fail
              go_roundw
              case rel => exact ⟨k + 1, by omega, by go_num, HF2, HB4⟩
              case measure => simp [intOf]; omega
            · go_wp2_with fail
              go_roundw
              case rel => exact ⟨k + 1, by omega, by go_num, HF2, HB4⟩
              case measure => simp [intOf]; omega
      · have hlz : ¬ (k : Int) < (n : Int) := by omega
        obtain rfl : n = k := by omega
        have hT : l.take n = l := List.take_of_length_le (by rw [HL.out]; exact Nat.le_refl _)
        have HK : Hid (postK M A bl l = 0) := Lib.hid (by
          have h := HF.out
          rw [hT] at h
          unfold postK
          rw [if_pos hK.out, chgL_any hK.out, h, if_neg (by simp)])
        have HST0 : Hid (RpSt rm vq w g base M A v p (L ++ l.take 0) v wr) := Lib.hid ⟨by rw [List.take_zero, List.append_nil]; exact HX.out.past HB.out, OnlyG.of_below HB.out, .inl rfl⟩
        clear hT HF
        go_wp2_with fail
        go_loopw [9] (fun i wz => ∃ (k : Nat) (v' : Value), k ≤ n ∧ i = .int .i64 (k : Nat) ∧ Hid (RpSt rm vq w g base M A v p (L ++ l.take k) v' wz)) (fun i _ => n - (intOf i).toNat)
        case atStart => exact ⟨0, v, by omega, rfl, HST0⟩
        case round =>
          clear HST0
          obtain ⟨k, v', hk, rfl, HS⟩ := hrel
          by_cases hlt : k < n
          · have hlz2 : (k : Int) < (n : Int) := by omega
            have hrz := HR.out.onlyG HS.out.only (HBS.out (by omega))
            have hg_f : l[k]? = some (l[k]'(by have := HL.out; omega)) := List.getElem?_eq_getElem _
            obtain ⟨b_f, off_f, rfl, hbb_f, hc_f⟩ := (hrz).elem Ent.cells_len hg_f hlt
            have HT_f := Lib.hid (show l.take (k + 1) = l.take k ++ [(l[k]'(by have := HL.out; omega))] from List.take_succ_eq_append_getElem (by have := HL.out; omega))
            have HM_f := Lib.hid (show (l[k]'(by have := HL.out; omega)) ∈ l from List.getElem_mem _)
            generalize (l[k]'(by have := HL.out; omega)) = f at *
            have c0 := hc_f 0 _ rfl
            have c1 := hc_f 1 _ rfl
            have c2 := hc_f 2 _ rfl
            have c3 := hc_f 3 _ rfl
            clear hc_f hg_f
            simp only [Nat.add_zero] at c0
            obtain ⟨X, cX, rfl⟩ := HS.out.book.form
            obtain ⟨q, hq⟩ : ∃ q, Hid ((L ++ l.take k).length = q) := ⟨_, Lib.hid rfl⟩
            have hq1 : q ≤ 1000 := by rw [← hq.out, List.length_append, List.length_take]; have := HLN.out; have := HL.out; omega
            have blz := HS.out.book.blk
            have hoz := HS.out.book.row
            rw [hq.out] at blz hoz
            have hbf : b_f < wr.heap.size := by
              rcases Nat.lt_or_ge b_f wr.heap.size with h | h
              · exact h
              · have := c0; simp [World.cell?, Array.getElem?_eq_none h] at this
            have l2 := blz.cell 2
            simp at l2
            have hgz := blz.lt
            have hws := HS.out.only.size
            have hbz : base ≤ wr.heap.size := by omega
            clear hrz
            have HRW := Lib.hid hoz
            have HBL := Lib.hid blz
            have HEF := Lib.hid (HG.out f HM_f.out)
            have hqk : q = L.length + k := by rw [← hq.out, List.length_append, List.length_take]; have := HL.out; omega
            have hq2 : q + 1 ≤ 1000 := by have := HLN.out; have := HL.out; omega
            clear hqk
            have hbz2 := hbz
            clear hoz blz
            go_upto_region 13 with fail
            go_region_law (refine step_append_blkG rfl (.tmp 54) (.tmp 59) 33 rfl base 110 i0 _ 4 32 Try.underlying33 hi0 hz0 hz1 hz2 rfl (by decide) (.slice X q cX) q ((L ++ l.take k).flatMap Ent.cells) (by simp [Act.eval, Act.put]) (by first | exact HRW.out.alloc _ | exact own_drewN (HRW.out.alloc _) 1) wr.heap.size 1 1 #[.int .i64 f.k, .int .i64 f.m, .int .i64 f.a, .int .i64 f.z] (by simp [Act.eval, Act.put]) (by exact Blk.new wr 110 _ _ rfl) rfl (by simp [Value.oneCell']) (by omega) (by omega) (by simp; omega) ?_; intro v' w' hown' hg' hd; obtain ⟨A', c', rfl⟩ := own_form hown'; have bz : Blk w' g 49 #[.int .i64 M, .int .i64 A, .slice X q cX, .int .i64 p, .int .i64 rm, vq] := Blk.grown (by first | exact HBL.out.alloc _ | exact (HBL.out.alloc _).drewN 1) hg' (own_blk_ne (w := wr) HRW.out HBL.out (by decide)); have z1 := bz.cell 2; have zf := bz.frozen 2; simp at z1)
            all_goals
              have HN : Hid (RpSt rm vq w g base M A v p (L ++ l.take (k + 1)) (.slice A' (q + 1) c') (w'.setCell ⟨g, 2, none⟩ (.slice A' (q + 1) c'))) := Lib.hid (by
                rw [HT_f.out, ← List.append_assoc]
                refine HS.out.next ?_ f HEF.out (by rw [hq.out]; exact hq2) (by rw [hq.out]; exact hown') (by rw [hq.out]; exact hg') (by rw [hq.out]; exact hd)
                first | exact (Below.refl wr.heap.size wr).alloc (Nat.le_refl _) _ | exact ((Below.refl wr.heap.size wr).alloc (Nat.le_refl _) _).drew)
              clear z1 zf bz hown' hg' hd
              go_wp2_with fail
              go_roundw
              case rel => exact ⟨k + 1, _, by omega, by go_num, HN⟩
              case measure => simp [intOf]; omega
          · have hlz2 : ¬ (k : Int) < (n : Int) := by omega
            obtain rfl : n = k := by omega
            have hT : l.take n = l := List.take_of_length_le (by rw [HL.out]; exact Nat.le_refl _)
            have HS2 := HS
            rw [hT] at HS2
            have HLS := Lib.hid HS2.out.last
            have HOW := Lib.hid HS2.out.own
            have p3 := HS.out.book.blk.cell 3
            have z3 := HS.out.book.blk.frozen 3
            simp at p3
            have hwp : IntKind.i64.wrap (p + 1) = p + 1 := IntWalk.i64_in _ (by have := HP.out; omega)
            have HE : Hid (postLL M A bl L l = L ++ l ∧ postP M A bl l p = p + 1) := Lib.hid (by unfold postLL postP; rw [HK.out, if_pos rfl, if_pos rfl]; exact ⟨rfl, rfl⟩)
            clear hT HS2
            go_wp2_with fail
            go_ret
            refine ⟨by rw [HK.out]; rfl, v', ?_, HLS.out.2, HOW.out⟩
            rw [HE.out.1, HE.out.2]
            exact HLS.out.1
  · have HK : Hid (postK M A bl l = K) := Lib.hid (by unfold postK; rw [if_neg (by rw [hK.out]; exact hk0), hK.out])
    have q1 : (K != 0) = true := by simpa using hk0
    go_wp2_with fail
    go_ret
    exact postR_no HX.out HK.out hk0 HB1.out
end Go.Proofs.Ytelbolhckhdioaa.TBk
