import Derived.Test.YtelbolhckhdioaaBokI
namespace Go.Proofs.Ytelbolhckhdioaa
open Go.RowKit

/-! ### Postings, one behind the other -/
structure PosV where
  P : Option Addr
  c : Nat
  l : List Ent
def PosV.cells (v : PosV) : List Value := [.slice v.P v.l.length v.c]
theorem PosV.cells_len (v : PosV) : v.cells.length = 1 := rfl
structure PosRd (w : World) (v : PosV) : Prop where
  rd : Rd w w.heap.size 4 v.P v.l.length (v.l.flatMap Ent.cells)
  ok : ∀ e ∈ v.l, EntOk e
theorem PosRd.past {w w' : World} {v : PosV} (h : PosRd w v) (hb : Below w.heap.size w w') : PosRd w' v := ⟨h.rd.past hb, h.ok⟩
theorem PosRd.below {w w' : World} {B : Nat} {v : PosV} (h : PosRd w v) (hB : B = w.heap.size) (hb : Below B w w') : PosRd w' v := by subst hB; exact h.past hb
def shortP (v : PosV) : Bool := decide (v.l.length ≤ 12)
def fewP (most : Nat) (vs : List PosV) : Bool := decide (vs.length ≤ most) && vs.all shortP

set_option maxHeartbeats 1000000 in
theorem few14_any (A : Option Addr) (n c : Nat) (vs : List PosV) (most : Nat) (hmo : most ≤ 1000) (w : World) (hr : Rd w w.heap.size 1 A n (vs.flatMap PosV.cells)) :
    Calls Try.prog 9 #[.slice A n c, .int .i64 (most : Nat)] w fun e w' => e = .returned (.bool (fewP most vs)) ∧ w = w' := by
  have HL := Lib.hid (hr.len PosV.cells_len (by omega))
  have HR := Lib.hid hr
  obtain ⟨R, hR⟩ : ∃ R, Hid (fewP most vs = R) := ⟨_, Lib.hid rfl⟩
  rw [hR.out]
  clear hr
  by_cases hm : n ≤ most
  · have q0 : ¬ (most : Int) < (n : Int) := by omega
    go_enter Try.func9, Try.ntmps9
    go_wp2_with fail
    go_loopw [5] (fun i wr => ∃ k : Nat, k ≤ n ∧ i = .int .i64 (k : Nat) ∧ Hid ((vs.take k).all shortP = true) ∧ w = wr) (fun i _ => n - (intOf i).toNat)
    case atStart => exact ⟨0, by omega, rfl, Lib.hid rfl, rfl⟩
    case round =>
      obtain ⟨k, hk, rfl, HS, rfl⟩ := hrel
      by_cases hlt : k < n
      · have hlz : (k : Int) < (n : Int) := by omega
        have hg_f : vs[k]? = some (vs[k]'(by have := HL.out; omega)) := List.getElem?_eq_getElem _
        obtain ⟨b_f, off_f, rfl, hbb_f, hc_f⟩ := (HR.out).elem PosV.cells_len hg_f hlt
        have HT_f := Lib.hid (show vs.take (k + 1) = vs.take k ++ [(vs[k]'(by have := HL.out; omega))] from List.take_succ_eq_append_getElem (by have := HL.out; omega))
        have HM_f := Lib.hid (show (vs[k]'(by have := HL.out; omega)) ∈ vs from List.getElem_mem _)
        generalize (vs[k]'(by have := HL.out; omega)) = f at *
        have c0 := hc_f 0 _ rfl
        clear hc_f hg_f
        simp only [Nat.add_zero, Nat.mul_one] at c0
        by_cases hf : f.l.length ≤ 12
        · have q1 : ¬ (12 : Int) < (f.l.length : Int) := by omega
          have HS2 : Hid ((vs.take (k + 1)).all shortP = true) := Lib.hid (by rw [HT_f.out, List.all_append, HS.out]; simp [shortP, hf])
          clear hf
          go_wp2_with fail
          go_roundw
          case rel => exact ⟨k + 1, by omega, by go_num, HS2, by simp⟩
          case measure => simp [intOf]; omega
        · have q1 : (12 : Int) < (f.l.length : Int) := by omega
          have HF : Hid (R = false) := Lib.hid (by
            rw [← hR.out]
            unfold fewP
            have : ¬ vs.all shortP = true := fun h => by
              have := List.all_eq_true.1 h f HM_f.out
              unfold shortP at this; simp at this; omega
            simp [this])
          clear hf
          go_wp2_with fail
          go_ret
          exact ⟨by rw [HF.out]; rfl, rfl⟩
      · have hlz : ¬ (k : Int) < (n : Int) := by omega
        obtain rfl : n = k := by omega
        have HF : Hid (R = true) := Lib.hid (by
          have h := HS.out
          rw [List.take_of_length_le (by rw [HL.out]; exact Nat.le_refl _)] at h
          rw [← hR.out]
          unfold fewP
          rw [h, HL.out, decide_eq_true hm]; rfl)
        go_wp2_with fail
        go_ret
        exact ⟨by rw [HF.out]; rfl, rfl⟩
  · have q0 : (most : Int) < (n : Int) := by omega
    have HF : Hid (R = false) := Lib.hid (by
      rw [← hR.out]
      unfold fewP
      rw [HL.out, decide_eq_false hm]; rfl)
    go_enter Try.func9, Try.ntmps9
    go_wp2_with fail
    go_ret
    exact ⟨by rw [HF.out]; rfl, rfl⟩

theorem own14 (i : Int) (w : World) : Calls Try.prog 53 #[.int .i64 i] w fun e w' => e = .returned (.agg #[.int .i64 7, .int .i64 i]) ∧ Below w.heap.size w w' := by
  have hB0 := (Below.refl w.heap.size w).alloc (Nat.le_refl _) (.cells #[.int .i64 7, .int .i64 i] 52)
  go_enter Try.func53, Try.ntmps53
  go_wp2_with fail
  refine bodyPost_ret (v := .agg #[.int .i64 7, .int .i64 i]) (by simp [results, Try.results53, go_sem]) rfl ⟨rfl, hB0⟩

/-! ### The page's example -/
def aw1 : List Ent := moveE ⟨7, 1⟩ ⟨1, 0⟩ 0 5
def aw2 : List Ent := moveE ⟨1, 0⟩ ⟨7, 2⟩ 0 6
def awB : List Int := postB 2 1 (List.replicate (1 * cnt 2) 0) aw1
theorem aw1_ok : postK 2 1 (List.replicate (1 * cnt 2) 0) aw1 = 0 := by decide
theorem aw2_no : postK 2 1 awB aw2 = 13 := by decide
theorem aw_bal : blK 2 1 awB ⟨7, 1, 0⟩ = (-5, 0) := by decide
theorem aw1_p : postP 2 1 (List.replicate (1 * cnt 2) 0) aw1 0 = 1 := by decide
theorem aw0_in : ∀ z ∈ List.replicate (1 * cnt 2) (0 : Int), inI z := by decide
theorem awB_in : ∀ z ∈ awB, inI z := by decide
theorem aw2_same : postB 2 1 awB aw2 = awB ∧ postP 2 1 awB aw2 1 = 1 := by decide

set_option maxHeartbeats 4000000 in
set_option maxRecDepth 100000 in
theorem awake14 (w : World) : Calls Try.prog 10 #[] w fun e w' => e = .returned (.bool true) ∧ Below w.heap.size w w' := by
  have HN := Lib.hid (newK_yes 2 1 (by omega) (by omega) (by omega) w)
  unfold NewKPost at HN
  go_enter Try.func10, Try.ntmps10
  go_wp2_with fail
  refine HN.out.mono ?_
  rintro e w1 ⟨g, v, rfl, hg, hbk, hb1⟩
  have HX1 := Lib.hid hbk
  have HB1 := Lib.hid hb1
  have hs1 := hb1.size
  have hgl := hbk.blk.lt
  have bs := Blk.new w1 52 #[.int .i64 1, .int .i64 0] w1.heap.size rfl
  have hb2 := (Below.refl w1.heap.size w1).alloc (Nat.le_refl _) (.cells #[.int .i64 1, .int .i64 0] 52)
  obtain ⟨gs, hgs⟩ : ∃ gs, Hid (w1.heap.size = gs) := ⟨_, Lib.hid rfl⟩
  obtain ⟨W2, hW2⟩ : ∃ W, Hid (w1.alloc (.cells #[.int .i64 1, .int .i64 0] 52) = W) := ⟨_, Lib.hid rfl⟩
  rw [hgs.out] at bs
  rw [hW2.out] at bs hb2
  have HX2 := Lib.hid (hbk.past hb2)
  have HB2 := Lib.hid (Below.past HB1.out hb2 hs1)
  have HS2 := Lib.hid bs
  have hne : gs ≠ g := by have := hgs.out; omega
  have hs2 := HB2.out.size
  clear hbk hb1 hb2 bs HN
  go_upto_region 3 with fail
  rw [hgs.out, hW2.out]
  have hdr := Below.drew (Below.refl W2.heap.size W2)
  have hS0 : W2.drew.cell? ⟨gs, 0, none⟩ = some (.int .i64 1) ∧ W2.drew.cell? ⟨gs, 1, none⟩ = some (.int .i64 0) := ⟨HS2.out.cell 0, HS2.out.cell 1⟩
  refine wp_region_held_drew (S := fun w' => w'.cell? ⟨gs, 0, none⟩ = some (.int .i64 1) ∧ w'.cell? ⟨gs, 1, none⟩ = some (.int .i64 0)) (by kernel_rfl) hS0 (fun hHeld => ?_)
  clear hS0
  refine wpAnyH_take (i := 0) (v := ?_) rfl (by kernel_rfl) (by kernel_rfl) (by kernel_rfl) (fun _ _ _ h => h) (Or.inl ⟨by rfl, ?_⟩) (by assumption) ?_
  rotate_left
  · (intro w' hSw; (try dsimp only at hSw); first | (go_simp; done) | (go_simp; with_reducible rfl))
  try simp only [Act.put, List.getElem_toArray, List.getElem_cons_zero, List.getElem_cons_succ, List.setIfInBounds_toArray, List.set_cons_zero, List.set_cons_succ]
  refine wpAnyH_take (i := 2) (v := ?_) rfl (by kernel_rfl) (by kernel_rfl) (by kernel_rfl) (fun _ _ _ h => h) (Or.inl ⟨by rfl, ?_⟩) (by assumption) ?_
  rotate_left
  · (intro w' hSw; (try dsimp only at hSw); first | (go_simp; done) | (go_simp; with_reducible rfl))
  try simp only [Act.put, List.getElem_toArray, List.getElem_cons_zero, List.getElem_cons_succ, List.setIfInBounds_toArray, List.set_cons_zero, List.set_cons_succ]
  refine wpAnyH_ready (rs := [1]) (by kernel_rfl) (by simp) ?_
  refine AllReadyH.cons rfl (fun K hK => ?_) AllReadyH.nil
  go_simp
  go_at_call 53
  refine (own14 1 _).mono ?_
  rintro e w3 ⟨rfl, hb3'⟩
  have hb3 : Below W2.heap.size W2 w3 := undrewK hb3'
  have HX3 := Lib.hid (HX2.out.past hb3)
  have HS3 := Lib.hid (HS2.out.past hb3)
  have HB3 := Lib.hid (Below.past HB2.out hb3 hs2)
  have hs3 := HB3.out.size
  clear hb3' hb3 hHeld
  refine hK.out _ _ (⟨HS3.out.cell 0, HS3.out.cell 1⟩) (fun hHeld => ?_)
  try simp only [Act.put, List.getElem_toArray, List.getElem_cons_zero, List.getElem_cons_succ, List.setIfInBounds_toArray, List.set_cons_zero, List.set_cons_succ]
  refine wpAnyH_ready (rs := [3]) (by kernel_rfl) (by simp) ?_
  refine AllReadyH.cons rfl (fun K hK => ?_) AllReadyH.nil
  go_simp
  go_at_call 52
  have HM := Lib.hid (moveK_any g w.heap.size 2 1 v _ 0 ⟨7, 1⟩ ⟨1, 0⟩ 0 5 w3 HX3.out (by decide) (by decide) (by decide) (by decide) (by decide) aw0_in (by decide))
  unfold PostPost at HM
  rw [show moveE ⟨7, 1⟩ ⟨1, 0⟩ 0 5 = aw1 from rfl, aw1_ok, aw1_p, show postB 2 1 (List.replicate (1 * cnt 2) 0) aw1 = awB from rfl] at HM
  refine HM.out.mono ?_
  rintro e w4 ⟨rfl, hbk4, hon4⟩
  have HX4 := Lib.hid hbk4
  have HS4 := Lib.hid (hon4.blk HS3.out hne (own_blk_ne HX3.out.row HS3.out (by decide)))
  have HB4 := Lib.hid (Below.trans HB3.out (HX3.out.frame hon4 hg (Nat.le_refl _) hs3))
  have hs4 := HB4.out.size
  clear hbk4 hon4 HM hHeld
  refine hK.out _ _ (⟨HS4.out.cell 0, HS4.out.cell 1⟩) (fun hHeld => ?_)
  try simp only [Act.put, List.getElem_toArray, List.getElem_cons_zero, List.getElem_cons_succ, List.setIfInBounds_toArray, List.set_cons_zero, List.set_cons_succ]
  refine wpAnyH_take (i := 4) (v := ?_) rfl (by kernel_rfl) (by kernel_rfl) (by kernel_rfl) (fun _ _ _ h => h) (Or.inl ⟨by rfl, ?_⟩) (by assumption) ?_
  rotate_left
  · (intro w' hSw; (try dsimp only at hSw); first | (go_simp; done) | (go_simp; with_reducible rfl))
  try simp only [Act.put, List.getElem_toArray, List.getElem_cons_zero, List.getElem_cons_succ, List.setIfInBounds_toArray, List.set_cons_zero, List.set_cons_succ]
  refine wpAnyH_done (by kernel_rfl) ?_ _
  clear hHeld
  go_upto_region 4 with fail
  have hdr4 := Below.drew (Below.refl w4.heap.size w4)
  have hS0 : w4.drew.cell? ⟨gs, 0, none⟩ = some (.int .i64 1) ∧ w4.drew.cell? ⟨gs, 1, none⟩ = some (.int .i64 0) := ⟨HS4.out.cell 0, HS4.out.cell 1⟩
  refine wp_region_held_drew (S := fun w' => w'.cell? ⟨gs, 0, none⟩ = some (.int .i64 1) ∧ w'.cell? ⟨gs, 1, none⟩ = some (.int .i64 0)) (by kernel_rfl) hS0 (fun hHeld => ?_)
  clear hS0
  refine wpAnyH_take (i := 0) (v := ?_) rfl (by kernel_rfl) (by kernel_rfl) (by kernel_rfl) (fun _ _ _ h => h) (Or.inl ⟨by rfl, ?_⟩) (by assumption) ?_
  rotate_left
  · (intro w' hSw; (try dsimp only at hSw); first | (go_simp; done) | (go_simp; with_reducible rfl))
  try simp only [Act.put, List.getElem_toArray, List.getElem_cons_zero, List.getElem_cons_succ, List.setIfInBounds_toArray, List.set_cons_zero, List.set_cons_succ]
  refine wpAnyH_take (i := 1) (v := ?_) rfl (by kernel_rfl) (by kernel_rfl) (by kernel_rfl) (fun _ _ _ h => h) (Or.inl ⟨by rfl, ?_⟩) (by assumption) ?_
  rotate_left
  · (intro w' hSw; (try dsimp only at hSw); first | (go_simp; done) | (go_simp; with_reducible rfl))
  try simp only [Act.put, List.getElem_toArray, List.getElem_cons_zero, List.getElem_cons_succ, List.setIfInBounds_toArray, List.set_cons_zero, List.set_cons_succ]
  refine wpAnyH_ready (rs := [2]) (by kernel_rfl) (by simp) ?_
  refine AllReadyH.cons rfl (fun K hK => ?_) AllReadyH.nil
  go_simp
  go_at_call 53
  refine (own14 2 _).mono ?_
  rintro e w5 ⟨rfl, hb5'⟩
  have hb5 : Below w4.heap.size w4 w5 := undrewK hb5'
  have HX5 := Lib.hid (HX4.out.past hb5)
  have HS5 := Lib.hid (HS4.out.past hb5)
  have HB5 := Lib.hid (Below.past HB4.out hb5 hs4)
  have hs5 := HB5.out.size
  clear hb5' hb5 hHeld
  refine hK.out _ _ (⟨HS5.out.cell 0, HS5.out.cell 1⟩) (fun hHeld => ?_)
  try simp only [Act.put, List.getElem_toArray, List.getElem_cons_zero, List.getElem_cons_succ, List.setIfInBounds_toArray, List.set_cons_zero, List.set_cons_succ]
  refine wpAnyH_ready (rs := [3]) (by kernel_rfl) (by simp) ?_
  refine AllReadyH.cons rfl (fun K hK => ?_) AllReadyH.nil
  go_simp
  go_at_call 52
  have HM := Lib.hid (moveK_any g w.heap.size 2 1 v awB 1 ⟨1, 0⟩ ⟨7, 2⟩ 0 6 w5 HX5.out (by decide) (by decide) (by decide) (by decide) (by decide) awB_in (by decide))
  unfold PostPost at HM
  rw [show moveE ⟨1, 0⟩ ⟨7, 2⟩ 0 6 = aw2 from rfl, aw2_no, aw2_same.1, aw2_same.2] at HM
  refine HM.out.mono ?_
  rintro e w6 ⟨rfl, hbk6, hon6⟩
  have HX6 := Lib.hid hbk6
  have HS6 := Lib.hid (hon6.blk HS5.out hne (own_blk_ne HX5.out.row HS5.out (by decide)))
  have HB6 := Lib.hid (Below.trans HB5.out (HX5.out.frame hon6 hg (Nat.le_refl _) hs5))
  have hs6 := HB6.out.size
  clear hbk6 hon6 HM hHeld
  refine hK.out _ _ (⟨HS6.out.cell 0, HS6.out.cell 1⟩) (fun hHeld => ?_)
  try simp only [Act.put, List.getElem_toArray, List.getElem_cons_zero, List.getElem_cons_succ, List.setIfInBounds_toArray, List.set_cons_zero, List.set_cons_succ]
  refine wpAnyH_take (i := 4) (v := ?_) rfl (by kernel_rfl) (by kernel_rfl) (by kernel_rfl) (fun _ _ _ h => h) (Or.inl ⟨by rfl, ?_⟩) (by assumption) ?_
  rotate_left
  · (intro w' hSw; (try dsimp only at hSw); first | (go_simp; done) | (go_simp; with_reducible rfl))
  try simp only [Act.put, List.getElem_toArray, List.getElem_cons_zero, List.getElem_cons_succ, List.setIfInBounds_toArray, List.set_cons_zero, List.set_cons_succ]
  refine wpAnyH_done (by kernel_rfl) ?_ _
  clear hHeld
  go_wp2_with fail
  refine (own14 1 _).mono ?_
  rintro e w7 ⟨rfl, hb7⟩
  have HX7 := Lib.hid (HX6.out.past hb7)
  have HB7 := Lib.hid (Below.past HB6.out hb7 hs6)
  have hs7 := HB7.out.size
  have HBL := Lib.hid (balK_any g w.heap.size 2 1 v awB 1 ⟨7, 1, 0⟩ w7 HX7.out)
  rw [aw_bal] at HBL
  clear hb7
  go_wp2_with fail
  refine HBL.out.mono ?_
  rintro e w8 ⟨rfl, hb8⟩
  have HX8 := Lib.hid (HX7.out.past hb8)
  have HB8 := Lib.hid (Below.past HB7.out hb8 hs7)
  have HPO := Lib.hid (postedK_any g w.heap.size 2 1 v awB 1 w8 HX8.out)
  clear hb8
  go_wp2_with fail
  refine HPO.out.mono ?_
  rintro e w9 ⟨rfl, rfl⟩
  go_wp2_with fail
  go_ret
  exact ⟨rfl, HB8.out⟩
end Go.Proofs.Ytelbolhckhdioaa
