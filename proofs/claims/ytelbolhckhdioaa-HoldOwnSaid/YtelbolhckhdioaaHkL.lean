import Derived.Test.YtelbolhckhdioaaHkI
import Derived.Test.YtelbolhckhdioaaBokR
/-! ## from HdJ -/
namespace Go.Proofs.Ytelbolhckhdioaa
open Go.RowKit

/-! ### same -/
set_option maxHeartbeats 4000000 in
theorem sameI_any (P Q : Option Addr) (n c d : Nat) (l : List Int) (w : World) (hp : Rd w w.heap.size 1 P n (l.flatMap i64Cells)) (hq : Rd w w.heap.size 1 Q n (l.flatMap i64Cells)) (hn : n ≤ 1000) :
    Calls Try.prog 72 #[.slice P n c, .slice Q n d] w fun e w' => e = .returned (.bool true) ∧ Below w.heap.size w w' := by
  have HL := Lib.hid (hp.len (f := i64Cells) (fun _ => rfl) (by omega))
  have HP := Lib.hid hp
  have HQ := Lib.hid hq
  clear hp hq
  go_enter Try.func72, Try.ntmps72
  go_wp2_with fail
  go_loopw [5] (fun i wr => ∃ k : Nat, k ≤ n ∧ i = .int .i64 (k : Nat) ∧ Hid (Below w.heap.size w wr)) (fun i _ => n - (intOf i).toNat)
  case atStart => exact ⟨0, by omega, rfl, Lib.hid (Below.refl _ _)⟩
  case round =>
    obtain ⟨k, hk, rfl, HB⟩ := hrel
    by_cases hlt : k < n
    · have hlz : (k : Int) < (n : Int) := by omega
      obtain ⟨z, hz⟩ : ∃ z, l[k]? = some z := ⟨_, List.getElem?_eq_getElem (by have := HL.out; omega)⟩
      obtain ⟨b1, o1, rfl, h1⟩ := i64_cell HP.out hz hlt
      obtain ⟨b2, o2, rfl, h2⟩ := i64_cell HQ.out hz hlt
      have c1 := h1 _ HB.out
      have c2 := h2 _ HB.out
      have hzz : (z != z) = false := by simp
      clear hz h1 h2
      go_wp2_with fail
      go_quiet (fail)
      have HB2 := Lib.hid (below_drewN HB.out nq)
      clear c1 c2
      go_wp2_with fail
      go_roundw
      case rel => exact ⟨k + 1, by omega, by go_num, HB2⟩
      case measure => simp [intOf]; omega
    · have hlz : ¬ (k : Int) < (n : Int) := by omega
      go_wp2_with fail
      go_ret
      exact ⟨rfl, HB.out⟩
theorem acc_cells2 {w : World} {B n k : Nat} {A : Option Addr} {l : List Acc} {x : Acc} (h : Rd w B 2 A n (l.flatMap Acc.cells)) (hx : l[k]? = some x) (hk : k < n) : ∃ b off, A = some ⟨b, off, none⟩ ∧ ∀ w', Below B w w' → w'.cell? ⟨b, off + k * 2, none⟩ = some (.int .i64 x.kind) ∧ w'.cell? ⟨b, off + k * 2 + 1, none⟩ = some (.int .i64 x.member) := by
  obtain ⟨b, off, he, hb, hc⟩ := h.elem Acc.cells_len hx hk
  refine ⟨b, off, he, fun w' hbw => ?_⟩
  have h0 := hc 0 _ rfl
  have h1 := hc 1 _ rfl
  simp only [Nat.add_zero] at h0
  exact ⟨(hbw.cell (p := ⟨b, off + k * 2, none⟩) hb).trans h0, (hbw.cell (p := ⟨b, off + k * 2 + 1, none⟩) hb).trans h1⟩
theorem row_cells5 {w : World} {B n k : Nat} {A : Option Addr} {l : List HRow} {x : HRow} (h : Rd w B 5 A n (l.flatMap TTbH.RowT.cells)) (hx : l[k]? = some x) (hk : k < n) : ∃ b off, A = some ⟨b, off, none⟩ ∧ ∀ w', Below B w w' → w'.cell? ⟨b, off + k * 5, none⟩ = some (.int .i64 x.id) ∧ w'.cell? ⟨b, off + k * 5 + 1, none⟩ = some (.int .i64 x.v.k) ∧ w'.cell? ⟨b, off + k * 5 + 2, none⟩ = some (.int .i64 x.v.m) ∧ w'.cell? ⟨b, off + k * 5 + 3, none⟩ = some (.int .i64 x.v.a) ∧ w'.cell? ⟨b, off + k * 5 + 4, none⟩ = some (.int .i64 x.v.z) := by
  obtain ⟨b, off, he, hb, hc⟩ := h.elem TTbH.RowT.cells_len hx hk
  refine ⟨b, off, he, fun w' hbw => ?_⟩
  have hcell : ∀ j u, x.cells[j]? = some u → w'.cell? ⟨b, off + k * 5 + j, none⟩ = some u := fun j u hu => (hbw.cell (p := ⟨b, off + k * 5 + j, none⟩) hb).trans (hc j u hu)
  exact ⟨hcell 0 _ rfl, hcell 1 _ rfl, hcell 2 _ rfl, hcell 3 _ rfl, hcell 4 _ rfl⟩
section
variable {W : World} {gv gt h M A k gb : Nat} {droom : Int} {vb vt v u : Value} {bl : List Int} {p q : Int} {S D : List HRow} {L : List Ent}
set_option maxHeartbeats 16000000 in
set_option maxRecDepth 100000 in
theorem same15_any (w : World) (H : TwoH W gv gt h M A droom k w gb vb bl p vt S L v q u D) (hM : M ≤ 16) (hA : A ≤ 9) :
    Calls Try.prog 24 #[.pointer (some ⟨gv, 0, none⟩), .pointer (some ⟨h, 0, none⟩)] w fun e w' => e = .returned (.bool true) ∧ Below w.heap.size w w' := by
  have HH := Lib.hid H
  have HAL := Lib.hid (all_yes M hM w)
  have c0 := H.doc.blk.cell 0
  simp at c0
  clear H
  go_enter Try.func24, Try.ntmps24
  go_wp2_with fail
  refine HAL.out.mono ?_
  rintro e w2 ⟨va, rfl, hva, hb2⟩
  obtain ⟨Aa, ca, rfl⟩ := own_form hva
  obtain ⟨C, hC⟩ : ∃ C, Hid (cnt M = C) := ⟨_, Lib.hid rfl⟩
  have hCe : 6 + 3 * M = C := hC.out
  rw [hCe] at hva ⊢
  have hC54 : C ≤ 54 := by omega
  have HB2 := Lib.hid hb2
  have HVA := Lib.hid (Rd.of_own hva)
  clear c0 hva hb2 HAL
  obtain ⟨AL, hAL⟩ : ∃ AL, Hid (accs M = AL) := ⟨_, Lib.hid rfl⟩
  have HCB : Hid (AL.length = C) := Lib.hid (by rw [← hAL.out, accs_len]; exact hCe)
  rw [hAL.out] at HVA
  have hs2 := HB2.out.size
  have HH2 := Lib.hid (HH.out.past HB2.out)
  clear hCe
  go_wp2_with fail
  go_loopw [6] (fun i wr => ∃ (j : Nat), j ≤ A ∧ i = .int .i64 (j : Nat) ∧ Hid (Below w2.heap.size w2 wr)) (fun i _ => A - (intOf i).toNat)
  case atStart => exact ⟨0, by omega, rfl, Lib.hid (Below.refl _ _)⟩
  case round =>
    obtain ⟨j, hj, rfl, HB⟩ := hrel
    have hs3 := HB.out.size
    have a1 := (HH2.out.past HB.out).doc.blk.cell 1
    simp at a1
    by_cases hjA : j < A
    · have hjz : (j : Int) < (A : Int) := by omega
      go_wp2_with fail
      go_loopw [7] (fun i wz => ∃ (t : Nat), t ≤ C ∧ i = .int .i64 (t : Nat) ∧ Hid (Below w2.heap.size w2 wz)) (fun i _ => C - (intOf i).toNat)
      case atStart => exact ⟨0, by omega, rfl, HB⟩
      case round =>
        clear a1 hs3 HB
        obtain ⟨t, ht, rfl, HB⟩ := hrel
        have hs3 := HB.out.size
        by_cases hqC : t < C
        · have hqz : (t : Int) < (C : Int) := by omega
          obtain ⟨x, hx⟩ : ∃ x, AL[t]? = some x := ⟨_, List.getElem?_eq_getElem (by have := HCB.out; omega)⟩
          obtain ⟨b_x, o_x, rfl, hcx⟩ := acc_cells2 HVA.out hx hqC
          have hokx : okP M A ⟨x.kind, x.member, (j : Int)⟩ = true := acc_okA hM (by rw [hAL.out]; exact hx) hjA
          have HCX := Lib.hid hcx
          have HHr := Lib.hid (HH2.out.past HB.out)
          have hinv := HHr.out.st.i.inv
          have hge := inv_get hinv hokx
          have hin := bl_in hinv.inn (ixS M ⟨x.kind, x.member, (j : Int)⟩)
          have hfr := HHr.out.st.i.hinv.free_in hinv.inn hokx
          have hbal : blK M A bl ⟨x.kind, x.member, (j : Int)⟩ = (bl.getD (ixS M ⟨x.kind, x.member, (j : Int)⟩) 0, 0) := blK_t hokx
          have hhl : hlK M A S ⟨x.kind, x.member, (j : Int)⟩ = (heldH S ⟨x.kind, x.member, (j : Int)⟩, 0) := if_pos hokx
          have huh : uhK M A bl S ⟨x.kind, x.member, (j : Int)⟩ = (bl.getD (ixS M ⟨x.kind, x.member, (j : Int)⟩) 0 - heldH S ⟨x.kind, x.member, (j : Int)⟩, 0) := if_pos hokx
          obtain ⟨bz, hbz⟩ : ∃ z, Hid (bl.getD (ixS M ⟨x.kind, x.member, (j : Int)⟩) 0 = z) := ⟨_, Lib.hid rfl⟩
          obtain ⟨hz, hhz⟩ : ∃ z, Hid (heldH S ⟨x.kind, x.member, (j : Int)⟩ = z) := ⟨_, Lib.hid rfl⟩
          rw [hbz.out] at hin hge hfr hbal huh
          rw [hhz.out] at hfr hhl huh
          have HBL := Lib.hid (balH_any ⟨x.kind, x.member, (j : Int)⟩ wr HHr.out.st.v)
          rw [hbal] at HBL
          have HHL := Lib.hid (fun w1 h1 => heldB_any (gv := gv) (gb := gb) (gt := gt) (base := W.heap.size) (M := M) (A := A) (vb := vb) (bl := bl) (p := p) (room := max droom 0) (vt := vt) (S := S) ⟨x.kind, x.member, (j : Int)⟩ w1 h1 HHr.out.st.i.hinv hinv.inn)
          rw [hhl] at HHL
          have HUH := Lib.hid (fun w1 h1 => unheldB_any (gv := gv) (gb := gb) (gt := gt) (base := W.heap.size) (M := M) (A := A) (vb := vb) (bl := bl) (p := p) (room := max droom 0) (vt := vt) (S := S) ⟨x.kind, x.member, (j : Int)⟩ w1 h1 HHr.out.st.i.hinv hinv.inn)
          rw [huh] at HUH
          have HRB := Lib.hid (fun w1 h1 => TBk.refBal_any (rm := droom) (vq := u) h W.heap.size M A v L q ⟨x.kind, x.member, (j : Int)⟩ w1 h1)
          rw [← hge, amount_of hin] at HRB
          have HRH := Lib.hid (fun w1 h1 => refHeld_any (h := h) (base := W.heap.size) (M := M) (A := A) (v := v) (L := L) (p := q) (room := droom) (u := u) (D := D) ⟨x.kind, x.member, (j : Int)⟩ w1 h1 (HHr.out.st.i.hinv.perm HHr.out.rel.perm).z ((HHr.out.st.i.hinv.perm HHr.out.rel.perm).most hinv.inn hokx))
          rw [← heldH_perm HHr.out.rel.perm, hhz.out] at HRH
          have hw1 : IntKind.i64.wrap (bz - hz) = bz - hz := IntWalk.i64_in _ (by have := hfr.2; unfold inI at this; omega)
          have t1 : (bz != bz) = false := by simp
          have t2 : (hz != hz) = false := by simp
          have t3 : (bz - hz != bz - hz) = false := by simp
          obtain ⟨k0, k1⟩ := HCX.out wr HB.out
          clear hinv hge hin hfr hbal hhl huh hokx hcx hx
          go_wp2_with fail
          refine HBL.out.mono ?_
          rintro e w3 ⟨rfl, hb3⟩
          have HB3 := Lib.hid (Below.past HB.out hb3 hs3)
          have HL3 := Lib.hid (HHL.out w3 (HHr.out.past hb3).st.v)
          have hs4 := HB3.out.size
          clear hb3 k0 k1 HBL HHL
          obtain ⟨k0, k1⟩ := HCX.out w3 HB3.out
          go_wp2_with fail
          refine HL3.out.mono ?_
          rintro e w4 ⟨rfl, hb4⟩
          have HB4 := Lib.hid (Below.past HB3.out hb4 hs4)
          have HU4 := Lib.hid (HUH.out w4 (HH2.out.past HB4.out).st.v)
          have hs5 := HB4.out.size
          clear hb4 k0 k1 HL3 HUH
          obtain ⟨k0, k1⟩ := HCX.out w4 HB4.out
          go_wp2_with fail
          refine HU4.out.mono ?_
          rintro e w5 ⟨rfl, hb5⟩
          have HB5 := Lib.hid ((Below.past HB4.out hb5 hs5).drew)
          have HB5' := Lib.hid (Below.past HB4.out hb5 hs5)
          have HR5 := Lib.hid (HRB.out w5.drew (HH2.out.past HB5.out).doc.book)
          have hs6 := HB5.out.size
          clear hb5 k0 k1 HU4 HRB
          obtain ⟨k0, k1⟩ := HCX.out w5 HB5'.out
          go_upto_region 11 with fail
          go_still_tail 8, (by kernel_rfl)
          change wpList _ _ _ _ _ w5.drew
          clear k0 k1
          go_wp2_with fail
          refine HR5.out.mono ?_
          rintro e w6 ⟨rfl, hb6⟩
          have HB6 := Lib.hid (Below.past HB5.out hb6 hs6)
          have HH6 := Lib.hid (HRH.out w6 (HH2.out.past HB6.out).doc)
          have hs7 := HB6.out.size
          clear hb6 HR5 HRH
          obtain ⟨k0, k1⟩ := HCX.out w6 HB6.out
          go_wp2_with fail
          refine HH6.out.mono ?_
          rintro e w7 ⟨rfl, hb7⟩
          have HB7 := Lib.hid (Below.past HB6.out hb7 hs7)
          clear hb7 HH6 k0 k1
          go_wp2_with fail
          go_roundw
          case rel => exact ⟨t + 1, by omega, by go_num, HB7⟩
          case measure => simp [intOf]; omega
        · have hqz : ¬ (t : Int) < (C : Int) := by omega
          go_wp2_with fail
          go_roundw
          case rel => exact ⟨j + 1, by omega, by go_num, HB⟩
          case measure => simp [intOf]; omega
    · have hjz : ¬ (j : Int) < (A : Int) := by omega
      have HHr := Lib.hid (HH2.out.past HB.out)
      have HHS := Lib.hid (holdsV_any wr HHr.out.st.v)
      have hnl := HHr.out.doc.len
      obtain ⟨n, hn⟩ : ∃ n, Hid (D.length = n) := ⟨_, Lib.hid rfl⟩
      rw [HHr.out.rel.len, hn.out] at HHS
      rw [hn.out] at hnl
      go_wp2_with fail
      refine HHS.out.mono ?_
      rintro e w3 ⟨v3, rfl, hv3, hb3⟩
      have HH3 := Lib.hid (HHr.out.past hb3)
      have HRS := Lib.hid (refHolds_any w3 HH3.out.doc)
      rw [HH3.out.rel.rows, hn.out] at HRS
      have HV3 := Lib.hid hv3
      have HB3 := Lib.hid (Below.past HB.out hb3 hs3)
      obtain ⟨A3, c3, rfl⟩ := own_form hv3
      clear hv3 hb3 HHS a1
      go_wp2_with fail
      refine HRS.out.mono ?_
      rintro e w4 ⟨v4, rfl, hv4, hb4⟩
      obtain ⟨A4, c4, rfl⟩ := own_form hv4
      have HSI := Lib.hid (sameI_any A3 A4 n c3 c4 (idsH S) w4 ((Rd.of_own HV3.out).past hb4) (Rd.of_own hv4) hnl)
      have HB4 := Lib.hid (Below.past HB3.out hb4 HB3.out.size)
      clear hv4 hb4 HRS
      go_wp2_with fail
      refine HSI.out.mono ?_
      rintro e w5 ⟨rfl, hb5⟩
      have HB5 := Lib.hid (Below.past HB4.out hb5 HB4.out.size)
      have HH5 := Lib.hid (HH2.out.past HB5.out)
      have hs5 := HB5.out.size
      obtain ⟨X, cX, hu⟩ := HH5.out.doc.form
      subst hu
      have HRD := Lib.hid (Rd.of_own HH5.out.doc.row)
      rw [hn.out] at HRD
      clear hb5 HSI
      go_wp2_with fail
      go_loopw [16] (fun i wz => ∃ (t : Nat), t ≤ n ∧ i = .int .i64 (t : Nat) ∧ Hid (Below w5.heap.size w5 wz)) (fun i _ => n - (intOf i).toNat)
      case atStart => exact ⟨0, by omega, rfl, Lib.hid (Below.refl _ _)⟩
      case round =>
        obtain ⟨t, ht, rfl, HBt⟩ := hrel
        have hst := HBt.out.size
        have HHt := Lib.hid (HH5.out.past HBt.out)
        have HBK := Lib.hid HHt.out.doc.blk
        rw [hn.out] at HBK
        have c5 := HBK.out.cell 5
        simp at c5
        by_cases hlt : t < n
        · have hlz : (t : Int) < (n : Int) := by omega
          obtain ⟨f, hf⟩ : ∃ f, D[t]? = some f := ⟨_, List.getElem?_eq_getElem (by have := hn.out; omega)⟩
          obtain ⟨b_f, o_f, rfl, hcf⟩ := row_cells5 HRD.out hf hlt
          have his : TTbH.isT S f.id = true := by rw [HHt.out.rel.is]; exact List.any_eq_true.2 ⟨f, List.mem_of_getElem? hf, by simp⟩
          have HHO := Lib.hid (holdV_yes f.id f wr HHt.out.st.v his (HHt.out.rel.at_ hf))
          have HCF := Lib.hid hcf
          obtain ⟨d0, d1, d2, d3, d4⟩ := HCF.out wr HBt.out
          have hq := fun w => hold_neq f.v w
          clear hf his hcf
          go_wp2_with fail
          refine HHO.out.mono ?_
          rintro e w6 ⟨rfl, hb6⟩
          have hba := hb6.alloc hb6.size (.cells #[.int .i64 f.v.k, .int .i64 f.v.m, .int .i64 f.v.a, .int .i64 f.v.z] 60)
          have by_ := Blk.new w6 60 #[.int .i64 f.v.k, .int .i64 f.v.m, .int .i64 f.v.a, .int .i64 f.v.z] w6.heap.size rfl
          obtain ⟨yb, hyb⟩ : ∃ yb, Hid (w6.heap.size = yb) := ⟨_, Lib.hid rfl⟩
          obtain ⟨W7, hW7⟩ : ∃ W7, Hid (w6.alloc (.cells #[.int .i64 f.v.k, .int .i64 f.v.m, .int .i64 f.v.a, .int .i64 f.v.z] 60) = W7) := ⟨_, Lib.hid rfl⟩
          rw [hW7.out] at hba by_
          rw [hyb.out] at by_
          have HB7 := Lib.hid (Below.past HBt.out hba hst)
          have HY7 := Lib.hid by_
          have HBK7 := Lib.hid (HBK.out.past hba)
          clear hb6 hba by_ HHO d0 d1 d2 d3 d4 c5
          obtain ⟨d0, d1, d2, d3, d4⟩ := HCF.out W7 HB7.out
          have c5 := HBK7.out.cell 5
          have y0 := HY7.out.cell 0
          have y1 := HY7.out.cell 1
          have y2 := HY7.out.cell 2
          have y3 := HY7.out.cell 3
          simp at c5 y0 y1 y2 y3
          go_upto_region 21 with fail
          rw [hyb.out, hW7.out]
          go_quiet (fail)
          have HB8 := Lib.hid (below_drewN HB7.out nq)
          clear d0 d1 d2 d3 d4 c5 y0 y1 y2 y3 hq
          go_wp2_with fail
          go_roundw
          case rel => exact ⟨t + 1, by omega, by go_num, HB8⟩
          case measure => simp [intOf]; omega
        · have hlz : ¬ (t : Int) < (n : Int) := by omega
          have HBE := Lib.hid (Below.past HB2.out (Below.past HB5.out HBt.out hs5) hs2)
          go_wp2_with fail
          go_ret
          exact ⟨rfl, HBE.out⟩
end
end Go.Proofs.Ytelbolhckhdioaa

/-! ## from HdK -/
namespace Go.Proofs.Ytelbolhckhdioaa
open Go.RowKit

/-! ### HoldPlays -/
theorem act_cellsD {w : World} {B n k : Nat} {A : Option Addr} {fs : List ActH} {f : ActH} (h : Rd w B 9 A n (fs.flatMap ActH.cells)) (hf : fs[k]? = some f) (hk : k < n) : ∃ b off, A = some ⟨b, off, none⟩ ∧ ∀ w', Below B w w' → w'.cell? ⟨b, off + k * 9, none⟩ = some (.int .i64 f.kd) ∧ w'.cell? ⟨b, off + k * 9 + 1, none⟩ = some (.slice f.P f.l.length f.c) ∧ w'.cell? ⟨b, off + k * 9 + 2, none⟩ = some (.int .i64 f.id) ∧ w'.cell? ⟨b, off + k * 9 + 3, none⟩ = some (.int .i64 f.x.kind) ∧ w'.cell? ⟨b, off + k * 9 + 4, none⟩ = some (.int .i64 f.x.member) ∧ w'.cell? ⟨b, off + k * 9 + 5, none⟩ = some (.int .i64 f.y.kind) ∧ w'.cell? ⟨b, off + k * 9 + 6, none⟩ = some (.int .i64 f.y.member) ∧ w'.cell? ⟨b, off + k * 9 + 7, none⟩ = some (.int .i64 f.a) ∧ w'.cell? ⟨b, off + k * 9 + 8, none⟩ = some (.int .i64 f.z) := by
  obtain ⟨b, off, he, hb, hc⟩ := h.elem ActH.cells_len hf hk
  refine ⟨b, off, he, fun w' hbw => ?_⟩
  have hcell : ∀ j u, f.cells[j]? = some u → w'.cell? ⟨b, off + k * 9 + j, none⟩ = some u := fun j u hu => (hbw.cell (p := ⟨b, off + k * 9 + j, none⟩) hb).trans (hc j u hu)
  exact ⟨hcell 0 _ rfl, hcell 1 _ rfl, hcell 2 _ rfl, hcell 3 _ rfl, hcell 4 _ rfl, hcell 5 _ rfl, hcell 6 _ rfl, hcell 7 _ rfl, hcell 8 _ rfl⟩
/-- The two, new. -/
theorem TwoH.start {w w1 : World} {gv gb gt M A : Nat} {vb : Value} {droom : Int} (hM : M ≤ 16) (hv : VltV w1 gv gb gt w.heap.size M A vb (List.replicate (A * cnt M) 0) 0 (max droom 0) (.slice none 0 0) []) (hb : Below w.heap.size w w1) (g : Nat) (hg : g = w1.heap.size) :
    TwoH w gv gt g M A droom 0 (w1.alloc (.cells #[.int .i64 M, .int .i64 A, .slice none 0 0, .int .i64 0, .int .i64 droom, .slice none 0 0] 49)) gb vb (List.replicate (A * cnt M) 0) 0 (.slice none 0 0) [] [] (.slice none 0 0) 0 (.slice none 0 0) [] := by
  have hba := (Below.refl w1.heap.size w1).alloc (Nat.le_refl _) (.cells #[.int .i64 M, .int .i64 A, .slice none 0 0, .int .i64 0, .int .i64 droom, .slice none 0 0] 49)
  refine ⟨⟨hv.past hba, ⟨Inv.start hM, HInv.start, fun r hr => by simp at hr⟩, by simp; omega, by omega, Below.past hb hba hb.size⟩, ⟨⟨⟨none, 0, rfl⟩, Blk.new w1 _ _ g hg, World.ownsRow_nil _ _ _ _, fun e he => by simp at he, by simp⟩, ⟨none, 0, rfl⟩, World.ownsRow_nil _ _ _ _, by simp⟩, TTbH.RelT.nil, by omega, by rw [hg]; exact hb.size, by simp, by simp⟩
set_option maxHeartbeats 1000000 in
set_option maxRecDepth 100000 in
theorem holdPlays_long (mm room : Int) (A : Option Addr) (n c : Nat) (fs : List ActH) (w : World) (hr : Rd w w.heap.size 9 A n (fs.flatMap ActH.cells)) (hf : fewH fs = false) :
    Calls Try.prog 4 #[.int .u8 mm, .int .i64 room, .slice A n c] w fun e w' => e = .returned (.bool true) ∧ Below w.heap.size w w' := by
  have HF := Lib.hid (few15_any A n c fs w hr)
  rw [hf] at HF
  clear hr hf
  go_enter Try.func4, Try.ntmps4
  go_wp2_with fail
  refine HF.out.mono ?_
  rintro e w1 ⟨rfl, rfl⟩
  go_wp2_with fail
  refine (awake15 _).mono ?_
  rintro e w2 ⟨rfl, hb2⟩
  go_wp2_with fail
  go_ret
  exact ⟨rfl, hb2⟩
set_option maxHeartbeats 8000000 in
set_option maxRecDepth 100000 in
theorem holdPlays_few (mm : Nat) (hmm : mm ≤ 255) (room : Int) (hro : -9223372036854775808 ≤ room ∧ room ≤ 9223372036854775807) (A : Option Addr) (n c : Nat) (fs : List ActH) (w : World) (hr : Rd w w.heap.size 9 A n (fs.flatMap ActH.cells)) (hok : ∀ f ∈ fs, ActHOk w f) (hf : fewH fs = true) :
    Calls Try.prog 4 #[.int .u8 (mm : Nat), .int .i64 room, .slice A n c] w fun e w' => e = .returned (.bool true) ∧ Below w.heap.size w w' := by
  have HL := Lib.hid (hr.len ActH.cells_len (by omega))
  have HF := Lib.hid (few15_any A n c fs w hr)
  rw [hf] at HF
  have HR := Lib.hid hr
  have HOK := Lib.hid hok
  obtain ⟨hf1, hf2⟩ : fs.length ≤ 30 ∧ fs.all shortH = true := by simpa [fewH] using hf
  have HSH : Hid (∀ f ∈ fs, f.l.length ≤ 8) := Lib.hid fun f hm => by
    have := List.all_eq_true.1 hf2 f hm
    simpa [shortH] using this
  rw [HL.out] at hf1
  obtain ⟨M, hMe⟩ : ∃ M : Nat, Hid (mm % 4 = M) := ⟨_, Lib.hid rfl⟩
  have hM : M ≤ 3 := by have := Nat.mod_lt mm (show 0 < 4 by omega); rw [hMe.out] at this; omega
  have e1 : ((mm : Int)).tmod 4 = (M : Int) := by rw [← hMe.out, Int.tmod_eq_emod_of_nonneg (by omega)]; simp
  have HN := Lib.hid (newV_yes M 2 (by omega) (by omega) (by omega) room hro w)
  unfold NewVPost at HN
  clear hr hok hf hf2
  go_enter Try.func4, Try.ntmps4
  go_wp2_with fail
  refine HF.out.mono ?_
  rintro e w0 ⟨rfl, rfl⟩
  go_wp2_with fail
  refine HN.out.mono ?_
  rintro e w1 ⟨gv, gb, gt, vb, rfl, hv, hb⟩
  have HS1 : Hid (NextH w gv gt w1.heap.size M 2 room 0 (w1.alloc (.cells #[.int .i64 M, .int .i64 2, .slice none 0 0, .int .i64 0, .int .i64 room, .slice none 0 0] 49))) := Lib.hid ⟨_, _, _, _, _, _, _, _, _, _, _, TwoH.start (by omega) hv hb _ rfl⟩
  clear hv hb HN HF e1
  go_wp2_with fail
  obtain ⟨h, hh⟩ : ∃ h, Hid (w1.heap.size = h) := ⟨_, Lib.hid rfl⟩
  obtain ⟨W2, hW2⟩ : ∃ W2, Hid (w1.alloc (.cells #[.int .i64 M, .int .i64 2, .slice none 0 0, .int .i64 0, .int .i64 room, .slice none 0 0] 49) = W2) := ⟨_, Lib.hid rfl⟩
  rw [hh.out, hW2.out] at HS1
  rw [hh.out, hW2.out]
  go_loopw [11] (fun i wr => ∃ k : Nat, k ≤ n ∧ i = .int .i64 (k : Nat) ∧ Hid (NextH w gv gt h M 2 room k wr)) (fun i _ => n - (intOf i).toNat)
  case atStart => exact ⟨0, by omega, rfl, HS1⟩
  case round =>
    clear HS1
    obtain ⟨k, hk, rfl, HS⟩ := hrel
    by_cases hlt : k < n
    · have hlz : (k : Int) < (n : Int) := by omega
      have hkl : k < fs.length := by have := HL.out; omega
      obtain ⟨f, hfk⟩ : ∃ f, fs[k]? = some f := ⟨_, List.getElem?_eq_getElem hkl⟩
      have hfm := List.mem_of_getElem? hfk
      obtain ⟨b_f, off_f, rfl, hcs⟩ := act_cellsD HR.out hfk hlt
      obtain ⟨gb2, vb2, bl2, p2, vt2, S2, L2, v2, q2, u2, D2, hT⟩ := HS.out
      have HD := Lib.hid (doesH_any f wr hT (by omega) (by omega) (HOK.out f hfm) (HSH.out f hfm) (by omega))
      unfold DoesHP at HD
      obtain ⟨c0, c1, c2, c3, c4, c5, c6, c7, c8⟩ := hcs wr hT.st.below
      clear hcs hfk hfm hkl hT
      go_wp2_with fail
      refine HD.out.mono ?_
      rintro e w3 ⟨rfl, hn⟩
      have HNX := Lib.hid hn
      clear hn HD c0 c1 c2 c3 c4 c5 c6 c7 c8
      go_wp2_with fail
      go_roundw
      case rel => exact ⟨k + 1, by omega, by go_num, HNX⟩
      case measure => simp [intOf]; omega
    · have hlz : ¬ (k : Int) < (n : Int) := by omega
      obtain ⟨gb2, vb2, bl2, p2, vt2, S2, L2, v2, q2, u2, D2, hT⟩ := HS.out
      have HT := Lib.hid hT
      clear hT
      go_wp2_with fail
      refine (awake15 _).mono ?_
      rintro e w3 ⟨rfl, hb3⟩
      have HT3 := Lib.hid (HT.out.past hb3)
      have HSM := Lib.hid (same15_any w3 HT3.out (by omega) (by omega))
      clear hb3
      go_wp2_with fail
      refine HSM.out.mono ?_
      rintro e w4 ⟨rfl, hb4⟩
      have HB := Lib.hid (HT3.out.past hb4).st.below
      clear hb4
      go_wp2_with fail
      go_ret
      exact ⟨rfl, HB.out⟩
end Go.Proofs.Ytelbolhckhdioaa

/-! ## from HdL -/
namespace Go.Proofs.Ytelbolhckhdioaa
open Go.RowKit

/-! ### Copy; of no vault there is nothing -/
def CopyVPost (M A : Nat) (bl : List Int) (p room : Int) (S : List HRow) (w : World) (e : Ending) (w' : World) : Prop :=
  ∃ gv gb gt vb vt, e = .returned (.pointer (some ⟨gv, 0, none⟩)) ∧ VltV w' gv gb gt w.heap.size M A vb bl p room vt S ∧ Below w.heap.size w w'
theorem VltV.base_mono {w : World} {gv gb gt base base' M A : Nat} {vb vt : Value} {bl : List Int} {p room : Int} {S : List HRow} (h : VltV w gv gb gt base M A vb bl p room vt S) (hb : base' ≤ base) : VltV w gv gb gt base' M A vb bl p room vt S :=
  ⟨h.blk, ⟨h.book.form, h.book.blk, own_monoZ h.book.row hb, h.book.len, h.book.hM, h.book.hA⟩, ⟨h.tab.form, h.tab.blk, own_monoZ h.tab.row hb, h.tab.ris, h.tab.len, h.tab.rm⟩, Nat.le_trans hb h.hv, Nat.le_trans hb h.hb, Nat.le_trans hb h.ht⟩
section
variable {gv gb gt base M A : Nat} {vb : Value} {bl : List Int} {p room : Int} {vt : Value} {S : List HRow}
set_option maxHeartbeats 4000000 in
set_option maxRecDepth 100000 in
theorem copyV_any (w : World) (hx : VltV w gv gb gt base M A vb bl p room vt S) :
    Calls Try.prog 35 #[.pointer (some ⟨gv, 0, none⟩)] w (CopyVPost M A bl p room S w) := by
  have hdr := Below.drew (Below.refl w.heap.size w)
  have HX := Lib.hid (hx.past hdr)
  have HB0 := Lib.hid hdr
  have HC := Lib.hid (copyK_any gb base M A vb bl p w.drew HX.out.book)
  unfold CopyKPost at HC
  clear hx hdr
  go_enter Try.func35, Try.ntmps35
  go_upto_region 3 with fail
  have hS0 : w.drew.cell? ⟨gv, 0, none⟩ = some (.pointer (some ⟨gb, 0, none⟩)) ∧ w.drew.cell? ⟨gv, 1, none⟩ = some (.pointer (some ⟨gt, 0, none⟩)) := ⟨by simpa using HX.out.blk.cell 0, by simpa using HX.out.blk.cell 1⟩
  refine wp_region_held_drew (S := fun w' => w'.cell? ⟨gv, 0, none⟩ = some (.pointer (some ⟨gb, 0, none⟩)) ∧ w'.cell? ⟨gv, 1, none⟩ = some (.pointer (some ⟨gt, 0, none⟩))) (by kernel_rfl) hS0 (fun hHeld => ?_)
  clear hS0
  refine wpAnyH_take (i := 0) (v := ?_) rfl (by kernel_rfl) (by kernel_rfl) (by kernel_rfl) (fun _ _ _ h => h) (Or.inl ⟨by rfl, ?_⟩) (by assumption) ?_
  rotate_left
  · (intro w' hSw; (try dsimp only at hSw); first | (go_simp; done) | (go_simp; with_reducible rfl))
  try simp only [Act.put, List.getElem_toArray, List.getElem_cons_zero, List.getElem_cons_succ, List.setIfInBounds_toArray, List.set_cons_zero, List.set_cons_succ]
  refine wpAnyH_take (i := 1) (v := ?_) rfl (by kernel_rfl) (by kernel_rfl) (by kernel_rfl) (fun _ _ _ h => h) (Or.inl ⟨by rfl, ?_⟩) (by assumption) ?_
  rotate_left
  · (intro w' hSw; (try dsimp only at hSw); first | (go_simp; done) | (go_simp; with_reducible rfl))
  try simp only [Act.put, List.getElem_toArray, List.getElem_cons_zero, List.getElem_cons_succ, List.setIfInBounds_toArray, List.set_cons_zero, List.set_cons_succ]
  refine wpAnyH_take (i := 2) (v := ?_) rfl (by kernel_rfl) (by kernel_rfl) (by kernel_rfl) (fun _ _ _ h => h) (Or.inl ⟨by rfl, ?_⟩) (by assumption) ?_
  rotate_left
  · (intro w' hSw; (try dsimp only at hSw); first | (go_simp; done) | (go_simp; with_reducible rfl))
  try simp only [Act.put, List.getElem_toArray, List.getElem_cons_zero, List.getElem_cons_succ, List.setIfInBounds_toArray, List.set_cons_zero, List.set_cons_succ]
  refine wpAnyH_take (i := 3) (v := ?_) rfl (by kernel_rfl) (by kernel_rfl) (by kernel_rfl) (fun _ _ _ h => h) (Or.inl ⟨by rfl, ?_⟩) (by assumption) ?_
  rotate_left
  · (intro w' hSw; (try dsimp only at hSw); first | (go_simp; done) | (go_simp; with_reducible rfl))
  try simp only [Act.put, List.getElem_toArray, List.getElem_cons_zero, List.getElem_cons_succ, List.setIfInBounds_toArray, List.set_cons_zero, List.set_cons_succ]
  refine wpAnyH_take (i := 5) (v := ?_) rfl (by kernel_rfl) (by kernel_rfl) (by kernel_rfl) (fun _ _ _ h => h) (Or.inl ⟨by rfl, ?_⟩) (by assumption) ?_
  rotate_left
  · (intro w' hSw; (try dsimp only at hSw); first | (go_simp; done) | (go_simp; with_reducible rfl))
  try simp only [Act.put, List.getElem_toArray, List.getElem_cons_zero, List.getElem_cons_succ, List.setIfInBounds_toArray, List.set_cons_zero, List.set_cons_succ]
  refine wpAnyH_take (i := 6) (v := ?_) rfl (by kernel_rfl) (by kernel_rfl) (by kernel_rfl) (fun _ _ _ h => h) (Or.inl ⟨by rfl, ?_⟩) (by assumption) ?_
  rotate_left
  · (intro w' hSw; (try dsimp only at hSw); first | (go_simp; done) | (go_simp; with_reducible rfl))
  try simp only [Act.put, List.getElem_toArray, List.getElem_cons_zero, List.getElem_cons_succ, List.setIfInBounds_toArray, List.set_cons_zero, List.set_cons_succ]
  refine wpAnyH_take (i := 7) (v := ?_) rfl (by kernel_rfl) (by kernel_rfl) (by kernel_rfl) (fun _ _ _ h => h) (Or.inl ⟨by rfl, ?_⟩) (by assumption) ?_
  rotate_left
  · (intro w' hSw; (try dsimp only at hSw); first | (go_simp; done) | (go_simp; with_reducible rfl))
  try simp only [Act.put, List.getElem_toArray, List.getElem_cons_zero, List.getElem_cons_succ, List.setIfInBounds_toArray, List.set_cons_zero, List.set_cons_succ]
  refine wpAnyH_take (i := 8) (v := ?_) rfl (by kernel_rfl) (by kernel_rfl) (by kernel_rfl) (fun _ _ _ h => h) (Or.inl ⟨by rfl, ?_⟩) (by assumption) ?_
  rotate_left
  · (intro w' hSw; (try dsimp only at hSw); first | (go_simp; done) | (go_simp; with_reducible rfl))
  try simp only [Act.put, List.getElem_toArray, List.getElem_cons_zero, List.getElem_cons_succ, List.setIfInBounds_toArray, List.set_cons_zero, List.set_cons_succ]
  refine wpAnyH_ready (rs := [4]) (by kernel_rfl) (by simp) ?_
  refine AllReadyH.cons rfl (fun K hK => ?_) AllReadyH.nil
  go_simp
  go_at_call 75
  refine HC.out.mono ?_
  rintro e w1 ⟨g2, v2, rfl, hg2, hbk, hb1⟩
  have HX1 := Lib.hid (HX.out.past hb1)
  have HBK := Lib.hid hbk
  have HB1 := Lib.hid (Below.past HB0.out hb1 HB0.out.size)
  have HT := Lib.hid (TTbH.copyT_any gt base room vt S w1 HX1.out.tab)
  unfold TTbH.CopyTPost at HT
  have hg2' : w.heap.size ≤ g2 := hg2
  clear hbk hb1 HC hHeld hg2
  refine hK.out _ _ (⟨by simpa using HX1.out.blk.cell 0, by simpa using HX1.out.blk.cell 1⟩) (fun hHeld => ?_)
  try simp only [Act.put, List.getElem_toArray, List.getElem_cons_zero, List.getElem_cons_succ, List.setIfInBounds_toArray, List.set_cons_zero, List.set_cons_succ]
  refine wpAnyH_ready (rs := [9]) (by kernel_rfl) (by simp) ?_
  refine AllReadyH.cons rfl (fun K hK => ?_) AllReadyH.nil
  go_simp
  go_at_call 84
  refine HT.out.mono ?_
  rintro e w2 ⟨g3, v3, rfl, hg3, htb, hb2⟩
  have HX2 := Lib.hid (HX1.out.past hb2)
  have HBK2 := Lib.hid (HBK.out.past hb2)
  have HTB2 := Lib.hid htb
  have HB2 := Lib.hid (Below.past HB1.out hb2 HB1.out.size)
  have hs1 := HB1.out.size
  have hg3' : w.heap.size ≤ g3 := Nat.le_trans hs1 hg3
  clear htb hb2 HT hHeld hg3
  refine hK.out _ _ (⟨by simpa using HX2.out.blk.cell 0, by simpa using HX2.out.blk.cell 1⟩) (fun hHeld => ?_)
  try simp only [Act.put, List.getElem_toArray, List.getElem_cons_zero, List.getElem_cons_succ, List.setIfInBounds_toArray, List.set_cons_zero, List.set_cons_succ]
  refine wpAnyH_take (i := 10) (v := ?_) rfl (by kernel_rfl) (by kernel_rfl) (by kernel_rfl) (fun _ _ _ h => h) (Or.inl ⟨by rfl, ?_⟩) (by assumption) ?_
  rotate_left
  · (intro w' hSw; (try dsimp only at hSw); first | (go_simp; done) | (go_simp; with_reducible rfl))
  try simp only [Act.put, List.getElem_toArray, List.getElem_cons_zero, List.getElem_cons_succ, List.setIfInBounds_toArray, List.set_cons_zero, List.set_cons_succ]
  refine wpAnyH_ready (rs := [11]) (by kernel_rfl) (by simp) ?_
  refine AllReadyH.cons rfl (fun K hK => ?_) AllReadyH.nil
  go_simp
  have hba := (Below.refl w2.heap.size w2).alloc (Nat.le_refl _) (.cells #[.pointer (some ⟨g2, 0, none⟩), .pointer (some ⟨g3, 0, none⟩)] 121)
  have hbv := Blk.new w2 121 #[.pointer (some ⟨g2, 0, none⟩), .pointer (some ⟨g3, 0, none⟩)] w2.heap.size rfl
  have HX3 := Lib.hid (HX2.out.past hba)
  have HFIN : Hid (CopyVPost M A bl p room S w (.returned (.pointer (some ⟨w2.heap.size, 0, none⟩))) (w2.alloc (.cells #[.pointer (some ⟨g2, 0, none⟩), .pointer (some ⟨g3, 0, none⟩)] 121))) := Lib.hid (by
    have hb := HBK2.out.past hba
    have ht := HTB2.out.past hba
    exact ⟨w2.heap.size, g2, g3, v2, v3, rfl, ⟨hbv, ⟨hb.form, hb.blk, own_monoZ hb.row HB0.out.size, hb.len, hb.hM, hb.hA⟩, ⟨ht.form, ht.blk, own_monoZ ht.row hs1, ht.ris, ht.len, ht.rm⟩, HB2.out.size, hg2', hg3'⟩, Below.past HB2.out hba HB2.out.size⟩)
  clear hba hbv hHeld
  refine hK.out _ _ ⟨by simpa using HX3.out.blk.cell 0, by simpa using HX3.out.blk.cell 1⟩ (fun hHeld => ?_)
  clear hK
  refine wpAnyH_take (i := 12) (v := ?_) rfl (by kernel_rfl) (by kernel_rfl) (by kernel_rfl) (fun _ _ _ h => h) (Or.inl ⟨by rfl, ?_⟩) (by assumption) ?_
  rotate_left
  · (intro w' hSw; (try dsimp only at hSw); first | (go_simp; done) | (go_simp; with_reducible rfl))
  try simp only [Act.put, List.getElem_toArray, List.getElem_cons_zero, List.getElem_cons_succ, List.setIfInBounds_toArray, List.set_cons_zero, List.set_cons_succ]
  refine wpAnyH_done (by kernel_rfl) ?_ _
  clear hHeld
  go_wp2_with fail
  go_ret
  exact HFIN.out
end
/-! ### of no vault -/
theorem copyV_nil (w : World) : Calls Try.prog 35 #[.pointer none] w fun e w' => e = .returned (.pointer none) ∧ w = w' := by
  go_enter Try.func35, Try.ntmps35
  go_wp2_with fail
  go_ret
  exact ⟨rfl, rfl⟩
theorem holdsV_nil (w : World) : Calls Try.prog 38 #[.pointer none] w fun e w' => e = .returned (.slice none 0 0) ∧ w = w' := by
  go_enter Try.func38, Try.ntmps38
  go_wp2_with fail
  go_ret
  exact ⟨rfl, rfl⟩
theorem balV_nil (s : Spt) (w : World) : Calls Try.prog 33 #[.pointer none, .agg #[.int .i64 s.k, .int .i64 s.m], .int .i64 s.a] w fun e w' => e = .returned (.tuple #[.int .i64 0, .int .i64 8]) ∧ Below w.heap.size w w' := by
  have hB0 := (Below.refl w.heap.size w).alloc (Nat.le_refl _) (.cells #[.int .i64 s.k, .int .i64 s.m] 52)
  go_enter Try.func33, Try.ntmps33
  go_wp2_with fail
  go_ret2
  exact ⟨rfl, hB0⟩
theorem unheldV_nil (s : Spt) (w : World) : Calls Try.prog 36 #[.pointer none, .agg #[.int .i64 s.k, .int .i64 s.m], .int .i64 s.a] w fun e w' => e = .returned (.tuple #[.int .i64 0, .int .i64 8]) ∧ Below w.heap.size w w' := by
  have hB0 := (Below.refl w.heap.size w).alloc (Nat.le_refl _) (.cells #[.int .i64 s.k, .int .i64 s.m] 52)
  have HB0 := Lib.hid hB0
  clear hB0
  go_enter Try.func36, Try.ntmps36
  go_wp2_with fail
  refine (balV_nil s _).mono ?_
  rintro e w1 ⟨rfl, hb1⟩
  have HB1 := Lib.hid (Below.past HB0.out hb1 HB0.out.size)
  clear hb1
  go_wp2_with fail
  go_ret2
  exact ⟨rfl, HB1.out⟩
theorem totV_nil (a : Int) (w : World) : Calls Try.prog 32 #[.pointer none, .int .i64 a] w fun e w' => e = .returned (.tuple #[.int .i64 0, .int .i64 8]) ∧ w = w' := by
  go_enter Try.func32, Try.ntmps32
  go_wp2_with fail
  go_ret2
  exact ⟨rfl, rfl⟩
theorem newV_no (m a room : Int) (h : m < 0 ∨ 16 < m ∨ a < 1 ∨ 9 < a) (w : World) : Calls Try.prog 22 #[.int .i64 m, .int .i64 a, .int .i64 room] w fun e w' => e = .returned (.tuple #[.pointer none, .int .i64 1]) ∧ w = w' := by
  have HN := Lib.hid (newK_no m a h w)
  clear h
  go_enter Try.func22, Try.ntmps22
  go_wp2_with fail
  refine HN.out.mono ?_
  rintro e w1 ⟨rfl, rfl⟩
  go_wp2_with fail
  go_ret2
  exact ⟨rfl, rfl⟩
theorem placeV_nil (id : Int) (f : HoldV) (w : World) : Calls Try.prog 29 #[.pointer none, .int .i64 id, .agg #[.int .i64 f.k, .int .i64 f.m, .int .i64 f.a, .int .i64 f.z]] w fun e w' => e = .returned (.int .i64 8) ∧ Below w.heap.size w w' := by
  have hB0 := (Below.refl w.heap.size w).alloc (Nat.le_refl _) (.cells #[.int .i64 f.k, .int .i64 f.m, .int .i64 f.a, .int .i64 f.z] 60)
  go_enter Try.func29, Try.ntmps29
  go_wp2_with fail
  go_ret
  exact ⟨rfl, hB0⟩
theorem releaseV_nil (id : Int) (w : World) : Calls Try.prog 30 #[.pointer none, .int .i64 id] w fun e w' => e = .returned (.int .i64 8) ∧ w = w' := by
  go_enter Try.func30, Try.ntmps30
  go_wp2_with fail
  go_ret
  exact ⟨rfl, rfl⟩
set_option maxHeartbeats 1000000 in
theorem holdV_nil (id : Int) (w : World) : Calls Try.prog 26 #[.pointer none, .int .i64 id] w fun e w' => e = .returned (.tuple #[.agg #[.int .i64 0, .int .i64 0, .int .i64 0, .int .i64 0], .int .i64 8]) ∧ Below w.heap.size w w' := by
  have hB0 := (Below.refl w.heap.size w).alloc (Nat.le_refl _) (.cells #[.int .i64 0, .int .i64 0, .int .i64 0, .int .i64 0] 60)
  go_enter Try.func26, Try.ntmps26
  go_wp2_with fail
  refine bodyPost_ret (v := .tuple #[.agg #[.int .i64 0, .int .i64 0, .int .i64 0, .int .i64 0], .int .i64 8]) (by simp [results, Try.results26, go_sem]) rfl ⟨rfl, ?_⟩
  exact hB0
set_option maxHeartbeats 1000000 in
theorem capV_nil (id : Int) (y : Acc) (z : Int) (w : World) : Calls Try.prog 31 #[.pointer none, .int .i64 id, .agg #[.int .i64 y.kind, .int .i64 y.member], .int .i64 z] w fun e w' => e = .returned (.int .i64 8) ∧ Below w.heap.size w w' := by
  have hB0 := (Below.refl w.heap.size w).alloc (Nat.le_refl _) (.cells #[.int .i64 y.kind, .int .i64 y.member] 52)
  have HB0 := Lib.hid hB0
  clear hB0
  go_enter Try.func31, Try.ntmps31
  go_wp2_with fail
  refine (holdV_nil id _).mono ?_
  rintro e w1 ⟨rfl, hb1⟩
  have HB1 := Lib.hid ((Below.past HB0.out hb1 HB0.out.size).alloc (Nat.le_trans HB0.out.size hb1.size) (.cells #[.int .i64 0, .int .i64 0, .int .i64 0, .int .i64 0] 60))
  clear hb1
  go_wp2_with fail
  go_ret
  exact ⟨rfl, HB1.out⟩
end Go.Proofs.Ytelbolhckhdioaa

/-! ## from HdM -/
namespace Go.Proofs.Ytelbolhckhdioaa
open Go.RowKit

/-! ### HoldOwn -/
set_option maxHeartbeats 1000000 in
set_option maxRecDepth 100000 in
theorem holdOwn_long (A : Option Addr) (n c : Nat) (fs : List ActH) (B : Option Addr) (m d : Nat) (gs : List ActH) (w : World) (hr : Rd w w.heap.size 9 A n (fs.flatMap ActH.cells)) (hg : Rd w w.heap.size 9 B m (gs.flatMap ActH.cells)) (hf : fewH fs = false ∨ fewH gs = false) :
    Calls Try.prog 6 #[.slice A n c, .slice B m d] w fun e w' => e = .returned (.bool true) ∧ Below w.heap.size w w' := by
  have HF := Lib.hid (few15_any A n c fs w hr)
  have HG := Lib.hid (few15_any B m d gs w hg)
  clear hr hg
  cases h1 : fewH fs with
  | false =>
    rw [h1] at HF
    clear h1 hf HG
    go_enter Try.func6, Try.ntmps6
    go_wp2_with fail
    refine HF.out.mono ?_
    rintro e w1 ⟨rfl, rfl⟩
    go_wp2_with fail
    refine (awake15 _).mono ?_
    rintro e w2 ⟨rfl, hb2⟩
    go_wp2_with fail
    go_ret
    exact ⟨rfl, hb2⟩
  | true =>
    rcases hf with h2 | h2
    · rw [h1] at h2; cases h2
    · rw [h1] at HF
      rw [h2] at HG
      clear h1 h2
      go_enter Try.func6, Try.ntmps6
      go_wp2_with fail
      refine HF.out.mono ?_
      rintro e w1 ⟨rfl, rfl⟩
      go_wp2_with fail
      refine HG.out.mono ?_
      rintro e w1 ⟨rfl, rfl⟩
      go_wp2_with fail
      refine (awake15 _).mono ?_
      rintro e w2 ⟨rfl, hb2⟩
      go_wp2_with fail
      go_ret
      exact ⟨rfl, hb2⟩
set_option maxHeartbeats 16000000 in
set_option maxRecDepth 100000 in
theorem holdOwn_few (A : Option Addr) (n c : Nat) (fs : List ActH) (B : Option Addr) (m d : Nat) (gs : List ActH) (w : World) (hr : Rd w w.heap.size 9 A n (fs.flatMap ActH.cells)) (hok : ∀ f ∈ fs, ActHOk w f) (hg : Rd w w.heap.size 9 B m (gs.flatMap ActH.cells)) (hgk : ∀ f ∈ gs, ActHOk w f) (hf : fewH fs = true) (hfg : fewH gs = true) :
    Calls Try.prog 6 #[.slice A n c, .slice B m d] w fun e w' => e = .returned (.bool true) ∧ Below w.heap.size w w' := by
  have HL := Lib.hid (hr.len ActH.cells_len (by omega))
  have HM := Lib.hid (hg.len ActH.cells_len (by omega))
  have HF := Lib.hid (few15_any A n c fs w hr)
  have HG := Lib.hid (few15_any B m d gs w hg)
  rw [hf] at HF
  rw [hfg] at HG
  have HR := Lib.hid hr
  have HRG := Lib.hid hg
  have HOK := Lib.hid hok
  have HGK := Lib.hid hgk
  obtain ⟨hf1, hf2⟩ : fs.length ≤ 30 ∧ fs.all shortH = true := by simpa [fewH] using hf
  obtain ⟨hg1, hg2⟩ : gs.length ≤ 30 ∧ gs.all shortH = true := by simpa [fewH] using hfg
  have HSH : Hid (∀ f ∈ fs, f.l.length ≤ 8) := Lib.hid fun f hm => by
    have := List.all_eq_true.1 hf2 f hm
    simpa [shortH] using this
  have HSG : Hid (∀ f ∈ gs, f.l.length ≤ 8) := Lib.hid fun f hm => by
    have := List.all_eq_true.1 hg2 f hm
    simpa [shortH] using this
  rw [HL.out] at hf1
  rw [HM.out] at hg1
  have HN := Lib.hid (newV_yes 3 2 (by omega) (by omega) (by omega) 5 (by omega) w)
  unfold NewVPost at HN
  clear hr hok hg hgk hf hf2 hfg hg2
  go_enter Try.func6, Try.ntmps6
  go_wp2_with fail
  refine HF.out.mono ?_
  rintro e w0 ⟨rfl, rfl⟩
  go_wp2_with fail
  refine HG.out.mono ?_
  rintro e w0 ⟨rfl, rfl⟩
  go_wp2_with fail
  refine HN.out.mono ?_
  rintro e w1 ⟨gv, gb, gt, vb, rfl, hv, hb⟩
  have HS1 : Hid (NextH w gv gt w1.heap.size 3 2 5 0 (w1.alloc (.cells #[.int .i64 (3 : Nat), .int .i64 (2 : Nat), .slice none 0 0, .int .i64 0, .int .i64 5, .slice none 0 0] 49))) := Lib.hid ⟨_, _, _, _, _, _, _, _, _, _, _, TwoH.start (by omega) hv hb _ rfl⟩
  clear hv hb HN HF HG
  go_wp2_with fail
  obtain ⟨h, hh⟩ : ∃ h, Hid (w1.heap.size = h) := ⟨_, Lib.hid rfl⟩
  obtain ⟨W2, hW2⟩ : ∃ W2, Hid (w1.alloc (.cells #[.int .i64 3, .int .i64 2, .slice none 0 0, .int .i64 0, .int .i64 5, .slice none 0 0] 49) = W2) := ⟨_, Lib.hid rfl⟩
  have hs1 := HS1.out
  rw [show ((3 : Nat) : Int) = 3 from rfl, show ((2 : Nat) : Int) = 2 from rfl, hh.out, hW2.out] at hs1
  clear HS1
  have HS1 := Lib.hid hs1
  clear hs1
  rw [hh.out, hW2.out]
  go_loopw [8] (fun i wr => ∃ k : Nat, k ≤ n ∧ i = .int .i64 (k : Nat) ∧ Hid (NextH w gv gt h 3 2 5 k wr)) (fun i _ => n - (intOf i).toNat)
  case atStart => exact ⟨0, by omega, rfl, HS1⟩
  case round =>
    clear HS1
    obtain ⟨k, hk, rfl, HS⟩ := hrel
    by_cases hlt : k < n
    · have hlz : (k : Int) < (n : Int) := by omega
      have hkl : k < fs.length := by have := HL.out; omega
      obtain ⟨f, hfk⟩ : ∃ f, fs[k]? = some f := ⟨_, List.getElem?_eq_getElem hkl⟩
      have hfm := List.mem_of_getElem? hfk
      obtain ⟨b_f, off_f, rfl, hcs⟩ := act_cellsD HR.out hfk hlt
      obtain ⟨gb2, vb2, bl2, p2, vt2, S2, L2, v2, q2, u2, D2, hT⟩ := HS.out
      have HD := Lib.hid (doesH_any f wr hT (by omega) (by omega) (HOK.out f hfm) (HSH.out f hfm) (by omega))
      unfold DoesHP at HD
      obtain ⟨c0, c1, c2, c3, c4, c5, c6, c7, c8⟩ := hcs wr hT.st.below
      clear hcs hfk hfm hkl hT
      go_wp2_with fail
      refine HD.out.mono ?_
      rintro e w3 ⟨rfl, hn⟩
      have HNX := Lib.hid hn
      clear hn HD c0 c1 c2 c3 c4 c5 c6 c7 c8
      go_wp2_with fail
      go_roundw
      case rel => exact ⟨k + 1, by omega, by go_num, HNX⟩
      case measure => simp [intOf]; omega
    · have hlz : ¬ (k : Int) < (n : Int) := by omega
      obtain rfl : n = k := by omega
      obtain ⟨gb2, vb2, bl2, p2, vt2, S2, L2, v2, q2, u2, D2, hT⟩ := HS.out
      have HT := Lib.hid hT
      have HC := Lib.hid (copyV_any wr hT.st.v)
      unfold CopyVPost at HC
      clear hT HS
      go_wp2_with fail
      refine HC.out.mono ?_
      rintro e w3 ⟨gvc, gbc, gtc, vbc, vtc, rfl, hvc, hb3⟩
      have HK0 : Hid (KeepNx wr gvc gtc 3 2 (max 5 0) (n + 3 * 0) w3 bl2 S2) := Lib.hid ⟨gbc, vbc, p2, vtc, L2, ⟨hvc, HT.out.st.i, HT.out.st.len, HT.out.st.p0, hb3⟩⟩
      clear hvc hb3 HC
      obtain ⟨wc, hwc⟩ : ∃ wc, Hid (wr = wc) := ⟨_, Lib.hid rfl⟩
      rw [hwc.out] at HT HK0
      go_wp2_with fail
      go_loopw [10] (fun i wz => ∃ (j : Nat) (bl : List Int) (S : List HRow), j ≤ m ∧ i = .int .i64 (j : Nat) ∧ Hid (KeepNx wc gvc gtc 3 2 (max 5 0) (n + 3 * j) wz bl S)) (fun i _ => m - (intOf i).toNat)
      case atStart => exact ⟨0, _, _, by omega, rfl, HK0⟩
      case round =>
        clear HK0
        obtain ⟨j, bl, S, hj, rfl, HK⟩ := hrel
        obtain ⟨gb5, vb5, p5, vt5, L5, hst⟩ := HK.out
        have HST := Lib.hid hst
        have hbw := Below.past HT.out.st.below hst.below HT.out.st.below.size
        have HBW := Lib.hid hbw
        have hp5 := hst.p0
        clear hst hbw HK
        by_cases hjm : j < m
        · have hjz : (j : Int) < (m : Int) := by omega
          have hjl : j < gs.length := by have := HM.out; omega
          obtain ⟨g, hgj⟩ : ∃ g, gs[j]? = some g := ⟨_, List.getElem?_eq_getElem hjl⟩
          have hgm := List.mem_of_getElem? hgj
          obtain ⟨b_g, off_g, rfl, hcs⟩ := act_cellsD HRG.out hgj hjm
          have HCS := Lib.hid hcs
          have HFO := Lib.hid (HGK.out g hgm)
          have hg8 := HSG.out g hgm
          have HPO := Lib.hid (postV_any g.P g.l.length g.c g.l wr HST.out.v HST.out.i.hinv HST.out.i.inv.inn (HFO.out.past HBW.out).rd (by omega) HFO.out.ok ⟨hp5.1, by omega⟩ HST.out.below.size)
          have HKI := Lib.hid (HST.out.i.hinv.post (l := g.l) (by omega) HST.out.i.inv)
          obtain ⟨c0, c1, c2, c3, c4, c5, c6, c7, c8⟩ := HCS.out wr HBW.out
          clear hcs hgj hgm hjl
          go_wp2_with fail
          refine HPO.out.mono ?_
          rintro e w5 hvp
          obtain rfl := hvp.1
          obtain ⟨gb6, vb6, p6, vt6, L6, hst6⟩ := HST.out.next (Below.refl _ _) hvp ⟨HKI.out.1, HKI.out.2, HST.out.i.ok⟩ HST.out.len
          have hdr := Below.drew (Below.refl w5.heap.size w5)
          have HS6 := Lib.hid (hst6.past hdr)
          have HDR := Lib.hid hdr
          have HB6 := Lib.hid (Below.past HT.out.st.below hst6.below HT.out.st.below.size)
          have HPL := Lib.hid (placeV_any g.id ⟨g.x.kind, g.x.member, g.a, g.z⟩ w5.drew HS6.out.v HS6.out.i.hinv HS6.out.i.inv.inn HS6.out.len (by have := HS6.out.len; omega) HS6.out.below.size)
          have HKP := Lib.hid (keep_place (id := g.id) (h := ⟨g.x.kind, g.x.member, g.a, g.z⟩) HS6.out.i HS6.out.len ⟨HFO.out.x, HFO.out.a, HFO.out.z⟩)
          clear hvp hst6 hdr HPO HKI c0 c1 c2 c3 c4 c5 c6 c7 c8
          obtain ⟨c0, c1, c2, c3, c4, c5, c6, c7, c8⟩ := HCS.out w5 HB6.out
          go_upto_region 16 with fail
          go_still_tail 22, (by kernel_rfl)
          change wpList _ _ _ _ _ w5.drew
          go_wp2_with fail
          refine HPL.out.mono ?_
          rintro e w6 hvp
          obtain rfl := hvp.1
          obtain ⟨gb7, vb7, p7, vt7, L7, hst7⟩ := HS6.out.next (Below.refl _ _) hvp HKP.out.1 HKP.out.2
          have HS7 := Lib.hid hst7
          have HB7 := Lib.hid (Below.past HT.out.st.below hst7.below HT.out.st.below.size)
          have HRE := Lib.hid (releaseV_any g.id w6 HS7.out.v)
          have HKR := Lib.hid (keep_rel (id := g.id) HS7.out.i HS7.out.len)
          clear hvp hst7 HPL HKP c0 c1 c2 c3 c4 c5 c6 c7 c8
          obtain ⟨c0, c1, c2, c3, c4, c5, c6, c7, c8⟩ := HCS.out w6 HB7.out
          go_wp2_with fail
          refine HRE.out.mono ?_
          rintro e w7 hvp
          obtain rfl := hvp.1
          have HNX := Lib.hid (HS7.out.next (Below.refl _ _) hvp HKR.out.1 HKR.out.2)
          have HNY : Hid (KeepNx wc gvc gtc 3 2 (max 5 0) (n + 3 * (j + 1)) w7 _ _) := Lib.hid (by
            have := HNX.out
            rw [show n + 3 * j + 1 + 1 + 1 = n + 3 * (j + 1) by omega] at this
            exact this)
          clear hvp HRE HKR HNX c0 c1 c2 c3 c4 c5 c6 c7 c8
          go_wp2_with fail
          go_roundw
          case rel => exact ⟨j + 1, _, _, by omega, by go_num, HNY⟩
          case measure => simp [intOf]; omega
        · have hjz : ¬ (j : Int) < (m : Int) := by omega
          have HT0 := Lib.hid (HT.out.past HST.out.below)
          clear HST HBW hp5
          go_wp2_with fail
          refine (balV_nil ⟨0, 0, 0⟩ _).mono ?_
          rintro e w4 ⟨rfl, hb4⟩
          have HT1 := Lib.hid (HT0.out.past hb4)
          clear hb4 HT0
          go_wp2_with fail
          refine (holdV_nil 0 _).mono ?_
          rintro e w5 ⟨rfl, hb5⟩
          have HT2 := Lib.hid (HT1.out.past (hb5.alloc hb5.size (.cells #[.int .i64 0, .int .i64 0, .int .i64 0, .int .i64 0] 60)))
          clear hb5 HT1
          go_wp2_with fail
          refine (unheldV_nil ⟨0, 0, 0⟩ _).mono ?_
          rintro e w6 ⟨rfl, hb6⟩
          have HT3 := Lib.hid (HT2.out.past hb6)
          clear hb6 HT2
          go_wp2_with fail
          refine (totV_nil 0 _).mono ?_
          rintro e w7 ⟨rfl, rfl⟩
          go_wp2_with fail
          refine (newV_no 17 1 1 (by omega) _).mono ?_
          rintro e w7 ⟨rfl, rfl⟩
          go_wp2_with fail
          refine (awake15 _).mono ?_
          rintro e w8 ⟨rfl, hb8⟩
          have HT4 := Lib.hid (HT3.out.past hb8)
          have HSM := Lib.hid (same15_any w8 HT4.out (by omega) (by omega))
          clear hb8 HT3
          go_wp2_with fail
          refine HSM.out.mono ?_
          rintro e w9 ⟨rfl, hb9⟩
          have HB9 := Lib.hid (HT4.out.past hb9).st.below
          have hs9 := HB9.out.size
          clear hb9 HSM
          go_wp2_with fail
          refine (postV_nil none 0 0 _).mono ?_
          rintro e w10 ⟨rfl, rfl⟩
          go_wp2_with fail
          refine (own15 1 _).mono ?_
          rintro e w11 ⟨rfl, hb11⟩
          have HB11 := Lib.hid (Below.past HB9.out hb11 HB9.out.size)
          clear hb11
          go_wp2_with fail
          refine (own15 2 _).mono ?_
          rintro e w12 ⟨rfl, hb12⟩
          have HB12 := Lib.hid (Below.past HB11.out hb12 HB11.out.size)
          clear hb12
          go_wp2_with fail
          refine (moveV_nil ⟨7, 1⟩ ⟨7, 2⟩ 0 0 _).mono ?_
          rintro e w13 ⟨rfl, hb13⟩
          have HB13 := Lib.hid (Below.past HB12.out hb13 HB12.out.size)
          clear hb13
          go_wp2_with fail
          refine (placeV_nil 0 ⟨0, 0, 0, 0⟩ _).mono ?_
          rintro e w14 ⟨rfl, hb14⟩
          have HB14 := Lib.hid (Below.past HB13.out hb14 HB13.out.size)
          clear hb14
          go_wp2_with fail
          refine (releaseV_nil 0 _).mono ?_
          rintro e w15 ⟨rfl, rfl⟩
          go_wp2_with fail
          refine (own15 1 _).mono ?_
          rintro e w16 ⟨rfl, hb16⟩
          have HB16 := Lib.hid (Below.past HB14.out hb16 HB14.out.size)
          clear hb16
          go_wp2_with fail
          refine (capV_nil 0 ⟨7, 1⟩ 0 _).mono ?_
          rintro e w17 ⟨rfl, hb17⟩
          have HB17 := Lib.hid (Below.past HB16.out hb17 HB16.out.size)
          clear hb17
          go_wp2_with fail
          refine (holdsV_nil _).mono ?_
          rintro e w18 ⟨rfl, rfl⟩
          go_wp2_with fail
          refine (copyV_nil _).mono ?_
          rintro e w18 ⟨rfl, rfl⟩
          go_wp2_with fail
          go_ret
          exact ⟨rfl, HB17.out⟩
end Go.Proofs.Ytelbolhckhdioaa
