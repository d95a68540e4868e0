import Derived.Test.YtelbolhckhdioaaRgF
namespace Go.Proofs.Ytelbolhckhdioaa
open Go.RowKit

/-! ### Two trades; Same; awake -/
theorem trdR_eql (x : Trad) (w : World) : (binOp .eql 87 (.agg #[.int .i64 x.id, .int .i64 x.buyer, .int .i64 x.seller, .int .i64 x.sec, .int .i64 x.qty, .int .i64 x.price]) (.agg #[.int .i64 x.id, .int .i64 x.buyer, .int .i64 x.seller, .int .i64 x.sec, .int .i64 x.qty, .int .i64 x.price])).run Try.prog w = .ok (.bool true) w := by
  have u3 := Try.underlying3
  have u2 := Try.underlying2
  have hS : Try.prog.underlying 87 = some (.struct (Try.prog.fieldsOf 87)) := by kernel_rfl
  have hp : Try.prog.stoodInHeld 87 = false := by kernel_rfl
  rw [run_eql_struct, show (10000 : Nat) = 9999 + 1 from rfl, run_equalIn_agg w 9999 87 _ _ hS hp]
  simp only [Program.fieldsOf, Try.underlying87]
  go_simp
theorem trdR_neq (x : Trad) (w : World) : (binOp .neq 87 (.agg #[.int .i64 x.id, .int .i64 x.buyer, .int .i64 x.seller, .int .i64 x.sec, .int .i64 x.qty, .int .i64 x.price]) (.agg #[.int .i64 x.id, .int .i64 x.buyer, .int .i64 x.seller, .int .i64 x.sec, .int .i64 x.qty, .int .i64 x.price])).run Try.prog w = .ok (.bool false) w := by
  have u3 := Try.underlying3
  have u2 := Try.underlying2
  have hS : Try.prog.underlying 87 = some (.struct (Try.prog.fieldsOf 87)) := by kernel_rfl
  have hp : Try.prog.stoodInHeld 87 = false := by kernel_rfl
  rw [run_neq_struct, show (10000 : Nat) = 9999 + 1 from rfl, run_equalIn_agg w 9999 87 _ _ hS hp]
  simp only [Program.fieldsOf, Try.underlying87]
  go_simp
theorem trd_cells6 {w : World} {B n k : Nat} {A : Option Addr} {l : List Trad} {x : Trad} (h : Rd w B 6 A n (l.flatMap trD)) (hx : l[k]? = some x) (hk : k < n) : ∃ b off, A = some ⟨b, off, none⟩ ∧ ∀ w', Below B w w' → w'.cell? ⟨b, off + k * 6, none⟩ = some (.int .i64 x.id) ∧ w'.cell? ⟨b, off + k * 6 + 1, none⟩ = some (.int .i64 x.buyer) ∧ w'.cell? ⟨b, off + k * 6 + 2, none⟩ = some (.int .i64 x.seller) ∧ w'.cell? ⟨b, off + k * 6 + 3, none⟩ = some (.int .i64 x.sec) ∧ w'.cell? ⟨b, off + k * 6 + 4, none⟩ = some (.int .i64 x.qty) ∧ w'.cell? ⟨b, off + k * 6 + 5, none⟩ = some (.int .i64 x.price) := by
  obtain ⟨b, off, he, hb, hc⟩ := h.elem trD_len hx hk
  refine ⟨b, off, he, fun w' hbw => ?_⟩
  have hcell : ∀ j u, (trD x)[j]? = some u → w'.cell? ⟨b, off + k * 6 + j, none⟩ = some u := fun j u hu => (hbw.cell (p := ⟨b, off + k * 6 + j, none⟩) hb).trans (hc j u hu)
  exact ⟨hcell 0 _ rfl, hcell 1 _ rfl, hcell 2 _ rfl, hcell 3 _ rfl, hcell 4 _ rfl, hcell 5 _ rfl⟩
set_option maxHeartbeats 4000000 in
theorem sameT17_any (P Q : Option Addr) (n c d : Nat) (l : List Trad) (w : World) (hp : Rd w w.heap.size 6 P n (l.flatMap trD)) (hq : Rd w w.heap.size 6 Q n (l.flatMap trD)) (hn : n ≤ 1000) :
    Calls Try.prog 44 #[.slice P n c, .slice Q n d] w fun e w' => e = .returned (.bool true) ∧ Below w.heap.size w w' := by
  have HL := Lib.hid (hp.len trD_len (by omega))
  have HP := Lib.hid hp
  have HQ := Lib.hid hq
  clear hp hq
  go_enter Try.func44, Try.ntmps44
  go_wp2_with fail
  go_loopw [5] (fun i wr => ∃ k : Nat, k ≤ n ∧ i = .int .i64 (k : Nat) ∧ Hid (Below w.heap.size w wr)) (fun i _ => n - (intOf i).toNat)
  case atStart => exact ⟨0, by omega, rfl, Lib.hid (Below.refl _ _)⟩
  case round =>
    obtain ⟨k, hk, rfl, HB⟩ := hrel
    by_cases hlt : k < n
    · have hlz : (k : Int) < (n : Int) := by omega
      obtain ⟨z, hz⟩ : ∃ z, l[k]? = some z := ⟨_, List.getElem?_eq_getElem (by have := HL.out; omega)⟩
      obtain ⟨b1, o1, rfl, h1⟩ := trd_cells6 HP.out hz hlt
      obtain ⟨b2, o2, rfl, h2⟩ := trd_cells6 HQ.out hz hlt
      obtain ⟨c0, c1, c2, c3, c4, c5⟩ := h1 _ HB.out
      obtain ⟨d0, d1, d2, d3, d4, d5⟩ := h2 _ HB.out
      have hqq := fun w => trdR_neq z w
      clear hz h1 h2
      go_wp2_with fail
      go_quiet (fail)
      have HB2 := Lib.hid (below_drewN HB.out nq)
      clear c0 c1 c2 c3 c4 c5 d0 d1 d2 d3 d4 d5 hqq
      go_wp2_with fail
      go_roundw
      case rel => exact ⟨k + 1, by omega, by go_num, HB2⟩
      case measure => simp [intOf]; omega
    · have hlz : ¬ (k : Int) < (n : Int) := by omega
      go_wp2_with fail
      go_ret
      exact ⟨rfl, HB.out⟩
def awT : Trad := ⟨7, 1, 2, 1, 5, 2⟩
def awCf : Conf := plainCf 3 1 1
theorem aw_k1 : addKS awCf 3 1 1 0 [] [] awT = 0 := by decide
theorem aw_k2 : addKS awCf 3 1 1 1 [] [⟨7, 1⟩] awT = 7 := by decide
theorem aw_s1 : addS 0 [] awT = [⟨7, awT⟩] ∧ addU 0 0 [] awT = [⟨7, 1⟩] ∧ addA 0 0 = 1 := ⟨rfl, rfl, rfl⟩
theorem aw_i0 : RegI awCf 3 1 1 0 [] [] := ⟨by simp, by simp [sumV], by simp, by decide, by simp, by decide⟩
theorem aw_i1 : RegI awCf 3 1 1 1 [] [⟨7, 1⟩] := ⟨by simp, by simp [sumV], by simp, by decide, by simp, by decide⟩
set_option maxHeartbeats 8000000 in
set_option maxRecDepth 100000 in
theorem awake17 (w : World) : Calls Try.prog 41 #[] w fun e w' => e = .returned (.bool true) ∧ Below w.heap.size w w' := by
  have HPL := Lib.hid (plain_is 3 1 1 w)
  unfold IsPlain at HPL
  rw [show (nearI 3 2 16).toNat = 3 from rfl, show (nearI 1 1 8).toNat = 1 from rfl, show (nearI 1 1 4).toNat = 1 from rfl] at HPL
  have HW8 := Lib.hid (plain_ok 3 1 1 (by omega) (by omega) (by omega) (by omega) (by omega) (by omega))
  have hql := fun w => trdR_eql awT w
  simp only [awT] at hql
  go_enter Try.func41, Try.ntmps41
  go_wp2_with fail
  refine HPL.out.mono ?_
  rintro e w1 ⟨A1, A2, A3, cp1, cp2, cp3, rfl, hr, hb1⟩
  have HN := Lib.hid (newG_yes A1 A2 A3 3 1 1 cp1 cp2 cp3 (plainCf 3 1 1) w1 hr HW8.out rfl)
  unfold NewGPost at HN
  have HB1 := Lib.hid hb1
  clear hb1 hr HPL
  go_wp2_with fail
  refine HN.out.mono ?_
  rintro e w2 ⟨g, gt, gu, B1, d1, B2, d2, B3, d3, rfl, hx, hb2⟩
  have HB2 := Lib.hid hb2
  have hba := (Below.refl w2.heap.size w2).alloc (Nat.le_refl _) (.cells #[.int .i64 7, .int .i64 1, .int .i64 2, .int .i64 1, .int .i64 5, .int .i64 2] 87)
  have bt := Blk.new w2 87 #[.int .i64 7, .int .i64 1, .int .i64 2, .int .i64 1, .int .i64 5, .int .i64 2] w2.heap.size rfl
  obtain ⟨W3, hW3⟩ : ∃ W3, Hid (w2.alloc (.cells #[.int .i64 7, .int .i64 1, .int .i64 2, .int .i64 1, .int .i64 5, .int .i64 2] 87) = W3) := ⟨_, Lib.hid rfl⟩
  obtain ⟨tb, htb⟩ : ∃ tb, Hid (w2.heap.size = tb) := ⟨_, Lib.hid rfl⟩
  have hx3 := hx.past hba
  rw [hW3.out] at hba bt hx3
  rw [htb.out] at bt
  have HB3 := Lib.hid (Below.past HB2.out hba HB2.out.size)
  have HT3 := Lib.hid bt
  have HX3 := Lib.hid hx3
  have HAD := Lib.hid (addR_any awT W3 hx3 aw_i0 (by decide) (by decide) (by simp) (by decide) HB3.out.size)
  unfold AddRPost at HAD
  rw [show addKS (plainCf 3 1 1) 3 1 1 0 [] [] awT = 0 from aw_k1, aw_s1.1, aw_s1.2.1, aw_s1.2.2] at HAD
  have x0 := (HT3.out).cell 0
  have x1 := (HT3.out).cell 1
  have x2 := (HT3.out).cell 2
  have x3 := (HT3.out).cell 3
  have x4 := (HT3.out).cell 4
  have x5 := (HT3.out).cell 5
  simp at x0 x1 x2 x3 x4 x5
  clear hba bt hx hx3 hb2 HN
  go_upto_region 3 with fail
  rw [htb.out, hW3.out]
  go_wp2_with fail
  refine HAD.out.mono ?_
  rintro e w4 ⟨rfl, vt, vu, hx4, ho4, hnt, hnu⟩
  have HX4 := Lib.hid hx4
  have HT4 := Lib.hid (HX3.out.stay HT3.out ho4 (by decide) (by decide) (by decide) (by decide) (by decide))
  have HB4 := Lib.hid (Below.trans HB3.out (HX3.out.frame ho4 HB3.out.size))
  have HCN := Lib.hid (cancelR_yes 7 ⟨7, awT⟩ w4 hx4 rfl rfl)
  unfold CanPost at HCN
  rw [show TTbR.outT [⟨7, awT⟩] (TTbR.posT [⟨7, awT⟩] 7) = [] from rfl] at HCN
  simp only [awT] at HCN
  clear hx4 ho4 hnt hnu HAD x0 x1 x2 x3 x4 x5
  go_wp2_with fail
  refine HCN.out.mono ?_
  rintro e w5 ⟨rfl, vt5, hx5, ho5, hnt5⟩
  have HT5 := Lib.hid (HX4.out.stay HT4.out ho5 (by decide) (by decide) (by decide) (by decide) (by decide))
  have HB5 := Lib.hid (Below.trans HB4.out (HX4.out.frame ho5 HB4.out.size))
  have hba := (Below.refl w5.heap.size w5).alloc (Nat.le_refl _) (.cells #[.int .i64 7, .int .i64 1, .int .i64 2, .int .i64 1, .int .i64 5, .int .i64 2] 87)
  have by_ := Blk.new w5 87 #[.int .i64 7, .int .i64 1, .int .i64 2, .int .i64 1, .int .i64 5, .int .i64 2] w5.heap.size rfl
  obtain ⟨W6, hW6⟩ : ∃ W6, Hid (w5.alloc (.cells #[.int .i64 7, .int .i64 1, .int .i64 2, .int .i64 1, .int .i64 5, .int .i64 2] 87) = W6) := ⟨_, Lib.hid rfl⟩
  obtain ⟨yb, hyb⟩ : ∃ yb, Hid (w5.heap.size = yb) := ⟨_, Lib.hid rfl⟩
  have hx6 := hx5.past hba
  have ht6 := HT5.out.past hba
  rw [hW6.out] at hba by_ hx6 ht6
  rw [hyb.out] at by_
  have HX6 := Lib.hid hx6
  have HB6 := Lib.hid (Below.past HB5.out hba HB5.out.size)
  have HT6 := Lib.hid ht6
  have HUS := Lib.hid (usedG_any 7 W6 HX6.out)
  rw [show TTbI.isT [⟨7, 1⟩] 7 = true from rfl] at HUS
  have x0 := (HT6.out).cell 0
  have x1 := (HT6.out).cell 1
  have x2 := (HT6.out).cell 2
  have x3 := (HT6.out).cell 3
  have x4 := (HT6.out).cell 4
  have x5 := (HT6.out).cell 5
  simp at x0 x1 x2 x3 x4 x5
  have y0 := (by_).cell 0
  have y1 := (by_).cell 1
  have y2 := (by_).cell 2
  have y3 := (by_).cell 3
  have y4 := (by_).cell 4
  have y5 := (by_).cell 5
  simp at y0 y1 y2 y3 y4 y5
  clear hx5 ho5 hnt5 hba by_ hx6 ht6 HCN
  go_upto_region 5 with fail
  rw [hyb.out, hW6.out]
  go_wp2_with fail
  refine HUS.out.mono ?_
  rintro e w7 ⟨rfl, hb7⟩
  have HX7 := Lib.hid (HX6.out.past hb7)
  have HT7 := Lib.hid (HT6.out.past hb7)
  have HB7 := Lib.hid (Below.past HB6.out hb7 HB6.out.size)
  have HAD := Lib.hid (addR_any awT w7 HX7.out aw_i1 (by decide) (by decide) (by simp) (by decide) HB7.out.size)
  unfold AddRPost at HAD
  rw [show addKS (plainCf 3 1 1) 3 1 1 1 [] [⟨7, 1⟩] awT = 7 from aw_k2] at HAD
  clear hb7 x0 x1 x2 x3 x4 x5 y0 y1 y2 y3 y4 y5 HUS hql
  have x0 := (HT7.out).cell 0
  have x1 := (HT7.out).cell 1
  have x2 := (HT7.out).cell 2
  have x3 := (HT7.out).cell 3
  have x4 := (HT7.out).cell 4
  have x5 := (HT7.out).cell 5
  simp at x0 x1 x2 x3 x4 x5
  go_wp2_with fail
  refine HAD.out.mono ?_
  rintro e w8 ⟨rfl, vt8, vu8, hx8, ho8, hnt8, hnu8⟩
  have HB8 := Lib.hid (Below.trans HB7.out (HX7.out.frame ho8 HB7.out.size))
  have HAC := Lib.hid (accG_any w8 hx8)
  rw [show addA 7 1 = 1 from rfl] at HAC
  have HBE := Lib.hid (Below.past HB1.out HB8.out HB1.out.size)
  clear hx8 ho8 hnt8 hnu8 HAD x0 x1 x2 x3 x4 x5
  go_wp2_with fail
  refine HAC.out.mono ?_
  rintro e w9 ⟨rfl, rfl⟩
  go_wp2_with fail
  go_ret
  exact ⟨rfl, HBE.out⟩
end Go.Proofs.Ytelbolhckhdioaa
