import Derived.Test.YtelbolhckhdioaaBokM
import Derived.Test.YtelbolhckhdioaaBokI
namespace Go.Proofs.Ytelbolhckhdioaa
open Go.RowKit

/-! ### Same -/
theorem acc_okA {M A : Nat} {x : Acc} {k j : Nat} (hM : M ≤ 16) (h : (accs M)[k]? = some x) (hj : j < A) : okP M A ⟨x.kind, x.member, (j : Int)⟩ = true := by
  have hk := (List.getElem?_eq_some_iff.1 h).1
  rw [accs_len] at hk
  have hg := accs_get M k hk
  rw [h] at hg
  have hx : x = accN k := Option.some.inj hg
  refine okP_iff.2 ⟨?_, by show (0 : Int) ≤ j; omega, by show (j : Int) < (A : Nat); omega⟩
  show (numA M x).2 = 0
  rw [hx, num_accN M k hM hk]

set_option maxHeartbeats 8000000 in
set_option maxRecDepth 100000 in
theorem same14_any (g h base M A : Nat) (v u : Value) (bl : List Int) (L : List Ent) (p : Int) (w : World) (hx : BookV w g base M A v bl p) (hinv : Inv M A bl L) (hd : RbkV w h base M A u L p) :
    Calls Try.prog 19 #[.pointer (some ⟨g, 0, none⟩), .pointer (some ⟨h, 0, none⟩)] w fun e w' => e = .returned (.bool true) ∧ Below w.heap.size w w' := by
  have hM := hx.hM
  have hA9 := hx.hA
  have HX := Lib.hid hx
  have HI := Lib.hid hinv
  have HD := Lib.hid hd
  have HAL := Lib.hid (all_yes M hM w)
  have c0 := hd.blk.cell 0
  simp at c0
  clear hx hinv hd
  go_enter Try.func19, Try.ntmps19
  go_wp2_with fail
  refine HAL.out.mono ?_
  rintro e w2 ⟨va, rfl, hva, hb2⟩
  obtain ⟨Aa, ca, rfl⟩ := own_form hva
  obtain ⟨C, hC⟩ : ∃ C, Hid (cnt M = C) := ⟨_, Lib.hid rfl⟩
  have hCe : 6 + 3 * M = C := hC.out
  rw [hCe] at hva ⊢
  have hC54 : C ≤ 54 := by omega
  have HB2 := Lib.hid hb2
  have HVA := Lib.hid (Rd.of_own hva)
  clear c0 hva hb2 HAL
  obtain ⟨AL, hAL⟩ : ∃ AL, Hid (accs M = AL) := ⟨_, Lib.hid rfl⟩
  have HCB : Hid (AL.length = C) := Lib.hid (by rw [← hAL.out, accs_len]; exact hCe)
  rw [hAL.out] at HVA
  have hs2 := HB2.out.size
  clear hCe
  go_wp2_with fail
  go_loopw [6] (fun i wr => ∃ (j : Nat), j ≤ A ∧ i = .int .i64 (j : Nat) ∧ Hid (Below w2.heap.size w2 wr)) (fun i _ => A - (intOf i).toNat)
  case atStart => exact ⟨0, by omega, rfl, Lib.hid (Below.refl _ _)⟩
  case round =>
    obtain ⟨j, hj, rfl, HB⟩ := hrel
    have hs3 := HB.out.size
    have HBX := Lib.hid (Below.past HB2.out HB.out hs2)
    have a1 := (HD.out.past HBX.out).blk.cell 1
    simp at a1
    by_cases hjA : j < A
    · have hjz : (j : Int) < (A : Int) := by omega
      go_wp2_with fail
      go_loopw [7] (fun i wz => ∃ (q : Nat), q ≤ C ∧ i = .int .i64 (q : Nat) ∧ Hid (Below w2.heap.size w2 wz)) (fun i _ => C - (intOf i).toNat)
      case atStart => exact ⟨0, by omega, rfl, HB⟩
      case round =>
        clear a1 HBX hs3 HB
        obtain ⟨q, hq, rfl, HB⟩ := hrel
        have hs3 := HB.out.size
        have HBX := Lib.hid (Below.past HB2.out HB.out hs2)
        by_cases hqC : q < C
        · have hqz : (q : Int) < (C : Int) := by omega
          have hg_x : AL[q]? = some (AL[q]'(by have := HCB.out; omega)) := List.getElem?_eq_getElem _
          obtain ⟨b_x, off_x, rfl, hbb_x, hc_x⟩ := (HVA.out.below HB.out).elem Acc.cells_len hg_x hqC
          have HT_x := Lib.hid (show AL.take (q + 1) = AL.take q ++ [(AL[q]'(by have := HCB.out; omega))] from List.take_succ_eq_append_getElem (by have := HCB.out; omega))
          have HM_x := Lib.hid (show (AL[q]'(by have := HCB.out; omega)) ∈ AL from List.getElem_mem _)
          have HG_x := Lib.hid hg_x
          generalize (AL[q]'(by have := HCB.out; omega)) = x at *
          have c0 := hc_x 0 _ rfl
          have c1 := hc_x 1 _ rfl
          clear hc_x hg_x
          simp only [Nat.add_zero] at c0
          have hokx : okP M A ⟨x.kind, x.member, (j : Int)⟩ = true := acc_okA hM (by rw [hAL.out]; exact HG_x.out) hjA
          have HBA := Lib.hid (balK_any g base M A v bl p ⟨x.kind, x.member, (j : Int)⟩ wr (HX.out.past HBX.out))
          obtain ⟨b, hb0⟩ : ∃ b, Hid ((atB L ⟨x.kind, x.member, (j : Int)⟩).sum = b) := ⟨_, Lib.hid rfl⟩
          have HBV : Hid (blK M A bl ⟨x.kind, x.member, (j : Int)⟩ = (b, 0)) := Lib.hid (by
            rw [blK_t hokx, List.getD_eq_getElem?_getD, HI.out.bal _ hokx, ← hb0.out]; rfl)
          have hinb : inI b := by rw [← hb0.out]; exact HI.out.inn _ (List.mem_of_getElem? (HI.out.bal _ hokx))
          rw [HBV.out] at HBA
          have HRB : Hid (∀ w', Below w.heap.size w w' → Calls Try.prog 61 #[.pointer (some ⟨h, 0, none⟩), .agg #[.int .i64 x.kind, .int .i64 x.member], .int .i64 j] w' fun e w'' => e = .returned (.int .i64 b) ∧ Below w'.heap.size w' w'') := Lib.hid fun w' hw => by
            have := refBal_any h base M A u L p ⟨x.kind, x.member, (j : Int)⟩ w' (HD.out.past hw)
            rw [hb0.out, amount_of hinb] at this
            exact this
          clear hokx hinb
          go_wp2_with fail
          refine HBA.out.mono ?_
          rintro e w6 ⟨rfl, hb6⟩
          have HB6 := Lib.hid (Below.past HB.out hb6 hs3)
          have hs6 := HB6.out.size
          have HBX6 := Lib.hid (Below.past HB2.out HB6.out hs2)
          have HR6 := Lib.hid (HRB.out w6 HBX6.out)
          obtain ⟨b4, o4, he4, _, hc4⟩ := (HVA.out.below HB6.out).elem Acc.cells_len HG_x.out hqC
          cases he4
          have d0 := hc4 0 _ rfl
          have d1 := hc4 1 _ rfl
          simp only [Nat.add_zero] at d0
          clear hc4 c0 c1 HBA hb6
          go_wp2_with fail
          refine HR6.out.mono ?_
          rintro e w7 ⟨rfl, hb7⟩
          have HB7 := Lib.hid (Below.past HB6.out hb7 hs6)
          clear hb7 HR6 HRB d0 d1
          go_wp2_with fail
          go_roundw
          case rel => exact ⟨q + 1, by omega, by go_num, HB7⟩
          case measure => simp [intOf]; omega
        · have hqz : ¬ (q : Int) < (C : Int) := by omega
          go_wp2_with fail
          go_roundw
          case rel => exact ⟨j + 1, by omega, by go_num, HB⟩
          case measure => simp [intOf]; omega
    · have hjz : ¬ (j : Int) < (A : Int) := by omega
      have HPP := Lib.hid (postedK_any g base M A v bl p wr.drew (HX.out.past HBX.out.drew))
      have a3 := (HD.out.past HBX.out).blk.cell 3
      simp at a3
      have HBE := Lib.hid HBX.out.drew
      go_upto_region 11 with fail
      go_region_with (go_at_call 14; refine HPP.out.mono ?_; rintro e w1 ⟨rfl, rfl⟩)
      all_goals
        go_wp2_with fail
        go_ret
        exact ⟨by first | rfl | (simp; done), HBE.out⟩
end Go.Proofs.Ytelbolhckhdioaa
