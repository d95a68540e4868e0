import Derived.Test.YtoohfbgbhjadgaaTimG
namespace Go.Proofs.Ytoohfbgbhjadgaa
open Go.RowKit

set_option maxHeartbeats 1000000 in
theorem timerSorts_long (A : Option Addr) (n cp : Nat) (w : World) (h : 40 < n) :
    Calls Try.prog 7 #[.slice A n cp] w fun e w' => e = .returned (.bool true) ∧ Below w.heap.size w w' := by
  have q1 : (40 : Int) < (n : Int) := by omega
  go_enter Try.func7, Try.ntmps7
  go_wp2_with fail
  refine (awake21 _).mono ?_
  rintro e w1 ⟨rfl, hb⟩
  go_wp2_with fail
  go_ret
  exact ⟨rfl, hb⟩

set_option maxHeartbeats 4000000 in
set_option maxRecDepth 10000 in
theorem timerSorts_few (A : Option Addr) (n cp : Nat) (l : List Tim) (w : World) (hr : Rd w w.heap.size 4 A n (l.flatMap Tim.cells)) (hn : n ≤ 40) :
    Calls Try.prog 7 #[.slice A n cp] w fun e w' => e = .returned (.bool true) ∧ Below w.heap.size w w' := by
  have q1 : ¬ (40 : Int) < (n : Int) := by omega
  have HL := Lib.hid (hr.len Tim.cells_len (by omega))
  go_enter Try.func7, Try.ntmps7
  go_wp2_with fail
  go_loopw [3, 4] (fun v i wr => ∃ (k c : Nat) (A' : Option Addr), k ≤ n ∧ i = .int .i64 k ∧ v = .slice A' k c ∧ Hid (Rd wr wr.heap.size 4 A' k ((sortT (l.take k)).flatMap Tim.cells)) ∧ Below w.heap.size w wr) (fun _ i _ => n - (intOf i).toNat)
  case atStart => exact ⟨0, 0, none, Nat.zero_le _, rfl, rfl, Lib.hid (Rd.nil ..), Below.refl _ _⟩
  case round =>
    obtain ⟨k, c, A', hk, rfl, rfl, HR, hb⟩ := hrel
    by_cases hlt : k < n
    · have hlz : (k : Int) < (n : Int) := by omega
      have hg_f : l[k]? = some (l[k]'(by have := HL.out; omega)) := List.getElem?_eq_getElem _
      obtain ⟨b_f, off_f, rfl, hbb_f, hc_f⟩ := (hr.below hb).elem Tim.cells_len hg_f hlt
      have HT_f := Lib.hid (show l.take (k + 1) = l.take k ++ [(l[k]'(by have := HL.out; omega))] from List.take_succ_eq_append_getElem (by have := HL.out; omega))
      have HM_f := Lib.hid (show (l[k]'(by have := HL.out; omega)) ∈ l from List.getElem_mem _)
      generalize (l[k]'(by have := HL.out; omega)) = f at *
      have c0 := hc_f 0 _ rfl
      have c1 := hc_f 1 _ rfl
      have c2 := hc_f 2 _ rfl
      have c3 := hc_f 3 _ rfl
      clear hc_f hg_f
      simp only [Nat.add_zero] at c0
      have HC := Lib.hid (refPut_any A' k c (sortT (l.take k)) f wr HR.out (by omega))
      have HE : Hid (sortT (l.take (k + 1)) = putT (sortT (l.take k)) f) := Lib.hid (by rw [HT_f.out, sortT_snoc])
      go_wp2_with fail
      refine HC.out.mono ?_
      rintro e w1 ⟨v, rfl, hown, hb1⟩
      obtain ⟨A2, c2, rfl⟩ := own_form hown
      have HR2 := Lib.hid (Rd.of_own hown)
      have hbb := Below.past hb hb1 hb.size
      clear hown hb1 hb
      go_wp2_with fail
      go_roundw
      case rel => exact ⟨k + 1, c2, A2, by omega, by go_num, rfl, Lib.hid (by rw [HE.out]; exact HR2.out), hbb⟩
      case measure => simp [intOf]; omega
    · have hlz : ¬ (k : Int) < (n : Int) := by omega
      obtain rfl : n = k := by omega
      rw [List.take_of_length_le (by rw [HL.out]; exact Nat.le_refl _)] at HR
      go_wp2_with fail
      refine (awake21 _).mono ?_
      rintro e w2 ⟨rfl, hb2⟩
      have hbb := Below.past hb hb2 hb.size
      have HR2 := Lib.hid (HR.out.past hb2)
      have HS := Lib.hid (sorted_any A n cp l w2 (hr.past hbb) (by omega))
      go_wp2_with fail
      refine HS.out.mono ?_
      rintro e w3 ⟨v, rfl, hown, hb3⟩
      obtain ⟨A3, c3, rfl⟩ := own_form hown
      have HSm := Lib.hid (refSame_yes A3 n c3 A' c (sortT l) _ _ w3 (Rd.of_own hown) (HR2.out.past hb3) (by omega))
      have hb4 := Below.past hbb hb3 hbb.size
      clear hown hb3 HS
      go_wp2_with fail
      refine HSm.out.mono ?_
      rintro e w4 ⟨rfl, hd⟩
      have hb5 := hd.below hb4
      go_wp2_with fail
      go_ret
      exact ⟨rfl, hb5⟩
end Go.Proofs.Ytoohfbgbhjadgaa
