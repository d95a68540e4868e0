import Derived.Test.YtehemhpfdajbdaaDoorChnE
namespace Go.Proofs.YtehemhpfdajbdaaDoor
open Go.RowKit

/-! ### The document's Of -/
set_option maxRecDepth 10000 in
set_option maxHeartbeats 2000000 in
theorem refOf_any (s : List UInt8) (w : World) : Calls Tryd.prog 7 #[.string ⟨s.toArray⟩] w fun e w' => e = .returned (.int .i64 (idxN s 0 (accs 16))) ∧ Below w.heap.size w w' := by
  have T := Lib.hid (fun w => all_yes 16 (by omega) w)
  have HL := Lib.hid (accs_len 16)
  obtain ⟨l, hl⟩ : ∃ l, Hid (accs 16 = l) := ⟨_, Lib.hid rfl⟩
  rw [hl.out] at T HL ⊢
  obtain ⟨R, hR⟩ : ∃ R, Hid (idxN s 0 l = R) := ⟨_, Lib.hid rfl⟩
  rw [hR.out]
  go_enter Tryd.func7, Tryd.ntmps7
  go_wp2_with fail
  refine (T.out _).mono ?_
  rintro e w1 ⟨v, rfl, hown, hb1⟩
  obtain ⟨A, cc, rfl⟩ := own_form hown
  have hrd := Rd.of_own hown
  clear hown
  go_wp2_with fail
  go_loopw [4] (fun i wr => ∃ k : Nat, k ≤ 54 ∧ i = .int .i64 k ∧ Hid (idxN s k (l.drop k) = R) ∧ Below w1.heap.size w1 wr) (fun i _ => 54 - (intOf i).toNat)
  case atStart => exact ⟨0, by omega, rfl, Lib.hid hR.out, Below.refl _ _⟩
  case round =>
    obtain ⟨k, hk, rfl, hI, hb⟩ := hrel
    have hrd2 := hrd.past hb
    by_cases hlt : k < 54
    · have hg_f : l[k]? = some (l[k]'(by have := HL.out; omega)) := List.getElem?_eq_getElem _
      obtain ⟨b_f, off_f, rfl, hbb_f, hc_f⟩ := (hrd2).elem Acc.cells_len hg_f hlt
      have HT_f := Lib.hid (show l.take (k + 1) = l.take k ++ [(l[k]'(by have := HL.out; omega))] from List.take_succ_eq_append_getElem (by have := HL.out; omega))
      have HD_f := Lib.hid (show l.drop k = (l[k]'(by have := HL.out; omega)) :: l.drop (k + 1) from List.drop_eq_getElem_cons (by have := HL.out; omega))
      have HM_f := Lib.hid (show (l[k]'(by have := HL.out; omega)) ∈ l from List.getElem_mem _)
      generalize (l[k]'(by have := HL.out; omega)) = f at *
      have c0 := hc_f 0 _ rfl
      have c1 := hc_f 1 _ rfl
      clear hc_f hg_f
      simp only [Nat.add_zero] at c0
      have HF := Lib.hid (fun w => refName_any f w)
      go_wp2_with fail
      refine (HF.out _).mono ?_
      rintro e w2 ⟨rfl, hb2⟩
      have hb3 := Below.past hb hb2 hb.size
      by_cases he : nameA f = s
      · have HR : Hid (R = (k : Int)) := Lib.hid (by rw [← hI.out, HD_f.out, idxN, if_pos he])
        have q := congrArg (fun l : List UInt8 => (⟨l.toArray⟩ : ByteArray)) he
        rw [q]
        go_wp2_with fail
        go_ret
        rw [HR.out]
        exact ⟨rfl, Below.next hb1 hb3⟩
      · have HI2 : Hid (idxN s (k + 1) (l.drop (k + 1)) = R) := Lib.hid (by rw [← hI.out, HD_f.out, idxN, if_neg he])
        have q : (nameA f == s) = false := by simpa using he
        clear he
        go_wp2_with fail
        go_roundw
        case rel => exact ⟨k + 1, by omega, by go_num, HI2, hb3⟩
        case measure => simp [intOf]; omega
    · have HR : Hid (R = -1) := Lib.hid (by rw [← hI.out, List.drop_eq_nil_of_le (by have := HL.out; omega), idxN])
      go_wp2_with fail
      go_ret
      rw [HR.out]
      exact ⟨rfl, Below.next hb1 hb⟩
end Go.Proofs.YtehemhpfdajbdaaDoor
