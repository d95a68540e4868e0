import Derived.Test.YtoohfbgbhjadgaaMrgD
namespace Go.Proofs.Ytoohfbgbhjadgaa
open Go.RowKit

set_option maxHeartbeats 8000000 in
set_option maxRecDepth 100000 in
theorem merge_other (A1 : Option Addr) (n1 c1 : Nat) (A2 : Option Addr) (n2 c2 : Nat) (va vb : List KeyV) (w : World) (hr1 : Rd w w.heap.size 1 A1 n1 (va.flatMap KeyV.cells)) (hr2 : Rd w w.heap.size 1 A2 n2 (vb.flatMap KeyV.cells)) (hk1 : KeysRd w w.heap.size va) (hk2 : KeysRd w w.heap.size vb) (h1 : A1 = none → n1 = 0 ∧ c1 = 0) (h2 : A2 = none → n2 = 0 ∧ c2 = 0) (hn1 : n1 ≤ 400) (hn2 : n2 ≤ 400)
    (hra : ¬ (riK (keysOf va) false n1 = true ∧ riK (keysOf vb) false n2 = true)) :
    Calls Try.prog 25 #[.slice A1 n1 c1, .slice A2 n2 c2] w (MrgPost w (keysOf va) (keysOf vb) (n1 + n2)) := by
  have hp : 0 < n1 + n2 := by
    rcases Nat.eq_zero_or_pos (n1 + n2) with h0 | h0
    · obtain rfl : n1 = 0 := by omega
      obtain rfl : n2 = 0 := by omega
      exact absurd ⟨rfl, rfl⟩ hra
    · exact h0
  have HC1 := Lib.hid (rises_any A1 n1 c1 false va w.heap.size w hr1 hk1 (by omega))
  have HC2 := Lib.hid (fun w' (hd : Drawn w w') => rises_any A2 n2 c2 false vb w.heap.size w' (hr2.keep fun p _ => hd.keep p) (hk2.keep fun p _ => hd.keep p) (by omega))
  have HRA := Lib.hid hra
  have HE1 := Lib.hid h1
  have HE2 := Lib.hid h2
  have HK1 := Lib.hid hk1
  have HK2 := Lib.hid hk2
  have HFIN : Hid (∀ W, Drawn w W → Calls Try.prog 65 #[.slice (some ⟨W.heap.size, 0, none⟩) 2 2] (W.alloc (.cells #[.slice A1 n1 c1, .slice A2 n2 c2] 26)) fun e w' => ∃ A c, e = .returned (.slice A (n1 + n2) c) ∧ Hid (Rd w' w'.heap.size 1 A (n1 + n2) ((va ++ vb).flatMap KeyV.cells)) ∧ Hid (KeysRd w' w'.heap.size (va ++ vb)) ∧ Below w.heap.size w w') := Lib.hid (fun W hd => by
    have hB := (hd.bel).alloc (hd.bel).size (.cells #[.slice A1 n1 c1, .slice A2 n2 c2] 26)
    have hl := Rd.lit (n := 2) (sz := 1) W #[.slice A1 n1 c1, .slice A2 n2 c2] 26 W.heap.size rfl rfl
    refine (concat_any A1 n1 c1 A2 n2 c2 va vb W.heap.size 0 2 _ hl (hr1.past hB) (hr2.past hB) HE1.out HE2.out hn1 hn2 hp).mono ?_
    rintro e w' ⟨v, rfl, hown, hb⟩
    obtain ⟨A, c, rfl⟩ := own_form hown
    have hbb := Below.past hB hb hB.size
    refine ⟨A, c, rfl, Lib.hid (Rd.of_own hown), Lib.hid (fun v hv => ?_), hbb⟩
    rcases List.mem_append.1 hv with hv | hv
    · exact (HK1.out.past hbb) v hv
    · exact (HK2.out.past hbb) v hv)
  clear hra h1 h2 hk1 hk2 hr1 hr2
  cases hR1 : riK (keysOf va) false n1 with
  | false =>
    rw [hR1] at HC1
    clear hR1
    go_enter Try.func25, Try.ntmps25
    go_wp2_with fail
    go_step3
    go_wp2_with fail
    refine HC1.out.mono ?_
    rintro e w1 ⟨rfl, hd1⟩
    have HF := Lib.hid (HFIN.out w1 hd1)
    clear hd1
    go_wp2_with fail
    refine HF.out.mono ?_
    rintro e w3 ⟨A, c, rfl, hrd, hks, hb3⟩
    have HO := Lib.hid (order_any A (n1 + n2) c (va ++ vb) w3 hrd.out hks.out (by omega))
    go_wp2_with fail
    refine HO.out.mono ?_
    rintro e w4 ⟨A', c', rfl, ho, hb4, _⟩
    have HD := Lib.hid ho
    clear ho
    go_wp2_with fail
    go_ret
    exact ⟨_, _, rfl, by have := HD.out; rw [show keysOf (va ++ vb) = keysOf va ++ keysOf vb by simp [keysOf]] at this; exact this, Below.next hb3 hb4⟩
  | true =>
    have hR2 : riK (keysOf vb) false n2 = false := by
      cases h : riK (keysOf vb) false n2 with
      | false => rfl
      | true => exact absurd ⟨hR1, h⟩ HRA.out
    rw [hR1] at HC1
    rw [hR2] at HC2
    clear hR1 hR2
    go_enter Try.func25, Try.ntmps25
    go_wp2_with fail
    go_step3
    go_wp2_with fail
    refine HC1.out.mono ?_
    rintro e w1 ⟨rfl, hd1⟩
    have HD1 := Lib.hid hd1
    clear hd1
    go_wp2_with fail
    refine (HC2.out w1 HD1.out).mono ?_
    rintro e w2 ⟨rfl, hd2⟩
    have HF := Lib.hid (HFIN.out w2 (HD1.out.trans hd2))
    clear hd2
    go_wp2_with fail
    refine HF.out.mono ?_
    rintro e w3 ⟨A, c, rfl, hrd, hks, hb3⟩
    have HO := Lib.hid (order_any A (n1 + n2) c (va ++ vb) w3 hrd.out hks.out (by omega))
    go_wp2_with fail
    refine HO.out.mono ?_
    rintro e w4 ⟨A', c', rfl, ho, hb4, _⟩
    have HD := Lib.hid ho
    clear ho
    go_wp2_with fail
    go_ret
    exact ⟨_, _, rfl, by have := HD.out; rw [show keysOf (va ++ vb) = keysOf va ++ keysOf vb by simp [keysOf]] at this; exact this, Below.next hb3 hb4⟩

theorem merge_any (A1 : Option Addr) (n1 c1 : Nat) (A2 : Option Addr) (n2 c2 : Nat) (va vb : List KeyV) (w : World) (hr1 : Rd w w.heap.size 1 A1 n1 (va.flatMap KeyV.cells)) (hr2 : Rd w w.heap.size 1 A2 n2 (vb.flatMap KeyV.cells)) (hk1 : KeysRd w w.heap.size va) (hk2 : KeysRd w w.heap.size vb) (h1 : A1 = none → n1 = 0 ∧ c1 = 0) (h2 : A2 = none → n2 = 0 ∧ c2 = 0) (hn1 : n1 ≤ 400) (hn2 : n2 ≤ 400) :
    Calls Try.prog 25 #[.slice A1 n1 c1, .slice A2 n2 c2] w (MrgPost w (keysOf va) (keysOf vb) (n1 + n2)) := by
  by_cases h : riK (keysOf va) false n1 = true ∧ riK (keysOf vb) false n2 = true
  · exact merge_rising A1 n1 c1 A2 n2 c2 va vb w hr1 hr2 hk1 hk2 (by omega) (by omega) h.1 h.2
  · exact merge_other A1 n1 c1 A2 n2 c2 va vb w hr1 hr2 hk1 hk2 h1 h2 hn1 hn2 h
end Go.Proofs.Ytoohfbgbhjadgaa
