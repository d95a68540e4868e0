import Derived.Test.YtjkabmijkbpodabMonU
import Derived.Test.YtjkabmijkbpodabMonE
namespace Go.Proofs.Ytjkabmijkbpodab
open Go.RowKit

set_option maxHeartbeats 400000 in
theorem add_any (a b : Int) (ha : inI a) (hb : inI b) (w : World) :
    Calls Try.prog 30 #[.int .i64 a, .int .i64 b] w fun e w' => e = .returned (.tuple #[.int .i64 (amount (a + b)), .int .i64 (over (a + b))]) ∧ w = w' := by
  obtain ⟨a1, a2⟩ := ha
  obtain ⟨b1, b2⟩ := hb
  by_cases hi : inI (a + b)
  · have HA := Lib.hid (amount_in hi)
    obtain ⟨s1, s2⟩ := hi
    by_cases h1 : a < 0 <;> by_cases h2 : b < 0
    all_goals
      first | have qa := dec_t h1 | have qa := dec_f h1
      first | have qb := dec_t h2 | have qb := dec_f h2
      first | have qs := dec_t (show a + b < 0 by omega) | have qs := dec_f (show ¬ a + b < 0 by omega) | skip
      go_enter Try.func30, Try.ntmps30
      go_wp2
      go_ret2
      exact ⟨ret2 HA.out.1.symm HA.out.2.symm, rfl⟩
  · have HA := Lib.hid (amount_out hi)
    unfold inI at hi
    by_cases h1 : a < 0
    · have qa := dec_t h1
      have qb := dec_t (show b < 0 by omega)
      have qs := dec_f (show ¬ wrap64 (a + b) < 0 by unfold wrap64; omega)
      clear hi
      go_enter Try.func30, Try.ntmps30
      go_wp2
      go_ret2
      exact ⟨ret2 HA.out.1.symm HA.out.2.symm, rfl⟩
    · have qa := dec_f h1
      have qb := dec_f (show ¬ b < 0 by omega)
      have qs := dec_t (show wrap64 (a + b) < 0 by unfold wrap64; omega)
      clear hi
      go_enter Try.func30, Try.ntmps30
      go_wp2
      go_ret2
      exact ⟨ret2 HA.out.1.symm HA.out.2.symm, rfl⟩

/-- By how much an amount is above another one. -/
def overI (a b : Int) : Int := if a ≤ b then 0 else if inI (a - b) then a - b else 9223372036854775807

set_option maxHeartbeats 400000 in
theorem over_any (a b : Int) (ha : inI a) (hb : inI b) (w : World) :
    Calls Try.prog 33 #[.int .i64 a, .int .i64 b] w fun e w' => e = .returned (.int .i64 (overI a b)) ∧ w = w' := by
  by_cases h : a ≤ b
  · have HN : Hid (overI a b = 0) := Lib.hid (if_pos h)
    have q := dec_t h
    go_enter Try.func33, Try.ntmps33
    go_wp2
    go_ret
    rw [HN.out]
    exact ⟨rfl, rfl⟩
  · have q := dec_f h
    by_cases hi : inI (a - b)
    · have HA := Lib.hid (amount_in hi)
      have HN : Hid (overI a b = a - b) := Lib.hid (by rw [overI, if_neg h, if_pos hi])
      clear hi
      go_enter Try.func33, Try.ntmps33
      go_wp2_with fail
      refine (sub_any a b ha hb _).mono ?_
      rintro e w' ⟨rfl, rfl⟩
      rw [HA.out.1, HA.out.2]
      go_wp2
      go_ret
      rw [HN.out]
      exact ⟨rfl, rfl⟩
    · have HA := Lib.hid (amount_out hi)
      have HN : Hid (overI a b = 9223372036854775807) := Lib.hid (by rw [overI, if_neg h, if_neg hi])
      clear hi
      go_enter Try.func33, Try.ntmps33
      go_wp2_with fail
      refine (sub_any a b ha hb _).mono ?_
      rintro e w' ⟨rfl, rfl⟩
      rw [HA.out.1, HA.out.2]
      go_wp2
      go_ret
      rw [HN.out]
      exact ⟨rfl, rfl⟩

set_option maxHeartbeats 400000 in
theorem least_any (a b : Int) (w : World) :
    Calls Try.prog 35 #[.int .i64 a, .int .i64 b] w fun e w' => e = .returned (.int .i64 (if a ≤ b then a else b)) ∧ w = w' := by
  by_cases h : a ≤ b
  · rw [if_pos h]
    go_enter Try.func35, Try.ntmps35
    go_wp2
    go_ret
    exact ⟨ret_int (by omega), rfl⟩
  · rw [if_neg h]
    go_enter Try.func35, Try.ntmps35
    go_wp2
    go_ret
    exact ⟨ret_int (by omega), rfl⟩

set_option maxHeartbeats 1000000 in
theorem moneyMuls_any (a b : Int) (ha : inI a) (hb : inI b) (w : World) :
    Calls Try.prog 7 #[.int .i64 a, .int .i64 b] w fun e w' => e = .returned (.bool true) ∧ Below w.heap.size w w' := by
  obtain ⟨p, hp⟩ : ∃ p, Hid (amount (a * b) = p) := ⟨_, rfl⟩
  obtain ⟨o, ho⟩ : ∃ p, Hid (over (a * b) = p) := ⟨_, rfl⟩
  obtain ⟨n, hn⟩ : ∃ p, Hid (amount (-a) = p) := ⟨_, rfl⟩
  obtain ⟨m, hm⟩ : ∃ p, Hid (over (-a) = p) := ⟨_, rfl⟩
  have hn' : Hid (amount (a * -1) = n) := Lib.hid (by rw [show a * -1 = -a by omega]; exact hn.out)
  have hm' : Hid (over (a * -1) = m) := Lib.hid (by rw [show a * -1 = -a by omega]; exact hm.out)
  obtain ⟨s, hs⟩ : ∃ p, Hid (sizeI a = p) := ⟨_, rfl⟩
  go_enter Try.func7, Try.ntmps7
  go_wp2_with fail
  refine (mul_any a b ha hb _).mono ?_
  rw [hp.out, ho.out]
  rintro e w' ⟨rfl, rfl⟩
  go_wp2_with fail
  refine (refMul_any a b ha hb _).mono ?_
  rw [hp.out, ho.out]
  rintro e w1 ⟨rfl, hb1⟩
  go_wp2_with fail
  refine (neg_any a ha _).mono ?_
  rw [hn.out, hm.out]
  rintro e w' ⟨rfl, rfl⟩
  go_wp2_with fail
  refine (refMul_any a (-1) ha (by decide) _).mono ?_
  rw [hn'.out, hm'.out]
  rintro e w2 ⟨rfl, hb2⟩
  have hB2 := Below.next hb1 hb2
  go_wp2_with fail
  refine (awake01 _).mono ?_
  rintro e w3 ⟨rfl, hb3⟩
  have hB3 := Below.next hB2 hb3
  go_wp2_with fail
  refine (size_any a ha.1 ha.2 _).mono ?_
  rw [hs.out]
  rintro e w' ⟨rfl, rfl⟩
  go_wp2_with fail
  refine (refSize_any a ha _).mono ?_
  rw [hs.out]
  rintro e w' ⟨rfl, rfl⟩
  go_wp2_with fail
  go_ret
  exact ⟨rfl, hB3⟩
end Go.Proofs.Ytjkabmijkbpodab
