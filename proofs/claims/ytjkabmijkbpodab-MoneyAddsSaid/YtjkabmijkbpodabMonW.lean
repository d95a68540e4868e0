import Derived.Test.YtjkabmijkbpodabMonV
import Derived.Test.YtjkabmijkbpodabBitsX
namespace Go.Proofs.Ytjkabmijkbpodab
open Go.RowKit

set_option maxHeartbeats 2000000 in
theorem moneyAdds_any (a b : Int) (ha : inI a) (hb : inI b) (w : World) :
    Calls Try.prog 6 #[.int .i64 a, .int .i64 b] w fun e w' => e = .returned (.bool true) ∧ Below w.heap.size w w' := by
  obtain ⟨s, hs⟩ : ∃ p, Hid (amount (a + b) = p) := ⟨_, rfl⟩
  obtain ⟨o, ho⟩ : ∃ p, Hid (over (a + b) = p) := ⟨_, rfl⟩
  obtain ⟨d, hd⟩ : ∃ p, Hid (amount (a - b) = p) := ⟨_, rfl⟩
  obtain ⟨q, hq⟩ : ∃ p, Hid (over (a - b) = p) := ⟨_, rfl⟩
  have hs' : Hid (amount [a, b].sum = s) := Lib.hid (by rw [← hs.out]; simp)
  have ho' : Hid (over [a, b].sum = o) := Lib.hid (by rw [← ho.out]; simp)
  have esum : [a, 1, -b - 1].sum = a - b := by simp; omega
  have hd' : Hid (amount [a, 1, -b - 1].sum = d) := Lib.hid (by rw [esum]; exact hd.out)
  have hq' : Hid (over [a, 1, -b - 1].sum = q) := Lib.hid (by rw [esum]; exact hq.out)
  obtain ⟨v, hv⟩ : ∃ p, Hid (overI a b = p) := ⟨_, rfl⟩
  have hl1 : Rd _ _ 1 _ 2 ([a, b].flatMap i64Cells) := Rd.lit (n := 2) (sz := 1) w #[.int .i64 a, .int .i64 b] 2 w.heap.size rfl rfl
  have hl2 : Rd _ _ 1 _ 3 ([a, 1, -b - 1].flatMap i64Cells) := Rd.lit (n := 3) (sz := 1) (w.alloc (.cells #[.int .i64 a, .int .i64 b] 2)) #[.int .i64 a, .int .i64 1, .int .i64 (-b - 1)] 2 (w.heap.size + 1) (by simp) rfl
  have HG2 : Hid (∀ x ∈ [a, 1, -b - 1], inI x) := Lib.hid (by obtain ⟨b1, b2⟩ := hb; intro x hx; simp at hx; rcases hx with rfl | rfl | rfl; exact ha; exact ⟨by omega, by omega⟩; exact ⟨by omega, by omega⟩)
  have HG1 : Hid (∀ x ∈ [a, b], inI x) := Lib.hid (by intro x hx; simp at hx; rcases hx with rfl | rfl; exact ha; exact hb)
  clear esum
  have hnot := bits_not b hb.1 hb.2
  have hB0 := ((Below.refl w.heap.size w).alloc (Nat.le_refl _) (.cells #[.int .i64 a, .int .i64 b] 2)).alloc (by simp) (.cells #[.int .i64 a, .int .i64 1, .int .i64 (-b - 1)] 2)
  have H1 := Lib.hid hl1
  have H2 := Lib.hid hl2
  clear hl1 hl2
  by_cases hab : a ≤ b
  · have HV : Hid (v = 0) := Lib.hid (by rw [← hv.out, overI, if_pos hab])
    have HL : Hid ((if a ≤ b then a else b) = a) := Lib.hid (if_pos hab)
    have qab := dec_t hab
    go_enter Try.func6, Try.ntmps6
    go_wp2_with fail
    refine (add_any a b ha hb _).mono ?_
    rw [hs.out, ho.out]
    rintro e w' ⟨rfl, rfl⟩
    go_wp2_with fail
    refine (refSum_any _ 2 2 [a, b] _ H1.out (by omega) HG1.out).mono ?_
    rw [hs'.out, ho'.out]
    rintro e w' ⟨rfl, rfl⟩
    go_wp2_with fail
    refine (sub_any a b ha hb _).mono ?_
    rw [hd.out, hq.out]
    rintro e w' ⟨rfl, rfl⟩
    go_wp2_with fail
    refine (refSum_any _ 3 3 [a, 1, -b - 1] _ H2.out (by omega) HG2.out).mono ?_
    rw [hd'.out, hq'.out]
    rintro e w' ⟨rfl, rfl⟩
    go_wp2_with fail
    refine (over_any a b ha hb _).mono ?_
    rw [hv.out]
    rintro e w' ⟨rfl, rfl⟩
    rw [HV.out]
    go_wp2_with fail
    refine (awake01 _).mono ?_
    rintro e w1 ⟨rfl, hb1⟩
    go_wp2_with fail
    refine (least_any a b _).mono ?_
    rw [HL.out]
    rintro e w' ⟨rfl, rfl⟩
    go_wp2_with fail
    go_ret
    exact ⟨rfl, Below.past hB0 hb1 hB0.size⟩
  · have HL : Hid ((if a ≤ b then a else b) = b) := Lib.hid (if_neg hab)
    have qab := dec_f hab
    by_cases hi : inI (a - b)
    · have HV : Hid (v = a - b) := Lib.hid (by rw [← hv.out, overI, if_neg hab, if_pos hi])
      have HA := Lib.hid (amount_in hi)
      have HD : Hid (d = a - b) := Lib.hid (by rw [← hd.out, HA.out.1])
      have HQ : Hid (q = 0) := Lib.hid (by rw [← hq.out, HA.out.2])
      rw [HD.out] at hd hd'
      rw [HQ.out] at hq hq'
      rw [HV.out] at hv
      clear hi HV HD HQ
      go_enter Try.func6, Try.ntmps6
      go_wp2_with fail
      refine (add_any a b ha hb _).mono ?_
      rw [hs.out, ho.out]
      rintro e w' ⟨rfl, rfl⟩
      go_wp2_with fail
      refine (refSum_any _ 2 2 [a, b] _ H1.out (by omega) HG1.out).mono ?_
      rw [hs'.out, ho'.out]
      rintro e w' ⟨rfl, rfl⟩
      go_wp2_with fail
      refine (sub_any a b ha hb _).mono ?_
      rw [hd.out, hq.out]
      rintro e w' ⟨rfl, rfl⟩
      go_wp2_with fail
      refine (refSum_any _ 3 3 [a, 1, -b - 1] _ H2.out (by omega) HG2.out).mono ?_
      rw [hd'.out, hq'.out]
      rintro e w' ⟨rfl, rfl⟩
      go_wp2_with fail
      refine (over_any a b ha hb _).mono ?_
      rw [hv.out]
      rintro e w' ⟨rfl, rfl⟩
      go_wp2_with fail
      refine (awake01 _).mono ?_
      rintro e w1 ⟨rfl, hb1⟩
      go_wp2_with fail
      refine (least_any a b _).mono ?_
      rw [HL.out]
      rintro e w' ⟨rfl, rfl⟩
      go_wp2_with fail
      go_ret
      exact ⟨rfl, Below.past hB0 hb1 hB0.size⟩
    · have HV : Hid (v = 9223372036854775807) := Lib.hid (by rw [← hv.out, overI, if_neg hab, if_neg hi])
      have HA := Lib.hid (amount_out hi)
      have HD : Hid (d = 0) := Lib.hid (by rw [← hd.out, HA.out.1])
      have HQ : Hid (q = 2) := Lib.hid (by rw [← hq.out, HA.out.2])
      rw [HD.out] at hd hd'
      rw [HQ.out] at hq hq'
      rw [HV.out] at hv
      clear hi HV HD HQ
      go_enter Try.func6, Try.ntmps6
      go_wp2_with fail
      refine (add_any a b ha hb _).mono ?_
      rw [hs.out, ho.out]
      rintro e w' ⟨rfl, rfl⟩
      go_wp2_with fail
      refine (refSum_any _ 2 2 [a, b] _ H1.out (by omega) HG1.out).mono ?_
      rw [hs'.out, ho'.out]
      rintro e w' ⟨rfl, rfl⟩
      go_wp2_with fail
      refine (sub_any a b ha hb _).mono ?_
      rw [hd.out, hq.out]
      rintro e w' ⟨rfl, rfl⟩
      go_wp2_with fail
      refine (refSum_any _ 3 3 [a, 1, -b - 1] _ H2.out (by omega) HG2.out).mono ?_
      rw [hd'.out, hq'.out]
      rintro e w' ⟨rfl, rfl⟩
      go_wp2_with fail
      refine (over_any a b ha hb _).mono ?_
      rw [hv.out]
      rintro e w' ⟨rfl, rfl⟩
      go_wp2_with fail
      refine (awake01 _).mono ?_
      rintro e w1 ⟨rfl, hb1⟩
      go_wp2_with fail
      refine (least_any a b _).mono ?_
      rw [HL.out]
      rintro e w' ⟨rfl, rfl⟩
      go_wp2_with fail
      go_ret
      exact ⟨rfl, Below.past hB0 hb1 hB0.size⟩
end Go.Proofs.Ytjkabmijkbpodab
