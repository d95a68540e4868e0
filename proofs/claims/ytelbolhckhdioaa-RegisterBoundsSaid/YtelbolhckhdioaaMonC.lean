import Derived.Test.YtelbolhckhdioaaMonB
namespace Go.Proofs.Ytelbolhckhdioaa
open Go.RowKit

set_option maxHeartbeats 1000000 in
theorem halves_any (a : Int) (ha : inI a) (w : World) :
    Calls Try.prog 113 #[.int .i64 a] w fun e w' => e = .returned (.tuple #[.int .i64 (a / 4294967296), .int .i64 (a % 4294967296)]) ∧ w = w' := by
  obtain ⟨a1, a2⟩ := ha
  by_cases h0 : 0 ≤ a
  · go_enter Try.func113, Try.ntmps113
    go_wp2
    go_ret2
    exact ⟨ret2 (by omega) (by omega), rfl⟩
  · have hq := Int.tmod_add_mul_tdiv a 4294967296
    have ht : a.tmod 4294967296 = -((-a) % 4294967296) := by
      have := Int.neg_tmod (-a) 4294967296
      rw [Int.neg_neg] at this
      rw [this, Int.tmod_eq_emod_of_nonneg (by omega)]
    have hm0 : a.tmod 4294967296 ≤ 0 := by omega
    have hm1 : -4294967296 < a.tmod 4294967296 := by omega
    clear ht
    obtain ⟨m, hm⟩ : ∃ m, Hid (a.tmod 4294967296 = m) := ⟨_, rfl⟩
    rw [hm.out] at hq hm0 hm1
    generalize a.tdiv 4294967296 = q at hq
    by_cases h1 : m < 0
    · have e1 : (a - (m + 4294967296)).tdiv 4294967296 = q - 1 := by
        rw [show a - (m + 4294967296) = 4294967296 * (q - 1) by omega]
        exact Int.mul_tdiv_cancel_left _ (by omega)
      have HQ := Lib.hid (show a / 4294967296 = q - 1 by omega)
      have HR := Lib.hid (show a % 4294967296 = m + 4294967296 by omega)
      have q1 : -9223372036854775808 ≤ q - 1 := by omega
      have q2 : q - 1 ≤ 9223372036854775807 := by omega
      have w1 : -9223372036854775808 ≤ a - (m + 4294967296) := by omega
      have hmm := hm.out
      clear hq
      go_enter Try.func113, Try.ntmps113
      go_wp2
      go_ret2
      exact ⟨ret2 HQ.out.symm HR.out.symm, rfl⟩
    · have h2 : m = 0 := by omega
      subst h2
      have e1 : a.tdiv 4294967296 = q := by
        rw [show a = 4294967296 * q by omega]
        exact Int.mul_tdiv_cancel_left _ (by omega)
      have HQ := Lib.hid (show a / 4294967296 = q by omega)
      have HR := Lib.hid (show a % 4294967296 = 0 by omega)
      have q1 : -9223372036854775808 ≤ q := by omega
      have q2 : q ≤ 9223372036854775807 := by omega
      have hmm := hm.out
      clear hq
      go_enter Try.func113, Try.ntmps113
      go_wp2
      go_ret2
      exact ⟨ret2 HQ.out.symm HR.out.symm, rfl⟩

theorem bool2 {z : Int} {a : Int} {b c : Bool} (h : z = a) (h' : b = c) : Ending.returned (.tuple #[.int .i64 z, .bool b]) = .returned (.tuple #[.int .i64 a, .bool c]) := by rw [h, h']

set_option maxHeartbeats 1000000 in
theorem whole_any (h l : Int) (h1 : -2147483648000 ≤ h) (h2 : h ≤ 2147483648000) (l1 : 0 ≤ l) (l2 : l ≤ 4294967296000) (w : World) :
    Calls Try.prog 114 #[.int .i64 h, .int .i64 l] w fun e w' => e = .returned (.tuple #[.int .i64 (amount (h * 4294967296 + l)), .bool (decide (inI (h * 4294967296 + l)))]) ∧ w = w' := by
  obtain ⟨c, hc⟩ : ∃ c, Hid (l / 4294967296 = c) := ⟨_, rfl⟩
  obtain ⟨r, hr⟩ : ∃ c, Hid (l % 4294967296 = c) := ⟨_, rfl⟩
  have c0 : 0 ≤ c ∧ c ≤ 1000 := by rw [← hc.out]; omega
  have r0 : 0 ≤ r ∧ r < 4294967296 := by rw [← hr.out]; omega
  have HV : Hid (h * 4294967296 + l = (h + c) * 4294967296 + r) := by show _ = _; rw [← hc.out, ← hr.out]; omega
  obtain ⟨c1, c2⟩ := c0
  obtain ⟨r1, r2⟩ := r0
  by_cases hlo : h + c < -2147483648
  · have HA := Lib.hid (amount_out (z := h * 4294967296 + l) (by rw [HV.out]; unfold inI; omega))
    have HI := Lib.hid (show ¬ inI (h * 4294967296 + l) by rw [HV.out]; unfold inI; omega)
    go_enter Try.func114, Try.ntmps114
    go_wp2_with fail
    refine (halves_any l ⟨by omega, by omega⟩ _).mono ?_
    rw [hc.out, hr.out]
    rintro e w' ⟨rfl, rfl⟩
    go_wp2
    go_ret2
    exact ⟨bool2 HA.out.1.symm (dec_f HI.out).symm, rfl⟩
  by_cases hhi : 2147483647 < h + c
  · have HA := Lib.hid (amount_out (z := h * 4294967296 + l) (by rw [HV.out]; unfold inI; omega))
    have HI := Lib.hid (show ¬ inI (h * 4294967296 + l) by rw [HV.out]; unfold inI; omega)
    go_enter Try.func114, Try.ntmps114
    go_wp2_with fail
    refine (halves_any l ⟨by omega, by omega⟩ _).mono ?_
    rw [hc.out, hr.out]
    rintro e w' ⟨rfl, rfl⟩
    go_wp2
    go_ret2
    exact ⟨bool2 HA.out.1.symm (dec_f HI.out).symm, rfl⟩
  · have hin : inI (h * 4294967296 + l) := by rw [HV.out]; unfold inI; omega
    have HA := Lib.hid (amount_in hin)
    have HI := Lib.hid hin
    clear hin
    go_enter Try.func114, Try.ntmps114
    go_wp2_with fail
    refine (halves_any l ⟨by omega, by omega⟩ _).mono ?_
    rw [hc.out, hr.out]
    rintro e w' ⟨rfl, rfl⟩
    go_wp2
    go_ret2
    exact ⟨bool2 (by rw [HA.out.1, HV.out]) (dec_t HI.out).symm, rfl⟩

def hiH (l : List Int) : Int := (l.map (· / 4294967296)).sum
def loH (l : List Int) : Int := (l.map (· % 4294967296)).sum
theorem hilo (l : List Int) : l.sum = hiH l * 4294967296 + loH l := by
  induction l with
  | nil => rfl
  | cons x l ih => simp only [hiH, loH, List.map_cons, List.sum_cons] at ih ⊢; rw [ih]; omega
theorem hilo_bd (l : List Int) (h : ∀ x ∈ l, inI x) : -(2147483648 * (l.length : Int)) ≤ hiH l ∧ hiH l ≤ 2147483648 * (l.length : Int) ∧ 0 ≤ loH l ∧ loH l ≤ 4294967296 * (l.length : Int) := by
  induction l with
  | nil => simp [hiH, loH]
  | cons x l ih =>
    have hx : inI x := h x (List.mem_cons_self ..)
    obtain ⟨h1, h2⟩ := hx
    have := ih fun y hy => h y (List.mem_cons_of_mem _ hy)
    simp only [hiH, loH, List.map_cons, List.sum_cons, List.length_cons] at this ⊢; omega
theorem hiH_snoc (l : List Int) (x : Int) : hiH (l ++ [x]) = hiH l + x / 4294967296 := by simp [hiH]
theorem loH_snoc (l : List Int) (x : Int) : loH (l ++ [x]) = loH l + x % 4294967296 := by simp [loH]

set_option maxRecDepth 10000 in
set_option maxHeartbeats 1000000 in
theorem refSum_any (A : Option Addr) (n c : Nat) (l : List Int) (w : World) (hr : Rd w w.heap.size 1 A n (l.flatMap i64Cells)) (hn : n ≤ 1000) (hg : ∀ x ∈ l, inI x) :
    Calls Try.prog 58 #[.slice A n c] w fun e w' => e = .returned (.tuple #[.int .i64 (amount l.sum), .int .i64 (over l.sum)]) ∧ w = w' := by
  have HL := Lib.hid (hr.len i64Cells_len (by omega))
  have HG := Lib.hid hg
  clear hg
  have hbk : ∀ k, k ≤ n → (-(2147483648 * (k : Int)) ≤ hiH (l.take k) ∧ hiH (l.take k) ≤ 2147483648 * (k : Int) ∧ 0 ≤ loH (l.take k) ∧ loH (l.take k) ≤ 4294967296 * (k : Int)) := by
    intro k hk
    have := hilo_bd (l.take k) (fun x hx => HG.out x (List.mem_of_mem_take hx))
    rw [List.length_take, Nat.min_eq_left (by have := HL.out; omega)] at this
    exact this
  have Hhbk := Lib.hid hbk
  clear hbk
  go_enter Try.func58, Try.ntmps58
  go_wp2_with fail
  go_loop [4, 5, 6] (fun h lo i => ∃ k : Nat, k ≤ n ∧ i = .int .i64 k ∧ h = .int .i64 (hiH (l.take k)) ∧ lo = .int .i64 (loH (l.take k))) (fun _ _ i => n - (intOf i).toNat)
  case atStart => exact ⟨0, Nat.zero_le _, rfl, rfl, rfl⟩
  case round =>
    obtain ⟨k, hk, rfl, rfl, rfl⟩ := hrel
    have hb := Hhbk.out k hk
    by_cases hlt : k < n
    · have hg_f : l[k]? = some (l[k]'(by have := HL.out; omega)) := List.getElem?_eq_getElem _
      obtain ⟨b_f, off_f, rfl, hbb_f, hc_f⟩ := (hr).elem i64Cells_len hg_f hlt
      have HT_f := Lib.hid (show l.take (k + 1) = l.take k ++ [(l[k]'(by have := HL.out; omega))] from List.take_succ_eq_append_getElem (by have := HL.out; omega))
      have HM_f := Lib.hid (show (l[k]'(by have := HL.out; omega)) ∈ l from List.getElem_mem _)
      generalize (l[k]'(by have := HL.out; omega)) = f at *
      have c0 := hc_f 0 _ rfl
      clear hc_f hg_f
      simp only [Nat.add_zero, Nat.mul_one] at c0
      have hf := HG.out f HM_f.out
      have hb2 := Hhbk.out (k + 1) (by omega)
      have H1 : Hid (hiH (l.take (k + 1)) = hiH (l.take k) + f / 4294967296) := by rw [HT_f.out]; exact hiH_snoc _ _
      have H2 : Hid (loH (l.take (k + 1)) = loH (l.take k) + f % 4294967296) := by rw [HT_f.out]; exact loH_snoc _ _
      rw [H1.out, H2.out] at hb2
      generalize hiH (l.take k) = h at *
      generalize loH (l.take k) = lo at *
      by_cases hmin : f = -9223372036854775808
      · have q : (f != -9223372036854775808) = false := by simp [hmin]
        have e1 := Lib.hid (show f / 4294967296 = -2147483648 by omega)
        have e2 := Lib.hid (show f % 4294967296 = 0 by omega)
        rw [e1.out] at hb2 H1
        rw [e2.out] at hb2 H2
        clear hmin
        go_wp2_with fail
        go_round
        case rel => exact ⟨k + 1, by omega, by go_num, by rw [H1.out], by rw [H2.out]; simp⟩
        case measure => simp [intOf]; omega
      · have q : (f != -9223372036854775808) = true := by simp [hmin]
        obtain ⟨x, hx⟩ : ∃ c, Hid (f / 4294967296 = c) := ⟨_, rfl⟩
        obtain ⟨y, hy⟩ : ∃ c, Hid (f % 4294967296 = c) := ⟨_, rfl⟩
        rw [hx.out] at hb2 H1
        rw [hy.out] at hb2 H2
        clear hmin
        go_wp2_with fail
        refine (halves_any f hf _).mono ?_
        rw [hx.out, hy.out]
        rintro e w' ⟨rfl, rfl⟩
        go_wp2_with fail
        go_round
        case rel => exact ⟨k + 1, by omega, by go_num, by rw [H1.out], by rw [H2.out]⟩
        case measure => simp [intOf]; omega
    · have hall : l.take k = l := List.take_of_length_le (by have := HL.out; omega)
      rw [hall] at hb ⊢
      clear hall
      have HS := Lib.hid (hilo l)
      obtain ⟨S, hS⟩ : ∃ S, Hid (hiH l * 4294967296 + loH l = S) := ⟨_, rfl⟩
      rw [hS.out] at HS
      generalize hiH l = h at *
      generalize loH l = lo at *
      obtain ⟨x_HI, HI⟩ : ∃ x, Hid (decide (inI S) = x) := ⟨_, rfl⟩
      cases x_HI
      all_goals
        go_wp2_with fail
        refine (whole_any h lo (by omega) (by omega) (by omega) (by omega) _).mono ?_
        rw [hS.out, HI.out]
        rintro e w' ⟨rfl, rfl⟩
        go_wp2_with fail
        go_ret2
        rw [HS.out]
      · have hno : ¬ inI S := of_decide_eq_false HI.out
        exact ⟨ret2 (amount_out hno).1.symm (amount_out hno).2.symm, rfl⟩
      · have hyes : inI S := of_decide_eq_true HI.out
        exact ⟨ret2 rfl (amount_in hyes).2.symm, rfl⟩
end Go.Proofs.Ytelbolhckhdioaa
