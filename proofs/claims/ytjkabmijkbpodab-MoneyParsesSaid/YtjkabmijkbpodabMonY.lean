import Derived.Test.YtjkabmijkbpodabTxtR
import Derived.Test.YtjkabmijkbpodabMonX
namespace Go.Proofs.Ytjkabmijkbpodab
open Go.RowKit

/-- A number that is a word, and whether it is one. -/
def SomeWord (w : World) (e : Ending) (w' : World) : Prop := ∃ (n : Int) (b : Bool), 0 ≤ n ∧ n < 18446744073709551616 ∧ e = .returned (.tuple #[.int .u64 n, .bool b]) ∧ w = w'

theorem add64_at (lo d : Int) (h1 : 0 ≤ lo) (h2 : 0 ≤ d) (w : World) : (callFunc 63 #[.int .u64 lo, .int .u64 d, .int .u64 0]).run Try.prog w =
    .ok (.value (.tuple #[.int .u64 ((lo + d) % 18446744073709551616), .int .u64 ((lo + d) / 18446744073709551616)])) w := by
  have := add64_run lo d 0 h1 h2 (by omega) (by omega) w
  rwa [Int.add_zero] at this

/-- What one digit more makes of a number: the walk's words. -/
theorem digit_more (m d : Int) (m0 : 0 ≤ m) (m1 : m < 18446744073709551616) (d0 : 0 ≤ d) (d1 : d ≤ 9) :
    ∃ hi lo s c : Int, Hid (m * 10 / 18446744073709551616 = hi) ∧ Hid (m * 10 % 18446744073709551616 = lo) ∧ Hid ((lo + d) % 18446744073709551616 = s) ∧ Hid ((lo + d) / 18446744073709551616 = c) ∧ 0 ≤ hi ∧ hi ≤ 9 ∧ 0 ≤ lo ∧ lo < 18446744073709551616 ∧ 0 ≤ s ∧ s < 18446744073709551616 ∧ 0 ≤ c ∧ c ≤ 1 ∧ (m * 10 + d < 18446744073709551616 → hi + c = 0 ∧ s = m * 10 + d) ∧ (¬ m * 10 + d < 18446744073709551616 → hi + c ≠ 0) := by
  refine ⟨_, _, _, _, rfl, rfl, rfl, rfl, ?_, ?_, ?_, ?_, ?_, ?_, ?_, ?_, ?_, ?_⟩ <;> omega

set_option maxHeartbeats 1000000 in
theorem number_some (s : ByteArray) (hs : s.size ≤ 1000) (w : World) : Calls Try.prog 70 #[.string s] w (SomeWord w) := by
  go_enter Try.func70, Try.ntmps70
  go_wp2_with fail
  go_loop [4, 13] (fun n i => ∃ (k : Nat) (m : Int), k ≤ s.size ∧ i = .int .i64 k ∧ 0 ≤ m ∧ m < 18446744073709551616 ∧ n = .int .u64 m) (fun _ i => s.size - (intOf i).toNat)
  case atStart => exact ⟨0, 0, Nat.zero_le _, rfl, by omega, by omega, rfl⟩
  case round =>
    obtain ⟨k, m, hk, rfl, m0, m1, rfl⟩ := hrel
    by_cases hlt : k < s.size
    · by_cases h1 : (s[k].toNat : Int) < 48
      · have q1 := dec_t h1
        go_wp2_with fail
        go_ret2
        exact ⟨0, false, by omega, by omega, rfl, rfl⟩
      · have q1 := dec_f h1
        by_cases h2 : (57 : Int) < (s[k].toNat : Int)
        · have q2 := dec_t h2
          go_wp2_with fail
          go_ret2
          exact ⟨0, false, by omega, by omega, rfl, rfl⟩
        · have q2 := dec_f h2
          obtain ⟨hi, lo, t, c, hhi, hlo, ht, hc, b1, b2, b3, b4, b5, b6, b7, b8, _, _⟩ := digit_more m ((s[k].toNat : Int) - 48) m0 m1 (by omega) (by omega)
          have hadd := fun w => add64_at lo ((s[k].toNat : Int) - 48) b3 (by omega) w
          rw [ht.out, hc.out] at hadd
          go_wp2_with fail
          refine (mul64_any m 10 m0 m1 (by omega) (by omega) _).mono ?_
          rw [hhi.out, hlo.out]
          rintro e w' ⟨rfl, rfl⟩
          by_cases hz : hi + c = 0
          · have q3 : (hi + c == 0) = true := by simpa using hz
            clear hz
            go_wp2_with fail
            go_round
            case rel => exact ⟨k + 1, t, by omega, by go_num, by omega, by omega, rfl⟩
            case measure => simp [intOf]; omega
          · have q3 : (hi + c == 0) = false := by simpa using hz
            clear hz
            go_wp2_with fail
            go_ret2
            exact ⟨0, false, by omega, by omega, rfl, rfl⟩
    · go_wp2_with fail
      go_ret2
      exact ⟨m, _, by omega, by omega, rfl, rfl⟩

theorem len_bytes (s : ByteArray) : s.data.toList.length = s.size := Array.length_toList
theorem take_byte (s : ByteArray) (k : Nat) (h : k < s.size) : s.data.toList.take (k + 1) = s.data.toList.take k ++ [s[k]] := by
  rw [List.take_succ_eq_append_getElem (by simpa using h)]; rfl

set_option maxHeartbeats 1000000 in
theorem number_yes (s : ByteArray) (N : Nat) (hs : s.size ≤ 1000) (h0 : 0 < s.size) (hd : ∀ c ∈ s.data.toList, 48 ≤ c.toNat ∧ c.toNat ≤ 57) (hV : numV s.data.toList 0 = N) (hN : N < 18446744073709551616) (w : World) :
    Calls Try.prog 70 #[.string s] w fun e w' => e = .returned (.tuple #[.int .u64 N, .bool true]) ∧ w = w' := by
  have HD := Lib.hid hd
  have HV := Lib.hid hV
  clear hd hV
  go_enter Try.func70, Try.ntmps70
  go_wp2_with fail
  go_loop [4, 13] (fun n i => ∃ (k m : Nat), k ≤ s.size ∧ i = .int .i64 k ∧ Hid (numV (s.data.toList.take k) 0 = m) ∧ m ≤ N ∧ n = .int .u64 m) (fun _ i => s.size - (intOf i).toNat)
  case atStart => exact ⟨0, 0, Nat.zero_le _, rfl, Lib.hid rfl, Nat.zero_le _, rfl⟩
  case round =>
    obtain ⟨k, m, hk, rfl, hm, hmN, rfl⟩ := hrel
    by_cases hlt : k < s.size
    · have hb := HD.out s[k] (by have := List.getElem_mem (l := s.data.toList) (n := k) (by simpa using hlt); exact this)
      obtain ⟨hb1, hb2⟩ := hb
      have q1 : decide ((s[k].toNat : Int) < 48) = false := dec_f (by omega)
      have q2 : decide ((57 : Int) < (s[k].toNat : Int)) = false := dec_f (by omega)
      have HN : Hid (numV (s.data.toList.take (k + 1)) 0 = m * 10 + (s[k].toNat - 48)) := Lib.hid (by
        rw [take_byte s k hlt, numV_append, hm.out]; rfl)
      have hle := numV_take s.data.toList (k + 1)
      rw [HN.out, HV.out] at hle
      obtain ⟨hi, lo, t, c, hhi, hlo, ht, hc, b1, b2, b3, b4, b5, b6, b7, b8, hyes, _⟩ := digit_more (m : Int) ((s[k].toNat : Int) - 48) (by omega) (by omega) (by omega) (by omega)
      obtain ⟨hz, hts⟩ := hyes (by omega)
      have hadd := fun w => add64_at lo ((s[k].toNat : Int) - 48) b3 (by omega) w
      rw [ht.out, hc.out] at hadd
      have q3 : (hi + c == 0) = true := by simpa using hz
      have HTS := Lib.hid hts
      clear hz hts hyes
      go_wp2_with fail
      refine (mul64_any (m : Int) 10 (by omega) (by omega) (by omega) (by omega) _).mono ?_
      rw [hhi.out, hlo.out]
      rintro e w' ⟨rfl, rfl⟩
      go_wp2_with fail
      go_round
      case rel => exact ⟨k + 1, m * 10 + (s[k].toNat - 48), by omega, by go_num, HN, by omega, by have := HTS.out; rw [this]; congr 1; omega⟩
      case measure => simp [intOf]; omega
    · have hfin : Hid (m = N) := Lib.hid (by
        have := hm.out
        rw [List.take_of_length_le (by rw [len_bytes]; omega), HV.out] at this
        exact this.symm)
      have e1 : s.toList.isEmpty = false := by
        rw [ByteArray.toList_eq]
        cases h : s.data.toList with
        | nil => have := len_bytes s; rw [h] at this; simp at this; omega
        | cons a b => rfl
      go_wp2_with fail
      go_ret2
      rw [hfin.out]
      exact ⟨rfl, rfl⟩
end Go.Proofs.Ytjkabmijkbpodab
