import Derived.Test.YtjkabmijkbpodabMonZ
namespace Go.Proofs.Ytjkabmijkbpodab
open Go.RowKit

set_option maxRecDepth 10000 in
set_option maxHeartbeats 4000000 in
theorem refParse_no (l : List UInt8) (hl : l.length ≤ 100) (hno : ∀ a, inI a → textI a ≠ l) (w : World) :
    Calls Try.prog 49 #[.string ⟨l.toArray⟩] w fun e w' => e = .returned (.tuple #[.int .i64 0, .int .i64 3]) ∧ Below w.heap.size w w' := by
  have HNo := Lib.hid hno
  clear hno
  by_cases hm : ∃ h : 0 < (⟨l.toArray⟩ : ByteArray).size, (((⟨l.toArray⟩ : ByteArray)[0]'h).toNat : Int) = 45
  · obtain ⟨hs, hm⟩ := hm
    have q0 : ((((⟨l.toArray⟩ : ByteArray)[0]'hs).toNat : Int) == 45) = true := by rw [hm]; rfl
    have hs' : 0 < l.length := by simpa [ByteArray.size] using hs
    clear hm
    go_enter Try.func49, Try.ntmps49
    go_wp2_with fail
    obtain ⟨t, ht⟩ : ∃ t, Hid ((⟨l.toArray⟩ : ByteArray).extract 1 l.length = t) := ⟨_, Lib.hid rfl⟩
    rw [ht.out]
    obtain ⟨L, HL⟩ : ∃ L, Hid (t.size = L) := ⟨_, Lib.hid rfl⟩
    have hL : L ≤ 100 := by rw [← HL.out, ← ht.out]; simp [ByteArray.size_extract]; omega
    have hLe := HL.out
    go_loop [6, 7] (fun n i => ∃ (k : Nat) (z : Int), k ≤ L ∧ i = .int .i64 k ∧ -9223372036854775808 ≤ z ∧ z ≤ 0 ∧ n = .int .i64 z) (fun _ i => L - (intOf i).toNat)
    case atStart => exact ⟨0, 0, Nat.zero_le _, rfl, by omega, by omega, rfl⟩
    case round =>
      obtain ⟨k, z, hk, rfl, z0, z1, rfl⟩ := hrel
      by_cases hlt : k < L
      · have hltT : k < t.size := by have := HL.out; omega
        obtain ⟨c, hc⟩ : ∃ c : Int, Hid ((t[k].toNat : Int) = c) := ⟨_, Lib.hid rfl⟩
        have c1 : 0 ≤ c ∧ c < 256 := by rw [← hc.out]; have := t[k].toNat_lt; omega
        obtain ⟨c2, c3⟩ := c1
        have hcc := hc.out
        by_cases hd : c = 46 ∧ (k : Int) = L - 3
        · obtain ⟨d1, d2⟩ := hd
          have q1 : (c == 46) = true := by simp [d1]
          have q2 : ((k : Int) == (L : Int) - 3) = true := by simp [d2]
          clear d1 d2
          go_wp2_with fail
          go_round
          case rel => exact ⟨k + 1, z, by omega, by go_num, by omega, by omega, rfl⟩
          case measure => simp [intOf]; omega
        · have hdd : (c == 46) = false ∨ (c == 46) = true ∧ ((k : Int) == (L : Int) - 3) = false := by
            by_cases d1 : c = 46
            · right; simp only [d1, true_and] at hd; simp [d1, hd]
            · left; simp [d1]
          clear hd
          rcases hdd with q1 | ⟨q1, q2⟩
          all_goals
            by_cases b1 : c - 48 < 0
            · have p1 := dec_t b1
              go_wp2_with fail
              go_ret2
              exact ⟨rfl, Below.refl _ _⟩
            · have p1 := dec_f b1
              by_cases b2 : 9 < c - 48
              · have p2 := dec_t b2
                go_wp2_with fail
                go_ret2
                exact ⟨rfl, Below.refl _ _⟩
              · have p2 := dec_f b2
                by_cases b3 : z < -922337203685477580
                · have p3 := dec_t b3
                  go_wp2_with fail
                  go_ret2
                  exact ⟨rfl, Below.refl _ _⟩
                · have p3 := dec_f b3
                  by_cases b4 : z = -922337203685477580
                  · have p4 : (z == -922337203685477580) = true := by simp [b4]
                    by_cases b5 : 8 < c - 48
                    · have p5 := dec_t b5
                      clear b4
                      go_wp2_with fail
                      go_ret2
                      exact ⟨rfl, Below.refl _ _⟩
                    · have p5 := dec_f b5
                      have b6 : -9223372036854775808 ≤ z * 10 - (c - 48) := by omega
                      have b7 : z * 10 - (c - 48) ≤ 0 := by omega
                      have b8 : z * 10 = -9223372036854775800 := by omega
                      clear b4 b8
                      go_wp2_with fail
                      go_round
                      case rel => exact ⟨k + 1, z * 10 - (c - 48), by omega, by go_num, by omega, by omega, rfl⟩
                      case measure => simp [intOf]; omega
                  · have p4 : (z == -922337203685477580) = false := by simp [b4]
                    have b6 : -9223372036854775808 ≤ z * 10 - (c - 48) := by omega
                    have b7 : z * 10 - (c - 48) ≤ 0 := by omega
                    clear b4
                    go_wp2_with fail
                    go_round
                    case rel => exact ⟨k + 1, z * 10 - (c - 48), by omega, by go_num, by omega, by omega, rfl⟩
                    case measure => simp [intOf]; omega
      · have hin : inI z := ⟨by omega, by omega⟩
        have hne : Hid (textI z ≠ l) := Lib.hid (HNo.out z hin)
        have hT := Lib.hid (refText_any z hin)
        obtain ⟨x, hx⟩ : ∃ x, Hid (textI z = x) := ⟨_, Lib.hid rfl⟩
        rw [hx.out] at hT hne
        have q1 : (x == l) = false := by simpa using hne.out
        clear hx
        go_wp2_with fail
        refine (hT.out _).mono ?_
        rintro e w1 ⟨rfl, hb1⟩
        go_wp2_with fail
        go_ret2
        exact ⟨rfl, hb1⟩
  · by_cases hs : 0 < (⟨l.toArray⟩ : ByteArray).size
    · have q0 : ((((⟨l.toArray⟩ : ByteArray)[0]'hs).toNat : Int) == 45) = false := by
        rw [beq_eq_false_iff_ne]
        exact fun h => hm ⟨hs, h⟩
      have hs' : 0 < l.length := by simpa [ByteArray.size] using hs
      clear hm
      obtain ⟨L, HL⟩ : ∃ L, Hid ((⟨l.toArray⟩ : ByteArray).size = L) := ⟨_, Lib.hid rfl⟩
      have HLL : Hid (l.length = L) := Lib.hid (by rw [← HL.out]; simp [ByteArray.size])
      have hL : L ≤ 100 := by rw [← HLL.out]; omega
      have hLe := HLL.out
      go_enter Try.func49, Try.ntmps49
      go_wp2_with fail
      go_loop [6, 7] (fun n i => ∃ (k : Nat) (z : Int), k ≤ L ∧ i = .int .i64 k ∧ -9223372036854775808 ≤ z ∧ z ≤ 0 ∧ n = .int .i64 z) (fun _ i => L - (intOf i).toNat)
      case atStart => exact ⟨0, 0, Nat.zero_le _, rfl, by omega, by omega, rfl⟩
      case round =>
        obtain ⟨k, z, hk, rfl, z0, z1, rfl⟩ := hrel
        by_cases hlt : k < L
        · have hltT : k < (⟨l.toArray⟩ : ByteArray).size := by have := HL.out; omega
          obtain ⟨c, hc⟩ : ∃ c : Int, Hid (((⟨l.toArray⟩ : ByteArray)[k].toNat : Int) = c) := ⟨_, Lib.hid rfl⟩
          have c1 : 0 ≤ c ∧ c < 256 := by rw [← hc.out]; have := (⟨l.toArray⟩ : ByteArray)[k].toNat_lt; omega
          obtain ⟨c2, c3⟩ := c1
          have hcc := hc.out
          by_cases hd : c = 46 ∧ (k : Int) = L - 3
          · obtain ⟨d1, d2⟩ := hd
            have q1 : (c == 46) = true := by simp [d1]
            have q2 : ((k : Int) == (L : Int) - 3) = true := by simp [d2]
            clear d1 d2
            go_wp2_with fail
            go_round
            case rel => exact ⟨k + 1, z, by omega, by go_num, by omega, by omega, rfl⟩
            case measure => simp [intOf]; omega
          · have hdd : (c == 46) = false ∨ (c == 46) = true ∧ ((k : Int) == (L : Int) - 3) = false := by
              by_cases d1 : c = 46
              · right; simp only [d1, true_and] at hd; simp [d1, hd]
              · left; simp [d1]
            clear hd
            rcases hdd with q1 | ⟨q1, q2⟩
            all_goals
              by_cases b1 : c - 48 < 0
              · have p1 := dec_t b1
                go_wp2_with fail
                go_ret2
                exact ⟨rfl, Below.refl _ _⟩
              · have p1 := dec_f b1
                by_cases b2 : 9 < c - 48
                · have p2 := dec_t b2
                  go_wp2_with fail
                  go_ret2
                  exact ⟨rfl, Below.refl _ _⟩
                · have p2 := dec_f b2
                  by_cases b3 : z < -922337203685477580
                  · have p3 := dec_t b3
                    go_wp2_with fail
                    go_ret2
                    exact ⟨rfl, Below.refl _ _⟩
                  · have p3 := dec_f b3
                    by_cases b4 : z = -922337203685477580
                    · have p4 : (z == -922337203685477580) = true := by simp [b4]
                      by_cases b5 : 8 < c - 48
                      · have p5 := dec_t b5
                        clear b4
                        go_wp2_with fail
                        go_ret2
                        exact ⟨rfl, Below.refl _ _⟩
                      · have p5 := dec_f b5
                        have b6 : -9223372036854775808 ≤ z * 10 - (c - 48) := by omega
                        have b7 : z * 10 - (c - 48) ≤ 0 := by omega
                        have b8 : z * 10 = -9223372036854775800 := by omega
                        clear b4 b8
                        go_wp2_with fail
                        go_round
                        case rel => exact ⟨k + 1, z * 10 - (c - 48), by omega, by go_num, by omega, by omega, rfl⟩
                        case measure => simp [intOf]; omega
                    · have p4 : (z == -922337203685477580) = false := by simp [b4]
                      have b6 : -9223372036854775808 ≤ z * 10 - (c - 48) := by omega
                      have b7 : z * 10 - (c - 48) ≤ 0 := by omega
                      clear b4
                      go_wp2_with fail
                      go_round
                      case rel => exact ⟨k + 1, z * 10 - (c - 48), by omega, by go_num, by omega, by omega, rfl⟩
                      case measure => simp [intOf]; omega
        · by_cases hz : z = -9223372036854775808
          · have p1 : (z == -9223372036854775808) = true := by simp [hz]
            clear hz
            go_wp2_with fail
            go_ret2
            exact ⟨rfl, Below.refl _ _⟩
          · have p1 : (z == -9223372036854775808) = false := by simp [hz]
            have hin : inI (-z) := ⟨by omega, by omega⟩
            have hne : Hid (textI (-z) ≠ l) := Lib.hid (HNo.out (-z) hin)
            have hT := Lib.hid (refText_any (-z) hin)
            obtain ⟨x, hx⟩ : ∃ x, Hid (textI (-z) = x) := ⟨_, Lib.hid rfl⟩
            rw [hx.out] at hT hne
            have q1 : (x == l) = false := by simpa using hne.out
            have z2 : -z ≤ 9223372036854775807 := by omega
            clear hx hz
            go_wp2_with fail
            refine (hT.out _).mono ?_
            rintro e w1 ⟨rfl, hb1⟩
            go_wp2_with fail
            go_ret2
            exact ⟨rfl, hb1⟩
    · obtain rfl : l = [] := by
        cases l with
        | nil => rfl
        | cons a b => exact absurd (by simp [ByteArray.size]) hs
      clear hm hs
      have hin : inI (0 : Int) := ⟨by omega, by omega⟩
      have hne : Hid (textI 0 ≠ []) := Lib.hid (HNo.out 0 hin)
      have hT := Lib.hid (refText_any 0 hin)
      obtain ⟨x, hx⟩ : ∃ x, Hid (textI 0 = x) := ⟨_, Lib.hid rfl⟩
      rw [hx.out] at hT hne
      have q1 : (x == []) = false := by simpa using hne.out
      have q2 : x ≠ [] := hne.out
      have q3 : x.isEmpty = false := by simpa using hne.out
      clear hx
      go_enter Try.func49, Try.ntmps49
      go_wp2_with fail
      go_loop [6, 7] (fun n i => n = .int .i64 0 ∧ i = .int .i64 0) (fun _ _ => 0)
      case atStart => exact ⟨rfl, rfl⟩
      case round =>
        obtain ⟨rfl, rfl⟩ := hrel
        go_wp2_with fail
        refine (hT.out _).mono ?_
        rintro e w1 ⟨rfl, hb1⟩
        go_wp2_with fail
        go_ret2
        exact ⟨rfl, hb1⟩
end Go.Proofs.Ytjkabmijkbpodab
