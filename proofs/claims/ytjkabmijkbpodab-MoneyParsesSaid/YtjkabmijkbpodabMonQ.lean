import Derived.Test.YtjkabmijkbpodabMonR
import Derived.Test.YtjkabmijkbpodabTxtS
namespace Go.Proofs.Ytjkabmijkbpodab
open Go.RowKit

theorem textN_facts (n : Nat) (h : n < 10 ^ 20) : ∃ X : List UInt8, Hid (textN n = X) ∧ X.length ≤ 41 ∧ Hid (numV (X.filter (fun c => c != 46)) 0 = n) ∧
    Hid (∀ k (hk : k < X.length), (X[k] = 46 ∧ k + 3 = X.length) ∨ (X[k] ≠ 46 ∧ 48 ≤ (X[k]).toNat ∧ (X[k]).toNat ≤ 57)) ∧ Hid (∃ h : 0 < X.length, X[0] ≠ 45) := by
  refine ⟨textN n, Lib.hid rfl, textN_len n, Lib.hid ?_, Lib.hid ?_, Lib.hid ?_⟩
  · rw [textN, List.filter_append, filt_dig _ (digT_dig _ _), List.filter_cons_of_neg (by simp), filt_dig _ (digT_dig _ _), ← digT_split n h, numV_digT _ _ h]
  · intro k hk
    rcases sign_at (digT (n / 100) 1) (digT (n % 100) 2) (digT_dig _ _) (digT_dig _ _) k hk with ⟨h1, h2⟩ | h3
    · left
      refine ⟨h1, ?_⟩
      have := digT_two n
      simp only [textN, List.length_append, List.length_cons]
      omega
    · exact .inr h3
  · have hp : 0 < (textN n).length := by simp only [textN, List.length_append, List.length_cons]; omega
    refine ⟨hp, fun e => ?_⟩
    rcases sign_at (digT (n / 100) 1) (digT (n % 100) 2) (digT_dig _ _) (digT_dig _ _) 0 hp with ⟨h1, _⟩ | ⟨_, h2, _⟩
    · have : (textN n)[0] = 46 := h1
      rw [e] at this
      exact absurd this (by decide)
    · have : 48 ≤ ((textN n)[0]).toNat := h2
      rw [e] at this
      exact absurd this (by decide)

theorem get_mk (l : List UInt8) (k : Nat) (h1 : k < (⟨l.toArray⟩ : ByteArray).size) (h2 : k < l.length) : (⟨l.toArray⟩ : ByteArray)[k] = l[k] := rfl
theorem size_mk (l : List UInt8) : (⟨l.toArray⟩ : ByteArray).size = l.length := rfl

set_option maxRecDepth 10000 in
set_option maxHeartbeats 4000000 in
theorem refParse_yes (a : Int) (ha : inI a) (w : World) :
    Calls Try.prog 49 #[.string ⟨(textI a).toArray⟩] w fun e w' => e = .returned (.tuple #[.int .i64 a, .int .i64 0]) ∧ Below w.heap.size w w' := by
  obtain ⟨a1, a2⟩ := ha
  obtain ⟨N, hN⟩ : ∃ N, Hid (a.natAbs = N) := ⟨_, Lib.hid rfl⟩
  obtain ⟨X, hX, xl, HV, HS, H0⟩ := textN_facts N (by rw [← hN.out]; omega)
  have hT := Lib.hid (refText_any a ⟨a1, a2⟩)
  obtain ⟨L, HX⟩ : ∃ L, Hid (X.length = L) := ⟨_, Lib.hid rfl⟩
  have hL : L ≤ 41 := by rw [← HX.out]; exact xl
  by_cases h0 : a < 0
  · have hN2 : N ≤ 9223372036854775808 := by rw [← hN.out]; omega
    have HA : Hid (-(N : Int) = a) := Lib.hid (by rw [← hN.out]; omega)
    have hl : textI a = 45 :: X := by rw [textI, if_pos h0, hN.out, hX.out]
    rw [hl] at hT ⊢
    obtain ⟨l, hll⟩ : ∃ l, Hid (45 :: X = l) := ⟨_, Lib.hid rfl⟩
    have hlen : l.length = L + 1 := by rw [← hll.out, List.length_cons, HX.out]
    have hE : (⟨l.toArray⟩ : ByteArray).extract 1 l.length = ⟨X.toArray⟩ := by rw [← hll.out, extract_mk]; simp
    have hs : 0 < (⟨l.toArray⟩ : ByteArray).size := by rw [size_mk]; omega
    have q0 : ((((⟨l.toArray⟩ : ByteArray)[0]'hs).toNat : Int) == 45) = true := by
      have : (⟨l.toArray⟩ : ByteArray)[0]'hs = 45 := by
        rw [get_mk l 0 hs (by omega)]
        simp only [← hll.out, List.getElem_cons_zero]
      rw [this]; rfl
    obtain ⟨t, ht⟩ : ∃ t, Hid ((⟨X.toArray⟩ : ByteArray) = t) := ⟨_, Lib.hid rfl⟩
    have HL : Hid (t.size = L) := Lib.hid (by rw [← ht.out, size_mk, HX.out])
    have HT : Hid (∀ k (h1 : k < t.size) (h2 : k < X.length), t[k] = X[k]) := Lib.hid (by have := ht.out; subst this; exact fun k h1 h2 => get_mk X k h1 h2)
    rw [ht.out] at hE
    rw [hll.out] at hT ⊢
    have hLe := HL.out
    have HE := Lib.hid hE
    have hls : 0 < l.length := by omega
    have hl2 : l.length ≤ 42 := by omega
    clear hl hlen hE
    go_enter Try.func49, Try.ntmps49
    go_wp2_with fail
    rw [HE.out]
    go_loop [6, 7] (fun n i => ∃ (k : Nat) (z : Int), k ≤ L ∧ i = .int .i64 k ∧ Hid (z = -(numF X k : Int)) ∧ -(N : Int) ≤ z ∧ z ≤ 0 ∧ n = .int .i64 z) (fun _ i => L - (intOf i).toNat)
    case atStart => exact ⟨0, 0, Nat.zero_le _, rfl, Lib.hid (by simp [numF, numV]), by omega, by omega, rfl⟩
    case round =>
      obtain ⟨k, z, hk, rfl, hz, z0, z1, rfl⟩ := hrel
      by_cases hlt : k < L
      · have hltT : k < t.size := by have := HL.out; omega
        have hltX : k < X.length := by have := HX.out; omega
        have HC : Hid (t[k] = X[k]) := Lib.hid (HT.out k hltT hltX)
        obtain ⟨c, hc⟩ : ∃ c : Int, Hid ((t[k].toNat : Int) = c) := ⟨_, Lib.hid rfl⟩
        have c1 : 0 ≤ c ∧ c < 256 := by rw [← hc.out]; have := t[k].toNat_lt; omega
        obtain ⟨c2, c3⟩ := c1
        have hcc := hc.out
        have hle := numF_le X (k + 1)
        rw [HV.out] at hle
        rcases HS.out k hltX with ⟨d1, d2⟩ | ⟨d1, d2, d3⟩
        · have e : c = 46 := by rw [← hc.out, HC.out, d1]; rfl
          have q1 : (c == 46) = true := by simp [e]
          have q2 : ((k : Int) == (L : Int) - 3) = true := by have := HX.out; simp; omega
          have HN : Hid (z = -(numF X (k + 1) : Int)) := Lib.hid (by rw [numF_succ X k hltX, if_pos d1]; exact hz.out)
          clear e d1 d2 hle
          go_wp2_with fail
          go_round
          case rel => exact ⟨k + 1, z, by omega, by go_num, HN, by omega, by omega, rfl⟩
          case measure => simp [intOf]; omega
        · have e : c = (X[k].toNat : Int) := by rw [← hc.out, HC.out]
          have f1 : 48 ≤ c := by omega
          have f2 : c ≤ 57 := by omega
          have q1 : (c == 46) = false := by simp; omega
          have hn1 := numF_succ X k hltX
          rw [if_neg d1] at hn1
          have HN : Hid (z * 10 - (c - 48) = -(numF X (k + 1) : Int)) := Lib.hid (by have := hz.out; omega)
          have b6 : -(N : Int) ≤ z * 10 - (c - 48) := by have := HN.out; omega
          have b7 : z * 10 - (c - 48) ≤ 0 := by omega
          have p1 : decide (c - 48 < 0) = false := dec_f (by omega)
          have p2 : decide (9 < c - 48) = false := dec_f (by omega)
          have p3 : decide (z < -922337203685477580) = false := dec_f (by omega)
          clear e d1 d2 d3 hn1 hle
          by_cases b4 : z = -922337203685477580
          · have p4 : (z == -922337203685477580) = true := by simp [b4]
            have p5 : decide (8 < c - 48) = false := dec_f (by omega)
            clear b4
            go_wp2_with fail
            go_round
            case rel => exact ⟨k + 1, z * 10 - (c - 48), by omega, by go_num, HN, by omega, by omega, rfl⟩
            case measure => simp [intOf]; omega
          · have p4 : (z == -922337203685477580) = false := by simp [b4]
            clear b4
            go_wp2_with fail
            go_round
            case rel => exact ⟨k + 1, z * 10 - (c - 48), by omega, by go_num, HN, by omega, by omega, rfl⟩
            case measure => simp [intOf]; omega
      · have hzN : z = -(N : Int) := by
          have := hz.out
          rw [numF_all X k (by have := HX.out; omega), HV.out] at this
          exact this
        have hza : z = a := by rw [hzN]; exact HA.out
        subst hza
        have q1 : (l == l) = true := by simp
        clear hzN
        go_wp2_with fail
        refine (hT.out _).mono ?_
        rintro e w1 ⟨rfl, hb1⟩
        go_wp2_with fail
        go_ret2
        exact ⟨rfl, hb1⟩
  · have hN2 : N ≤ 9223372036854775807 := by rw [← hN.out]; omega
    have HA : Hid ((N : Int) = a) := Lib.hid (by rw [← hN.out]; omega)
    have hl : textI a = X := by rw [textI, if_neg h0, hN.out, hX.out]
    rw [hl] at hT ⊢
    obtain ⟨x0, hx0⟩ := H0.out
    have hs : 0 < (⟨X.toArray⟩ : ByteArray).size := by rw [size_mk]; omega
    have q0 : ((((⟨X.toArray⟩ : ByteArray)[0]'hs).toNat : Int) == 45) = false := by
      rw [beq_eq_false_iff_ne, get_mk X 0 hs x0]
      intro h
      have h2 : X[0].toNat = 45 := by omega
      exact hx0 (UInt8.toNat_inj.1 (by rw [h2]; rfl))
    obtain ⟨l, hlX⟩ : ∃ l, Hid (X = l) := ⟨_, Lib.hid rfl⟩
    have HL : Hid ((⟨X.toArray⟩ : ByteArray).size = L) := Lib.hid (by rw [size_mk, HX.out])
    have HT : Hid (∀ k (h1 : k < (⟨X.toArray⟩ : ByteArray).size) (h2 : k < X.length), (⟨X.toArray⟩ : ByteArray)[k] = X[k]) := Lib.hid (fun k h1 h2 => get_mk X k h1 h2)
    have hLe := HX.out
    have hls : 0 < X.length := x0
    clear hl hx0 xl
    go_enter Try.func49, Try.ntmps49
    go_wp2_with fail
    go_loop [6, 7] (fun n i => ∃ (k : Nat) (z : Int), k ≤ L ∧ i = .int .i64 k ∧ Hid (z = -(numF X k : Int)) ∧ -(N : Int) ≤ z ∧ z ≤ 0 ∧ n = .int .i64 z) (fun _ i => L - (intOf i).toNat)
    case atStart => exact ⟨0, 0, Nat.zero_le _, rfl, Lib.hid (by simp [numF, numV]), by omega, by omega, rfl⟩
    case round =>
      obtain ⟨k, z, hk, rfl, hz, z0, z1, rfl⟩ := hrel
      by_cases hlt : k < L
      · have hltT : k < (⟨X.toArray⟩ : ByteArray).size := by have := HL.out; omega
        have hltX : k < X.length := by have := HX.out; omega
        have HC : Hid ((⟨X.toArray⟩ : ByteArray)[k] = X[k]) := Lib.hid (HT.out k hltT hltX)
        obtain ⟨c, hc⟩ : ∃ c : Int, Hid (((⟨X.toArray⟩ : ByteArray)[k].toNat : Int) = c) := ⟨_, Lib.hid rfl⟩
        have c1 : 0 ≤ c ∧ c < 256 := by rw [← hc.out]; have := (⟨X.toArray⟩ : ByteArray)[k].toNat_lt; omega
        obtain ⟨c2, c3⟩ := c1
        have hcc := hc.out
        have hle := numF_le X (k + 1)
        rw [HV.out] at hle
        rcases HS.out k hltX with ⟨d1, d2⟩ | ⟨d1, d2, d3⟩
        · have e : c = 46 := by rw [← hc.out, HC.out, d1]; rfl
          have q1 : (c == 46) = true := by simp [e]
          have q2 : ((k : Int) == (L : Int) - 3) = true := by have := HX.out; simp; omega
          have HN : Hid (z = -(numF X (k + 1) : Int)) := Lib.hid (by rw [numF_succ X k hltX, if_pos d1]; exact hz.out)
          clear e d1 d2 hle
          go_wp2_with fail
          go_round
          case rel => exact ⟨k + 1, z, by omega, by go_num, HN, by omega, by omega, rfl⟩
          case measure => simp [intOf]; omega
        · have e : c = (X[k].toNat : Int) := by rw [← hc.out, HC.out]
          have f1 : 48 ≤ c := by omega
          have f2 : c ≤ 57 := by omega
          have q1 : (c == 46) = false := by simp; omega
          have hn1 := numF_succ X k hltX
          rw [if_neg d1] at hn1
          have HN : Hid (z * 10 - (c - 48) = -(numF X (k + 1) : Int)) := Lib.hid (by have := hz.out; omega)
          have b6 : -(N : Int) ≤ z * 10 - (c - 48) := by have := HN.out; omega
          have b7 : z * 10 - (c - 48) ≤ 0 := by omega
          have p1 : decide (c - 48 < 0) = false := dec_f (by omega)
          have p2 : decide (9 < c - 48) = false := dec_f (by omega)
          have p3 : decide (z < -922337203685477580) = false := dec_f (by omega)
          clear e d1 d2 d3 hn1 hle
          by_cases b4 : z = -922337203685477580
          · have p4 : (z == -922337203685477580) = true := by simp [b4]
            have p5 : decide (8 < c - 48) = false := dec_f (by omega)
            clear b4
            go_wp2_with fail
            go_round
            case rel => exact ⟨k + 1, z * 10 - (c - 48), by omega, by go_num, HN, by omega, by omega, rfl⟩
            case measure => simp [intOf]; omega
          · have p4 : (z == -922337203685477580) = false := by simp [b4]
            clear b4
            go_wp2_with fail
            go_round
            case rel => exact ⟨k + 1, z * 10 - (c - 48), by omega, by go_num, HN, by omega, by omega, rfl⟩
            case measure => simp [intOf]; omega
      · have hzN : z = -(N : Int) := by
          have := hz.out
          rw [numF_all X k (by have := HX.out; omega), HV.out] at this
          exact this
        have p1 : (z == -9223372036854775808) = false := by simp; omega
        have hza : -z = a := by rw [hzN]; have := HA.out; omega
        have q1 : (X == X) = true := by simp
        have hT' := hT
        rw [← hza] at hT'
        have HZ := Lib.hid hza
        clear hzN hza
        go_wp2_with fail
        refine (hT'.out _).mono ?_
        rintro e w1 ⟨rfl, hb1⟩
        go_wp2_with fail
        go_ret2
        rw [← HZ.out]
        exact ⟨rfl, hb1⟩

set_option maxHeartbeats 1000000 in
theorem moneyTexts_any (a : Int) (ha : inI a) (m : Int) (w : World) (hm : w.cell? ⟨2, 0, none⟩ = some (.int .i64 m)) :
    Calls Try.prog 9 #[.int .i64 a] w fun e w' => e = .returned (.bool true) ∧ Below w.heap.size w w' := by
  have hlt := World.block_lt_of_cell? w _ hm
  have H1 := Lib.hid (text_any a ha)
  have H2 := Lib.hid (parse_yes a ha m)
  have H3 := Lib.hid (refText_any a ha)
  obtain ⟨l, hl⟩ : ∃ l, Hid (textI a = l) := ⟨_, Lib.hid rfl⟩
  rw [hl.out] at H1 H2 H3
  have q : (l == l) = true := by simp
  clear hl
  go_enter Try.func9, Try.ntmps9
  go_wp2_with fail
  refine (H1.out _).mono ?_
  rintro e w1 ⟨rfl, hb1⟩
  go_wp2_with fail
  refine (H2.out _ ((hb1.cell (p := ⟨2, 0, none⟩) hlt).trans hm)).mono ?_
  rintro e w2 ⟨rfl, hb2⟩
  have hB2 := Below.next hb1 hb2
  go_wp2_with fail
  refine (awake01 _).mono ?_
  rintro e w3 ⟨rfl, hb3⟩
  have hB3 := Below.next hB2 hb3
  go_wp2_with fail
  refine (H3.out _).mono ?_
  rintro e w4 ⟨rfl, hb4⟩
  go_wp2_with fail
  go_ret
  exact ⟨rfl, Below.next hB3 hb4⟩

set_option maxHeartbeats 1000000 in
theorem moneyParses_yes (a : Int) (ha : inI a) (m : Int) (w : World) (hm : w.cell? ⟨2, 0, none⟩ = some (.int .i64 m)) :
    Calls Try.prog 10 #[.string ⟨(textI a).toArray⟩] w fun e w' => e = .returned (.bool true) ∧ Below w.heap.size w w' := by
  have hlt := World.block_lt_of_cell? w _ hm
  have H1 := Lib.hid (text_any a ha)
  have H2 := Lib.hid (parse_yes a ha m)
  have H3 := Lib.hid (refParse_yes a ha)
  have hll := textI_bd a
  obtain ⟨l, hl⟩ : ∃ l, Hid (textI a = l) := ⟨_, Lib.hid rfl⟩
  rw [hl.out] at H1 H2 H3 hll ⊢
  have q : (l == l) = true := by simp
  have q2 : decide (100 < (l.length : Int)) = false := dec_f (by omega)
  clear hl
  go_enter Try.func10, Try.ntmps10
  go_wp2_with fail
  refine (H2.out _ hm).mono ?_
  rintro e w1 ⟨rfl, hb1⟩
  go_wp2_with fail
  refine (H3.out _).mono ?_
  rintro e w2 ⟨rfl, hb2⟩
  have hB2 := Below.next hb1 hb2
  go_wp2_with fail
  refine (awake01 _).mono ?_
  rintro e w3 ⟨rfl, hb3⟩
  have hB3 := Below.next hB2 hb3
  go_wp2_with fail
  refine (H1.out _).mono ?_
  rintro e w4 ⟨rfl, hb4⟩
  go_wp2_with fail
  go_ret
  exact ⟨rfl, Below.next hB3 hb4⟩

set_option maxHeartbeats 1000000 in
theorem moneyParses_no (l : List UInt8) (hl : l.length ≤ 100) (hno : ∀ a, inI a → textI a ≠ l) (m : Int) (w : World) (hm : w.cell? ⟨2, 0, none⟩ = some (.int .i64 m)) :
    Calls Try.prog 10 #[.string ⟨l.toArray⟩] w fun e w' => e = .returned (.bool true) ∧ Below w.heap.size w w' := by
  have HNo := Lib.hid hno
  have q2 : decide (100 < (l.length : Int)) = false := dec_f (by omega)
  clear hno
  go_enter Try.func10, Try.ntmps10
  go_wp2_with fail
  refine (parse_no l hl HNo.out m _ hm).mono ?_
  rintro e w1 ⟨rfl, hb1⟩
  go_wp2_with fail
  refine (refParse_no l hl HNo.out _).mono ?_
  rintro e w2 ⟨rfl, hb2⟩
  have hB2 := Below.next hb1 hb2
  go_wp2_with fail
  refine (awake01 _).mono ?_
  rintro e w3 ⟨rfl, hb3⟩
  have hB3 := Below.next hB2 hb3
  go_wp2_with fail
  go_ret
  exact ⟨rfl, hB3⟩

set_option maxHeartbeats 1000000 in
theorem moneyParses_long (s : ByteArray) (hs : 100 < s.size) (w : World) :
    Calls Try.prog 10 #[.string s] w fun e w' => e = .returned (.bool true) ∧ Below w.heap.size w w' := by
  have q2 : decide (100 < (s.size : Int)) = true := dec_t (by omega)
  go_enter Try.func10, Try.ntmps10
  go_wp2_with fail
  refine (awake01 _).mono ?_
  rintro e w3 ⟨rfl, hb3⟩
  go_wp2_with fail
  go_ret
  exact ⟨rfl, hb3⟩
end Go.Proofs.Ytjkabmijkbpodab
