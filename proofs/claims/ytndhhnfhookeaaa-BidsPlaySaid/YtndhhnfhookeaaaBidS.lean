import Derived.Test.YtndhhnfhookeaaaBidR
namespace Go.Proofs.Ytndhhnfhookeaaa
open Go.RowKit

set_option maxHeartbeats 2000000 in
set_option maxRecDepth 100000 in
theorem bidsPlay_many (A1 A2 A3 : Option Addr) (n1 n2 n3 cp1 cp2 cp3 : Nat) (cf : Conf) (a0 : Option Addr) (m0 k0 : Nat) (a1 : Option Addr) (m1 k1 : Nat) (sec : Int) (w : World) (hf : ¬ (fewB n1 n2 n3 = true ∧ m0 ≤ 50 ∧ m1 ≤ 50)) :
    Calls Try.prog 12 #[.agg #[.slice A1 n1 cp1, .slice A2 n2 cp2, .slice A3 n3 cp3, .int .i64 cf.line, .int .i64 cf.capital, .int .i64 cf.lead, .int .i64 cf.trades, .int .i64 cf.bids], .agg #[.slice a0 m0 k0, .slice a1 m1 k1], .int .i64 sec] w fun e w' => e = .returned (.bool true) ∧ Below w.heap.size w w' := by
  obtain ⟨W, hW⟩ : ∃ W, Hid ((w.alloc (.cells #[.slice A1 n1 cp1, .slice A2 n2 cp2, .slice A3 n3 cp3, .int .i64 cf.line, .int .i64 cf.capital, .int .i64 cf.lead, .int .i64 cf.trades, .int .i64 cf.bids] 51)).alloc (.cells #[.slice a0 m0 k0, .slice a1 m1 k1] 104) = W) := ⟨_, Lib.hid rfl⟩
  have hB0 : Below w.heap.size w W := by rw [← hW.out]; exact ((Below.refl _ _).alloc (Nat.le_refl _) _).alloc (by simp) _
  have bc0 : Blk W w.heap.size 51 #[.slice A1 n1 cp1, .slice A2 n2 cp2, .slice A3 n3 cp3, .int .i64 cf.line, .int .i64 cf.capital, .int .i64 cf.lead, .int .i64 cf.trades, .int .i64 cf.bids] := by
    rw [← hW.out]; exact (Blk.new w _ _ _ rfl).alloc _
  have bl0 : Blk W (w.heap.size + 1) 104 #[.slice a0 m0 k0, .slice a1 m1 k1] := by
    rw [← hW.out]; exact Blk.new (w.alloc (.cells #[.slice A1 n1 cp1, .slice A2 n2 cp2, .slice A3 n3 cp3, .int .i64 cf.line, .int .i64 cf.capital, .int .i64 cf.lead, .int .i64 cf.trades, .int .i64 cf.bids] 51)) _ _ _ (by simp)
  have e0 := bc0.cell 0
  have e1 := bc0.cell 1
  have e2 := bc0.cell 2
  have e3 := bc0.cell 3
  have e4 := bc0.cell 4
  have e5 := bc0.cell 5
  have e6 := bc0.cell 6
  have e7 := bc0.cell 7
  simp at e0 e1 e2 e3 e4 e5 e6 e7
  have HL := Lib.hid bl0
  clear bc0 bl0
  obtain ⟨v, hv⟩ : ∃ v, Hid (fewB n1 n2 n3 = v) := ⟨_, Lib.hid rfl⟩
  have HF := Lib.hid hf
  clear hf
  go_enter Try.func12, Try.ntmps12
  go_upto_region 1 with fail
  rw [hW.out]
  go_wp2_with fail
  refine (few_any A1 A2 A3 n1 n2 n3 cp1 cp2 cp3 cf _).mono ?_
  rw [hv.out]
  rintro e w1 ⟨rfl, hb1⟩
  have hb2 := Below.past hB0 hb1 hB0.size
  have hs2 := hb2.size
  have bl1 := HL.out.past hb1
  have l0 := bl1.cell 0
  have l1 := bl1.cell 1
  simp at l0 l1
  have hfin := HF.out
  rw [hv.out] at hfin
  cases v with
  | false =>
    clear hfin
    go_wp2_with fail
    refine (awake24 _).mono ?_
    rintro e w3 ⟨rfl, hb3⟩
    have hb4 := Below.past hb2 hb3 hs2
    go_wp2_with fail
    go_ret
    exact ⟨rfl, hb4⟩
  | true =>
    by_cases h0 : m0 ≤ 50
    · have q0 : ¬ (50 : Int) < (m0 : Int) := by omega
      have q1 : (50 : Int) < (m1 : Int) := by
        have : ¬ m1 ≤ 50 := fun h => hfin ⟨rfl, h0, h⟩
        omega
      clear hfin
      go_wp2_with fail
      refine (awake24 _).mono ?_
      rintro e w3 ⟨rfl, hb3⟩
      have hb4 := Below.past hb2 hb3 hs2
      go_wp2_with fail
      go_ret
      exact ⟨rfl, hb4⟩
    · have q0 : (50 : Int) < (m0 : Int) := by omega
      clear hfin
      go_wp2_with fail
      refine (awake24 _).mono ?_
      rintro e w3 ⟨rfl, hb3⟩
      have hb4 := Below.past hb2 hb3 hs2
      go_wp2_with fail
      go_ret
      exact ⟨rfl, hb4⟩
end Go.Proofs.Ytndhhnfhookeaaa
