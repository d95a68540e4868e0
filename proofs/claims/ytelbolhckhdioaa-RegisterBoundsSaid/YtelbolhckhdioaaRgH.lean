import Derived.Test.YtelbolhckhdioaaRgG
import Derived.Test.YtelbolhckhdioaaRgP
namespace Go.Proofs.Ytelbolhckhdioaa
open Go.RowKit Go.ChangeShapes

/-! ### RegisterTurns -/
set_option maxHeartbeats 2000000 in
set_option maxRecDepth 100000 in
theorem registerTurns_many (A1 A2 A3 : Option Addr) (n1 n2 n3 cp1 cp2 cp3 : Nat) (cf : Conf) (A : Option Addr) (n c : Nat) (at_ : Int) (w : World) (hf : ¬ (fewB n1 n2 n3 = true ∧ n ≤ 30 ∧ wrongK cf = 8)) (hcr : fewB n1 n2 n3 = true → CfRd w A1 n1 A2 n2 A3 n3 cf) :
    Calls Try.prog 7 #[.agg #[.slice A1 n1 cp1, .slice A2 n2 cp2, .slice A3 n3 cp3, .int .i64 cf.line, .int .i64 cf.capital, .int .i64 cf.lead, .int .i64 cf.trades, .int .i64 cf.bids], .slice A n c, .int .u8 at_] w fun e w' => e = .returned (.bool true) ∧ Below w.heap.size w w' := by
  obtain ⟨W, hW⟩ : ∃ W, Hid (w.alloc (.cells #[.slice A1 n1 cp1, .slice A2 n2 cp2, .slice A3 n3 cp3, .int .i64 cf.line, .int .i64 cf.capital, .int .i64 cf.lead, .int .i64 cf.trades, .int .i64 cf.bids] 78) = W) := ⟨_, Lib.hid rfl⟩
  have hB0 : Below w.heap.size w W := by rw [← hW.out]; exact (Below.refl _ _).alloc (Nat.le_refl _) _
  have bc0 : Blk W w.heap.size 78 #[.slice A1 n1 cp1, .slice A2 n2 cp2, .slice A3 n3 cp3, .int .i64 cf.line, .int .i64 cf.capital, .int .i64 cf.lead, .int .i64 cf.trades, .int .i64 cf.bids] := by
    rw [← hW.out]; exact Blk.new w _ _ _ rfl
  have HCB := Lib.hid bc0
  have e0 := (bc0).cell 0
  have e1 := (bc0).cell 1
  have e2 := (bc0).cell 2
  have e3 := (bc0).cell 3
  have e4 := (bc0).cell 4
  have e5 := (bc0).cell 5
  have e6 := (bc0).cell 6
  have e7 := (bc0).cell 7
  simp at e0 e1 e2 e3 e4 e5 e6 e7
  clear bc0
  obtain ⟨v, hv⟩ : ∃ v, Hid (fewB n1 n2 n3 = v) := ⟨_, Lib.hid rfl⟩
  obtain ⟨K, HK⟩ : ∃ K, Hid (wrongK cf = K) := ⟨_, Lib.hid rfl⟩
  have h8' := wrongK_le cf
  rw [HK.out] at h8'
  have HF := Lib.hid hf
  have HCR := Lib.hid hcr
  clear hf hcr
  go_enter Try.func7, Try.ntmps7
  go_upto_region 1 with fail
  rw [hW.out]
  go_wp2_with fail
  refine (few_any A1 A2 A3 n1 n2 n3 cp1 cp2 cp3 cf _).mono ?_
  rw [hv.out]
  rintro e w1 ⟨rfl, hb1⟩
  have hb2 := Below.past hB0 hb1 hB0.size
  have hs2 := hb2.size
  have hfin := HF.out
  rw [hv.out, HK.out] at hfin
  cases v with
  | false =>
    clear hfin e0 e1 e2 e3 e4 e5 e6 e7
    go_wp2_with fail
    refine (awake17 _).mono ?_
    rintro e w3 ⟨rfl, hb3⟩
    have hb4 := Below.past hb2 hb3 hs2
    go_wp2_with fail
    go_ret
    exact ⟨rfl, hb4⟩
  | true =>
    have bc1 := HCB.out.past hb1
    have HW := Lib.hid (refWrong_any A1 A2 A3 n1 n2 n3 cp1 cp2 cp3 cf w1 ((HCR.out hv.out).past hb2))
    rw [HK.out] at HW
    clear e0 e1 e2 e3 e4 e5 e6 e7
    by_cases h30 : n ≤ 30
    · have q0 : ¬ (30 : Int) < (n : Int) := by omega
      have h8 : ¬ K = 8 := fun h => hfin ⟨by simp, h30, h⟩
      have e0 := (bc1).cell 0
      have e1 := (bc1).cell 1
      have e2 := (bc1).cell 2
      have e3 := (bc1).cell 3
      have e4 := (bc1).cell 4
      have e5 := (bc1).cell 5
      have e6 := (bc1).cell 6
      have e7 := (bc1).cell 7
      simp at e0 e1 e2 e3 e4 e5 e6 e7
      clear bc1 hfin
      go_wp2_with fail
      refine HW.out.mono ?_
      rintro e w5 ⟨rfl, hb5⟩
      have hb6 := Below.past hb2 hb5 hs2
      have hs6 := hb6.size
      clear e0 e1 e2 e3 e4 e5 e6 e7
      have hw1 : ((word K).toList == []) = false := by rw [word_empty, decide_eq_false (by omega)]
      have hw2 : ((word K).toList.isEmpty) = ((word K).toList == []) := by cases (word K).toList <;> rfl
      rw [hw1] at hw2
      have hw3 : decide ((word K).toList = []) = ((word K).toList == []) := by cases (word K).toList <;> simp
      rw [hw1] at hw3
      simp at hw3
      clear hw1 h8 h8'
      go_wp2_with fail
      refine (awake17 _).mono ?_
      rintro e w3 ⟨rfl, hb3⟩
      have hb4 := Below.past hb6 hb3 hs6
      go_wp2_with fail
      go_ret
      exact ⟨rfl, hb4⟩
    · have q0 : (30 : Int) < (n : Int) := by omega
      clear bc1 hfin
      go_wp2_with fail
      refine (awake17 _).mono ?_
      rintro e w3 ⟨rfl, hb3⟩
      have hb4 := Below.past hb2 hb3 hs2
      go_wp2_with fail
      go_ret
      exact ⟨rfl, hb4⟩

/-- Two registers: one that is apart from the other's blocks. -/
def three (g gt gu : Nat) (k : Nat) : Prop := k = g ∨ k = gt ∨ k = gu
theorem RgsV.over3 {w w' : World} {g gt gu base : Nat} {B1 : Option Addr} {n1 d1 : Nat} {B2 : Option Addr} {n2 d2 : Nat} {B3 : Option Addr} {n3 d3 : Nat} {cf : Conf} {vt vu : Value} {ac : Int} {S : List TRow} {U : List URow} {h ht hu base2 : Nat} {C1 : Option Addr} {m1 k1 : Nat} {C2 : Option Addr} {m2 k2 : Nat} {C3 : Option Addr} {m3 k3 : Nat} {cf2 : Conf} {vt2 vu2 : Value} {ac2 : Int} {S2 : List TRow} {U2 : List URow}
    (hx : RgsV w g gt gu base B1 n1 d1 B2 n2 d2 B3 n3 d3 cf vt vu ac S U) (hy : RgsV w h ht hu base2 C1 m1 k1 C2 m2 k2 C3 m3 k3 cf2 vt2 vu2 ac2 S2 U2) (ho : OnlyS (three h ht hu) w w') (h1 : g ≠ h) (h2 : gt ≠ ht) (h3 : gu ≠ hu) : RgsV w' g gt gu base B1 n1 d1 B2 n2 d2 B3 n3 d3 cf vt vu ac S U := by
  have hown : ∀ {b0 : Nat} {e : TypeId} {sz n : Nat} {v : Value} {xs : List Value}, w.ownsRow b0 e sz v n xs → e ≠ 149 → e ≠ 194 → e ≠ 197 → ∀ k, v.ownBlock = some k → ¬ three h ht hu k := fun ho' a b c k hk hb => by
    rcases hb with e1 | e1 | e1
    · exact own_blk_ne ho' hy.blk a (e1 ▸ hk)
    · exact own_blk_ne ho' hy.tab.blk b (e1 ▸ hk)
    · exact own_blk_ne ho' hy.use.blk c (e1 ▸ hk)
  refine hx.onlyS ho ?_ ?_ ?_ (hown hx.tab.row (by decide) (by decide) (by decide)) (hown hx.use.row (by decide) (by decide) (by decide)) (hown hx.cfo.m (by decide) (by decide) (by decide)) (hown hx.cfo.s (by decide) (by decide) (by decide)) (hown hx.cfo.c (by decide) (by decide) (by decide))
  · rintro (e | e | e)
    · exact h1 e
    · exact blk_neZ hx.blk hy.tab.blk (by decide) e
    · exact blk_neZ hx.blk hy.use.blk (by decide) e
  · rintro (e | e | e)
    · exact blk_neZ hx.tab.blk hy.blk (by decide) e
    · exact h2 e
    · exact blk_neZ hx.tab.blk hy.use.blk (by decide) e
  · rintro (e | e | e)
    · exact blk_neZ hx.use.blk hy.blk (by decide) e
    · exact blk_neZ hx.use.blk hy.tab.blk (by decide) e
    · exact h3 e
/-- What holds at the head of each round of adds. -/
structure AddSt (W0 : World) (n1 n2 n3 : Nat) (cf : Conf) (g gt gu base : Nat) (B1 : Option Addr) (d1 : Nat) (B2 : Option Addr) (d2 : Nat) (B3 : Option Addr) (d3 : Nat) (ts : List Trad) (w : World) (vt vu : Value) (ac : Int) (S : List TRow) (U : List URow) : Prop where
  reg : RgsV w g gt gu base B1 n1 d1 B2 n2 d2 B3 n3 d3 cf vt vu ac S U
  all : AllIn cf n1 n2 n3 ts ac S U
  only : OnlyS (three g gt gu) W0 w
  ot : ∀ k, vt.ownBlock = some k → W0.heap.size ≤ k
  ou : ∀ k, vu.ownBlock = some k → W0.heap.size ≤ k
def AddNx (W0 : World) (n1 n2 n3 : Nat) (cf : Conf) (g gt gu base : Nat) (B1 : Option Addr) (d1 : Nat) (B2 : Option Addr) (d2 : Nat) (B3 : Option Addr) (d3 : Nat) (ts : List Trad) (w : World) : Prop := ∃ vt vu ac S U, AddSt W0 n1 n2 n3 cf g gt gu base B1 d1 B2 d2 B3 d3 ts w vt vu ac S U
theorem AddSt.next {W0 w w' : World} {n1 n2 n3 : Nat} {cf : Conf} {g gt gu base : Nat} {B1 : Option Addr} {d1 : Nat} {B2 : Option Addr} {d2 : Nat} {B3 : Option Addr} {d3 : Nat} {ts : List Trad} {vt vu : Value} {ac : Int} {S : List TRow} {U : List URow} {t : Trad} {e : Ending} (h : AddSt W0 n1 n2 n3 cf g gt gu base B1 d1 B2 d2 B3 d3 ts w vt vu ac S U) (hp : AddRPost g gt gu base B1 n1 d1 B2 n2 d2 B3 n3 d3 cf vt vu ac S U t w e w') (hq : inI t.qty) (hpr : inI t.price) (hk : addKS cf n1 n2 n3 ac S U t = 0) : AddNx W0 n1 n2 n3 cf g gt gu base B1 d1 B2 d2 B3 d3 (ts ++ [t]) w' := by
  obtain ⟨_, vt', vu', h1, h2, h3, h4⟩ := hp
  rw [hk] at h1
  have hs := h.only.size
  refine ⟨vt', vu', _, _, _, h1, h.all.add hq hpr hk, h.only.trans h2 (fun _ _ e => e) (fun k hk' e => ?_), fun k e => ?_, fun k e => ?_⟩
  · rcases e with e | e | e | e | e
    · exact .inl e
    · exact .inr (.inl e)
    · have := h.ot k e; omega
    · exact .inr (.inr e)
    · have := h.ou k e; omega
  · rcases h3 k e with e | e
    · exact h.ot k e
    · omega
  · rcases h4 k e with e | e
    · exact h.ou k e
    · omega
theorem AddSt.past {W0 w w' : World} {n1 n2 n3 : Nat} {cf : Conf} {g gt gu base : Nat} {B1 : Option Addr} {d1 : Nat} {B2 : Option Addr} {d2 : Nat} {B3 : Option Addr} {d3 : Nat} {ts : List Trad} {vt vu : Value} {ac : Int} {S : List TRow} {U : List URow} (h : AddSt W0 n1 n2 n3 cf g gt gu base B1 d1 B2 d2 B3 d3 ts w vt vu ac S U) (hb : Below w.heap.size w w') : AddSt W0 n1 n2 n3 cf g gt gu base B1 d1 B2 d2 B3 d3 ts w' vt vu ac S U :=
  ⟨h.reg.past hb, h.all, h.only.below hb, h.ot, h.ou⟩
end Go.Proofs.Ytelbolhckhdioaa
