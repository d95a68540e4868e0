import Derived.Test.YtelbolhckhdioaaRgK
namespace Go.Proofs.Ytelbolhckhdioaa
open Go.RowKit Go.ChangeShapes

/-! ### RegisterBounds -/
set_option maxHeartbeats 2000000 in
set_option maxRecDepth 100000 in
theorem registerBounds_many (A1 A2 A3 : Option Addr) (n1 n2 n3 cp1 cp2 cp3 : Nat) (cf : Conf) (A : Option Addr) (n c : Nat) (z0 z1 : Int) (w : World) (hf : ¬ (fewB n1 n2 n3 = true ∧ n ≤ 40 ∧ wrongK cf = 8)) (hcr : fewB n1 n2 n3 = true → CfRd w A1 n1 A2 n2 A3 n3 cf) :
    Calls Try.prog 8 #[.agg #[.slice A1 n1 cp1, .slice A2 n2 cp2, .slice A3 n3 cp3, .int .i64 cf.line, .int .i64 cf.capital, .int .i64 cf.lead, .int .i64 cf.trades, .int .i64 cf.bids], .slice A n c, .agg #[.int .i64 z0, .int .i64 z1]] w fun e w' => e = .returned (.bool true) ∧ Below w.heap.size w w' := by
  obtain ⟨W, hW⟩ : ∃ W, Hid ((w.alloc (.cells #[.slice A1 n1 cp1, .slice A2 n2 cp2, .slice A3 n3 cp3, .int .i64 cf.line, .int .i64 cf.capital, .int .i64 cf.lead, .int .i64 cf.trades, .int .i64 cf.bids] 78)).alloc (.cells #[.int .i64 z0, .int .i64 z1] 95) = W) := ⟨_, Lib.hid rfl⟩
  have hB0 : Below w.heap.size w W := by rw [← hW.out]; exact ((Below.refl _ _).alloc (Nat.le_refl _) _).alloc (by simp) _
  have bc0 : Blk W w.heap.size 78 #[.slice A1 n1 cp1, .slice A2 n2 cp2, .slice A3 n3 cp3, .int .i64 cf.line, .int .i64 cf.capital, .int .i64 cf.lead, .int .i64 cf.trades, .int .i64 cf.bids] := by
    rw [← hW.out]; exact (Blk.new w _ _ _ rfl).alloc _
  have HCB := Lib.hid bc0
  have e0 := (bc0).cell 0
  have e1 := (bc0).cell 1
  have e2 := (bc0).cell 2
  have e3 := (bc0).cell 3
  have e4 := (bc0).cell 4
  have e5 := (bc0).cell 5
  have e6 := (bc0).cell 6
  have e7 := (bc0).cell 7
  simp at e0 e1 e2 e3 e4 e5 e6 e7
  clear bc0
  obtain ⟨v, hv⟩ : ∃ v, Hid (fewB n1 n2 n3 = v) := ⟨_, Lib.hid rfl⟩
  obtain ⟨K, HK⟩ : ∃ K, Hid (wrongK cf = K) := ⟨_, Lib.hid rfl⟩
  have h8' := wrongK_le cf
  rw [HK.out] at h8'
  have HF := Lib.hid hf
  have HCR := Lib.hid hcr
  clear hf hcr
  go_enter Try.func8, Try.ntmps8
  go_upto_region 1 with fail
  rw [hW.out]
  go_wp2_with fail
  refine (few_any A1 A2 A3 n1 n2 n3 cp1 cp2 cp3 cf _).mono ?_
  rw [hv.out]
  rintro e w1 ⟨rfl, hb1⟩
  have hb2 := Below.past hB0 hb1 hB0.size
  have hs2 := hb2.size
  have hfin := HF.out
  rw [hv.out, HK.out] at hfin
  cases v with
  | false =>
    clear hfin e0 e1 e2 e3 e4 e5 e6 e7
    go_wp2_with fail
    refine (awake17 _).mono ?_
    rintro e w3 ⟨rfl, hb3⟩
    have hb4 := Below.past hb2 hb3 hs2
    go_wp2_with fail
    go_ret
    exact ⟨rfl, hb4⟩
  | true =>
    have bc1 := HCB.out.past hb1
    have HW := Lib.hid (refWrong_any A1 A2 A3 n1 n2 n3 cp1 cp2 cp3 cf w1 ((HCR.out hv.out).past hb2))
    rw [HK.out] at HW
    clear e0 e1 e2 e3 e4 e5 e6 e7
    by_cases h40 : n ≤ 40
    · have q0 : ¬ (40 : Int) < (n : Int) := by omega
      have h8 : ¬ K = 8 := fun h => hfin ⟨by simp, h40, h⟩
      have e0 := (bc1).cell 0
      have e1 := (bc1).cell 1
      have e2 := (bc1).cell 2
      have e3 := (bc1).cell 3
      have e4 := (bc1).cell 4
      have e5 := (bc1).cell 5
      have e6 := (bc1).cell 6
      have e7 := (bc1).cell 7
      simp at e0 e1 e2 e3 e4 e5 e6 e7
      clear bc1 hfin
      go_wp2_with fail
      refine HW.out.mono ?_
      rintro e w5 ⟨rfl, hb5⟩
      have hb6 := Below.past hb2 hb5 hs2
      have hs6 := hb6.size
      clear e0 e1 e2 e3 e4 e5 e6 e7
      have hw1 : ((word K).toList == []) = false := by rw [word_empty, decide_eq_false (by omega)]
      have hw2 : ((word K).toList.isEmpty) = ((word K).toList == []) := by cases (word K).toList <;> rfl
      rw [hw1] at hw2
      have hw3 : decide ((word K).toList = []) = ((word K).toList == []) := by cases (word K).toList <;> simp
      rw [hw1] at hw3
      simp at hw3
      clear hw1 h8 h8'
      go_wp2_with fail
      refine (awake17 _).mono ?_
      rintro e w3 ⟨rfl, hb3⟩
      have hb4 := Below.past hb6 hb3 hs6
      go_wp2_with fail
      go_ret
      exact ⟨rfl, hb4⟩
    · have q0 : (40 : Int) < (n : Int) := by omega
      clear bc1 hfin
      go_wp2_with fail
      refine (awake17 _).mono ?_
      rintro e w3 ⟨rfl, hb3⟩
      have hb4 := Below.past hb2 hb3 hs2
      go_wp2_with fail
      go_ret
      exact ⟨rfl, hb4⟩


/-! ### What a member owes is never too great (plain) -/
theorem owed_app (a b : List Leg) (m x : Int) : owedL (a ++ b) m x = owedL a m x ++ owedL b m x := by
  unfold owedL; rw [List.filter_append, List.map_append]
theorem owed_one {n1 n2 : Nat} {t : Trad} (h : checkT n1 n2 t = 0) (m a : Int) : -valOf t ≤ (owedL (legsOf t) m a).sum ∧ (owedL (legsOf t) m a).sum ≤ valOf t := by
  obtain ⟨_, _, h1, h2, _⟩ := checkT_okR h
  have h3 := qty_le_val h
  have h4 := (checkT_okR h).2.2.2.2.1
  have hv : t.qty * t.price = valOf t := rfl
  unfold owedL legsOf
  rw [hv]
  by_cases hb : t.buyer = m <;> by_cases hs : t.seller = m <;> by_cases ha : (0 : Int) = a <;> by_cases hc : t.sec = a <;> simp [List.filter_cons, hb, hs, ha, hc] <;> omega
theorem owed_all {n1 n2 : Nat} (m a : Int) : ∀ {S : List TRow}, (∀ r ∈ S, checkT n1 n2 r.v = 0) → -sumV S ≤ (owedL (legsS S) m a).sum ∧ (owedL (legsS S) m a).sum ≤ sumV S
  | [], _ => by simp [legsS, tradesS, owedL, sumV]
  | x :: S, h => by
    have ih := owed_all m a (S := S) fun r hr => h r (by simp [hr])
    have h1 := owed_one (h x (by simp)) m a
    have e : legsS (x :: S) = legsOf x.v ++ legsS S := rfl
    rw [e, owed_app, List.sum_append, sumV_cons]
    omega
theorem legs_inS {n1 n2 : Nat} {S : List TRow} (h : ∀ r ∈ S, checkT n1 n2 r.v = 0) : ∀ x ∈ legsS S, inI x.amount := fun x hx => by
  obtain ⟨t, ht, hxt⟩ := List.mem_flatMap.1 hx
  obtain ⟨r, hr, rfl⟩ := List.mem_map.1 ht
  obtain ⟨_, _, _, _, h1, h2, h3, h4, h5⟩ := checkT_okR (h r hr)
  have h6 := qty_le_val (h r hr)
  have hv : r.v.qty * r.v.price = valOf r.v := rfl
  unfold inI
  simp [legsOf, hv] at hxt
  rcases hxt with rfl | rfl | rfl | rfl <;> simp only <;> omega
theorem ris_dropR {S : List TRow} (h : TTbR.RisT S) (j : Nat) : TTbR.RisT (S.drop j) := fun i k a b hik ha hb => by
  rw [List.getElem?_drop] at ha hb
  exact h (j + i) (j + k) a b (by omega) ha hb
theorem pos_headR {x : TRow} {S : List TRow} (h : TTbR.RisT (x :: S)) : TTbR.posT (x :: S) x.id = 0 := by
  unfold TTbR.posT
  rw [List.countP_eq_zero]
  intro r hr
  rcases List.mem_cons.1 hr with rfl | hr
  · simp
  · obtain ⟨k, hk⟩ := List.getElem?_of_mem hr
    have := h 0 (k + 1) x r (by omega) rfl (by simpa using hk)
    simp; omega
structure BdSt (W0 : World) (n1 n2 n3 : Nat) (cf : Conf) (g gt gu base : Nat) (B1 : Option Addr) (d1 : Nat) (B2 : Option Addr) (d2 : Nat) (B3 : Option Addr) (d3 : Nat) (k : Nat) (w : World) (vt vu : Value) (ac : Int) (S : List TRow) (U : List URow) : Prop where
  reg : RgsV w g gt gu base B1 n1 d1 B2 n2 d2 B3 n3 d3 cf vt vu ac S U
  inv : RegI cf n1 n2 n3 ac S U
  ul : U.length ≤ k
  below : Below W0.heap.size W0 w
def BdNx (W0 : World) (n1 n2 n3 : Nat) (cf : Conf) (g gt gu base : Nat) (B1 : Option Addr) (d1 : Nat) (B2 : Option Addr) (d2 : Nat) (B3 : Option Addr) (d3 : Nat) (k : Nat) (w : World) : Prop := ∃ vt vu ac S U, BdSt W0 n1 n2 n3 cf g gt gu base B1 d1 B2 d2 B3 d3 k w vt vu ac S U
theorem BdSt.next {W0 w w' : World} {n1 n2 n3 : Nat} {cf : Conf} {g gt gu base : Nat} {B1 : Option Addr} {d1 : Nat} {B2 : Option Addr} {d2 : Nat} {B3 : Option Addr} {d3 : Nat} {k : Nat} {vt vu : Value} {ac : Int} {S : List TRow} {U : List URow} {t : Trad} {e : Ending} (h : BdSt W0 n1 n2 n3 cf g gt gu base B1 d1 B2 d2 B3 d3 k w vt vu ac S U) (hp : AddRPost g gt gu base B1 n1 d1 B2 n2 d2 B3 n3 d3 cf vt vu ac S U t w e w') (hq : inI t.qty) (hpr : inI t.price) (hb : W0.heap.size ≤ base) (hbw : base ≤ w.heap.size) : BdNx W0 n1 n2 n3 cf g gt gu base B1 d1 B2 d2 B3 d3 (k + 1) w' := by
  obtain ⟨_, vt', vu', h1, h2, h3, h4⟩ := hp
  refine ⟨vt', vu', _, _, _, h1, h.inv.add hq hpr, ?_, Below.trans h.below ((h.reg.frame h2 hbw).mono hb)⟩
  unfold addU
  split
  · rw [(insTI_perm U _).length_eq, List.length_cons]; have := h.ul; omega
  · have := h.ul; omega
/-- What holds at the head of each round of cancels. -/
structure CanSt (wc : World) (n1 n2 n3 : Nat) (cf : Conf) (g gt gu base : Nat) (B1 : Option Addr) (d1 : Nat) (B2 : Option Addr) (d2 : Nat) (B3 : Option Addr) (d3 : Nat) (vu : Value) (ac : Int) (S : List TRow) (U : List URow) (w : World) (vt : Value) : Prop where
  reg : RgsV w g gt gu base B1 n1 d1 B2 n2 d2 B3 n3 d3 cf vt vu ac S U
  below : Below wc.heap.size wc w
  far : wc.heap.size ≤ g ∧ wc.heap.size ≤ gt ∧ wc.heap.size ≤ gu ∧ (∀ k, vt.ownBlock = some k → wc.heap.size ≤ k) ∧ (∀ k, vu.ownBlock = some k → wc.heap.size ≤ k)
theorem CanSt.next {wc w w' : World} {n1 n2 n3 : Nat} {cf : Conf} {g gt gu base : Nat} {B1 : Option Addr} {d1 : Nat} {B2 : Option Addr} {d2 : Nat} {B3 : Option Addr} {d3 : Nat} {vu vt : Value} {ac : Int} {S S' : List TRow} {U : List URow} {t : Trad} {K : Int} {e : Ending} (h : CanSt wc n1 n2 n3 cf g gt gu base B1 d1 B2 d2 B3 d3 vu ac S U w vt) (hp : CanPost g gt gu base B1 n1 d1 B2 n2 d2 B3 n3 d3 cf vt vu ac S' U t K w e w') : ∃ vt', CanSt wc n1 n2 n3 cf g gt gu base B1 d1 B2 d2 B3 d3 vu ac S' U w' vt' := by
  obtain ⟨_, vt', h1, h2, h3⟩ := hp
  obtain ⟨a, b, c, d, e'⟩ := h.far
  refine ⟨vt', h1, Below.trans h.below (h2.frame h.below.size fun k _ hk => ?_), a, b, c, fun k ek => ?_, e'⟩
  · rcases hk with e | e | e | e | e
    · subst e; exact a
    · subst e; exact b
    · exact d k e
    · subst e; exact c
    · exact e' k e
  · rcases h3 k ek with e | e
    · exact d k e
    · exact Nat.le_trans h.below.size e
end Go.Proofs.Ytelbolhckhdioaa
