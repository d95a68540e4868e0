import Derived.Test.YtelbolhckhdioaaRgC
namespace Go.Proofs.Ytelbolhckhdioaa
open Go.RowKit

/-! ### Add -/
theorem checkT_okR {n1 n2 : Nat} {t : Trad} (h : checkT n1 n2 t = 0) : (1 ≤ t.buyer ∧ t.buyer ≤ n1) ∧ (1 ≤ t.seller ∧ t.seller ≤ n1) ∧ t.buyer ≠ t.seller ∧ (1 ≤ t.sec ∧ t.sec ≤ n2) ∧ 1 ≤ t.qty ∧ 1 ≤ t.price ∧ valOf t ≤ 288230376151711744 ∧ t.qty ≤ 274877906944 ∧ inI (valOf t) := by
  unfold checkT at h
  split at h
  · rename_i hw
    split at h
    · rename_i hs
      split at h
      · omega
      · rename_i hq
        split at h
        · omega
        · rename_i hg
          have hw1 : (hasB n1 t.buyer = true ∧ hasB n1 t.seller = true) ∧ t.buyer ≠ t.seller := by
            unfold whoC at hw
            split at hw
            · rename_i hb
              split at hw
              · omega
              · rename_i hne
                exact ⟨by simpa using hb, hne⟩
            · omega
          have h1 := hasB_t hw1.1.1; have h2 := hasB_t hw1.1.2; have h3 := hasB_t hs
          have h4 : 1 ≤ t.qty ∧ 1 ≤ t.price := by simpa [Int.not_lt] using hq
          have h5 : over (t.qty * t.price) = 0 ∧ amount (t.qty * t.price) ≤ 288230376151711744 ∧ t.qty ≤ 274877906944 := by simpa [greatB, Int.not_lt] using hg
          have h6 : inI (t.qty * t.price) := by
            have := h5.1; unfold over at this; split at this
            · assumption
            · omega
          have h7 : amount (t.qty * t.price) = valOf t := if_pos h6
          rw [h7] at h5
          exact ⟨h1, h2, hw1.2, h3, h4.1, h4.2, h5.2.1, h5.2.2, h6⟩
    · omega
  · rename_i hw; exact absurd h hw
theorem qty_le_val {n1 n2 : Nat} {t : Trad} (h : checkT n1 n2 t = 0) : t.qty ≤ valOf t ∧ 1 ≤ valOf t := by
  obtain ⟨_, _, _, _, h1, h2, _⟩ := checkT_okR h
  have h3 : t.qty * 1 ≤ t.qty * t.price := Int.mul_le_mul_of_nonneg_left h2 (by omega)
  unfold valOf
  omega
theorem trdIn_of {n1 n2 : Nat} {t : Trad} (h : checkT n1 n2 t = 0) (hq : inI t.qty) (hp : inI t.price) : TrdIn t := ⟨hq, hp, (checkT_okR h).2.2.2.2.2.2.2.2⟩
theorem legsIn_of {n1 n2 : Nat} {t : Trad} (h : checkT n1 n2 t = 0) : legsIn t = true := by
  obtain ⟨_, _, _, _, h1, h2, h3, h4, h5⟩ := checkT_okR h
  have h6 := qty_le_val h
  unfold valOf at h3 h5 h6
  unfold legsIn
  rw [decide_eq_true h5, decide_eq_true (by unfold inI; omega), decide_eq_true (by unfold inI; omega)]; rfl
def fullS (cf : Conf) (n3 : Nat) (ac : Int) (U : List URow) : Bool := decide (cf.trades ≤ ac) || decide (cf.trades * (n3 : Int) ≤ (U.length : Nat))
def addKS (cf : Conf) (n1 n2 n3 : Nat) (ac : Int) (S : List TRow) (U : List URow) (t : Trad) : Int :=
  if checkT n1 n2 t = 0 then (if TTbI.isT U t.id = true then 7 else if fullS cf n3 ac U = true then 6 else if muchS S t = true then 2 else 0) else checkT n1 n2 t
def addS (K : Int) (S : List TRow) (t : Trad) : List TRow := if K = 0 then TTbR.insT S ⟨t.id, t⟩ else S
def addU (K ac : Int) (U : List URow) (t : Trad) : List URow := if K = 0 then TTbI.insT U ⟨t.id, ac + 1⟩ else U
def addA (K ac : Int) : Int := if K = 0 then ac + 1 else ac
/-- What holds of a register. -/
structure RegI (cf : Conf) (n1 n2 n3 : Nat) (ac : Int) (S : List TRow) (U : List URow) : Prop where
  ok : ∀ r ∈ S, checkT n1 n2 r.v = 0 ∧ r.id = r.v.id ∧ TrdIn r.v
  top : sumV S ≤ 288230376151711744
  used : ∀ r ∈ S, TTbI.isT U r.id = true
  ac0 : 0 ≤ ac ∧ ac ≤ cf.trades
  len : (S.length : Int) ≤ ac
  ulen : (U.length : Int) ≤ cf.trades * (n3 : Int)
theorem RegI.trd {cf : Conf} {n1 n2 n3 : Nat} {ac : Int} {S : List TRow} {U : List URow} (h : RegI cf n1 n2 n3 ac S U) : ∀ r ∈ S, TrdIn r.v := fun r hr => (h.ok r hr).2.2
theorem sumV_cons (x : TRow) (S : List TRow) : sumV (x :: S) = valOf x.v + sumV S := List.sum_cons
theorem sumU_cons (s : Int) (x : TRow) (S : List TRow) : sumU s (x :: S) = unitOf s x.v + sumU s S := List.sum_cons
theorem sum_bds {n1 n2 : Nat} (s : Int) : ∀ {S : List TRow}, (∀ r ∈ S, checkT n1 n2 r.v = 0) → 0 ≤ sumU s S ∧ sumU s S ≤ sumV S
  | [], _ => by simp [sumU, sumV]
  | x :: S, h => by
    have ih := sum_bds s (S := S) fun r hr => h r (by simp [hr])
    have h1 := qty_le_val (h x (by simp))
    have h2 := (checkT_okR (h x (by simp))).2.2.2.2.1
    rw [sumU_cons, sumV_cons]
    unfold unitOf
    split <;> omega
theorem insTR_perm (S : List TRow) (x : TRow) : (TTbR.insT S x).Perm (x :: S) := by
  unfold TTbR.insT
  have h := (List.perm_middle (a := x) (l₁ := S.take (TTbR.posT S x.id)) (l₂ := S.drop (TTbR.posT S x.id)))
  rwa [List.take_append_drop] at h
theorem insTI_perm (S : List URow) (x : URow) : (TTbI.insT S x).Perm (x :: S) := by
  unfold TTbI.insT
  have h := (List.perm_middle (a := x) (l₁ := S.take (TTbI.posT S x.id)) (l₂ := S.drop (TTbI.posT S x.id)))
  rwa [List.take_append_drop] at h
theorem sum_permR {a b : List Int} (h : a.Perm b) : a.sum = b.sum := by
  induction h with
  | nil => rfl
  | cons x _ ih => rw [List.sum_cons, List.sum_cons, ih]
  | swap x y l => rw [List.sum_cons, List.sum_cons, List.sum_cons, List.sum_cons]; omega
  | trans _ _ h1 h2 => exact h1.trans h2
theorem sumV_perm {S T : List TRow} (h : S.Perm T) : sumV S = sumV T := sum_permR (h.map _)
theorem sumU_perm {S T : List TRow} (s : Int) (h : S.Perm T) : sumU s S = sumU s T := sum_permR (h.map _)
theorem addKS_zero {cf : Conf} {n1 n2 n3 : Nat} {ac : Int} {S : List TRow} {U : List URow} {t : Trad} (h : addKS cf n1 n2 n3 ac S U t = 0) : checkT n1 n2 t = 0 ∧ TTbI.isT U t.id = false ∧ ac < cf.trades ∧ (U.length : Int) < cf.trades * (n3 : Int) ∧ valOf t + sumV S ≤ 288230376151711744 ∧ t.qty + sumU t.sec S ≤ 274877906944 := by
  unfold addKS at h
  split at h
  · rename_i h0
    split at h
    · omega
    · rename_i h1
      split at h
      · omega
      · rename_i h2
        split at h
        · omega
        · rename_i h3
          simp [fullS] at h2
          simp [muchS] at h3
          exact ⟨h0, by simpa using h1, h2.1, h2.2, h3.1, h3.2⟩
  · rename_i h0; exact absurd h h0
theorem RegI.add {cf : Conf} {n1 n2 n3 : Nat} {ac : Int} {S : List TRow} {U : List URow} {t : Trad} (h : RegI cf n1 n2 n3 ac S U) (hq : inI t.qty) (hp : inI t.price) : RegI cf n1 n2 n3 (addA (addKS cf n1 n2 n3 ac S U t) ac) (addS (addKS cf n1 n2 n3 ac S U t) S t) (addU (addKS cf n1 n2 n3 ac S U t) ac U t) := by
  unfold addA addS addU
  by_cases hk : addKS cf n1 n2 n3 ac S U t = 0
  · rw [if_pos hk, if_pos hk, if_pos hk]
    obtain ⟨h1, h2, h3, h4, h5, h6⟩ := addKS_zero hk
    have hpm := insTR_perm S ⟨t.id, t⟩
    have hpu := insTI_perm U ⟨t.id, ac + 1⟩
    refine ⟨fun r hr => ?_, ?_, fun r hr => ?_, by have := h.ac0; omega, ?_, ?_⟩
    · rcases List.mem_cons.1 (hpm.mem_iff.1 hr) with rfl | hr
      · exact ⟨h1, rfl, trdIn_of h1 hq hp⟩
      · exact h.ok r hr
    · rw [sumV_perm hpm, sumV_cons]; exact h5
    · have : TTbI.isT (TTbI.insT U ⟨t.id, ac + 1⟩) r.id = TTbI.isT (⟨t.id, ac + 1⟩ :: U) r.id := hpu.any_eq
      rw [this]
      rcases List.mem_cons.1 (hpm.mem_iff.1 hr) with rfl | hr
      · exact List.any_eq_true.2 ⟨⟨t.id, ac + 1⟩, by simp, by simp⟩
      · obtain ⟨q, hq1, hq2⟩ := List.any_eq_true.1 (h.used r hr)
        exact List.any_eq_true.2 ⟨q, by simp [hq1], hq2⟩
    · rw [hpm.length_eq, List.length_cons]; have := h.len; omega
    · rw [hpu.length_eq, List.length_cons]; omega
  · rw [if_neg hk, if_neg hk, if_neg hk]
    exact h
def rbad (g gt gu : Nat) (vt vu : Value) (k : Nat) : Prop := k = g ∨ k = gt ∨ vt.ownBlock = some k ∨ k = gu ∨ vu.ownBlock = some k
def NewOwn (v v' : Value) (w : World) : Prop := ∀ k, v'.ownBlock = some k → v.ownBlock = some k ∨ w.heap.size ≤ k
def AddRPost (g gt gu base : Nat) (B1 : Option Addr) (n1 d1 : Nat) (B2 : Option Addr) (n2 d2 : Nat) (B3 : Option Addr) (n3 d3 : Nat) (cf : Conf) (vt vu : Value) (ac : Int) (S : List TRow) (U : List URow) (t : Trad) (w : World) (e : Ending) (w' : World) : Prop :=
  e = .returned (.int .i64 (addKS cf n1 n2 n3 ac S U t)) ∧ ∃ vt' vu', RgsV w' g gt gu base B1 n1 d1 B2 n2 d2 B3 n3 d3 cf vt' vu' (addA (addKS cf n1 n2 n3 ac S U t) ac) (addS (addKS cf n1 n2 n3 ac S U t) S t) (addU (addKS cf n1 n2 n3 ac S U t) ac U t) ∧ OnlyS (rbad g gt gu vt vu) w w' ∧ NewOwn vt vt' w ∧ NewOwn vu vu' w
section
variable {g gt gu base : Nat} {B1 : Option Addr} {n1 d1 : Nat} {B2 : Option Addr} {n2 d2 : Nat} {B3 : Option Addr} {n3 d3 : Nat} {cf : Conf} {vt vu : Value} {ac : Int} {S : List TRow} {U : List URow}
theorem addR_no {t : Trad} {w w' : World} {K : Int} (hx : RgsV w g gt gu base B1 n1 d1 B2 n2 d2 B3 n3 d3 cf vt vu ac S U) (hk : addKS cf n1 n2 n3 ac S U t = K) (h0 : K ≠ 0) (hb : Below w.heap.size w w') : AddRPost g gt gu base B1 n1 d1 B2 n2 d2 B3 n3 d3 cf vt vu ac S U t w (.returned (.int .i64 K)) w' := by
  refine ⟨by rw [hk], vt, vu, ?_, OnlyS.of_below hb, fun k e => .inl e, fun k e => .inl e⟩
  unfold addA addS addU
  rw [hk, if_neg h0, if_neg h0, if_neg h0]
  exact hx.past hb
theorem CfOwn.onlyS {w w' : World} {B : Nat} {bad : Nat → Prop} (h : CfOwn w B B1 n1 d1 B2 n2 d2 B3 n3 d3 cf) (ho : OnlyS bad w w') (h1 : ∀ k, (Value.slice B1 n1 d1).ownBlock = some k → ¬ bad k) (h2 : ∀ k, (Value.slice B2 n2 d2).ownBlock = some k → ¬ bad k) (h3 : ∀ k, (Value.slice B3 n3 d3).ownBlock = some k → ¬ bad k) : CfOwn w' B B1 n1 d1 B2 n2 d2 B3 n3 d3 cf :=
  ⟨ho.own h.m h1, ho.own h.s h2, ho.own h.c h3, h.hm, h.hs, h.hc⟩
theorem RgsV.apart {w : World} (hx : RgsV w g gt gu base B1 n1 d1 B2 n2 d2 B3 n3 d3 cf vt vu ac S U) {b0 : Nat} {e : TypeId} {sz n : Nat} {v : Value} {xs : List Value} (ho : w.ownsRow b0 e sz v n xs) (h1 : e ≠ 149) (h2 : e ≠ 194) (h3 : e ≠ 197) (h4 : e ≠ 156) (h5 : e ≠ 205) : ∀ k, v.ownBlock = some k → ¬ rbad g gt gu vt vu k := fun k hk hb => by
  rcases hb with e1 | e1 | e1 | e1 | e1
  · exact own_blk_ne ho hx.blk h1 (e1 ▸ hk)
  · exact own_blk_ne ho hx.tab.blk h2 (e1 ▸ hk)
  · exact own_neZ ho hx.tab.row h4 k e1 hk
  · exact own_blk_ne ho hx.use.blk h3 (e1 ▸ hk)
  · exact own_neZ ho hx.use.row h5 k e1 hk
end
end Go.Proofs.Ytelbolhckhdioaa
