import Derived.Test.YtkdiongmegnicaaBokJ
namespace Go.Proofs.Ytkdiongmegnicaa
open Go.RowKit

theorem own_onlyK {g : Nat} {v u : Value} {w w' : World} (h : OnlyG g v w w') {base : Nat} {e : TypeId} {size n : Nat} {xs : List Value} (ho : w.ownsRow base e size u n xs) (h1 : u.ownBlock ≠ some g) (h2 : ∀ k, v.ownBlock = some k → u.ownBlock ≠ some k) : w'.ownsRow base e size u n xs := by
  refine ⟨ho.1, ?_⟩
  rcases ho.2 with h0 | ⟨k, cap, cur, rfl, hb, hh, h3⟩
  · exact .inl h0
  · refine .inr ⟨k, cap, cur, rfl, hb, ?_, h3⟩
    have hlt : k < w.heap.size := by
      rcases Nat.lt_or_ge k w.heap.size with hlt | hge
      · exact hlt
      · rw [Array.getElem?_eq_none hge] at hh; cases hh
    rw [h.block k hlt (fun e => h1 (by rw [← e]; rfl)) (fun e => h2 k e rfl)]; exact hh
/-- What holds at the head of each round. -/
structure BBSt (W : World) (g M : Nat) (v va : Value) (bl : List Int) (p : Int) (L : List Ent) (w : World) : Prop where
  book : BookV w g W.heap.size M 3 v bl p
  inv : Inv M 3 bl L
  acc : w.ownsRow W.heap.size 77 2 va (cnt M) ((accs M).flatMap Acc.cells)
  below : Below W.heap.size W w
  hg : W.heap.size ≤ g
theorem BBSt.past {W w w' : World} {g M : Nat} {v va : Value} {bl : List Int} {p : Int} {L : List Ent} (h : BBSt W g M v va bl p L w) (hb : Below w.heap.size w w') : BBSt W g M v va bl p L w' :=
  ⟨h.book.past hb, h.inv, own_pastK h.acc hb, Below.past h.below hb h.below.size, h.hg⟩
theorem BBSt.post {W w w' : World} {g M : Nat} {v va : Value} {bl : List Int} {p : Int} {L l : List Ent} (h : BBSt W g M v va bl p L w) (hb : BookV w' g W.heap.size M 3 v (postB M 3 bl l) (postP M 3 bl l p)) (ho : OnlyG g v w w') : BBSt W g M v va (postB M 3 bl l) (postP M 3 bl l p) (if postK M 3 bl l = 0 then L ++ l else L) w' :=
  ⟨hb, h.inv.post h.book.hM, own_onlyK ho h.acc (own_blk_ne h.acc h.book.blk (by decide)) (own_neK h.acc h.book.row (by decide)), Below.trans h.below (h.book.frame ho h.hg (Nat.le_refl _) h.below.size), h.hg⟩
theorem postP_le {M A : Nat} {bl : List Int} {l : List Ent} {p : Int} {k : Nat} (h : 0 ≤ p ∧ p ≤ k) : 0 ≤ postP M A bl l p ∧ postP M A bl l p ≤ ((k + 1 : Nat) : Int) := by
  unfold postP; split <;> omega
theorem acc_okP {M : Nat} {x : Acc} {k j : Nat} (hM : M ≤ 16) (h : (accs M)[k]? = some x) (hj : j < 3) : okP M 3 ⟨x.kind, x.member, (j : Int)⟩ = true := by
  have hk := (List.getElem?_eq_some_iff.1 h).1
  rw [accs_len] at hk
  have hg := accs_get M k hk
  rw [h] at hg
  have hx : x = accN k := Option.some.inj hg
  refine okP_iff.2 ⟨?_, by show (0 : Int) ≤ j; omega, by show (j : Int) < (3 : Nat); omega⟩
  show (numA M x).2 = 0
  rw [hx, num_accN M k hM hk]

end Go.Proofs.Ytkdiongmegnicaa
