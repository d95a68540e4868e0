import Derived.Test.YtfnhffcjhdeleaaBidW
namespace Go.Proofs.Ytfnhffcjhdeleaa
open Go.RowKit

/-! ### Two boxes of one config beside each other -/
structure PairB (w : World) (g g2 base : Nat) (B1 : Option Addr) (d1 : Nat) (B2 : Option Addr) (d2 : Nat) (B3 : Option Addr) (d3 : Nat) (E1 : Option Addr) (f1 : Nat) (E2 : Option Addr) (f2 : Nat) (E3 : Option Addr) (f3 : Nat) (n1 n2 n3 : Nat) (cf : Conf) (v v2 : Value) (l l2 : List BidV) : Prop where
  x : BoxV w g base B1 n1 d1 B2 n2 d2 B3 n3 d3 cf v l
  y : BoxV w g2 base E1 n1 f1 E2 n2 f2 E3 n3 f3 cf v2 l2
  ne : g ≠ g2
  ap : ∀ k, v.ownBlock = some k → v2.ownBlock ≠ some k
section
variable {w w' : World} {g g2 base : Nat} {B1 : Option Addr} {d1 : Nat} {B2 : Option Addr} {d2 : Nat} {B3 : Option Addr} {d3 : Nat} {E1 : Option Addr} {f1 : Nat} {E2 : Option Addr} {f2 : Nat} {E3 : Option Addr} {f3 : Nat} {n1 n2 n3 : Nat} {cf : Conf} {v v2 : Value} {l l2 : List BidV}
theorem PairB.symm (h : PairB w g g2 base B1 d1 B2 d2 B3 d3 E1 f1 E2 f2 E3 f3 n1 n2 n3 cf v v2 l l2) : PairB w g2 g base E1 f1 E2 f2 E3 f3 B1 d1 B2 d2 B3 d3 n1 n2 n3 cf v2 v l2 l := ⟨h.y, h.x, h.ne.symm, fun k e1 e2 => h.ap k e2 e1⟩
theorem PairB.past (h : PairB w g g2 base B1 d1 B2 d2 B3 d3 E1 f1 E2 f2 E3 f3 n1 n2 n3 cf v v2 l l2) (hb : Below w.heap.size w w') : PairB w' g g2 base B1 d1 B2 d2 B3 d3 E1 f1 E2 f2 E3 f3 n1 n2 n3 cf v v2 l l2 := ⟨h.x.past hb, h.y.past hb, h.ne, h.ap⟩
theorem PairB.addX (h : PairB w g g2 base B1 d1 B2 d2 B3 d3 E1 f1 E2 f2 E3 f3 n1 n2 n3 cf v v2 l l2) {v' : Value} {l' : List BidV} (hx : BoxV w' g base B1 n1 d1 B2 n2 d2 B3 n3 d3 cf v' l') (ho : OnlyB g v w w') (hd : v'.ownBlock = v.ownBlock ∨ ∃ k, v'.ownBlock = some k ∧ w.heap.size ≤ k) : PairB w' g g2 base B1 d1 B2 d2 B3 d3 E1 f1 E2 f2 E3 f3 n1 n2 n3 cf v' v2 l' l2 :=
  ⟨hx, h.y.onlyX ho h.x.blk h.x.row h.ne.symm h.ap, h.ne, fun k e1 e2 => by
    rcases hd with hd | ⟨j, hj, hle⟩
    · exact h.ap k (hd ▸ e1) e2
    · rw [hj] at e1; cases e1
      have := (h.y.row.lt _ e2).2; omega⟩
theorem PairB.frameX (h : PairB w g g2 base B1 d1 B2 d2 B3 d3 E1 f1 E2 f2 E3 f3 n1 n2 n3 cf v v2 l l2) (ho : OnlyB g v w w') {B : Nat} (h1 : B ≤ g) (h2 : B ≤ base) (h3 : B ≤ w.heap.size) : Below B w w' := ho.frame h1 h3 fun k e => by have := (h.x.row.lt k e).1; omega
end
theorem BoxV.mono {w : World} {g base base' : Nat} {B1 : Option Addr} {n1 d1 : Nat} {B2 : Option Addr} {n2 d2 : Nat} {B3 : Option Addr} {n3 d3 : Nat} {cf : Conf} {v : Value} {l : List BidV} (h : BoxV w g base B1 n1 d1 B2 n2 d2 B3 n3 d3 cf v l) (hb : base' ≤ base) : BoxV w g base' B1 n1 d1 B2 n2 d2 B3 n3 d3 cf v l := ⟨h.form, h.blk, own_mono' h.row hb, h.own.mono hb⟩

/-! ### A bid's number is written -/
theorem set1 : ∀ (l : List BidV) (i : Nat) (x : BidV), l[i]? = some x → (l.flatMap BidV.cells).set (i * 5) (.int .i64 0) = (l.set i (stripB x)).flatMap BidV.cells
  | [], i, x, h => by simp at h
  | y :: l, 0, x, h => by simp at h; subst h; simp [BidV.cells, stripB]
  | y :: l, i + 1, x, h => by
    have ih := set1 l i x (by simpa using h)
    rw [List.set_cons_succ, List.flatMap_cons, List.flatMap_cons, ← ih]
    simp only [BidV.cells, List.cons_append, List.nil_append, show (i + 1) * 5 = i * 5 + 5 from by omega, List.set_cons_succ]
theorem own_wipe {w : World} {B g n c i : Nat} {l : List BidV} {x : BidV} (h : w.ownsRow B 103 5 (.slice (some ⟨g, 0, none⟩) n c) n ((wipedB l i).flatMap BidV.cells)) (hi : i < n) (hx : l[i]? = some x) :
    (w.setCell ⟨g, i * 5, none⟩ (.int .i64 0)).ownsRow B 103 5 (.slice (some ⟨g, 0, none⟩) n c) n ((wipedB l (i + 1)).flatMap BidV.cells) := by
  rw [← wipedB_set hx, ← set1 _ _ _ (wipedB_get hx)]
  exact own_set h (by omega) _
/-- What holds of bids of which no two have one price. -/
def UpTo (l : List BidV) (i k : Nat) : Prop := (∀ (a b : Nat) (x y : BidV), b < a → a < i → l[a]? = some x → l[b]? = some y → y.price ≠ x.price) ∧ ∀ (b : Nat) (x y : BidV), b < k → l[i]? = some x → l[b]? = some y → y.price ≠ x.price
theorem UpTo.zero (l : List BidV) : UpTo l 0 0 := ⟨fun a b x y _ h => by omega, fun b x y h => by omega⟩
theorem UpTo.step {l : List BidV} {i k : Nat} {x y : BidV} (h : UpTo l i k) (hx : l[i]? = some x) (hy : l[k]? = some y) (hne : y.price ≠ x.price) : UpTo l i (k + 1) := ⟨h.1, fun b x' y' hb hx' hy' => by
  rw [hx] at hx'; cases hx'
  rcases Nat.lt_or_ge b k with hlt | hge
  · exact h.2 b x y' hlt hx hy'
  · obtain rfl : b = k := by omega
    rw [hy] at hy'; cases hy'; exact hne⟩
theorem UpTo.next {l : List BidV} {i : Nat} (h : UpTo l i i) : UpTo l (i + 1) 0 := ⟨fun a b x y hb ha hx hy => by
  rcases Nat.lt_or_ge a i with hlt | hge
  · exact h.1 a b x y hb hlt hx hy
  · obtain rfl : a = i := by omega
    exact h.2 b x y hb hx hy, fun b x y hb => by omega⟩
theorem UpTo.unlike {l : List BidV} (h : UpTo l l.length 0) : UnlikeB l := by
  unfold UnlikeB
  rw [List.pairwise_iff_getElem]
  intro i j hi hj hij
  exact h.1 j i l[j] l[i] hij hj (List.getElem?_eq_getElem hj) (List.getElem?_eq_getElem hi)
end Go.Proofs.Ytfnhffcjhdeleaa
