/-
  The two drawn statements of WideAdds, by invariants.
-/
import Derived.Test.YtfilpmmimpkfmaaWidK
namespace Go.Proofs.Ytfilpmmimpkfmaa
open Go.RowKit

/-- A load of eight words, at the region's step. -/
theorem wpOp_load8 {ops : Array Oper} {Q : Exit → Act → World → Prop} {i d : Nat} {o : Oper} {a : Act} {w : World} {K : Act → World → Prop} (ho : ops[i]? = some o) (hg : o.guard = none) (hd : o.dst = some d) (p : Operand) (hop : o.op = .load 25 p) (g : Nat) (D : Nat → Int)
    (hp : a.eval p = .pointer (some ⟨g, 0, none⟩)) (hb : Blk w g 25 (arr8 D)) (h : K (a.put (some d) (.agg (arr8 D))) w) : wpOp Try.prog ops Q i K a w := by
  refine wpOp_yield ho hg hd _ ?_ h
  have hu := Try.underlying25
  have s0 := (hb.cell 0).trans (arr8_get _ 0 (by omega))
  have s1 := (hb.cell 1).trans (arr8_get _ 1 (by omega))
  have s2 := (hb.cell 2).trans (arr8_get _ 2 (by omega))
  have s3 := (hb.cell 3).trans (arr8_get _ 3 (by omega))
  have s4 := (hb.cell 4).trans (arr8_get _ 4 (by omega))
  have s5 := (hb.cell 5).trans (arr8_get _ 5 (by omega))
  have s6 := (hb.cell 6).trans (arr8_get _ 6 (by omega))
  have s7 := (hb.cell 7).trans (arr8_get _ 7 (by omega))
  simp only [execOp, hop, hp]
  unfold arr8
  go_simp
theorem wpOp_move {ops : Array Oper} {Q : Exit → Act → World → Prop} {i d : Nat} {o : Oper} {a : Act} {w : World} {K : Act → World → Prop} (ho : ops[i]? = some o) (hg : o.guard = none) (hd : o.dst = some d) (p : Operand) (hop : o.op = .move p ∨ o.op = .assign p) (v : Value)
    (hp : a.eval p = v) (h : K (a.put (some d) v) w) : wpOp Try.prog ops Q i K a w := by
  refine wpOp_yield ho hg hd _ ?_ h
  rcases hop with hop | hop
  · simp only [execOp, hop, hp]; go_simp
  · simp only [execOp, hop, hp]; go_simp
theorem wpOp_extract {ops : Array Oper} {Q : Exit → Act → World → Prop} {i d : Nat} {o : Oper} {a : Act} {w : World} {K : Act → World → Prop} (ho : ops[i]? = some o) (hg : o.guard = none) (hd : o.dst = some d) (p : Operand) (n : Nat) (hop : o.op = .extract p n) (x y : Value) (hn : n = 0 ∨ n = 1)
    (hp : a.eval p = .tuple #[x, y]) (h : K (a.put (some d) (if n = 0 then x else y)) w) : wpOp Try.prog ops Q i K a w := by
  refine wpOp_yield ho hg hd _ ?_ h
  rcases hn with rfl | rfl
  · simp only [execOp, hop, hp]; go_simp
  · simp only [execOp, hop, hp]; go_simp

def jA (W : World) (P Q : Int) (Y0 Y1 X0 X1 : Value) (L : Array Bool) (v : Nat → Value) (w : World) : Prop :=
  ∃ l1 l2 c1 l3 l4 c2 a1 a2 s1 s2, L = #[true, l1, true, l2, c1, true, l3, true, l4, c2, a1, a2, s1, s2] ∧ St8 W P Q c1 l3 l4 c2 a1 a2 s1 s2 (v 20) (v 22) (v 24) (v 25) (v 5) (v 6) X0 X1 w ∧ (l1 = true → v 17 = Y0) ∧ (l2 = true → v 19 = Y1)

/-- Behind the second drawn statement. -/
def BackCut (W : World) (P : Int) (p b : Value) (w' : World) : Prop := ∃ g : Nat, p = .pointer (some ⟨g, 0, none⟩) ∧ b = .bool true ∧ Blk w' g 25 (arr8 (dig P)) ∧ Below W.heap.size W w'

structure Bk (W : World) (D Y X : Int) (H L : Value) (l1 l2 c1 l5 c2 m x1 x2 al st ag : Bool) (v : Nat → Value) (w : World) : Prop where
  below : Below W.heap.size W w
  h1 : l1 = true → v 92 = H
  h2 : l2 = true → v 94 = L
  h3 : c1 = true → v 95 = .agg (arr8 (dig D))
  h4 : l5 = true → v 96 = .agg (arr8 (dig Y))
  h5 : c2 = true → v 97 = .tuple #[.agg (arr8 (dig X)), .bool true]
  h6 : m = true → v 90 = .tuple #[.agg (arr8 (dig X)), .bool true]
  h7 : x1 = true → v 98 = .agg (arr8 (dig X))
  h8 : x2 = true → v 99 = .bool true
  h9 : al = true → ∃ g, v 14 = .pointer (some ⟨g, 0, none⟩) ∧ W.heap.size ≤ g ∧ Blk w g 25 (if st then arr8 (dig X) else zero8)
  h10 : st = true → al = true
  h11 : ag = true → v 15 = .bool true
theorem Bk.past {W : World} {D Y X : Int} {H L : Value} {l1 l2 c1 l5 c2 m x1 x2 al st ag : Bool} {v : Nat → Value} {w w' : World} (h : Bk W D Y X H L l1 l2 c1 l5 c2 m x1 x2 al st ag v w) (hb : Below w.heap.size w w') : Bk W D Y X H L l1 l2 c1 l5 c2 m x1 x2 al st ag v w' :=
  { h with below := Below.next h.below hb, h9 := fun e => let ⟨g, e1, e2, e3⟩ := h.h9 e; ⟨g, e1, e2, e3.past hb⟩ }
def jB (W : World) (D Y X : Int) (H L : Value) (A : Array Bool) (v : Nat → Value) (w : World) : Prop :=
  ∃ l1 l2 c1 l5 c2 m x1 x2 al st ag, A = #[true, l1, true, l2, c1, l5, c2, m, x1, x2, al, st, ag] ∧ Bk W D Y X H L l1 l2 c1 l5 c2 m x1 x2 al st ag v w
end Go.Proofs.Ytfilpmmimpkfmaa
