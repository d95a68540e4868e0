import Derived.Test.YtndhhnfhookeaaaKeyC
namespace Go.Proofs.Ytndhhnfhookeaaa
open Go.RowKit

/-- Later by draws alone. -/
def Drawn (w w' : World) : Prop := ∃ q, w' = w.drewN q
theorem Drawn.refl (w : World) : Drawn w w := ⟨0, rfl⟩
theorem Drawn.next {w w' : World} (h : Drawn w w') (n : Nat) : Drawn w (w'.drewN n) := by
  obtain ⟨q, rfl⟩ := h
  exact ⟨q + n, by rw [World.drewN_drewN]⟩
theorem Drawn.keep {w w' : World} (h : Drawn w w') (p : Addr) : w'.cell? p = w.cell? p := by
  obtain ⟨q, rfl⟩ := h; rfl
theorem Drawn.below {B : Nat} {a w w' : World} (h : Drawn w w') (hb : Below B a w) : Below B a w' := by
  obtain ⟨q, rfl⟩ := h; exact below_drewN hb q
theorem Drawn.size {w w' : World} (h : Drawn w w') : w'.heap.size = w.heap.size := by
  obtain ⟨q, rfl⟩ := h; rfl
theorem Drawn.trans {w w' w'' : World} (h : Drawn w w') (k : Drawn w' w'') : Drawn w w'' := by
  obtain ⟨q, rfl⟩ := k; exact h.next q
theorem Drawn.blk {w w' : World} {g : Nat} {t : TypeId} {cs : Array Value} (h : Drawn w w') (hb : Blk w g t cs) : Blk w' g t cs := by
  obtain ⟨q, rfl⟩ := h; exact hb
theorem Drawn.bel {w w' : World} (h : Drawn w w') : Below w.heap.size w w' := h.below (Below.refl _ _)

theorem cmpL_end1 {xs ys : List Int} {k : Nat} {a : Int} (ha : xs.drop k = a :: xs.drop (k + 1)) (hy : ys.length ≤ k) (h : cmpL xs ys = cmpL (xs.drop k) (ys.drop k)) : cmpL xs ys = 1 := by
  rw [h, ha, List.drop_eq_nil_of_le hy, cmpL]
theorem cmpL_end2 {xs ys : List Int} {k : Nat} (hx : xs.length ≤ k) (hy : k < ys.length) (h : cmpL xs ys = cmpL (xs.drop k) (ys.drop k)) : cmpL xs ys = -1 := by
  rw [h, List.drop_eq_nil_of_le hx, List.drop_eq_getElem_cons hy, cmpL]
theorem cmpL_end3 {xs ys : List Int} {k : Nat} (hx : xs.length ≤ k) (hy : ys.length ≤ k) (h : cmpL xs ys = cmpL (xs.drop k) (ys.drop k)) : cmpL xs ys = 0 := by
  rw [h, List.drop_eq_nil_of_le hx, List.drop_eq_nil_of_le hy, cmpL]

def shortK (v : KeyV) : Bool := decide (v.k.length ≤ 6)
end Go.Proofs.Ytndhhnfhookeaaa
