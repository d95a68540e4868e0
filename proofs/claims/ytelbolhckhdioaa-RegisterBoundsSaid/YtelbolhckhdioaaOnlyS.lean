/-
  A frame for a call that writes some of the old blocks alone.
-/
import Derived.Test.YtelbolhckhdioaaTabZ
namespace Go.Proofs.Ytelbolhckhdioaa
open Go.RowKit

structure OnlyS (bad : Nat → Prop) (w w' : World) : Prop where
  os : w'.os = w.os
  tape : w'.tape = w.tape
  output : w'.output = w.output
  size : w.heap.size ≤ w'.heap.size
  block : ∀ k, k < w.heap.size → ¬ bad k → w'.heap[k]? = w.heap[k]?
section
variable {bad bad1 bad2 : Nat → Prop} {w w1 w2 w' : World}
theorem OnlyS.of_below (h : Below w.heap.size w w') : OnlyS bad w w' := ⟨h.os, h.tape, h.output, h.size, fun k hk _ => h.block k hk⟩
theorem OnlyS.of_onlyG {g : Nat} {v : Value} (h : OnlyG g v w w') (h1 : bad g) (h2 : ∀ k, v.ownBlock = some k → bad k) : OnlyS bad w w' :=
  ⟨h.os, h.tape, h.output, h.size, fun k hk hb => h.block k hk (fun e => hb (e ▸ h1)) (fun e => hb (h2 k e))⟩
theorem OnlyS.trans (h1 : OnlyS bad1 w w1) (h2 : OnlyS bad2 w1 w2) (a : ∀ k, k < w.heap.size → bad1 k → bad k) (b : ∀ k, k < w.heap.size → bad2 k → bad k) : OnlyS bad w w2 :=
  ⟨h2.os.trans h1.os, h2.tape.trans h1.tape, h2.output.trans h1.output, Nat.le_trans h1.size h2.size, fun k hk hb => (h2.block k (Nat.lt_of_lt_of_le hk h1.size) (fun e => hb (b k hk e))).trans (h1.block k hk (fun e => hb (a k hk e)))⟩
theorem OnlyS.below (h : OnlyS bad w w1) (hb : Below w1.heap.size w1 w2) : OnlyS bad w w2 := h.trans (OnlyS.of_below (bad := fun _ => False) hb) (fun _ _ e => e) (fun _ _ e => e.elim)
theorem OnlyS.after (hb : Below w.heap.size w w1) (h : OnlyS bad w1 w2) : OnlyS bad w w2 := (OnlyS.of_below (bad := fun _ => False) hb).trans h (fun _ _ e => e.elim) (fun _ _ e => e)
theorem OnlyS.blk (h : OnlyS bad w w') {k : Nat} {t : TypeId} {arr : Array Value} (hb : Blk w k t arr) (hk : ¬ bad k) : Blk w' k t arr := by
  have hlt := hb.lt
  unfold Blk at hb ⊢
  rw [h.block k hlt hk]; exact hb
theorem OnlyS.own (h : OnlyS bad w w') {base : Nat} {e : TypeId} {size n : Nat} {u : Value} {xs : List Value} (ho : w.ownsRow base e size u n xs) (h2 : ∀ k, u.ownBlock = some k → ¬ bad k) : w'.ownsRow base e size u n xs := by
  refine ⟨ho.1, ?_⟩
  rcases ho.2 with h0 | ⟨k, cap, cur, rfl, hb, hh, h3⟩
  · exact .inl h0
  · refine .inr ⟨k, cap, cur, rfl, hb, ?_, h3⟩
    have hlt : k < w.heap.size := by
      rcases Nat.lt_or_ge k w.heap.size with hlt | hge
      · exact hlt
      · rw [Array.getElem?_eq_none hge] at hh; cases hh
    rw [h.block k hlt (h2 k rfl)]; exact hh
theorem OnlyS.frame {B : Nat} (h : OnlyS bad w w') (hB : B ≤ w.heap.size) (hb : ∀ k, k < w.heap.size → bad k → B ≤ k) : Below B w w' :=
  ⟨h.os, h.tape, h.output, h.size, fun k hk => h.block k (by omega) (fun e => by have := hb k (by omega) e; omega)⟩
end
end Go.Proofs.Ytelbolhckhdioaa
