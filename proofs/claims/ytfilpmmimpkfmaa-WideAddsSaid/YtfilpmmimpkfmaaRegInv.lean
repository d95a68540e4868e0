/-
  A region whose order is open, by an invariant: what holds behind any set of operations that have come up; each operation is walked once.
-/
import Derived.Test.YtfilpmmimpkfmaaBas2
namespace Go.Proofs.Ytfilpmmimpkfmaa
open Go.RowKit

section
variable {P : Program} {ops : Array Oper} {Q : Exit → Act → World → Prop} {md : Region.Mode}

/-- How many operations are still to come. -/
def toCome (L : Array Bool) : Nat := L.toList.count false

theorem toCome_set {L : Array Bool} {i : Nat} (h : L.getD i true = false) : toCome (L.setIfInBounds i true) + 1 = toCome L := by
  have hi : i < L.size := by
    rcases Nat.lt_or_ge i L.size with h' | h'
    · exact h'
    · simp [Array.getElem?_eq_none h'] at h
  have hv : L[i] = false := by simpa [hi] using h
  unfold toCome
  rw [Array.toList_setIfInBounds]
  have hi' : i < L.toList.length := by simpa using hi
  rw [List.count_set hi']
  have hpos : 0 < L.toList.count false := by
    have hm : false ∈ L.toList := by rw [← hv]; simp
    exact List.count_pos_iff.2 hm
  have e1 : L.toList[i] = false := by simpa using hv
  rw [e1]
  simp only [beq_self_eq_true, if_true]
  have e2 : ((true == false) = true) = False := by simp
  simp only [e2, if_false]
  omega

/-- **The rule**: I holds at the start, is kept by each operation that may come up, and gives the post when none is left. -/
theorem wpAny_inv {I : Array Bool → Act → World → Prop}
    (hend : ∀ L a w, I L a w → Region.ready md ops L = [] → Q .normal a w)
    (hstep : ∀ L a w i, I L a w → i ∈ Region.ready md ops L → wpOp P ops Q i (I (L.setIfInBounds i true)) a w) :
    ∀ (fuel : Nat) (L : Array Bool) (a : Act) (w : World), toCome L ≤ fuel → I L a w → wpAny P md ops Q fuel L a w
  | 0, L, a, w, hf, h => by
    have hr : Region.ready md ops L = [] := by
      rw [List.eq_nil_iff_forall_not_mem]
      intro i hi
      have := toCome_set (mem_ready.1 hi).1
      omega
    exact ⟨hr, hend L a w h hr⟩
  | fuel + 1, L, a, w, hf, h =>
    ⟨hend L a w h, fun i hi => wpOp_mono (fun a' w' h' => wpAny_inv hend hstep fuel _ a' w' (by have := toCome_set (mem_ready.1 hi).1; omega) h') (hstep L a w i h hi)⟩

theorem wp_region_inv {id : Nat} {a : Act} {w : World} (hm : P.follows .mixedOrders = true) (I : Array Bool → Act → World → Prop)
    (h0 : I (Array.replicate ops.size false) a w.drew)
    (hend : ∀ L a w, I L a w → Region.ready .any ops L = [] → Q .normal a w)
    (hstep : ∀ L a w i, I L a w → i ∈ Region.ready .any ops L → wpOp P ops Q i (I (L.setIfInBounds i true)) a w) : (Code.region id ops true).wp P Q a w :=
  wp_region_any hm (wpAny_inv hend hstep _ _ a _ (by simp [toCome]) h0)
end
end Go.Proofs.Ytfilpmmimpkfmaa
