import Derived.Test.YtndhhnfhookeaaaBidQ
namespace Go.Proofs.Ytndhhnfhookeaaa

/-! ### A box's bids are numbered from 1 on -/
def NumsB (l : List BidV) : Prop := ∀ (i : Nat) (x : BidV), l[i]? = some x → x.seq = (i : Int) + 1
theorem numsB_nil : NumsB [] := fun i x h => by simp at h
theorem numsB_snoc {l : List BidV} {x : BidV} (h : NumsB l) (hx : x.seq = (l.length : Int) + 1) : NumsB (l ++ [x]) := by
  intro i y hy
  rcases Nat.lt_or_ge i l.length with hlt | hge
  · rw [List.getElem?_append_left hlt] at hy; exact h i y hy
  · rw [List.getElem?_append_right hge] at hy
    have hi : i = l.length := by
      rcases Nat.eq_or_lt_of_le hge with e | e
      · exact e.symm
      · rw [List.getElem?_eq_none (by simp; omega)] at hy; cases hy
    subst hi
    rw [Nat.sub_self] at hy
    cases hy
    exact hx
theorem numsB_rise {l : List BidV} (h : NumsB l) : RiseB l := by
  unfold RiseB
  rw [List.pairwise_iff_getElem]
  intro i j hi hj hij
  have h1 := h i _ (List.getElem?_eq_getElem hi)
  have h2 := h j _ (List.getElem?_eq_getElem hj)
  omega
end Go.Proofs.Ytndhhnfhookeaaa
