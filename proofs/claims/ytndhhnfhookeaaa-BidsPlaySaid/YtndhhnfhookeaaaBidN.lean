import Derived.Test.YtndhhnfhookeaaaBidM
import Derived.IntWalk
namespace Go.Proofs.Ytndhhnfhookeaaa
open Go.RowKit

/-- What the document's list of a security is, behind the first k bids. -/
def secR (l : List BidV) (sec : Int) (k : Nat) : List BidV := ((l.take k).filter (secF sec)).foldl putB []
theorem secR_len (l : List BidV) (sec : Int) (k : Nat) : (secR l sec k).length = ((l.take k).filter (secF sec)).length := by
  have key : ∀ (m out : List BidV), (m.foldl putB out).length = out.length + m.length := by
    intro m
    induction m with
    | nil => intro out; rfl
    | cons x m ih => intro out; rw [List.foldl_cons, ih, (putB_perm out x).length_eq, List.length_cons, List.length_cons]; omega
  rw [secR, key]; simp
theorem secR_yes {l : List BidV} {sec : Int} {f : BidV} {k : Nat} (hT : l.take (k + 1) = l.take k ++ [f]) (he : secF sec f = true) : secR l sec (k + 1) = putB (secR l sec k) f := by
  rw [secR, filtB_yes hT he, List.foldl_append]; rfl
theorem secR_no {l : List BidV} {sec : Int} {f : BidV} {k : Nat} (hT : l.take (k + 1) = l.take k ++ [f]) (he : secF sec f = false) : secR l sec (k + 1) = secR l sec k := by
  rw [secR, filtB_no hT he]; rfl
theorem secR_sorted {l : List BidV} (h : RiseB l) (sec : Int) (k : Nat) : (secR l sec k).Pairwise bLe := by
  have hr : RiseB ((l.take k).filter (secF sec)) := List.Pairwise.filter _ (List.Pairwise.sublist (List.take_sublist k l) h)
  rw [secR, fold_sort hr]; exact sortB_sorted _
/-- Where the walk down stops. -/
theorem putB_stop {cur : List BidV} {f y : BidV} {j : Nat} (hs : cur.Pairwise bLe) (hj : 0 < j) (hy : cur[j - 1]? = some y) (hle : ¬ f.price < y.price) (hd : ∀ x ∈ cur.drop j, f.price < x.price) : putB cur f = cur.take j ++ f :: cur.drop j := by
  refine putB_at (fun x hx => ?_) hd
  obtain ⟨i, hi, rfl⟩ := List.getElem_of_mem hx
  obtain ⟨hlt, e⟩ := List.getElem?_eq_some_iff.1 hy
  rw [List.length_take] at hi
  rw [List.getElem_take]
  rcases Nat.lt_or_ge i (j - 1) with h | h
  · have h2 := (List.pairwise_iff_getElem.1 hs) i (j - 1) (by omega) hlt h
    rw [e] at h2
    unfold bLe at h2; omega
  · have : i = j - 1 := by omega
    subst this
    rw [e]; exact hle
theorem putB_top {cur : List BidV} {f : BidV} (hd : ∀ x ∈ cur.drop 0, f.price < x.price) : putB cur f = f :: cur := by
  have := putB_at (out := cur) (f := f) (k := 0) (fun x hx => by simp at hx) hd
  simpa using this
end Go.Proofs.Ytndhhnfhookeaaa
