/-
  Plain: the text of an amount, sign by sign.
-/
import Derived.Test.YtjkabmijkbpodabTxtR
namespace Go.Proofs.Ytjkabmijkbpodab

/-- The number of the digits among the first k signs. -/
def numF (T : List UInt8) (k : Nat) : Nat := numV ((T.take k).filter (fun c => c != 46)) 0

theorem numF_succ (T : List UInt8) (k : Nat) (h : k < T.length) : numF T (k + 1) = if T[k] = 46 then numF T k else numF T k * 10 + (T[k].toNat - 48) := by
  unfold numF
  rw [List.take_succ_eq_append_getElem h, List.filter_append, numV_append]
  by_cases e : T[k] = 46
  · rw [if_pos e]; simp [e, numV]
  · rw [if_neg e]; simp [e, numV]
theorem numF_le (T : List UInt8) (k : Nat) : numF T k ≤ numV (T.filter (fun c => c != 46)) 0 := by
  have h := congrArg (fun l => numV (l.filter (fun c => c != 46)) 0) (List.take_append_drop k T)
  simp only [List.filter_append, numV_append] at h
  rw [← h]
  exact numV_le _ _
theorem numF_all (T : List UInt8) (k : Nat) (h : T.length ≤ k) : numF T k = numV (T.filter (fun c => c != 46)) 0 := by
  unfold numF; rw [List.take_of_length_le h]

theorem filt_dig (l : List UInt8) (h : ∀ c ∈ l, 48 ≤ c.toNat ∧ c.toNat ≤ 57) : l.filter (fun c => c != 46) = l := by
  rw [List.filter_eq_self]
  intro c hc
  have := (dig_ne c (h c hc).1).1
  simpa using this

theorem sign_at (x1 x2 : List UInt8) (h1 : ∀ c ∈ x1, 48 ≤ c.toNat ∧ c.toNat ≤ 57) (h2 : ∀ c ∈ x2, 48 ≤ c.toNat ∧ c.toNat ≤ 57) (k : Nat) (hk : k < (x1 ++ 46 :: x2).length) :
    ((x1 ++ 46 :: x2)[k] = 46 ∧ k = x1.length) ∨ ((x1 ++ 46 :: x2)[k] ≠ 46 ∧ 48 ≤ ((x1 ++ 46 :: x2)[k]).toNat ∧ ((x1 ++ 46 :: x2)[k]).toNat ≤ 57) := by
  rcases Nat.lt_trichotomy k x1.length with h | h | h
  · right
    have e : (x1 ++ 46 :: x2)[k] = x1[k] := List.getElem_append_left h
    rw [e]
    have := h1 _ (List.getElem_mem h)
    exact ⟨(dig_ne _ this.1).1, this⟩
  · left
    subst h
    exact ⟨by simp, rfl⟩
  · right
    obtain ⟨j, hj⟩ : ∃ j, k = x1.length + (j + 1) := ⟨k - x1.length - 1, by omega⟩
    subst hj
    have hk' : j < x2.length := by simp at hk; omega
    have e : (x1 ++ 46 :: x2)[x1.length + (j + 1)] = x2[j] := by
      apply Option.some.inj
      rw [← List.getElem?_eq_getElem, ← List.getElem?_eq_getElem, List.getElem?_append_right (by omega), Nat.add_sub_cancel_left, List.getElem?_cons_succ]
    rw [e]
    have := h2 _ (List.getElem_mem hk')
    exact ⟨(dig_ne _ this.1).1, this⟩
end Go.Proofs.Ytjkabmijkbpodab
