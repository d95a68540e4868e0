/-
  Plain: the digits of a number, lowest first; a list turned round in place.
-/
import Derived.WalkKit
namespace Go.Proofs.YtehemhpfdajbdaaDoor

/-- The digits of n, at least so many, lowest first (f: how many at most). -/
def low : Nat → Nat → Nat → List Nat
  | 0, _, _ => []
  | f + 1, n, least => if 0 < n ∨ 0 < least then n % 10 :: low f (n / 10) (least - 1) else []

theorem low_done (f n least : Nat) (h : ¬ (0 < n ∨ 0 < least)) : low f n least = [] := by cases f <;> simp [low, h]
theorem low_step (f n least : Nat) (h : 0 < n ∨ 0 < least) : low (f + 1) n least = n % 10 :: low f (n / 10) (least - 1) := by simp only [low]; rw [if_pos h]
theorem low_lt (f n least : Nat) : ∀ d ∈ low f n least, d < 10 := by
  induction f generalizing n least with
  | zero => simp [low]
  | succ f ih =>
    intro d hd
    simp only [low] at hd
    split at hd
    · rcases List.mem_cons.1 hd with rfl | h
      · omega
      · exact ih _ _ d h
    · simp at hd
theorem low_len (f n least : Nat) : (low f n least).length ≤ f := by
  induction f generalizing n least with
  | zero => simp [low]
  | succ f ih =>
    simp only [low]
    split
    · have := ih (n / 10) (least - 1); simp only [List.length_cons]; omega
    · simp

/-- A digit's byte. -/
def dg (d : Nat) : UInt8 := UInt8.ofNat (48 + d)
theorem dg_toNat (d : Nat) (h : d < 10) : (dg d).toNat = 48 + d := by unfold dg; rw [UInt8.toNat_ofNat']; omega

/-- The digits' text, highest first. -/
def digT (n least : Nat) : List UInt8 := ((low 20 n least).map dg).reverse

/-- A list of which k places at both ends are exchanged. -/
def turnK {α : Type} : Nat → List α → List α
  | 0, l => l
  | k + 1, l => match (turnK k l)[k]?, (turnK k l)[l.length - 1 - k]? with
    | some a, some b => ((turnK k l).set k b).set (l.length - 1 - k) a
    | _, _ => turnK k l

theorem turnK_len {α : Type} (k : Nat) (l : List α) : (turnK k l).length = l.length := by
  induction k with
  | zero => rfl
  | succ k ih => simp only [turnK]; split <;> simp [ih]

theorem turnK_get {α : Type} (k : Nat) (l : List α) (hk : k ≤ l.length / 2) (j : Nat) (hj : j < l.length) : (turnK k l)[j]? = if j < k ∨ l.length - k ≤ j then l[l.length - 1 - j]? else l[j]? := by
  induction k generalizing j with
  | zero => rw [if_neg (by omega)]; rfl
  | succ k ih =>
    have h1 := ih (by omega) k (by omega)
    have h2 := ih (by omega) (l.length - 1 - k) (by omega)
    rw [if_neg (by omega)] at h1 h2
    have e1 : l[k]? = some (l[k]'(by omega)) := List.getElem?_eq_getElem _
    have e2 : l[l.length - 1 - k]? = some (l[l.length - 1 - k]'(by omega)) := List.getElem?_eq_getElem _
    simp only [turnK, h1, h2, e1, e2]
    by_cases a1 : j = l.length - 1 - k
    · subst a1
      rw [if_pos (by omega), List.getElem?_set_self (by rw [List.length_set, turnK_len]; omega), show l.length - 1 - (l.length - 1 - k) = k by omega, e1]
    · rw [List.getElem?_set_ne (by omega)]
      by_cases a2 : j = k
      · subst a2
        rw [if_pos (by omega), List.getElem?_set_self (by rw [turnK_len]; omega), e2]
      · rw [List.getElem?_set_ne (by omega), ih (by omega) j hj]
        by_cases a3 : j < k ∨ l.length - k ≤ j
        · rw [if_pos a3, if_pos (by omega)]
        · rw [if_neg a3, if_neg (by omega)]

theorem turnK_all {α : Type} (l : List α) : turnK (l.length / 2) l = l.reverse := by
  apply List.ext_getElem?
  intro j
  by_cases hj : j < l.length
  · rw [turnK_get _ l (Nat.le_refl _) j hj, List.getElem?_reverse hj]
    split
    · rfl
    · have : l.length - 1 - j = j := by omega
      rw [this]
  · rw [List.getElem?_eq_none (by rw [turnK_len]; omega), List.getElem?_eq_none (by simp; omega)]
end Go.Proofs.YtehemhpfdajbdaaDoor
