/-
  Keys: how two lists of numbers compare, the order of any keys, and where each stands.
-/
import Derived.Test.YtfnhffcjhdeleaaRkQ
namespace Go.Proofs.Ytfnhffcjhdeleaa
open Go.Sort

/-- How two keys compare: by the first number that differs; a key's beginning stands ahead. -/
def cmpL : List Int → List Int → Int
  | [], [] => 0
  | [], _ :: _ => -1
  | _ :: _, [] => 1
  | a :: as, b :: bs => if a < b then -1 else if b < a then 1 else cmpL as bs

theorem cmpL_bd : ∀ a b : List Int, -1 ≤ cmpL a b ∧ cmpL a b ≤ 1
  | [], [] => by simp [cmpL]
  | [], _ :: _ => by simp [cmpL]
  | _ :: _, [] => by simp [cmpL]
  | a :: as, b :: bs => by
    have := cmpL_bd as bs
    unfold cmpL
    repeat' split
    all_goals omega
theorem cmpL_swap : ∀ a b : List Int, cmpL b a = - cmpL a b
  | [], [] => by simp [cmpL]
  | [], _ :: _ => by simp [cmpL]
  | _ :: _, [] => by simp [cmpL]
  | a :: as, b :: bs => by
    have := cmpL_swap as bs
    simp only [cmpL]
    repeat' split
    all_goals omega
theorem cmpL_refl : ∀ a : List Int, cmpL a a = 0
  | [] => by simp [cmpL]
  | a :: as => by simp [cmpL, cmpL_refl as]
theorem cmpL_eq : ∀ {a b : List Int}, cmpL a b = 0 → a = b
  | [], [], _ => rfl
  | [], _ :: _, h => by simp [cmpL] at h
  | _ :: _, [], h => by simp [cmpL] at h
  | a :: as, b :: bs, h => by
    simp only [cmpL] at h
    split at h
    · omega
    · split at h
      · omega
      · rw [cmpL_eq h, show a = b by omega]
theorem cmpL_tr : ∀ {a b c : List Int}, cmpL a b < 0 → cmpL b c < 0 → cmpL a c < 0
  | [], [], _, h, _ => by simp [cmpL] at h
  | [], _ :: _, [], _, h => by simp [cmpL] at h
  | [], _ :: _, _ :: _, _, _ => by simp [cmpL]
  | _ :: _, [], _, h, _ => by simp [cmpL] at h
  | _ :: _, _ :: _, [], _, h => by simp [cmpL] at h
  | a :: as, b :: bs, c :: cs, h1, h2 => by
    simp only [cmpL] at h1 h2 ⊢
    by_cases e1 : a < c
    · rw [if_pos e1]; omega
    · rw [if_neg e1]
      have ab : ¬ b < a := fun h => by
        rw [if_neg (by omega), if_pos h] at h1; omega
      have bc : ¬ c < b := fun h => by
        rw [if_neg (by omega), if_pos h] at h2; omega
      rw [if_neg (by omega)]
      rw [if_neg (by omega), if_neg ab] at h1
      rw [if_neg (by omega), if_neg bc] at h2
      exact cmpL_tr h1 h2
theorem cmpL_le_tr {a b c : List Int} (h1 : cmpL a b ≤ 0) (h2 : cmpL b c ≤ 0) : cmpL a c ≤ 0 := by
  by_cases e1 : cmpL a b = 0
  · rw [cmpL_eq e1]; exact h2
  · by_cases e2 : cmpL b c = 0
    · rw [← cmpL_eq e2]; exact h1
    · have := cmpL_tr (show cmpL a b < 0 by omega) (show cmpL b c < 0 by omega); omega

/-- A place among n, or 0. -/
def clamp (n x : Nat) : Nat := if x < n then x else 0
/-- How the keys at two places compare. -/
def cfK (keys : List (List Int)) (x y : Nat) : Int := cmpL (keys.getD (clamp keys.length x) []) (keys.getD (clamp keys.length y) [])
/-- Does the one place stand ahead of the other? -/
def ahead (keys : List (List Int)) (x y : Nat) : Bool := decide (cfK keys x y < 0) || (decide (cfK keys x y = 0) && decide (x < y))

theorem ahead_iff {keys : List (List Int)} {x y : Nat} : ahead keys x y = true ↔ cfK keys x y < 0 ∨ (cfK keys x y = 0 ∧ x < y) := by
  simp [ahead]
theorem ahead_str (keys : List (List Int)) : Str fun x y => ahead keys x y = true := by
  refine ⟨fun x h => ?_, fun x y z h1 h2 => ?_, fun x y hne => ?_⟩
  · rw [ahead_iff] at h
    have : cfK keys x x = 0 := cmpL_refl _
    omega
  · rw [ahead_iff] at h1 h2 ⊢
    unfold cfK at *
    generalize keys.getD (clamp keys.length x) [] = a at *
    generalize keys.getD (clamp keys.length y) [] = b at *
    generalize keys.getD (clamp keys.length z) [] = c at *
    rcases h1 with h1 | ⟨h1, h1'⟩
    · rcases h2 with h2 | ⟨h2, h2'⟩
      · exact .inl (cmpL_tr h1 h2)
      · rw [← cmpL_eq h2]; exact .inl h1
    · rw [cmpL_eq h1]
      rcases h2 with h2 | ⟨h2, h2'⟩
      · exact .inl h2
      · exact .inr ⟨h2, by omega⟩
  · rw [ahead_iff, ahead_iff]
    have : cfK keys y x = - cfK keys x y := cmpL_swap _ _
    omega

/-- The test of the sort: of a later place against an earlier one. -/
theorem ahead_later (keys : List (List Int)) (x y : Nat) (h : x < y) : (decide (cfK keys y x < 0) = true) ↔ ahead keys y x = true := by
  rw [ahead_iff]; simp; omega

/-- The order of the keys: their places. -/
def ordK (keys : List (List Int)) : List Nat := ordB (ahead keys) keys.length
theorem ordK_len (keys : List (List Int)) : (ordK keys).length = keys.length := ordB_len _ _
theorem ordK_mem {keys : List (List Int)} {x : Nat} : x ∈ ordK keys ↔ x < keys.length := ordB_mem
theorem ordK_only {keys : List (List Int)} {l : List Nat} (hs : l.Pairwise fun x y => ahead keys x y = true) (hm : ∀ x, x ∈ l ↔ x < keys.length) : l = ordK keys := ordB_only (ahead_str keys) hs hm

/-- How many places below n stand ahead of i. -/
def placeK (keys : List (List Int)) (i : Nat) : Nat := (List.range keys.length).countP fun j => ahead keys j i

theorem countP_at {B : Nat → Nat → Bool} (h : Str fun x y => B x y = true) : ∀ (l : List Nat) (k : Nat) (x : Nat), l.Pairwise (fun x y => B x y = true) → l[k]? = some x → l.countP (fun j => B j x) = k
  | [], k, x, _, hk => by simp at hk
  | y :: l, 0, x, hp, hk => by
    simp at hk
    subst hk
    rw [List.countP_eq_zero.2]
    intro j hj
    rcases List.mem_cons.1 hj with rfl | hj
    · exact h.irr _
    · exact h.asymm ((List.pairwise_cons.1 hp).1 j hj)
  | y :: l, k + 1, x, hp, hk => by
    simp at hk
    have hy : B y x = true := (List.pairwise_cons.1 hp).1 x (List.mem_of_getElem? hk)
    rw [List.countP_cons_of_pos (p := fun j => B j x) hy, countP_at h l k x (List.pairwise_cons.1 hp).2 hk]

theorem placeK_at {keys : List (List Int)} {k i : Nat} (hk : (ordK keys)[k]? = some i) : placeK keys i = k := by
  have h := countP_at (ahead_str keys) (ordK keys) k i (ordB_sorted (ahead_str keys) _) hk
  rw [← h]
  unfold placeK
  exact (List.Perm.countP_eq _ (ordB_perm (ahead keys) keys.length)).symm
theorem placeK_lt {keys : List (List Int)} {i : Nat} (hi : i < keys.length) : placeK keys i < keys.length := by
  obtain ⟨k, hk⟩ := List.mem_iff_getElem?.1 (ordK_mem.2 hi)
  rw [placeK_at hk]
  have := (List.getElem?_eq_some_iff.1 hk).1
  rwa [ordK_len] at this
theorem ordK_at {keys : List (List Int)} {i : Nat} (hi : i < keys.length) : (ordK keys)[placeK keys i]? = some i := by
  obtain ⟨k, hk⟩ := List.mem_iff_getElem?.1 (ordK_mem.2 hi)
  rw [placeK_at hk]; exact hk
theorem placeK_inj {keys : List (List Int)} {i j : Nat} (hi : i < keys.length) (hj : j < keys.length) (h : placeK keys i = placeK keys j) : i = j := by
  have a := ordK_at hi
  rw [h, ordK_at hj] at a
  exact (Option.some.inj a).symm

/-- How the keys themselves come, in their order. -/
theorem ordK_keys {keys : List (List Int)} {j k x y : Nat} (hx : (ordK keys)[j]? = some x) (hy : (ordK keys)[k]? = some y) (hjk : j < k) : cmpL (keys.getD x []) (keys.getD y []) ≤ 0 := by
  have hs := List.pairwise_iff_getElem.1 (ordB_sorted (ahead_str keys) keys.length) j k (List.getElem?_eq_some_iff.1 hx).1 (List.getElem?_eq_some_iff.1 hy).1 hjk
  have e1 : (ordB (ahead keys) keys.length)[j]'(List.getElem?_eq_some_iff.1 hx).1 = x := (List.getElem?_eq_some_iff.1 hx).2
  have e2 : (ordB (ahead keys) keys.length)[k]'(List.getElem?_eq_some_iff.1 hy).1 = y := (List.getElem?_eq_some_iff.1 hy).2
  have hs : ahead keys x y = true := e1 ▸ e2 ▸ hs
  rw [ahead_iff] at hs
  have l1 := ordK_mem.1 (List.mem_of_getElem? hx)
  have l2 := ordK_mem.1 (List.mem_of_getElem? hy)
  unfold cfK clamp at hs
  rw [if_pos l1, if_pos l2] at hs
  omega
end Go.Proofs.Ytfnhffcjhdeleaa
