import Derived.Test.YtndhhnfhookeaaaKeyF
namespace Go.Proofs.Ytndhhnfhookeaaa
open Go.RowKit

theorem ret_bool {a b : Bool} (h : a = b) : Ending.returned (.bool a) = .returned (.bool b) := by rw [h]

/-- May a key stand behind the one ahead of it? -/
def okAt (keys : List (List Int)) (s : Bool) (j : Nat) : Bool := j == 0 || (decide (cmpL (keys.getD (j - 1) []) (keys.getD j []) < 0) || (decide (cmpL (keys.getD (j - 1) []) (keys.getD j []) = 0) && !s))
/-- Do the first k keys rise? -/
def riK (keys : List (List Int)) (s : Bool) (k : Nat) : Bool := (List.range k).all (okAt keys s)
theorem riK_succ (keys : List (List Int)) (s : Bool) (k : Nat) : riK keys s (k + 1) = (riK keys s k && okAt keys s k) := by
  unfold riK; rw [List.range_succ, List.all_append]; simp
theorem riK_one (keys : List (List Int)) (s : Bool) : riK keys s 1 = true := by simp [riK, okAt, List.range_succ]
theorem riK_false {keys : List (List Int)} {s : Bool} {k n : Nat} (h : okAt keys s k = false) (hk : k < n) : riK keys s n = false := by
  cases hr : riK keys s n with
  | false => rfl
  | true =>
    have := List.all_eq_true.1 hr k (by simpa using hk)
    rw [h] at this; cases this
theorem okAt_of {vs : List KeyV} {s : Bool} {j : Nat} {f g : KeyV} (hf : vs[j]? = some f) (hg : vs[j + 1]? = some g) : okAt (keysOf vs) s (j + 1) = (decide (cmpL f.k g.k < 0) || (decide (cmpL f.k g.k = 0) && !s)) := by
  unfold okAt
  rw [Nat.add_sub_cancel, keysOf_at hf, keysOf_at hg]
  simp

theorem ksInfo : (Try.prog.info? 127).map (fun i => (i.zero, i.size, i.bytes)) = some (some (.slice none 0 0), 1, 24) := by kernel_rfl

/-- Rows of keys in their order rise. -/
theorem riK_sorted {keys ks : List (List Int)} (hks : ks = (ordK keys).map fun i => keys.getD i []) (k : Nat) (hk : k ≤ ks.length) : riK ks false k = true := by
  induction k with
  | zero => rfl
  | succ k ih =>
    rw [riK_succ, ih (by omega)]
    by_cases h0 : k = 0
    · subst h0; rfl
    · have hlen : ks.length = (ordK keys).length := by rw [hks]; simp
      obtain ⟨x1, g1⟩ : ∃ x, (ordK keys)[k - 1]? = some x := ⟨_, List.getElem?_eq_getElem (by omega)⟩
      obtain ⟨x2, g2⟩ : ∃ x, (ordK keys)[k]? = some x := ⟨_, List.getElem?_eq_getElem (by omega)⟩
      have hle := ordK_keys g1 g2 (by omega)
      have a1 : ks.getD (k - 1) [] = keys.getD x1 [] := by rw [hks]; simp [List.getD, g1]
      have a2 : ks.getD k [] = keys.getD x2 [] := by rw [hks]; simp [List.getD, g2]
      unfold okAt
      rw [a1, a2]
      simp only [Bool.true_and, Bool.not_false, Bool.and_true, Bool.or_eq_true, decide_eq_true_eq]
      right
      omega
end Go.Proofs.Ytndhhnfhookeaaa
