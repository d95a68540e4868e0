import Derived.Test.YtehemhpfdajbdaaDoorChaB
namespace Go.Proofs.YtehemhpfdajbdaaDoor
open Go.RowKit

/-! ### Where an account stands, in plain Lean -/
theorem eqA_iff (x y : Acc) : eqA x y = true ↔ x.kind = y.kind ∧ x.member = y.member := by simp [eqA]
theorem idxA_app (l r : List Acc) (a : Acc) : ∀ k : Nat, idxA k (l ++ r) a = if idxA k l a = -1 then idxA (k + l.length) r a else idxA k l a := by
  induction l with
  | nil => intro k; simp [idxA]
  | cons x l ih =>
    intro k
    rw [List.cons_append, idxA, idxA]
    by_cases h : eqA x a = true
    · simp only [if_pos h]
      rw [if_neg (by omega)]
    · simp only [if_neg h]
      rw [ih (k + 1), List.length_cons, show k + 1 + l.length = k + (l.length + 1) by omega]
theorem idx_house (a : Acc) : idxA 0 houseA a = if a.member = 0 ∧ 1 ≤ a.kind ∧ a.kind ≤ 6 then a.kind - 1 else -1 := by
  simp only [houseA, idxA, eqA_iff]
  repeat' split
  all_goals omega
theorem idx_mem (k : Nat) (j : Int) (a : Acc) : idxA k (memA j) a = if a.member = j ∧ 7 ≤ a.kind ∧ a.kind ≤ 9 then k + (a.kind - 7) else -1 := by
  simp only [memA, idxA, eqA_iff]
  repeat' split
  all_goals omega
theorem idx_accs (a : Acc) : ∀ n : Nat, idxA 0 (accs n) a = if a.member = 0 ∧ 1 ≤ a.kind ∧ a.kind ≤ 6 then a.kind - 1 else if 1 ≤ a.member ∧ a.member ≤ n ∧ 7 ≤ a.kind ∧ a.kind ≤ 9 then 6 + 3 * (a.member - 1) + (a.kind - 7) else -1
  | 0 => by
    rw [accs, idx_house]
    repeat' split
    all_goals omega
  | n + 1 => by
    rw [accs, idxA_app, idx_accs a n, idx_mem, accs_len]
    repeat' split
    all_goals omega
theorem num_idx (n : Nat) (hn : n ≤ 16) (a : Acc) : numA n a = if 0 ≤ idxA 0 (accs n) a then (idxA 0 (accs n) a, 0) else (0, 8) := by
  rw [numA, if_neg (by omega), idx_accs]
  by_cases h1 : a.kind = 7 ∨ a.kind = 8 ∨ a.kind = 9
  · rw [if_pos h1, if_neg (show ¬ (a.member = 0 ∧ 1 ≤ a.kind ∧ a.kind ≤ 6) by omega)]
    by_cases h2 : 1 ≤ a.member ∧ a.member ≤ n
    · rw [if_pos h2, if_pos (show 1 ≤ a.member ∧ a.member ≤ n ∧ 7 ≤ a.kind ∧ a.kind ≤ 9 by omega), if_pos (by omega)]
    · rw [if_neg h2, if_neg (show ¬ (1 ≤ a.member ∧ a.member ≤ n ∧ 7 ≤ a.kind ∧ a.kind ≤ 9) by omega), if_neg (by omega)]
  · rw [if_neg h1]
    by_cases h2 : a.member = 0 ∧ 1 ≤ a.kind ∧ a.kind ≤ 6
    · rw [if_pos h2, if_pos h2, if_pos (by omega)]
    · rw [if_neg h2, if_neg h2, if_neg (show ¬ (1 ≤ a.member ∧ a.member ≤ n ∧ 7 ≤ a.kind ∧ a.kind ≤ 9) by omega), if_neg (by omega)]
theorem accs_get : ∀ (m n : Nat), n < 6 + 3 * m → (accs m)[n]? = some (accN n)
  | 0, n, h => by
    obtain rfl | rfl | rfl | rfl | rfl | rfl : n = 0 ∨ n = 1 ∨ n = 2 ∨ n = 3 ∨ n = 4 ∨ n = 5 := by omega
    all_goals rfl
  | m + 1, n, h => by
    rw [accs]
    by_cases c : n < 6 + 3 * m
    · rw [List.getElem?_append_left (by rw [accs_len]; exact c)]
      exact accs_get m n c
    · rw [List.getElem?_append_right (by rw [accs_len]; omega), accs_len]
      have hN : accN n = ⟨7 + ((n - 6) % 3 : Nat), 1 + ((n - 6) / 3 : Nat)⟩ := by rw [accN, if_neg (by omega)]
      rw [hN]
      obtain rfl | rfl | rfl : n = 6 + 3 * m ∨ n = 6 + 3 * m + 1 ∨ n = 6 + 3 * m + 2 := by omega
      · rw [show 6 + 3 * m - (6 + 3 * m) = 0 by omega, show 6 + 3 * m - 6 = 3 * m by omega, show 3 * m % 3 = 0 by omega, show 3 * m / 3 = m by omega]
        simp [memA]; omega
      · rw [show 6 + 3 * m + 1 - (6 + 3 * m) = 1 by omega, show 6 + 3 * m + 1 - 6 = 3 * m + 1 by omega, show (3 * m + 1) % 3 = 1 by omega, show (3 * m + 1) / 3 = m by omega]
        simp [memA]; omega
      · rw [show 6 + 3 * m + 2 - (6 + 3 * m) = 2 by omega, show 6 + 3 * m + 2 - 6 = 3 * m + 2 by omega, show (3 * m + 2) % 3 = 2 by omega, show (3 * m + 2) / 3 = m by omega]
        simp [memA]; omega
theorem num_accN (m n : Nat) (hm : m ≤ 16) (h : n < 6 + 3 * m) : numA m (accN n) = ((n : Int), 0) := by
  by_cases c : n < 6
  · have e : accN n = ⟨1 + n, 0⟩ := by rw [accN, if_pos c]
    rw [e]
    simp only [numA]
    rw [if_neg (by omega), if_neg (by omega), if_pos ⟨by first | rfl | trivial, by omega, by omega⟩]
    simp only [Prod.mk.injEq, and_true]
    omega
  · have e : accN n = ⟨7 + ((n - 6) % 3 : Nat), 1 + ((n - 6) / 3 : Nat)⟩ := by rw [accN, if_neg c]
    have h1 : (n - 6) % 3 < 3 := Nat.mod_lt _ (by omega)
    have h2 : 3 * ((n - 6) / 3) + (n - 6) % 3 = n - 6 := Nat.div_add_mod _ _
    rw [e]
    simp only [numA]
    generalize (n - 6) % 3 = r at *
    generalize (n - 6) / 3 = q at *
    rw [if_neg (by omega), if_pos (by omega), if_pos (by omega)]
    simp only [Prod.mk.injEq, and_true]
    omega
end Go.Proofs.YtehemhpfdajbdaaDoor
