/-
  Plain: the number of digits; how the text of an amount is cut.
-/
import Derived.Test.YtjkabmijkbpodabTxtQ
import Derived.Lib.IndexMore
import Derived.Lib.Strings
namespace Go.Proofs.Ytjkabmijkbpodab

/-- The number of digits, n ahead of them. -/
def numV (l : List UInt8) (n : Nat) : Nat := l.foldl (fun n c => n * 10 + (c.toNat - 48)) n
def lowV : List Nat → Nat
  | [] => 0
  | d :: r => d + 10 * lowV r

theorem numV_le (l : List UInt8) (n : Nat) : n ≤ numV l n := by
  induction l generalizing n with
  | nil => exact Nat.le_refl _
  | cons c r ih => exact Nat.le_trans (by omega) (ih (n * 10 + (c.toNat - 48)))
theorem numV_append (a b : List UInt8) (n : Nat) : numV (a ++ b) n = numV b (numV a n) := List.foldl_append
theorem numV_take (l : List UInt8) (k : Nat) : numV (l.take k) 0 ≤ numV l 0 := by
  have h := numV_append (l.take k) (l.drop k) 0
  rw [List.take_append_drop] at h
  rw [h]
  exact numV_le _ _
theorem numV_low (l : List Nat) (h : ∀ d ∈ l, d < 10) : numV ((l.map dg).reverse) 0 = lowV l := by
  induction l with
  | nil => rfl
  | cons d r ih =>
    rw [List.map_cons, List.reverse_cons, numV_append, ih (fun x hx => h x (List.mem_cons_of_mem _ hx))]
    have hd := dg_toNat d (h d (List.mem_cons_self ..))
    simp only [numV, List.foldl_cons, List.foldl_nil, hd, lowV]
    omega
theorem lowV_low (f n least : Nat) (h : n < 10 ^ f) : lowV (low f n least) = n := by
  induction f generalizing n least with
  | zero => have : n = 0 := by simpa using h
            subst this; rfl
  | succ f ih =>
    rw [Nat.pow_succ] at h
    by_cases h0 : 0 < n ∨ 0 < least
    · rw [low_step _ _ _ h0, lowV, ih _ _ (by omega)]
      omega
    · rw [low_done _ _ _ h0]
      simp only [lowV]
      omega
theorem numV_digT (n least : Nat) (h : n < 10 ^ 20) : numV (digT n least) 0 = n := by rw [digT, numV_low _ (low_lt _ _ _), lowV_low _ _ _ h]

theorem digT_dig (n least : Nat) : ∀ c ∈ digT n least, 48 ≤ c.toNat ∧ c.toNat ≤ 57 := by
  intro c hc
  unfold digT at hc
  obtain ⟨d, hd, rfl⟩ := List.mem_map.1 (List.mem_reverse.1 hc)
  have h := low_lt _ _ _ d hd
  rw [dg_toNat d h]
  omega
theorem digT_ne (n least : Nat) (h : 1 ≤ least) (h2 : least ≤ 20) : digT n least ≠ [] := by
  intro e
  have := low_len_ge 20 n least h2
  have h3 : (digT n least).length = (low 20 n least).length := by simp [digT]
  rw [e] at h3
  simp at h3
  omega

theorem index_dot (a b : List UInt8) (h : ∀ c ∈ a, c ≠ 46) : Lib.index (a ++ 46 :: b) [46] = a.length := by
  induction a with
  | nil => simp [Lib.index]
  | cons c r ih =>
    have hc : ¬ (46 : UInt8) = c := fun e => h c (List.mem_cons_self ..) e.symm
    have := ih (fun x hx => h x (List.mem_cons_of_mem _ hx))
    simp only [List.cons_append, Lib.index, this]
    rw [if_neg (by simp [hc]), if_neg (by simp)]
    simp
theorem cut_dot (a b : List UInt8) (h : ∀ c ∈ a, c ≠ 46) : Lib.cut (a ++ 46 :: b) [46] = (a, b, true) := by
  simp only [Lib.cut, index_dot a b h]
  rw [if_pos (by omega)]
  simp
theorem pre_minus (l : List UInt8) : Lib.hasPrefix (45 :: l) [45] = true ∧ Lib.trimPrefix (45 :: l) [45] = l := by
  have h : Lib.hasPrefix (45 :: l) [45] = true := by simp [Lib.hasPrefix]
  exact ⟨h, by rw [Lib.trimPrefix, if_pos h]; rfl⟩
theorem pre_plus (l : List UInt8) (h : ∀ c r, l = c :: r → c ≠ 45) : Lib.hasPrefix l [45] = false ∧ Lib.trimPrefix l [45] = l := by
  have h : Lib.hasPrefix l [45] = false := by
    cases l with
    | nil => rfl
    | cons c r => have := h c r rfl; have h2 : ¬ (45 : UInt8) = c := fun e => this e.symm
                  simp [Lib.hasPrefix, List.isPrefixOf, h2]
  exact ⟨h, by rw [Lib.trimPrefix, if_neg (by rw [h]; simp)]⟩

theorem dig_ne (c : UInt8) (h : 48 ≤ c.toNat) : c ≠ 46 ∧ c ≠ 45 := by
  constructor
  · rintro rfl; exact absurd h (by decide)
  · rintro rfl; exact absurd h (by decide)
end Go.Proofs.Ytjkabmijkbpodab
