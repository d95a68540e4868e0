/-
  Plain: the document's text of an amount is the program's.
-/
import Derived.Test.YtehemhpfdajbdaaDoorTxtP
namespace Go.Proofs.YtehemhpfdajbdaaDoor

theorem low_fuel (f g n least : Nat) (hf : n < 10 ^ f) (hg : n < 10 ^ g) (lf : least ≤ f) (lg : least ≤ g) : low f n least = low g n least := by
  induction f generalizing g n least with
  | zero =>
    have h0 : n = 0 := by simpa using hf
    subst h0
    obtain rfl : least = 0 := by omega
    rw [low_done _ _ _ (by omega), low_done _ _ _ (by omega)]
  | succ f ih =>
    cases g with
    | zero =>
      have h0 : n = 0 := by simpa using hg
      subst h0
      obtain rfl : least = 0 := by omega
      rw [low_done _ _ _ (by omega), low_done _ _ _ (by omega)]
    | succ g =>
      simp only [low]
      rw [Nat.pow_succ] at hf hg
      split
      · rw [ih g (n / 10) (least - 1) (by omega) (by omega) (by omega) (by omega)]
      · rfl

/-- More digits at least: noughts in front. -/
theorem low_more (f n least k : Nat) (hf : n < 10 ^ f) (lf : least + k ≤ f) : low f n (least + k) = low f n least ++ List.replicate (least + k - (low f n least).length) 0 := by
  induction f generalizing n least k with
  | zero =>
    obtain ⟨rfl, rfl⟩ : least = 0 ∧ k = 0 := by omega
    simp [low]
  | succ f ih =>
    rw [Nat.pow_succ] at hf
    by_cases h : 0 < n ∨ 0 < least
    · rw [low_step f n (least + k) (by omega), low_step f n least h]
      cases least with
      | zero =>
        have hn : 0 < n := by omega
        cases k with
        | zero => simp
        | succ k =>
          have := ih (n / 10) 0 k (by omega) (by omega)
          simp only [Nat.zero_add, Nat.add_sub_cancel, Nat.zero_sub] at this ⊢
          rw [this]
          simp only [List.cons_append, List.length_cons]
          rw [show k + 1 - ((low f (n / 10) 0).length + 1) = k - (low f (n / 10) 0).length by omega]
      | succ least =>
        have := ih (n / 10) least k (by omega) (by omega)
        rw [show least + 1 + k - 1 = least + k by omega, Nat.add_sub_cancel, this]
        simp only [List.cons_append, List.length_cons]
        rw [show least + 1 + k - ((low f (n / 10) least).length + 1) = least + k - (low f (n / 10) least).length by omega]
    · obtain ⟨rfl, rfl⟩ : n = 0 ∧ least = 0 := by omega
      rw [low_done (f + 1) 0 0 (by omega)]
      simp only [Nat.zero_add, List.nil_append, List.length_nil, Nat.sub_zero]
      clear ih h hf
      induction k generalizing f with
      | zero => exact low_done _ _ _ (by omega)
      | succ k ihk =>
        rw [low_step _ _ _ (by omega), List.replicate_succ]
        cases f with
        | zero => obtain rfl : k = 0 := by omega
                  simp [low]
        | succ f => rw [Nat.add_sub_cancel, Nat.zero_mod, Nat.zero_div, ihk f (by omega)]

theorem low_len_ge (f n least : Nat) (h : least ≤ f) : least ≤ (low f n least).length := by
  induction f generalizing n least with
  | zero => omega
  | succ f ih =>
    by_cases h0 : 0 < n ∨ 0 < least
    · rw [low_step _ _ _ h0, List.length_cons]
      have := ih (n / 10) (least - 1) (by omega)
      omega
    · omega

theorem digT_pad (n : Nat) (h : n < 10 ^ 20) : digT n 3 = List.replicate (3 - (digT n 1).length) 48 ++ digT n 1 := by
  unfold digT
  rw [low_more 20 n 1 2 h (by omega), List.map_append, List.reverse_append, List.map_replicate, List.reverse_replicate]
  simp [dg]

theorem digT_split (n : Nat) (h : n < 10 ^ 20) : digT n 3 = digT (n / 100) 1 ++ digT (n % 100) 2 := by
  unfold digT
  rw [low_step 19 n 3 (by omega), low_step 18 (n / 10) (3 - 1) (by omega), low_fuel 18 20 (n / 10 / 10) (3 - 1 - 1) (by omega) (by omega) (by omega) (by omega), show n / 10 / 10 = n / 100 by omega, show 3 - 1 - 1 = 1 by omega]
  rw [low_step 19 (n % 100) 2 (by omega), low_step 18 (n % 100 / 10) (2 - 1) (by omega), low_done 18 _ _ (by omega)]
  rw [show n % 100 % 10 = n % 10 by omega, show n % 100 / 10 % 10 = n / 10 % 10 by omega]
  simp

theorem digT_two (n : Nat) : (digT (n % 100) 2).length = 2 := by
  unfold digT
  rw [low_step 19 (n % 100) 2 (by omega), low_step 18 (n % 100 / 10) (2 - 1) (by omega), low_done 18 _ _ (by omega)]
  simp
end Go.Proofs.YtehemhpfdajbdaaDoor
