/-
  Plain: a number's text is what the library tells; the words of errors and of obligations.
-/
import Derived.Test.YtehemhpfdajbdaaDoorTxtQ
import Derived.Lib.ItoaNum
namespace Go.Proofs.YtehemhpfdajbdaaDoor

theorem low_zero (f : Nat) : low f 0 0 = [] := low_done _ _ _ (by omega)
theorem low_one (f n : Nat) (h : 0 < n) : low f n 0 = low f n 1 := by
  cases f with
  | zero => rfl
  | succ f => rw [low_step _ _ _ (Or.inl h), low_step _ _ _ (Or.inl h)]
theorem dec_low (f n : Nat) (hf : 0 < f) (h : n < 10 ^ f) : ((low f n 1).map dg).reverse = Lib.decDigits n := by
  induction f generalizing n with
  | zero => omega
  | succ f ih =>
    rw [low_step _ _ _ (by omega)]
    by_cases h10 : n < 10
    · rw [Lib.decDigits, dif_pos h10, show n / 10 = 0 by omega, low_zero, Nat.mod_eq_of_lt h10]
      rfl
    · rw [Nat.pow_succ] at h
      have hf0 : 0 < f := by
        cases f with
        | zero => simp at h; omega
        | succ f => omega
      rw [Lib.decDigits, dif_neg h10, List.map_cons, List.reverse_cons, Nat.sub_self, low_one _ _ (by omega), ih (n / 10) hf0 (by omega)]
      rfl
theorem digT_dec (n : Nat) (h : n < 10 ^ 20) : digT n 1 = Lib.decDigits n := dec_low 20 n (by omega) h

/-- A number's text. -/
def numI (z : Int) : List UInt8 := if z < 0 then 45 :: digT z.natAbs 1 else digT z.natAbs 1
theorem numI_itoa (z : Int) (h0 : -9223372036854775808 ≤ z) (h1 : z ≤ 9223372036854775807) : Lib.itoa z = numI z := by
  unfold Lib.itoa numI
  rw [digT_dec _ (by omega)]
  split
  · rfl
  · rw [show z.toNat = z.natAbs by omega]
theorem numI_len (z : Int) : (numI z).length ≤ 21 := by
  unfold numI
  have : (digT z.natAbs 1).length ≤ 20 := by
    unfold digT
    have := low_len 20 z.natAbs 1
    simpa using this
  split
  · rw [List.length_cons]; omega
  · omega

/-- Numbers' texts, each behind a space. -/
def numsT (zs : List Int) : List UInt8 := zs.flatMap fun z => 32 :: numI z
theorem numsT_snoc (zs : List Int) (z : Int) : numsT (zs ++ [z]) = numsT zs ++ 32 :: numI z := by simp [numsT]
theorem numsT_len (zs : List Int) : (numsT zs).length ≤ 22 * zs.length := by
  induction zs with
  | nil => simp [numsT]
  | cons z zs ih =>
    have := numI_len z
    have h : numsT (z :: zs) = 32 :: (numI z ++ numsT zs) := by simp [numsT]
    rw [h, List.length_cons, List.length_append, List.length_cons]
    omega

/-- What has become of an obligation, in words. -/
def stTab : List (List UInt8) := [[110, 111, 110, 101], [111, 112, 101, 110], [115, 101, 116, 116, 108, 101, 100], [111, 117, 116], [99, 111, 109, 112], [108, 111, 115, 115]]
def stT (s : Int) : List UInt8 := if 0 ≤ s ∧ s ≤ 5 then stTab.getD s.toNat [] else [110, 111, 110, 101]
def owesT (c m a n d s : Int) : List UInt8 := [111, 119, 101, 115] ++ numsT [c, m, a] ++ numsT [n, d] ++ [32] ++ stT s
theorem stT_len (s : Int) : (stT s).length ≤ 7 := by
  unfold stT
  split
  · rename_i h
    obtain ⟨k, rfl⟩ := Int.eq_ofNat_of_zero_le h.1
    have : k ≤ 5 := by omega
    obtain rfl | rfl | rfl | rfl | rfl | rfl : k = 0 ∨ k = 1 ∨ k = 2 ∨ k = 3 ∨ k = 4 ∨ k = 5 := by omega
    all_goals decide
  · decide
theorem app_bytes (a b : List UInt8) : (⟨a.toArray⟩ : ByteArray) ++ ⟨b.toArray⟩ = ⟨(a ++ b).toArray⟩ := by
  apply ByteArray.ext
  simp

/-- The errors' names. -/
def errTab : List (List UInt8) := [[111, 107], [97, 114, 103], [111, 118, 101, 114], [102, 111, 114, 109], [115, 104, 111, 114, 116], [115, 117, 109], [102, 117, 108, 108], [116, 119, 105, 99, 101], [110, 111, 110, 101], [109, 101, 109, 98, 101, 114], [115, 101, 99], [112, 104, 97, 115, 101], [109, 117, 99, 104], [102, 117, 110, 100, 115], [111, 117, 116], [112, 114, 105, 99, 101], [100, 111, 119, 110], [114, 117, 108, 101], [108, 111, 110, 103]]
def errT (e : Int) : List UInt8 := if 0 ≤ e ∧ e ≤ 18 then errTab.getD e.toNat [] else [117, 110, 107, 110, 111, 119, 110]
theorem errT_len (e : Int) : (errT e).length ≤ 7 := by
  unfold errT
  split
  · rename_i h
    obtain ⟨k, rfl⟩ := Int.eq_ofNat_of_zero_le h.1
    have : k ≤ 18 := by omega
    obtain rfl | rfl | rfl | rfl | rfl | rfl | rfl | rfl | rfl | rfl | rfl | rfl | rfl | rfl | rfl | rfl | rfl | rfl | rfl : k = 0 ∨ k = 1 ∨ k = 2 ∨ k = 3 ∨ k = 4 ∨ k = 5 ∨ k = 6 ∨ k = 7 ∨ k = 8 ∨ k = 9 ∨ k = 10 ∨ k = 11 ∨ k = 12 ∨ k = 13 ∨ k = 14 ∨ k = 15 ∨ k = 16 ∨ k = 17 ∨ k = 18 := by omega
    all_goals decide
  · decide
end Go.Proofs.YtehemhpfdajbdaaDoor
