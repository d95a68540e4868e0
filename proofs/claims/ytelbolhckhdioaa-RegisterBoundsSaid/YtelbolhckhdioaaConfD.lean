import Derived.Test.YtelbolhckhdioaaConfC
namespace Go.Proofs.Ytelbolhckhdioaa
open Go.RowKit

theorem word_empty (k : Nat) : ((word k).toList == []) = decide (8 ≤ k) := by
  match k with
  | 0 | 1 | 2 | 3 | 4 | 5 | 6 | 7 => simp [word, ByteArray.toList_eq]
  | k + 8 => simp [word, ByteArray.toList_eq]

def checkC (cf : Conf) : Int := if wrongK cf = 8 then 0 else 1
theorem wrongK_le (cf : Conf) : wrongK cf ≤ 8 := by
  unfold wrongK; repeat' split
  all_goals omega

set_option maxHeartbeats 400000 in
theorem checkC_any (A1 A2 A3 : Option Addr) (n1 n2 n3 cp1 cp2 cp3 : Nat) (cf : Conf) (w : World) (hr : CfRd w A1 n1 A2 n2 A3 n3 cf) :
    Calls Try.prog 91 #[.agg #[.slice A1 n1 cp1, .slice A2 n2 cp2, .slice A3 n3 cp3, .int .i64 cf.line, .int .i64 cf.capital, .int .i64 cf.lead, .int .i64 cf.trades, .int .i64 cf.bids]] w fun e w' => e = .returned (.int .i64 (checkC cf)) ∧ Below w.heap.size w w' := by
  by_cases h8 : wrongK cf = 8
  · have H8 := Lib.hid h8
    clear h8
    go_enter Try.func91, Try.ntmps91
    go_wp2_with fail
    refine (wrong_any A1 A2 A3 n1 n2 n3 cp1 cp2 cp3 cf _ (hr.alloc _)).mono ?_
    rw [H8.out]
    rintro e w' ⟨rfl, hb⟩
    have hw : (word 8).toList = [] := by simp [word, ByteArray.toList_eq]
    go_wp2_with fail
    go_ret
    exact ⟨ret_int (by rw [checkC, if_pos H8.out]), ((Below.refl _ _).alloc (Nat.le_refl _) _).trans (hb.mono (by simp))⟩
  · have h9 := wrongK_le cf
    obtain ⟨k, HK⟩ : ∃ k, Hid (wrongK cf = k) := ⟨_, rfl⟩
    rw [HK.out] at h8 h9
    have hw : (word k).toList ≠ [] := by have := word_empty k; intro h; rw [h] at this; simp at this; omega
    have hw2 : (!(word k).toList.isEmpty) = true := by simpa using hw
    have H8 := Lib.hid h8
    clear h8
    go_enter Try.func91, Try.ntmps91
    go_wp2_with fail
    refine (wrong_any A1 A2 A3 n1 n2 n3 cp1 cp2 cp3 cf _ (hr.alloc _)).mono ?_
    rw [HK.out]
    rintro e w' ⟨rfl, hb⟩
    go_wp2_with fail
    go_ret
    exact ⟨ret_int (by rw [checkC, if_neg (by rw [HK.out]; exact H8.out)]), ((Below.refl _ _).alloc (Nat.le_refl _) _).trans (hb.mono (by simp))⟩

def lastC (cf : Conf) : Int := closeOf 0 cf.cycles

def fewB (n1 n2 n3 : Nat) : Bool := decide (n1 ≤ 20) && (decide (n2 ≤ 20) && decide (n3 ≤ 20))

set_option maxHeartbeats 400000 in
theorem few_any (A1 A2 A3 : Option Addr) (n1 n2 n3 cp1 cp2 cp3 : Nat) (cf : Conf) (w : World) :
    Calls Try.prog 39 #[.agg #[.slice A1 n1 cp1, .slice A2 n2 cp2, .slice A3 n3 cp3, .int .i64 cf.line, .int .i64 cf.capital, .int .i64 cf.lead, .int .i64 cf.trades, .int .i64 cf.bids]] w fun e w' => e = .returned (.bool (fewB n1 n2 n3)) ∧ Below w.heap.size w w' := by
  by_cases h1 : n1 ≤ 20 <;> by_cases h2 : n2 ≤ 20 <;> by_cases h3 : n3 ≤ 20
  all_goals
    go_enter Try.func39, Try.ntmps39
    go_wp2_with fail
    go_ret
    exact ⟨by simp [fewB, h1, h2, h3] <;> omega, (Below.refl _ _).alloc (Nat.le_refl _) _⟩

def nearI (n lo hi : Int) : Int := if n < lo then lo else if hi < n then hi else n
theorem nearI_bd (n lo hi : Int) (h : lo ≤ hi) : lo ≤ nearI n lo hi ∧ nearI n lo hi ≤ hi := by unfold nearI; split <;> (try split) <;> omega

set_option maxHeartbeats 400000 in
theorem near_any (n lo hi : Int) (w : World) (h : lo ≤ hi) : Calls Try.prog 122 #[.int .i64 n, .int .i64 lo, .int .i64 hi] w fun e w' => e = .returned (.int .i64 (nearI n lo hi)) ∧ w = w' := by
  by_cases h1 : n < lo
  · go_enter Try.func122, Try.ntmps122
    go_wp2_with fail
    go_ret
    refine ⟨ret_int ?_, rfl⟩
    simp [nearI, h1] <;> omega
  by_cases h2 : hi < n
  · go_enter Try.func122, Try.ntmps122
    go_wp2_with fail
    go_ret
    refine ⟨ret_int ?_, rfl⟩
    simp [nearI, h1, h2] <;> omega
  · go_enter Try.func122, Try.ntmps122
    go_wp2_with fail
    go_ret
    refine ⟨ret_int ?_, rfl⟩
    simp [nearI, h1, h2] <;> omega

end Go.Proofs.Ytelbolhckhdioaa
