import Derived.Test.YtfedjgblgnkbcaaDoorDigA
namespace Go.Proofs.YtfedjgblgnkbcaaDoor
open Go.RowKit

/-! ### report: the lines' parts -/
def oneI (z : Int) : List Value := [.int .i64 z]
theorem oneI_len (z : Int) : (oneI z).length = 1 := rfl
/-- The library's table of powers of ten. -/
def TabOk (w : World) : Prop := Lib.TabIs Tryd.prog w "internal/strconv.uint64pow10" .u64 Lib.pow10Tab
theorem TabOk.past {w w' : World} (h : TabOk w) (hb : Below w.heap.size w w') : TabOk w' := Lib.tabBelow_of_tabIs h w' hb

set_option maxRecDepth 10000 in
set_option maxHeartbeats 1000000 in
theorem digits_int (t : List UInt8) (ht : t.length ≤ 1000) (A : Option Addr) (n c : Nat) (zs : List Int) (w : World) (hr : Rd w w.heap.size 1 A n (zs.flatMap oneI)) (hn : n ≤ 10) (hz : ∀ z ∈ zs, inI z) (hw : TabOk w) :
    Calls Tryd.prog 11 #[.string ⟨t.toArray⟩, .slice A n c] w fun e w' => e = .returned (.string ⟨(t ++ numsT zs).toArray⟩) ∧ Below w.heap.size w w' := by
  have HL := Lib.hid (hr.len oneI_len (by omega))
  have HR := Lib.hid hr
  have HZ := Lib.hid hz
  clear hr hz
  go_enter Tryd.func11, Tryd.ntmps11
  go_wp2_with fail
  go_loopw [0, 9] (fun s i wr => ∃ k : Nat, k ≤ n ∧ i = .int .i64 (k : Nat) ∧ s = .string ⟨(t ++ numsT (zs.take k)).toArray⟩ ∧ Hid (Below w.heap.size w wr)) (fun _ i _ => n - (intOf i).toNat)
  case atStart => exact ⟨0, by omega, rfl, by simp [numsT], Lib.hid (Below.refl _ _)⟩
  case round =>
    obtain ⟨k, hk, rfl, rfl, HB⟩ := hrel
    by_cases hlt : k < n
    · have hlz : (k : Int) < (n : Int) := by omega
      have HRr := Lib.hid (HR.out.below HB.out)
      have hg_z : zs[k]? = some (zs[k]'(by have := HL.out; omega)) := List.getElem?_eq_getElem _
      obtain ⟨b_z, off_z, rfl, hbb_z, hc_z⟩ := (HRr.out).elem oneI_len hg_z hlt
      have HT_z := Lib.hid (show zs.take (k + 1) = zs.take k ++ [(zs[k]'(by have := HL.out; omega))] from List.take_succ_eq_append_getElem (by have := HL.out; omega))
      have HM_z := Lib.hid (show (zs[k]'(by have := HL.out; omega)) ∈ zs from List.getElem_mem _)
      generalize (zs[k]'(by have := HL.out; omega)) = z at *
      have c0 := hc_z 0 _ rfl
      clear hc_z hg_z
      simp only [Nat.add_zero, Nat.mul_one] at c0
      have HF := Lib.hid (fmt_any z (HZ.out z HM_z.out) wr (hw.past HB.out))
      obtain ⟨s, hs⟩ : ∃ s, Hid (t ++ numsT (zs.take k) = s) := ⟨_, Lib.hid rfl⟩
      have hsl : s.length ≤ 1220 := by
        rw [← hs.out, List.length_append]
        have := numsT_len (zs.take k)
        simp at this
        omega
      have hzl := numI_len z
      have hT : Hid (t ++ numsT (zs.take (k + 1)) = s ++ 32 :: numI z) := Lib.hid (by rw [HT_z.out, numsT_snoc, ← hs.out, List.append_assoc])
      rw [hs.out]
      generalize numI z = x at *
      have h1 : (⟨#[32]⟩ : ByteArray) ++ ⟨x.toArray⟩ = ⟨(32 :: x).toArray⟩ := app_bytes [32] x
      have h2 : (⟨s.toArray⟩ : ByteArray) ++ ⟨(32 :: x).toArray⟩ = ⟨(s ++ 32 :: x).toArray⟩ := app_bytes s (32 :: x)
      clear hw ht
      go_wp2_with fail
      refine HF.out.mono ?_
      rintro e w1 ⟨rfl, hb1⟩
      have HB1 := Lib.hid (Below.past HB.out hb1 HB.out.size)
      clear hb1 HF
      go_wp2_with fail
      go_roundw
      case rel => exact ⟨k + 1, by omega, by go_num, by rw [hT.out], HB1⟩
      case measure => simp [intOf]; omega
    · have hlz : ¬ (k : Int) < (n : Int) := by omega
      obtain rfl : k = n := by omega
      have hT : Hid (zs.take k = zs) := Lib.hid (List.take_of_length_le (by have := HL.out; omega))
      rw [hT.out]
      go_wp2_with fail
      go_ret
      exact ⟨rfl, HB.out⟩

set_option maxRecDepth 10000 in
set_option maxHeartbeats 1000000 in
theorem digits_i64 (t : List UInt8) (ht : t.length ≤ 1000) (A : Option Addr) (n c : Nat) (zs : List Int) (w : World) (hr : Rd w w.heap.size 1 A n (zs.flatMap oneI)) (hn : n ≤ 10) (hz : ∀ z ∈ zs, inI z) (hw : TabOk w) :
    Calls Tryd.prog 10 #[.string ⟨t.toArray⟩, .slice A n c] w fun e w' => e = .returned (.string ⟨(t ++ numsT zs).toArray⟩) ∧ Below w.heap.size w w' := by
  have HL := Lib.hid (hr.len oneI_len (by omega))
  have HR := Lib.hid hr
  have HZ := Lib.hid hz
  clear hr hz
  go_enter Tryd.func10, Tryd.ntmps10
  go_wp2_with fail
  go_loopw [0, 9] (fun s i wr => ∃ k : Nat, k ≤ n ∧ i = .int .i64 (k : Nat) ∧ s = .string ⟨(t ++ numsT (zs.take k)).toArray⟩ ∧ Hid (Below w.heap.size w wr)) (fun _ i _ => n - (intOf i).toNat)
  case atStart => exact ⟨0, by omega, rfl, by simp [numsT], Lib.hid (Below.refl _ _)⟩
  case round =>
    obtain ⟨k, hk, rfl, rfl, HB⟩ := hrel
    by_cases hlt : k < n
    · have hlz : (k : Int) < (n : Int) := by omega
      have HRr := Lib.hid (HR.out.below HB.out)
      have hg_z : zs[k]? = some (zs[k]'(by have := HL.out; omega)) := List.getElem?_eq_getElem _
      obtain ⟨b_z, off_z, rfl, hbb_z, hc_z⟩ := (HRr.out).elem oneI_len hg_z hlt
      have HT_z := Lib.hid (show zs.take (k + 1) = zs.take k ++ [(zs[k]'(by have := HL.out; omega))] from List.take_succ_eq_append_getElem (by have := HL.out; omega))
      have HM_z := Lib.hid (show (zs[k]'(by have := HL.out; omega)) ∈ zs from List.getElem_mem _)
      generalize (zs[k]'(by have := HL.out; omega)) = z at *
      have c0 := hc_z 0 _ rfl
      clear hc_z hg_z
      simp only [Nat.add_zero, Nat.mul_one] at c0
      have HF := Lib.hid (fmt_any z (HZ.out z HM_z.out) wr (hw.past HB.out))
      obtain ⟨s, hs⟩ : ∃ s, Hid (t ++ numsT (zs.take k) = s) := ⟨_, Lib.hid rfl⟩
      have hsl : s.length ≤ 1220 := by
        rw [← hs.out, List.length_append]
        have := numsT_len (zs.take k)
        simp at this
        omega
      have hzl := numI_len z
      have hT : Hid (t ++ numsT (zs.take (k + 1)) = s ++ 32 :: numI z) := Lib.hid (by rw [HT_z.out, numsT_snoc, ← hs.out, List.append_assoc])
      rw [hs.out]
      generalize numI z = x at *
      have h1 : (⟨#[32]⟩ : ByteArray) ++ ⟨x.toArray⟩ = ⟨(32 :: x).toArray⟩ := app_bytes [32] x
      have h2 : (⟨s.toArray⟩ : ByteArray) ++ ⟨(32 :: x).toArray⟩ = ⟨(s ++ 32 :: x).toArray⟩ := app_bytes s (32 :: x)
      clear hw ht
      go_wp2_with fail
      refine HF.out.mono ?_
      rintro e w1 ⟨rfl, hb1⟩
      have HB1 := Lib.hid (Below.past HB.out hb1 HB.out.size)
      clear hb1 HF
      go_wp2_with fail
      go_roundw
      case rel => exact ⟨k + 1, by omega, by go_num, by rw [hT.out], HB1⟩
      case measure => simp [intOf]; omega
    · have hlz : ¬ (k : Int) < (n : Int) := by omega
      obtain rfl : k = n := by omega
      have hT : Hid (zs.take k = zs) := Lib.hid (List.take_of_length_le (by have := HL.out; omega))
      rw [hT.out]
      go_wp2_with fail
      go_ret
      exact ⟨rfl, HB.out⟩

set_option maxHeartbeats 1000000 in
theorem status_any (s : Int) (w : World) : Calls Tryd.prog 12 #[.int .i64 s] w fun e w' => e = .returned (.string ⟨(stT s).toArray⟩) ∧ Below w.heap.size w w' := by
  by_cases hs : 1 ≤ s ∧ s ≤ 5
  · obtain rfl | rfl | rfl | rfl | rfl : s = 1 ∨ s = 2 ∨ s = 3 ∨ s = 4 ∨ s = 5 := by omega
    all_goals
      go_enter Tryd.func12, Tryd.ntmps12
      go_wp2_with fail
      go_ret
      exact ⟨rfl, Below.refl _ _⟩
  · have q1 : (s == 1) = false := by simp; omega
    have q2 : (s == 2) = false := by simp; omega
    have q3 : (s == 3) = false := by simp; omega
    have q4 : (s == 4) = false := by simp; omega
    have q5 : (s == 5) = false := by simp; omega
    have HN : Hid (stT s = [110, 111, 110, 101]) := Lib.hid (by
      unfold stT
      split
      · obtain rfl : s = 0 := by omega
        rfl
      · rfl)
    rw [HN.out]
    clear hs
    go_enter Tryd.func12, Tryd.ntmps12
    go_wp2_with fail
    go_ret
    exact ⟨rfl, Below.refl _ _⟩

set_option maxHeartbeats 4000000 in
theorem errno_any (e : Int) (w : World) : Calls Tryd.prog 14 #[.int .i64 e] w fun r w' => r = .returned (.string ⟨(errT e).toArray⟩) ∧ Below w.heap.size w w' := by
  by_cases he : 0 ≤ e ∧ e ≤ 18
  · obtain rfl | rfl | rfl | rfl | rfl | rfl | rfl | rfl | rfl | rfl | rfl | rfl | rfl | rfl | rfl | rfl | rfl | rfl | rfl : e = 0 ∨ e = 1 ∨ e = 2 ∨ e = 3 ∨ e = 4 ∨ e = 5 ∨ e = 6 ∨ e = 7 ∨ e = 8 ∨ e = 9 ∨ e = 10 ∨ e = 11 ∨ e = 12 ∨ e = 13 ∨ e = 14 ∨ e = 15 ∨ e = 16 ∨ e = 17 ∨ e = 18 := by omega
    all_goals
      go_enter Tryd.func14, Tryd.ntmps14
      go_wp2_with fail
      go_ret
      exact ⟨rfl, Below.refl _ _⟩
  · have q0 : (e == 0) = false := by simp; omega
    have q1 : (e == 1) = false := by simp; omega
    have q2 : (e == 2) = false := by simp; omega
    have q3 : (e == 3) = false := by simp; omega
    have q4 : (e == 4) = false := by simp; omega
    have q5 : (e == 5) = false := by simp; omega
    have q6 : (e == 6) = false := by simp; omega
    have q7 : (e == 7) = false := by simp; omega
    have q8 : (e == 8) = false := by simp; omega
    have q9 : (e == 9) = false := by simp; omega
    have q10 : (e == 10) = false := by simp; omega
    have q11 : (e == 11) = false := by simp; omega
    have q12 : (e == 12) = false := by simp; omega
    have q13 : (e == 13) = false := by simp; omega
    have q14 : (e == 14) = false := by simp; omega
    have q15 : (e == 15) = false := by simp; omega
    have q16 : (e == 16) = false := by simp; omega
    have q17 : (e == 17) = false := by simp; omega
    have q18 : (e == 18) = false := by simp; omega
    have HN : Hid (errT e = [117, 110, 107, 110, 111, 119, 110]) := Lib.hid (by unfold errT; rw [if_neg he])
    rw [HN.out]
    clear he
    go_enter Tryd.func14, Tryd.ntmps14
    go_wp2_with fail
    go_ret
    exact ⟨rfl, Below.refl _ _⟩
end Go.Proofs.YtfedjgblgnkbcaaDoor
