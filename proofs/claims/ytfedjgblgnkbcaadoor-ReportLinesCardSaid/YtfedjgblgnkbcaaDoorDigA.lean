import Derived.Test.YtfedjgblgnkbcaaDoorRepP
import Derived.Test.YtfedjgblgnkbcaaDoorBas2
import Derived.Test.YtfedjgblgnkbcaaDoorMonA
import Derived.Test.YtfedjgblgnkbcaaDoorShelf
import Derived.Laws.IdiomStrings
import Derived.Lib.UnsafeStr
import Derived.Lib.AppendIntMem
namespace Go.Proofs.YtfedjgblgnkbcaaDoor
open Go.RowKit

/-! ### A number's text, by the document -/
set_option maxHeartbeats 400000 in
theorem refSize_any (a : Int) (ha : inI a) (w : World) :
    Calls Tryd.prog 20 #[.int .i64 a] w fun e w' => e = .returned (.int .u64 (sizeI a)) ∧ w = w' := by
  obtain ⟨h1, h2⟩ := ha
  by_cases h0 : 0 ≤ a
  · go_enter Tryd.func20, Tryd.ntmps20
    go_wp2
    go_ret
    refine ⟨ret_int ?_, rfl⟩
    have : ¬ a < 0 := by omega
    simp [sizeI, this, IntKind.wrap_u64]
    try omega
  · go_enter Tryd.func20, Tryd.ntmps20
    go_wp2
    go_ret
    refine ⟨ret_int ?_, rfl⟩
    have : a < 0 := by omega
    simp [sizeI, this, IntKind.wrap_u64]
    omega
/-- 'string([]byte{..})' of one digit. -/
theorem conv_digit (W : World) (m : Nat) :
    (convert 54 9 (.slice (some ⟨W.heap.size, 0, none⟩) 1 1)).run Tryd.prog (W.alloc (.cells #[.int .u8 (48 + (m : Int) % 10)] 5)) = .ok (.string ⟨[dg (m % 10)].toArray⟩) (W.alloc (.cells #[.int .u8 (48 + (m : Int) % 10)] 5)) := by
  refine run_convert_bytes_back (P := Tryd.prog) _ 54 9 5 ⟨W.heap.size, 0, none⟩ 1 [dg (m % 10)] Tryd.underlying54 Tryd.underlying5 Tryd.underlying9 (fun j hj => ?_)
  obtain rfl : j = 0 := by simpa using hj
  have h2 : (⟨W.heap.size, 0, none⟩ : Addr).add 0 = ⟨W.heap.size, 0, none⟩ := by unfold Addr.add; rfl
  rw [h2, (Blk.new W 5 #[.int .u8 (48 + (m : Int) % 10)] W.heap.size rfl).cell 0]
  have := dg_toNat (m % 10) (Nat.mod_lt _ (by omega))
  simp only [List.getElem_cons_zero, this]
  simp


set_option maxRecDepth 10000 in
set_option maxHeartbeats 1000000 in
theorem refDigits_any (n : Nat) (hn : n < 18446744073709551616) (w : World) :
    Calls Tryd.prog 19 #[.int .u64 n] w fun e w' => e = .returned (.string ⟨(digT n 1).toArray⟩) ∧ Below w.heap.size w w' := by
  have hcv := fun W => conv_digit W n
  go_enter Tryd.func19, Tryd.ntmps19
  go_wp2_with fail
  clear hcv
  go_loopw [0, 3] (fun x s wr => ∃ (f m : Nat) (acc : List Nat), x = .int .u64 m ∧ m ≤ n ∧ Hid (acc ++ low f (m / 10) 0 = low 20 n 1 ∧ m / 10 < 10 ^ f ∧ acc.length + f = 20) ∧ s = .string ⟨((acc.map dg).reverse).toArray⟩ ∧ Below w.heap.size w wr) (fun x _ _ => (intOf x).toNat)
  case atStart => exact ⟨19, n, [n % 10], rfl, Nat.le_refl _, Lib.hid ⟨(low_step 19 n 1 (by omega)).symm, by omega, rfl⟩, rfl, (Below.refl _ _).alloc (Nat.le_refl _) _⟩
  case round =>
    obtain ⟨f, m, acc, rfl, hmn, hh, rfl, hb⟩ := hrel
    have hs := hb.size
    have hal : acc.length ≤ 20 := by have := hh.out; omega
    by_cases h9 : 9 < m
    · obtain ⟨f', hf'⟩ : ∃ f', f = f' + 1 := by
        cases f with
        | zero => have := hh.out.2.1; simp at this; omega
        | succ f => exact ⟨f, rfl⟩
      subst hf'
      have HN : Hid ((acc ++ [m / 10 % 10]) ++ low f' (m / 10 / 10) 0 = low 20 n 1 ∧ m / 10 / 10 < 10 ^ f' ∧ (acc ++ [m / 10 % 10]).length + f' = 20) := Lib.hid (by
        obtain ⟨h1, h2, h3⟩ := hh.out
        rw [low_step _ _ _ (by omega)] at h1
        rw [Nat.pow_succ] at h2
        refine ⟨by rw [List.append_assoc]; exact h1, by omega, by simp; omega⟩)
      have hcv : ∀ W : World, (convert 54 9 (.slice (some ⟨W.heap.size, 0, none⟩) 1 1)).run Tryd.prog (W.alloc (.cells #[.int .u8 (48 + (m : Int) / 10 % 10)] 5)) = .ok (.string ⟨[dg (m / 10 % 10)].toArray⟩) (W.alloc (.cells #[.int .u8 (48 + (m : Int) / 10 % 10)] 5)) := fun W => by
        have := conv_digit W (m / 10)
        rw [show ((m / 10 : Nat) : Int) = (m : Int) / 10 by omega] at this
        exact this
      have hd : (acc.map dg).reverse.length ≤ 20 := by simpa using hal
      go_wp2_with fail
      go_roundw
      case rel =>
        refine ⟨f', m / 10, acc ++ [m / 10 % 10], by first | rfl | go_num, by omega, HN, ?_, hb.alloc hs _⟩
        rw [show (List.map dg (acc ++ [m / 10 % 10])).reverse = [dg (m / 10 % 10)] ++ (List.map dg acc).reverse by simp, ← app_bytes]
      case measure => simp [intOf]; omega
    · have HD : Hid (acc = low 20 n 1) := Lib.hid (by
        have := hh.out.1
        rw [low_done _ _ _ (by omega)] at this
        simpa using this)
      go_wp2_with fail
      go_ret
      refine ⟨?_, hb⟩
      rw [digT, ← HD.out]
      rfl

set_option maxRecDepth 10000 in
set_option maxHeartbeats 1000000 in
theorem number_any (z : Int) (hz : inI z) (w : World) :
    Calls Tryd.prog 13 #[.int .i64 z] w fun e w' => e = .returned (.string ⟨(numI z).toArray⟩) ∧ Below w.heap.size w w' := by
  have hs : Hid (sizeI z = z.natAbs) := Lib.hid (by rw [sizeI]; split <;> omega)
  have D1 := Lib.hid (refDigits_any z.natAbs (by have := hz.1; have := hz.2; omega))
  have HN : Hid (numI z = if z < 0 then 45 :: digT z.natAbs 1 else digT z.natAbs 1) := Lib.hid rfl
  have l0 : (digT z.natAbs 1).length ≤ 20 := by
    unfold digT
    have := low_len 20 z.natAbs 1
    simpa using this
  rw [HN.out]
  clear HN
  generalize digT z.natAbs 1 = x at *
  go_enter Tryd.func13, Tryd.ntmps13
  go_wp2_with fail
  refine (refSize_any z hz _).mono ?_
  rw [hs.out]
  rintro e w' ⟨rfl, rfl⟩
  go_wp2_with fail
  refine (D1.out _).mono ?_
  rintro e w1 ⟨rfl, hb1⟩
  have hX : (⟨#[45]⟩ : ByteArray) ++ ⟨x.toArray⟩ = ⟨(45 :: x).toArray⟩ := app_bytes [45] x
  by_cases h0 : z < 0
  · go_wp2_with fail
    go_ret
    refine ⟨?_, hb1⟩
    first | rfl | (rw [if_pos h0]; rfl)
  · go_wp2_with fail
    go_ret
    refine ⟨?_, hb1⟩
    first | rfl | (rw [if_neg h0]; rfl)

/-! ### By the library -/
theorem fmt_any (z : Int) (hz : inI z) (w : World) (ht : Lib.TabIs Tryd.prog w "internal/strconv.uint64pow10" .u64 Lib.pow10Tab) :
    Calls Tryd.prog 18 #[.int .i64 z, .int .i64 10] w fun e w' => e = .returned (.string ⟨(numI z).toArray⟩) ∧ Below w.heap.size w w' := by
  refine (Tryd.strconv_FormatInt_10 z hz.1 hz.2 w ht).mono ?_
  rintro e w' ⟨rfl, k, os, rfl⟩
  rw [numI_itoa z hz.1 hz.2]
  exact ⟨rfl, Lib.below_grow _ _ (Nat.le_refl _) _ _⟩
end Go.Proofs.YtfedjgblgnkbcaaDoor
