import Derived.Test.YtehemhpfdajbdaaDoorRepP
import Derived.Test.YtehemhpfdajbdaaDoorBas2
import Derived.Test.YtehemhpfdajbdaaDoorMonA
import Derived.Test.YtehemhpfdajbdaaDoorShelf
import Derived.Laws.IdiomStrings
import Derived.Lib.UnsafeStr
import Derived.Lib.AppendIntMem
namespace Go.Proofs.YtehemhpfdajbdaaDoor
open Go.RowKit

/-! ### A number's text, by the document -/
/-- 'string([]byte{..})' of one digit. -/
theorem conv_digit (W : World) (m : Nat) :
    (convert 50 9 (.slice (some ⟨W.heap.size, 0, none⟩) 1 1)).run Tryd.prog (W.alloc (.cells #[.int .u8 (48 + (m : Int) % 10)] 5)) = .ok (.string ⟨[dg (m % 10)].toArray⟩) (W.alloc (.cells #[.int .u8 (48 + (m : Int) % 10)] 5)) := by
  refine run_convert_bytes_back (P := Tryd.prog) _ 50 9 5 ⟨W.heap.size, 0, none⟩ 1 [dg (m % 10)] Tryd.underlying50 Tryd.underlying5 Tryd.underlying9 (fun j hj => ?_)
  obtain rfl : j = 0 := by simpa using hj
  have h2 : (⟨W.heap.size, 0, none⟩ : Addr).add 0 = ⟨W.heap.size, 0, none⟩ := by unfold Addr.add; rfl
  rw [h2, (Blk.new W 5 #[.int .u8 (48 + (m : Int) % 10)] W.heap.size rfl).cell 0]
  have := dg_toNat (m % 10) (Nat.mod_lt _ (by omega))
  simp only [List.getElem_cons_zero, this]
  simp


set_option maxRecDepth 10000 in
set_option maxHeartbeats 1000000 in
theorem refDigits_any (n : Nat) (hn : n < 18446744073709551616) (w : World) :
    Calls Tryd.prog 16 #[.int .u64 n] w fun e w' => e = .returned (.string ⟨(digT n 1).toArray⟩) ∧ Below w.heap.size w w' := by
  have hcv := fun W => conv_digit W n
  go_enter Tryd.func16, Tryd.ntmps16
  go_wp2_with fail
  clear hcv
  go_loopw [0, 3] (fun x s wr => ∃ (f m : Nat) (acc : List Nat), x = .int .u64 m ∧ m ≤ n ∧ Hid (acc ++ low f (m / 10) 0 = low 20 n 1 ∧ m / 10 < 10 ^ f ∧ acc.length + f = 20) ∧ s = .string ⟨((acc.map dg).reverse).toArray⟩ ∧ Below w.heap.size w wr) (fun x _ _ => (intOf x).toNat)
  case atStart => exact ⟨19, n, [n % 10], rfl, Nat.le_refl _, Lib.hid ⟨(low_step 19 n 1 (by omega)).symm, by omega, rfl⟩, rfl, (Below.refl _ _).alloc (Nat.le_refl _) _⟩
  case round =>
    obtain ⟨f, m, acc, rfl, hmn, hh, rfl, hb⟩ := hrel
    have hs := hb.size
    have hal : acc.length ≤ 20 := by have := hh.out; omega
    by_cases h9 : 9 < m
    · obtain ⟨f', hf'⟩ : ∃ f', f = f' + 1 := by
        cases f with
        | zero => have := hh.out.2.1; simp at this; omega
        | succ f => exact ⟨f, rfl⟩
      subst hf'
      have HN : Hid ((acc ++ [m / 10 % 10]) ++ low f' (m / 10 / 10) 0 = low 20 n 1 ∧ m / 10 / 10 < 10 ^ f' ∧ (acc ++ [m / 10 % 10]).length + f' = 20) := Lib.hid (by
        obtain ⟨h1, h2, h3⟩ := hh.out
        rw [low_step _ _ _ (by omega)] at h1
        rw [Nat.pow_succ] at h2
        refine ⟨by rw [List.append_assoc]; exact h1, by omega, by simp; omega⟩)
      have hcv : ∀ W : World, (convert 50 9 (.slice (some ⟨W.heap.size, 0, none⟩) 1 1)).run Tryd.prog (W.alloc (.cells #[.int .u8 (48 + (m : Int) / 10 % 10)] 5)) = .ok (.string ⟨[dg (m / 10 % 10)].toArray⟩) (W.alloc (.cells #[.int .u8 (48 + (m : Int) / 10 % 10)] 5)) := fun W => by
        have := conv_digit W (m / 10)
        rw [show ((m / 10 : Nat) : Int) = (m : Int) / 10 by omega] at this
        exact this
      have hd : (acc.map dg).reverse.length ≤ 20 := by simpa using hal
      go_wp2_with fail
      go_roundw
      case rel =>
        refine ⟨f', m / 10, acc ++ [m / 10 % 10], by first | rfl | go_num, by omega, HN, ?_, hb.alloc hs _⟩
        rw [show (List.map dg (acc ++ [m / 10 % 10])).reverse = [dg (m / 10 % 10)] ++ (List.map dg acc).reverse by simp, ← app_bytes]
      case measure => simp [intOf]; omega
    · have HD : Hid (acc = low 20 n 1) := Lib.hid (by
        have := hh.out.1
        rw [low_done _ _ _ (by omega)] at this
        simpa using this)
      go_wp2_with fail
      go_ret
      refine ⟨?_, hb⟩
      rw [digT, ← HD.out]
      rfl

end Go.Proofs.YtehemhpfdajbdaaDoor
