/-
  wide.Plus, wide.Minus.
-/
import Derived.Test.YtfilpmmimpkfmaaWidJ
import Derived.Shelf.Spec.BitsCarry
namespace Go.Proofs.Ytfilpmmimpkfmaa
open Go.RowKit

theorem sub64_run (x y c : Int) (hx : 0 ≤ x) (hx1 : x < 18446744073709551616) (hy : 0 ≤ y) (hy1 : y < 18446744073709551616) (hc0 : 0 ≤ c) (hc : c ≤ 1) (w : World) : (callFunc 68 #[.int .u64 x, .int .u64 y, .int .u64 c]).run Try.prog w =
    .ok (.value (.tuple #[.int .u64 ((x - y - c) % 18446744073709551616), .int .u64 (if x < y + c then 1 else 0)])) w := by
  obtain ⟨x, rfl⟩ := Int.eq_ofNat_of_zero_le hx
  obtain ⟨y, rfl⟩ := Int.eq_ofNat_of_zero_le hy
  obtain ⟨c, rfl⟩ := Int.eq_ofNat_of_zero_le hc0
  rw [run_callFunc_extern Try.func68 (by kernel_rfl) (by kernel_rfl) (by kernel_rfl) (e := sub64Entry) (by kernel_rfl), run_sub64 x y c (by omega)]
  simp only [Result.andThen]
  have e1 : (((x + 18446744073709551616 - y - c) % 18446744073709551616 : Nat) : Int) = ((x : Int) - y - c) % 18446744073709551616 := by omega
  have e2 : (((if x < y + c then 1 else 0) : Nat) : Int) = if (x : Int) < (y : Int) + c then 1 else 0 := by
    by_cases h : x < y + c
    · rw [if_pos h, if_pos (by omega)]; rfl
    · rw [if_neg h, if_neg (by omega)]; rfl
  rw [e1, e2]

/-- Wide.Plus, by its two words. -/
theorem wplus_words (ah al bh bl : Int) (l0 : 0 ≤ al) (l1 : al < 18446744073709551616) (k0 : 0 ≤ bl) (k1 : bl < 18446744073709551616) :
    (ah * 18446744073709551616 + al + (bh * 18446744073709551616 + bl)) / 18446744073709551616 = ah + bh + (al + bl + 0) / 18446744073709551616 ∧ (ah * 18446744073709551616 + al + (bh * 18446744073709551616 + bl)) % 18446744073709551616 = (al + bl + 0) % 18446744073709551616 := by omega

set_option maxHeartbeats 1000000 in
theorem wplus_yes (ah al bh bl : Int) (h0 : 0 ≤ ah) (h1 : ah < 18446744073709551616) (l0 : 0 ≤ al) (l1 : al < 18446744073709551616) (g0 : 0 ≤ bh) (g1 : bh < 18446744073709551616) (k0 : 0 ≤ bl) (k1 : bl < 18446744073709551616) (hf : ah * 18446744073709551616 + al + (bh * 18446744073709551616 + bl) < 340282366920938463463374607431768211456) (w : World) :
    Calls Try.prog 21 #[.agg #[.int .u64 ah, .int .u64 al], .agg #[.int .u64 bh, .int .u64 bl]] w fun e w' => e = .returned (.tuple #[.agg #[.int .u64 ((ah * 18446744073709551616 + al + (bh * 18446744073709551616 + bl)) / 18446744073709551616), .int .u64 ((ah * 18446744073709551616 + al + (bh * 18446744073709551616 + bl)) % 18446744073709551616)], .int .i64 0]) ∧ Below w.heap.size w w' := by
  have r1 := fun w => add64_run al bl 0 l0 k0 (by omega) (by omega) w
  have HW := Lib.hid (wplus_words ah al bh bl l0 l1 k0 k1)
  obtain ⟨C, hC⟩ : ∃ C, Hid ((al + bl + 0) / 18446744073709551616 = C) := ⟨_, Lib.hid rfl⟩
  obtain ⟨L, hL⟩ : ∃ C, Hid ((al + bl + 0) % 18446744073709551616 = C) := ⟨_, Lib.hid rfl⟩
  have c0 : 0 ≤ C := by rw [← hC.out]; omega
  have c1 : C ≤ 1 := by rw [← hC.out]; omega
  have r2 := fun w => add64_run ah bh C h0 g0 c0 c1 w
  rw [hC.out, hL.out] at r1 HW
  obtain ⟨N, hN⟩ : ∃ N, Hid (ah * 18446744073709551616 + al + (bh * 18446744073709551616 + bl) = N) := ⟨_, Lib.hid rfl⟩
  have hbd : N < 340282366920938463463374607431768211456 ↔ ah + bh + C < 18446744073709551616 := by have := HW.out; rw [hN.out] at this; omega
  rw [hN.out] at HW hf ⊢
  have hB : ∀ o : Obj, Below w.heap.size w (((w.alloc (.cells #[.int .u64 ah, .int .u64 al] 30)).alloc (.cells #[.int .u64 bh, .int .u64 bl] 30)).alloc o) := fun o => (((Below.refl w.heap.size w).alloc (Nat.le_refl _) _).alloc (by simp) _).alloc (by simp; omega) o
  have e1 : (ah + bh + C) % 18446744073709551616 = ah + bh + C := by have := hbd.1 hf; omega
  have e2 : (ah + bh + C) / 18446744073709551616 = 0 := by have := hbd.1 hf; omega
  rw [e1, e2, ← HW.out.1] at r2
  obtain ⟨H, hH⟩ : ∃ H, Hid (N / 18446744073709551616 = H) := ⟨_, Lib.hid rfl⟩
  rw [hH.out] at r2 HW ⊢
  rw [HW.out.2]
  clear e1 e2 hf hbd
  go_enter Try.func21, Try.ntmps21
  go_wp2_with fail
  exact bodyPost_ret (v := .tuple #[.agg #[.int .u64 H, .int .u64 L], .int .i64 0]) (by simp [results, Try.results21, go_sem]) rfl ⟨rfl, hB _⟩
set_option maxHeartbeats 1000000 in
theorem wplus_no (ah al bh bl : Int) (h0 : 0 ≤ ah) (h1 : ah < 18446744073709551616) (l0 : 0 ≤ al) (l1 : al < 18446744073709551616) (g0 : 0 ≤ bh) (g1 : bh < 18446744073709551616) (k0 : 0 ≤ bl) (k1 : bl < 18446744073709551616) (hf : ¬ ah * 18446744073709551616 + al + (bh * 18446744073709551616 + bl) < 340282366920938463463374607431768211456) (w : World) :
    Calls Try.prog 21 #[.agg #[.int .u64 ah, .int .u64 al], .agg #[.int .u64 bh, .int .u64 bl]] w fun e w' => e = .returned (.tuple #[.agg #[.int .u64 0, .int .u64 0], .int .i64 2]) ∧ Below w.heap.size w w' := by
  have r1 := fun w => add64_run al bl 0 l0 k0 (by omega) (by omega) w
  have HW := Lib.hid (wplus_words ah al bh bl l0 l1 k0 k1)
  obtain ⟨C, hC⟩ : ∃ C, Hid ((al + bl + 0) / 18446744073709551616 = C) := ⟨_, Lib.hid rfl⟩
  obtain ⟨L, hL⟩ : ∃ C, Hid ((al + bl + 0) % 18446744073709551616 = C) := ⟨_, Lib.hid rfl⟩
  have c0 : 0 ≤ C := by rw [← hC.out]; omega
  have c1 : C ≤ 1 := by rw [← hC.out]; omega
  have r2 := fun w => add64_run ah bh C h0 g0 c0 c1 w
  rw [hC.out, hL.out] at r1 HW
  obtain ⟨N, hN⟩ : ∃ N, Hid (ah * 18446744073709551616 + al + (bh * 18446744073709551616 + bl) = N) := ⟨_, Lib.hid rfl⟩
  have hbd : N < 340282366920938463463374607431768211456 ↔ ah + bh + C < 18446744073709551616 := by have := HW.out; rw [hN.out] at this; omega
  rw [hN.out] at HW hf 
  have hB : ∀ o : Obj, Below w.heap.size w (((w.alloc (.cells #[.int .u64 ah, .int .u64 al] 30)).alloc (.cells #[.int .u64 bh, .int .u64 bl] 30)).alloc o) := fun o => (((Below.refl w.heap.size w).alloc (Nat.le_refl _) _).alloc (by simp) _).alloc (by simp; omega) o
  have e2 : (ah + bh + C) / 18446744073709551616 = 1 := by omega
  rw [e2] at r2
  clear e2 hf hbd
  go_enter Try.func21, Try.ntmps21
  go_wp2_with fail
  exact bodyPost_ret (v := .tuple #[.agg #[.int .u64 0, .int .u64 0], .int .i64 2]) (by simp [results, Try.results21, go_sem]) rfl ⟨rfl, hB _⟩
set_option maxHeartbeats 1000000 in
theorem wminus_yes (ah al bh bl : Int) (h0 : 0 ≤ ah) (h1 : ah < 18446744073709551616) (l0 : 0 ≤ al) (l1 : al < 18446744073709551616) (g0 : 0 ≤ bh) (g1 : bh < 18446744073709551616) (k0 : 0 ≤ bl) (k1 : bl < 18446744073709551616) (hf : bh * 18446744073709551616 + bl ≤ ah * 18446744073709551616 + al) (w : World) :
    Calls Try.prog 23 #[.agg #[.int .u64 ah, .int .u64 al], .agg #[.int .u64 bh, .int .u64 bl]] w fun e w' => e = .returned (.tuple #[.agg #[.int .u64 ((ah * 18446744073709551616 + al - (bh * 18446744073709551616 + bl)) / 18446744073709551616), .int .u64 ((ah * 18446744073709551616 + al - (bh * 18446744073709551616 + bl)) % 18446744073709551616)], .int .i64 0]) ∧ Below w.heap.size w w' := by
  have r1 := fun w => sub64_run al bl 0 l0 l1 k0 k1 (by omega) (by omega) w
  obtain ⟨C, hC⟩ : ∃ C : Int, Hid ((if al < bl + 0 then 1 else 0) = C) := ⟨_, Lib.hid rfl⟩
  obtain ⟨L, hL⟩ : ∃ C, Hid ((al - bl - 0) % 18446744073709551616 = C) := ⟨_, Lib.hid rfl⟩
  have c0 : 0 ≤ C ∧ C ≤ 1 := by rw [← hC.out]; split <;> omega
  have HW : Hid ((ah * 18446744073709551616 + al - (bh * 18446744073709551616 + bl)) / 18446744073709551616 = ah - bh - C ∧ (ah * 18446744073709551616 + al - (bh * 18446744073709551616 + bl)) % 18446744073709551616 = L ∧ (bh * 18446744073709551616 + bl ≤ ah * 18446744073709551616 + al ↔ ¬ ah < bh + C)) := Lib.hid (by
    rw [← hC.out, ← hL.out]
    split <;> omega)
  have r2 := fun w => sub64_run ah bh C h0 h1 g0 g1 c0.1 c0.2 w
  rw [hC.out, hL.out] at r1
  have hB : ∀ o : Obj, Below w.heap.size w (((w.alloc (.cells #[.int .u64 ah, .int .u64 al] 30)).alloc (.cells #[.int .u64 bh, .int .u64 bl] 30)).alloc o) := fun o => (((Below.refl w.heap.size w).alloc (Nat.le_refl _) _).alloc (by simp) _).alloc (by simp; omega) o
  have hn := HW.out.2.2.1 hf
  have e1 : (ah - bh - C) % 18446744073709551616 = ah - bh - C := by omega
  rw [e1, if_neg hn, ← HW.out.1] at r2
  obtain ⟨N, hN⟩ : ∃ N, Hid (ah * 18446744073709551616 + al - (bh * 18446744073709551616 + bl) = N) := ⟨_, Lib.hid rfl⟩
  rw [hN.out] at HW r2 ⊢
  obtain ⟨H, hH⟩ : ∃ H, Hid (N / 18446744073709551616 = H) := ⟨_, Lib.hid rfl⟩
  rw [hH.out] at r2 HW ⊢
  rw [HW.out.2.1]
  clear e1 hf hn
  go_enter Try.func23, Try.ntmps23
  go_wp2_with fail
  exact bodyPost_ret (v := .tuple #[.agg #[.int .u64 H, .int .u64 L], .int .i64 0]) (by simp [results, Try.results23, go_sem]) rfl ⟨rfl, hB _⟩
set_option maxHeartbeats 1000000 in
theorem wminus_no (ah al bh bl : Int) (h0 : 0 ≤ ah) (h1 : ah < 18446744073709551616) (l0 : 0 ≤ al) (l1 : al < 18446744073709551616) (g0 : 0 ≤ bh) (g1 : bh < 18446744073709551616) (k0 : 0 ≤ bl) (k1 : bl < 18446744073709551616) (hf : ¬ bh * 18446744073709551616 + bl ≤ ah * 18446744073709551616 + al) (w : World) :
    Calls Try.prog 23 #[.agg #[.int .u64 ah, .int .u64 al], .agg #[.int .u64 bh, .int .u64 bl]] w fun e w' => e = .returned (.tuple #[.agg #[.int .u64 0, .int .u64 0], .int .i64 2]) ∧ Below w.heap.size w w' := by
  have r1 := fun w => sub64_run al bl 0 l0 l1 k0 k1 (by omega) (by omega) w
  obtain ⟨C, hC⟩ : ∃ C : Int, Hid ((if al < bl + 0 then 1 else 0) = C) := ⟨_, Lib.hid rfl⟩
  obtain ⟨L, hL⟩ : ∃ C, Hid ((al - bl - 0) % 18446744073709551616 = C) := ⟨_, Lib.hid rfl⟩
  have c0 : 0 ≤ C ∧ C ≤ 1 := by rw [← hC.out]; split <;> omega
  have HW : Hid ((ah * 18446744073709551616 + al - (bh * 18446744073709551616 + bl)) / 18446744073709551616 = ah - bh - C ∧ (ah * 18446744073709551616 + al - (bh * 18446744073709551616 + bl)) % 18446744073709551616 = L ∧ (bh * 18446744073709551616 + bl ≤ ah * 18446744073709551616 + al ↔ ¬ ah < bh + C)) := Lib.hid (by
    rw [← hC.out, ← hL.out]
    split <;> omega)
  have r2 := fun w => sub64_run ah bh C h0 h1 g0 g1 c0.1 c0.2 w
  rw [hC.out, hL.out] at r1
  have hB : ∀ o : Obj, Below w.heap.size w (((w.alloc (.cells #[.int .u64 ah, .int .u64 al] 30)).alloc (.cells #[.int .u64 bh, .int .u64 bl] 30)).alloc o) := fun o => (((Below.refl w.heap.size w).alloc (Nat.le_refl _) _).alloc (by simp) _).alloc (by simp; omega) o
  have hn : ah < bh + C := by have := HW.out.2.2; omega
  rw [if_pos hn] at r2
  obtain ⟨D, hD⟩ : ∃ D, Hid ((ah - bh - C) % 18446744073709551616 = D) := ⟨_, Lib.hid rfl⟩
  rw [hD.out] at r2
  clear hf hn
  go_enter Try.func23, Try.ntmps23
  go_wp2_with fail
  exact bodyPost_ret (v := .tuple #[.agg #[.int .u64 0, .int .u64 0], .int .i64 2]) (by simp [results, Try.results23, go_sem]) rfl ⟨rfl, hB _⟩
end Go.Proofs.Ytfilpmmimpkfmaa
