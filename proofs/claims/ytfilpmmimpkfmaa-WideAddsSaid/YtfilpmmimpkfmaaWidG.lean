import Derived.Test.YtfilpmmimpkfmaaWidE
import Derived.Test.YtfilpmmimpkfmaaEqArr
namespace Go.Proofs.Ytfilpmmimpkfmaa
open Go.RowKit

theorem isNaN_any (x : Int) (w : World) : Calls Try.prog 97 #[.int .u64 x] w fun e w' => e = .returned (.bool false) ∧ w = w' := by
  have q : (x == x) = true := by simp
  go_enter Try.func97, Try.ntmps97
  go_wp2
  go_ret
  exact ⟨rfl, rfl⟩

set_option maxHeartbeats 400000 in
theorem compare_any (x y : Int) (w : World) : Calls Try.prog 69 #[.int .u64 x, .int .u64 y] w fun e w' => e = .returned (.int .i64 (cmpI x y)) ∧ w = w' := by
  by_cases h : x < y
  · have q := dec_t h
    have HV : Hid (cmpI x y = -1) := Lib.hid (if_pos h)
    go_enter Try.func69, Try.ntmps69
    go_wp2_with fail
    refine (isNaN_any x _).mono ?_
    rintro e w' ⟨rfl, rfl⟩
    go_wp2_with fail
    refine (isNaN_any y _).mono ?_
    rintro e w' ⟨rfl, rfl⟩
    go_wp2_with fail
    go_ret
    rw [HV.out]
    exact ⟨rfl, rfl⟩
  · have q := dec_f h
    by_cases h2 : y < x
    · have q2 := dec_t h2
      have HV : Hid (cmpI x y = 1) := Lib.hid (by rw [cmpI, if_neg h, if_pos h2])
      go_enter Try.func69, Try.ntmps69
      go_wp2_with fail
      refine (isNaN_any x _).mono ?_
      rintro e w' ⟨rfl, rfl⟩
      go_wp2_with fail
      refine (isNaN_any y _).mono ?_
      rintro e w' ⟨rfl, rfl⟩
      go_wp2_with fail
      go_ret
      rw [HV.out]
      exact ⟨rfl, rfl⟩
    · have q2 := dec_f h2
      have HV : Hid (cmpI x y = 0) := Lib.hid (by rw [cmpI, if_neg h, if_neg h2])
      go_enter Try.func69, Try.ntmps69
      go_wp2_with fail
      refine (isNaN_any x _).mono ?_
      rintro e w' ⟨rfl, rfl⟩
      go_wp2_with fail
      refine (isNaN_any y _).mono ?_
      rintro e w' ⟨rfl, rfl⟩
      go_wp2_with fail
      go_ret
      rw [HV.out]
      exact ⟨rfl, rfl⟩

theorem cmp_words (ah al bh bl : Int) (h1 : 0 ≤ al) (h2 : al < 18446744073709551616) (h3 : 0 ≤ bl) (h4 : bl < 18446744073709551616) :
    cmpI (ah * 18446744073709551616 + al) (bh * 18446744073709551616 + bl) = if ah = bh then cmpI al bl else cmpI ah bh := by
  unfold cmpI
  by_cases h : ah = bh
  · subst h; rw [if_pos rfl]
    by_cases a1 : al < bl
    · rw [if_pos a1, if_pos (by omega)]
    · rw [if_neg a1, if_neg (by omega)]
      by_cases a2 : bl < al
      · rw [if_pos a2, if_pos (by omega)]
      · rw [if_neg a2, if_neg (by omega)]
  · rw [if_neg h]
    by_cases a1 : ah < bh
    · rw [if_pos a1, if_pos (by omega)]
    · rw [if_neg a1, if_neg (by omega), if_pos (by omega), if_pos (by omega)]

set_option maxHeartbeats 1000000 in
theorem wcmp_any (ah al bh bl : Int) (h1 : 0 ≤ al) (h2 : al < 18446744073709551616) (h3 : 0 ≤ bl) (h4 : bl < 18446744073709551616) (w : World) :
    Calls Try.prog 24 #[.agg #[.int .u64 ah, .int .u64 al], .agg #[.int .u64 bh, .int .u64 bl]] w fun e w' => e = .returned (.int .i64 (cmpI (ah * 18446744073709551616 + al) (bh * 18446744073709551616 + bl))) ∧ Below w.heap.size w w' := by
  have HC := Lib.hid (cmp_words ah al bh bl h1 h2 h3 h4)
  obtain ⟨v, hv⟩ : ∃ v, Hid (cmpI (ah * 18446744073709551616 + al) (bh * 18446744073709551616 + bl) = v) := ⟨_, Lib.hid rfl⟩
  rw [hv.out] at HC ⊢
  have hB0 := ((Below.refl w.heap.size w).alloc (Nat.le_refl _) (.cells #[.int .u64 ah, .int .u64 al] 30)).alloc (by simp) (.cells #[.int .u64 bh, .int .u64 bl] 30)
  by_cases e1 : ah = bh
  · have q1 : (ah == bh) = true := by simp [e1]
    rw [if_pos e1] at HC
    by_cases e2 : al = bl
    · have q2 : (al == bl) = true := by simp [e2]
      have HV : Hid (v = 0) := Lib.hid (by rw [HC.out, cmpI, if_neg (by omega), if_neg (by omega)])
      clear e1 e2
      go_enter Try.func24, Try.ntmps24
      go_wp2_with fail
      go_ret
      rw [HV.out]
      exact ⟨rfl, hB0⟩
    · have q2 : (al == bl) = false := by simp [e2]
      have HX := Lib.hid (compare_any al bl)
      rw [← HC.out] at HX
      clear e1 e2
      go_enter Try.func24, Try.ntmps24
      go_wp2_with fail
      refine (HX.out _).mono ?_
      rintro e w' ⟨rfl, rfl⟩
      go_wp2_with fail
      go_ret
      exact ⟨rfl, hB0⟩
  · have q1 : (ah == bh) = false := by simp [e1]
    rw [if_neg e1] at HC
    have HX := Lib.hid (compare_any ah bh)
    rw [← HC.out] at HX
    clear e1
    go_enter Try.func24, Try.ntmps24
    go_wp2_with fail
    refine (HX.out _).mono ?_
    rintro e w' ⟨rfl, rfl⟩
    go_wp2_with fail
    go_ret
    exact ⟨rfl, hB0⟩

set_option maxHeartbeats 1000000 in
theorem wless_any (a b c d : Int) (a0 : 0 ≤ a) (a1 : a < 18446744073709551616) (b0 : 0 ≤ b) (b1 : b < 18446744073709551616) (c0 : 0 ≤ c) (c1 : c < 18446744073709551616) (d0 : 0 ≤ d) (d1 : d < 18446744073709551616) (w : World) :
    Calls Try.prog 18 #[.int .u64 a, .int .u64 b, .int .u64 c, .int .u64 d] w fun e w' => e = .returned (.int .i64 (cmpI (a * b) (c * d))) ∧ Below w.heap.size w w' := by
  have M1 := wmul_any a b a0 a1 b0 b1
  have M2 := wmul_any c d c0 c1 d0 d1
  obtain ⟨P, hP⟩ : ∃ P, Hid (a * b = P) := ⟨_, Lib.hid rfl⟩
  obtain ⟨Q, hQ⟩ : ∃ P, Hid (c * d = P) := ⟨_, Lib.hid rfl⟩
  rw [hP.out, hQ.out]
  rw [hP.out] at M1
  rw [hQ.out] at M2
  have C := wcmp_any (P / 18446744073709551616) (P % 18446744073709551616) (Q / 18446744073709551616) (Q % 18446744073709551616) (by omega) (by omega) (by omega) (by omega)
  rw [words_back, words_back] at C
  generalize P / 18446744073709551616 = ph at *
  generalize P % 18446744073709551616 = pl at *
  generalize Q / 18446744073709551616 = qh at *
  generalize Q % 18446744073709551616 = ql at *
  generalize cmpI P Q = v at *
  have H1 := Lib.hid M1
  have H2 := Lib.hid M2
  have HC := Lib.hid C
  clear M1 M2 C
  go_enter Try.func18, Try.ntmps18
  go_wp2_with fail
  refine (H1.out _).mono ?_
  rintro e w1 ⟨rfl, hb1⟩
  go_wp2_with fail
  refine (H2.out _).mono ?_
  rintro e w2 ⟨rfl, hb2⟩
  go_wp2_with fail
  refine (HC.out _).mono ?_
  rintro e w3 ⟨rfl, hb3⟩
  go_wp2_with fail
  go_ret
  exact ⟨rfl, Below.next (Below.next hb1 hb2) hb3⟩

set_option maxRecDepth 100000 in
set_option maxHeartbeats 1000000 in
theorem words_any (x : Int) (x0 : 0 ≤ x) (x1 : x < 340282366920938463463374607431768211456) (w : World) :
    Calls Try.prog 65 #[.agg (arr8 (dig x))] w fun e w' => e = .returned (.tuple #[.int .u64 (x / 18446744073709551616), .int .u64 (x % 18446744073709551616)]) ∧ Below w.heap.size w w' := by
  have hB0 := (Below.refl w.heap.size w).alloc (Nat.le_refl _) (.cells (arr8 (dig x)) 25)
  have bx := Blk.new w 25 (arr8 (dig x)) w.heap.size rfl
  obtain ⟨H, hH⟩ : ∃ h, Hid (x / 18446744073709551616 = h) := ⟨_, Lib.hid rfl⟩
  obtain ⟨L, hL⟩ : ∃ h, Hid (x % 18446744073709551616 = h) := ⟨_, Lib.hid rfl⟩
  rw [hH.out, hL.out]
  have HD := dig_of H L (by rw [← hL.out]; omega) (by rw [← hL.out]; omega)
  have ex : H * 18446744073709551616 + L = x := by rw [← hH.out, ← hL.out]; exact words_back x
  rw [ex] at HD
  have H0 : 0 ≤ H := by rw [← hH.out]; omega
  have H1 : H < 18446744073709551616 := by rw [← hH.out]; omega
  have L0 : 0 ≤ L := by rw [← hL.out]; omega
  have L1 : L < 18446744073709551616 := by rw [← hL.out]; omega
  have hH4 : Hid (H / 65536 ^ 4 = 0) := Lib.hid (Int.ediv_eq_zero_of_lt H0 H1)
  have hL4 : Hid (L / 65536 ^ 4 = 0) := Lib.hid (Int.ediv_eq_zero_of_lt L0 L1)
  have HDD := Lib.hid HD
  clear HD ex
  obtain ⟨W, hW⟩ : ∃ W, Hid (w.alloc (.cells (arr8 (dig x)) 25) = W) := ⟨_, Lib.hid rfl⟩
  rw [hW.out] at bx hB0
  go_enter Try.func65, Try.ntmps65
  go_wp2_with fail
  rw [hW.out]
  go_loop [4, 5, 6] (fun h l i => ∃ (k : Nat) (z A B : Int), k ≤ 4 ∧ h = .int .u64 A ∧ l = .int .u64 B ∧ i = .int .i64 z ∧ z ≤ (k : Int) - 1 ∧ (k : Int) - 1 ≤ z ∧ Hid (A = H / 65536 ^ k) ∧ Hid (B = L / 65536 ^ k) ∧ 0 ≤ A ∧ A < 18446744073709551616 ∧ 0 ≤ B ∧ B < 18446744073709551616) (fun _ _ i => (intOf i + 1).toNat)
  case atStart => exact ⟨4, 3, 0, 0, by omega, rfl, rfl, rfl, by omega, by omega, Lib.hid hH4.out.symm, Lib.hid hL4.out.symm, by omega, by omega, by omega, by omega⟩
  case round =>
    obtain ⟨k, z, A, B, hk, rfl, rfl, rfl, z0, z1, hA, hB, A0, A1, B0, B1⟩ := hrel
    by_cases hlt : 1 ≤ k
    · obtain ⟨t, rfl⟩ := Int.eq_ofNat_of_zero_le (show 0 ≤ z by omega)
      obtain rfl : k = t + 1 := by omega
      have q3 : decide (0 ≤ (t : Int)) = true := dec_t (by omega)
      have cl := (bx.cell t).trans (arr8_get _ _ (by omega))
      have ch := (bx.cell (t + 4)).trans (arr8_get _ _ (by omega))
      have pA := part_step H t
      have pB := part_step L t
      rw [← HDD.out.2 t (by omega), ← hA.out] at pA
      rw [← HDD.out.1 t (by omega), ← hB.out] at pB
      have hA' : H / 65536 ^ t ≤ H := Int.ediv_le_self _ H0
      have hB' : L / 65536 ^ t ≤ L := Int.ediv_le_self _ L0
      have dA := dig_bd x (t + 4)
      have dB := dig_bd x t
      obtain ⟨a, ha⟩ : ∃ p, Hid (dig x (t + 4) = p) := ⟨_, Lib.hid rfl⟩
      obtain ⟨b, hb⟩ : ∃ p, Hid (dig x t = p) := ⟨_, Lib.hid rfl⟩
      rw [ha.out] at ch pA dA
      rw [hb.out] at cl pB dB
      have e1 : IntKind.u64.wrap (B * 65536) = B * 65536 := IntWalk.u64_in _ (by omega)
      have e2 : IntKind.u64.wrap (A * 65536) = A * 65536 := IntWalk.u64_in _ (by omega)
      have y0 : 0 ≤ A * 65536 + a := by omega
      have y1 : A * 65536 + a < 18446744073709551616 := by omega
      have y2 : 0 ≤ B * 65536 + b := by omega
      have y3 : B * 65536 + b < 18446744073709551616 := by omega
      have HNA : Hid (A * 65536 + a = H / 65536 ^ t) := Lib.hid (by omega)
      have HNB : Hid (B * 65536 + b = L / 65536 ^ t) := Lib.hid (by omega)
      clear pA pB hA' hB'
      go_wp2_with fail
      go_round
      case rel => exact ⟨t, (t : Int) - 1, A * 65536 + a, B * 65536 + b, by omega, rfl, rfl, by first | rfl | go_num, by omega, by omega, HNA, HNB, y0, y1, y2, y3⟩
      case measure => simp [intOf] <;> omega
    · obtain rfl : k = 0 := by omega
      obtain rfl : z = -1 := by omega
      have hA0 : A = H := by have := hA.out; simpa using this
      have hB0' : B = L := by have := hB.out; simpa using this
      subst hA0 hB0'
      go_wp2_with fail
      go_ret2
      exact ⟨rfl, hB0⟩

set_option maxHeartbeats 1000000 in
theorem same_true (x : Int) (x0 : 0 ≤ x) (x1 : x < 340282366920938463463374607431768211456) (w : World) :
    Calls Try.prog 16 #[.agg #[.int .u64 (x / 18446744073709551616), .int .u64 (x % 18446744073709551616)], .agg (arr8 (dig x))] w fun e w' => e = .returned (.bool true) ∧ Below w.heap.size w w' := by
  have HW := words_any x x0 x1
  generalize x / 18446744073709551616 = h at *
  generalize x % 18446744073709551616 = l at *
  have H2 := Lib.hid HW
  clear HW
  have hB0 := ((Below.refl w.heap.size w).alloc (Nat.le_refl _) (.cells #[.int .u64 h, .int .u64 l] 30)).alloc (by simp) (.cells (arr8 (dig x)) 25)
  have bw := (Blk.new w 30 #[.int .u64 h, .int .u64 l] w.heap.size rfl).alloc (.cells (arr8 (dig x)) 25)
  have bx := Blk.new (w.alloc (.cells #[.int .u64 h, .int .u64 l] 30)) 25 (arr8 (dig x)) (w.heap.size + 1) (by simp)
  have qh : (h == h) = true := by simp
  have ql : (l == l) = true := by simp
  have e0 := (bx.cell 0).trans (arr8_get _ 0 (by omega))
  have e1 := (bx.cell 1).trans (arr8_get _ 1 (by omega))
  have e2 := (bx.cell 2).trans (arr8_get _ 2 (by omega))
  have e3 := (bx.cell 3).trans (arr8_get _ 3 (by omega))
  have e4 := (bx.cell 4).trans (arr8_get _ 4 (by omega))
  have e5 := (bx.cell 5).trans (arr8_get _ 5 (by omega))
  have e6 := (bx.cell 6).trans (arr8_get _ 6 (by omega))
  have e7 := (bx.cell 7).trans (arr8_get _ 7 (by omega))
  go_enter Try.func16, Try.ntmps16
  go_wp2_with fail
  refine (H2.out _).mono ?_
  rintro e w1 ⟨rfl, hb1⟩
  have bw1 := bw.past hb1
  have f0 := (bw1).cell 0
  have f1 := (bw1).cell 1
  simp at f0 f1
  go_wp2_with fail
  go_ret
  exact ⟨rfl, Below.past hB0 hb1 hB0.size⟩
end Go.Proofs.Ytfilpmmimpkfmaa
