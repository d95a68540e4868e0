import Derived.Test.YtelbolhckhdioaaGreatMonD
namespace Go.Proofs.YtelbolhckhdioaaGreat
open Go.RowKit

set_option maxHeartbeats 400000 in
theorem refSize_any (a : Int) (ha : inI a) (w : World) :
    Calls Tryz.prog 87 #[.int .i64 a] w fun e w' => e = .returned (.int .u64 (sizeI a)) ∧ w = w' := by
  obtain ⟨h1, h2⟩ := ha
  by_cases h0 : 0 ≤ a
  · go_enter Tryz.func87, Tryz.ntmps87
    go_wp2
    go_ret
    refine ⟨ret_int ?_, rfl⟩
    have : ¬ a < 0 := by omega
    simp [sizeI, this, IntKind.wrap_u64]
    try omega
  · go_enter Tryz.func87, Tryz.ntmps87
    go_wp2
    go_ret
    refine ⟨ret_int ?_, rfl⟩
    have : a < 0 := by omega
    simp [sizeI, this, IntKind.wrap_u64]
    omega

theorem and_low16 (z : Int) (h0 : 0 ≤ z) (h1 : z < 18446744073709551616) : bits .and .u64 z 65535 = z % 65536 := by go_bits2
theorem and_dig (x : Int) (i : Nat) (hx0 : 0 ≤ x) (hx : x < 18446744073709551616) : bits .and .u64 (x / 2 ^ (16 * i)) 65535 = dig x i := by
  rw [Int.pow_mul, show (2 : Int) ^ 16 = 65536 from rfl]
  have h1 : 0 ≤ x / 65536 ^ i := Int.ediv_nonneg hx0 (Int.pow_nonneg (by omega))
  have h2 : x / 65536 ^ i ≤ x := Int.ediv_le_self _ hx0
  rw [and_low16 _ h1 (by omega)]; rfl
/-- Eight words in a variable. -/
def arr8 (D : Nat → Int) : Array Value := #[.int .u64 (D 0), .int .u64 (D 1), .int .u64 (D 2), .int .u64 (D 3), .int .u64 (D 4), .int .u64 (D 5), .int .u64 (D 6), .int .u64 (D 7)]
theorem arr8_get (D : Nat → Int) (j : Nat) (h : j < 8) : (arr8 D)[j]? = some (.int .u64 (D j)) := by
  obtain rfl | rfl | rfl | rfl | rfl | rfl | rfl | rfl : j = 0 ∨ j = 1 ∨ j = 2 ∨ j = 3 ∨ j = 4 ∨ j = 5 ∨ j = 6 ∨ j = 7 := by omega
  all_goals rfl
theorem arr8_set (D : Nat → Int) (j : Nat) (v : Int) (h : j < 8) : (arr8 D).setIfInBounds j (.int .u64 v) = arr8 (upd D j v) := by
  obtain rfl | rfl | rfl | rfl | rfl | rfl | rfl | rfl : j = 0 ∨ j = 1 ∨ j = 2 ∨ j = 3 ∨ j = 4 ∨ j = 5 ∨ j = 6 ∨ j = 7 := by omega
  all_goals rfl
theorem arr8_congr (D E : Nat → Int) (h : ∀ j, j < 8 → D j = E j) : arr8 D = arr8 E := by
  simp [arr8, h 0, h 1, h 2, h 3, h 4, h 5, h 6, h 7]

set_option maxRecDepth 100000 in
set_option maxHeartbeats 1000000 in
theorem refMul_any (a b : Int) (ha : inI a) (hb : inI b) (w : World) :
    Calls Tryz.prog 69 #[.int .i64 a, .int .i64 b] w fun e w' => e = .returned (.tuple #[.int .i64 (amount (a * b)), .int .i64 (over (a * b))]) ∧ Below w.heap.size w w' := by
  have sa := sizeI_bd a ha
  have sb := sizeI_bd b hb
  have hab := Lib.hid (sizeI_mul a b)
  obtain ⟨x, hx⟩ : ∃ s, Hid (sizeI a = s) := ⟨_, rfl⟩
  obtain ⟨y, hy⟩ : ∃ s, Hid (sizeI b = s) := ⟨_, rfl⟩
  rw [hx.out] at sa
  rw [hy.out] at sb
  obtain ⟨x0, x1⟩ := sa
  obtain ⟨y0, y1⟩ := sb
  obtain ⟨d, hd⟩ : ∃ d : Bool, Hid ((!(decide (a < 0) == decide (b < 0))) = d) := ⟨_, rfl⟩
  have HV : Hid (a * b = sgn d (x * y)) := by have := hab.out; rw [hx.out, hy.out, hd.out] at this; exact this
  clear hab
  go_enter Tryz.func69, Tryz.ntmps69
  go_wp2_with fail
  refine (refSize_any _ ha _).mono ?_
  rw [hx.out]
  rintro e w' ⟨rfl, rfl⟩
  go_wp2_with fail
  refine (refSize_any _ hb _).mono ?_
  rw [hy.out]
  rintro e w' ⟨rfl, rfl⟩
  go_wp2_with fail
  go_loopw [9] (fun i wr => ∃ k : Nat, k ≤ 4 ∧ i = .int .i64 k ∧ Blk wr w.heap.size 145 (arr8 (conv x y (4 * k))) ∧ Below w.heap.size w wr) (fun i _ => 4 - (intOf i).toNat)
  case atStart => exact ⟨0, by omega, rfl, Blk.new w _ _ _ rfl, (Below.refl _ _).alloc (Nat.le_refl _) _⟩
  case round =>
    obtain ⟨i, hi, rfl, hD, hB⟩ := hrel
    by_cases hlt : i < 4
    · have q1 : decide ((i : Int) < 4) = true := dec_t (by omega)
      go_wp2_with fail
      obtain ⟨wo, hwo⟩ : ∃ wo : World, wo = wr := ⟨_, rfl⟩
      subst hwo
      go_loopw [10] (fun s wr => ∃ k : Nat, k ≤ 4 ∧ s = .int .i64 k ∧ Blk wr w.heap.size 145 (arr8 (conv x y (4 * i + k))) ∧ Below w.heap.size w wr) (fun s _ => 4 - (intOf s).toNat)
      case atStart => exact ⟨0, by omega, rfl, hD, hB⟩
      case round =>
        obtain ⟨k, hk, rfl, hE, hB2⟩ := hrel
        by_cases hlk : k < 4
        · have hcv := conv_bd x y (4 * i + k) (i + k)
          have hdg := digmul_bd x y i k
          have HN : Hid (conv x y (4 * i + k + 1) = upd (conv x y (4 * i + k)) (i + k) (conv x y (4 * i + k) (i + k) + dig x i * dig y k)) := by
            show _ = _
            rw [conv, show (4 * i + k) / 4 = i by omega, show (4 * i + k) % 4 = k by omega]
          have e1 : wr.cell? ⟨w.heap.size, i + k, none⟩ = some (.int .u64 (conv x y (4 * i + k) (i + k))) := (hE.cell (i + k)).trans (arr8_get _ _ (by omega))
          have e2 := hE.frozen (i + k)
          generalize hC : conv x y (4 * i + k) (i + k) = C at *
          have HC := Lib.hid hC
          clear hC
          have q2 : decide ((k : Int) < 4) = true := dec_t (by omega)
          go_wp2_with fail
          have m1 : IntKind.i64.wrap (16 * (i : Int)) = 16 * (i : Int) := IntWalk.i64_in _ (by omega)
          have m2 : IntKind.i64.wrap (16 * (k : Int)) = 16 * (k : Int) := IntWalk.i64_in _ (by omega)
          have m3 : IntKind.i64.wrap ((i : Int) + (k : Int)) = (i : Int) + (k : Int) := IntWalk.i64_in _ (by omega)
          have n1 : 0 ≤ 16 * (i : Int) := by omega
          have n2 : 0 ≤ 16 * (k : Int) := by omega
          have n3 : 0 ≤ (i : Int) + (k : Int) := by omega
          have n4 : (i : Int) + (k : Int) < 8 := by omega
          have n5 : ((i : Int) + (k : Int)).toNat = i + k := by omega
          have t1 := and_dig x i x0 (by omega)
          have t2 := and_dig y k y0 (by omega)
          have p1 : IntKind.u64.wrap (dig x i * dig y k) = dig x i * dig y k := by rw [IntKind.wrap_u64]; omega
          have p2 : IntKind.u64.wrap (C + dig x i * dig y k) = C + dig x i * dig y k := by rw [IntKind.wrap_u64]; omega
          go_region
          clear m1 m2 m3 n5 t1 t2 p1 p2
          go_wp2_with fail
          go_roundw
          case rel =>
            refine ⟨k + 1, by omega, by go_num, ?_, ?_⟩
            · rw [show 4 * i + (k + 1) = 4 * i + k + 1 by omega, HN.out, ← arr8_set _ _ _ (by omega)]
              exact hE.put (i + k) _
            · exact (hB2.setCell (by exact Nat.le_refl _) _).drew
          case measure => simp [intOf]; omega
        · obtain rfl : 4 = k := by omega
          go_wp2_with fail
          go_roundw
          case rel => exact ⟨i + 1, by omega, by go_num, by rw [show 4 * (i + 1) = 4 * i + 4 by omega]; exact hE, hB2⟩
          case measure => simp [intOf]; omega
    · obtain rfl : 4 = i := by omega
      have hD : Blk wr w.heap.size 145 (arr8 (conv x y 16)) := hD
      have hsb := schoolbook x y x0 (by omega) y0 (by omega)
      have hcb : ∀ j, 0 ≤ conv x y 16 j ∧ conv x y 16 j ≤ 68717379600 := fun j => by have := conv_bd x y 16 j; omega
      generalize conv x y 16 = D at *
      have HSB := Lib.hid hsb
      have HCB := Lib.hid hcb
      clear hsb hcb
      have hD0 : Blk wr w.heap.size 145 (arr8 (mixD D 0)) := hD
      go_wp2_with fail
      go_loopw [11, 12] (fun s i wr => ∃ k : Nat, k ≤ 8 ∧ i = .int .i64 k ∧ s = .int .u64 (carr D k) ∧ Blk wr w.heap.size 145 (arr8 (mixD D k)) ∧ Below w.heap.size w wr) (fun _ i _ => 8 - (intOf i).toNat)
      case atStart => exact ⟨0, by omega, rfl, rfl, hD0, hB⟩
      case round =>
        obtain ⟨k, hk, rfl, rfl, hE, hB2⟩ := hrel
        by_cases hlk : k < 8
        · have hc := carr_bd D HCB.out k
          have hd := HCB.out k
          have hmk : mixD D k k = D k := by simp [mixD]
          have c1 : wr.cell? ⟨w.heap.size, k, none⟩ = some (.int .u64 (D k)) := by rw [← hmk]; exact (hE.cell k).trans (arr8_get _ _ hlk)
          have f1 := hE.frozen k
          have HN : Hid (arr8 (mixD D (k + 1)) = ((arr8 (mixD D k)).setIfInBounds k (.int .u64 (D k + carr D k))).setIfInBounds k (.int .u64 (edig D k))) := by
            show _ = _
            rw [arr8_set _ _ _ hlk, arr8_set _ _ _ hlk]
            refine arr8_congr _ _ fun j hj => ?_
            unfold upd mixD
            by_cases h : j = k
            · subst h; simp
            · simp only [h, if_false]
              by_cases h2 : j < k
              · rw [if_pos h2, if_pos (by omega)]
              · rw [if_neg h2, if_neg (by omega)]
          have hE1 := hE.put k (.int .u64 (D k + carr D k))
          have c2 := hE1.cell k
          have f2 := hE1.frozen k
          have hE2 := hE1.put k (.int .u64 (edig D k))
          rw [← HN.out] at hE2
          have HE2 := Lib.hid hE2
          have HC : Hid (carr D (k + 1) = (D k + carr D k) / 65536) := rfl
          have HD : Hid (edig D k = (D k + carr D k) % 65536) := rfl
          clear hmk hE1 hE2
          clear c2 f2
          have z0 : 0 ≤ D k + carr D k := by omega
          have z1 : D k + carr D k < 18446744073709551616 := by omega
          have t1 := and_low16 (D k + carr D k) z0 z1
          rw [← HD.out] at t1
          go_wp2_with fail
          go_roundw
          case rel => exact ⟨k + 1, by omega, by go_num, by rw [HC.out], by exact HE2.out, (hB2.setCell (by exact Nat.le_refl _) _).setCell (by exact Nat.le_refl _) _⟩
          case measure => simp [intOf]; omega
        · obtain rfl : 8 = k := by omega
          have hE : Blk wr w.heap.size 145 (arr8 (edig D)) := hE
          have b := edig_bd D
          have c0 := hE.cell 0
          have c1 := hE.cell 1
          have c2 := hE.cell 2
          have c3 := hE.cell 3
          have c4 := hE.cell 4
          have c5 := hE.cell 5
          have c6 := hE.cell 6
          have c7 := hE.cell 7
          simp [arr8] at c0 c1 c2 c3 c4 c5 c6 c7
          have b0 := b 0; have b1 := b 1; have b2 := b 2; have b3 := b 3; have b4 := b 4; have b5 := b 5; have b6 := b 6; have b7 := b 7
          clear b
          generalize edig D 0 = e0 at *
          generalize edig D 1 = e1 at *
          generalize edig D 2 = e2 at *
          generalize edig D 3 = e3 at *
          generalize edig D 4 = e4 at *
          generalize edig D 5 = e5 at *
          generalize edig D 6 = e6 at *
          generalize edig D 7 = e7 at *
          by_cases ha0 : a < 0 <;> by_cases hb0 : b < 0
          all_goals
            first | have qa := dec_f ha0 | have qa := dec_t ha0
            first | have qb := dec_f hb0 | have qb := dec_t hb0
            have hw := HV.out
            rw [← hd.out, qa, qb, HSB.out, sgn] at hw
            first | rw [if_pos (by decide)] at hw | rw [if_neg (by decide)] at hw
            have HVV := Lib.hid hw
            clear hw
            go_wp2_with fail
            all_goals
              go_ret2
              first
                | (have hin : inI (a * b) := by
                     rw [HVV.out]; unfold inI; omega
                   exact ⟨ret2 (by rw [(amount_in hin).1, HVV.out]; omega) (amount_in hin).2.symm, hB2⟩)
                | (have hout : ¬ inI (a * b) := by
                     rw [HVV.out]; unfold inI; omega
                   exact ⟨ret2 (amount_out hout).1.symm (amount_out hout).2.symm, hB2⟩)
end Go.Proofs.YtelbolhckhdioaaGreat
