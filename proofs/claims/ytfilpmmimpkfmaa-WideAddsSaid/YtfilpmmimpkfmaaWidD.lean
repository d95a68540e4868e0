import Derived.Test.YtfilpmmimpkfmaaWidC
namespace Go.Proofs.Ytfilpmmimpkfmaa
open Go.RowKit

theorem of_low (a : Int) (a0 : 0 ≤ a) (a1 : a < 18446744073709551616) (w : World) :
    Calls Try.prog 20 #[.int .u64 0, .int .u64 a] w fun e w' => e = .returned (.agg (arr8 (dig a))) ∧ Below w.heap.size w w' := by
  have := of_any 0 a (by omega) (by omega) a0 a1 w
  rwa [Int.zero_mul, Int.zero_add] at this

theorem mixD_step (D : Nat → Int) (k : Nat) (hlk : k < 8) : arr8 (mixD D (k + 1)) = ((arr8 (mixD D k)).setIfInBounds k (.int .u64 (D k + carr D k))).setIfInBounds k (.int .u64 (edig D k)) := by
  rw [arr8_set _ _ _ hlk, arr8_set _ _ _ hlk]
  refine arr8_congr _ _ fun j hj => ?_
  unfold upd mixD
  by_cases h : j = k
  · subst h; simp
  · simp only [h, if_false]
    by_cases h2 : j < k
    · rw [if_pos h2, if_pos (by omega)]
    · rw [if_neg h2, if_neg (by omega)]

/-- The product's digits. -/
theorem dig_prod (x y : Int) (hx0 : 0 ≤ x) (hx : x < 18446744073709551616) (hy0 : 0 ≤ y) (hy : y < 18446744073709551616) : arr8 (edig (conv x y 16)) = arr8 (dig (x * y)) := by
  have h := schoolbook x y hx0 hx hy0 hy
  refine arr8_congr _ _ fun j hj => ?_
  have b := edig_bd (conv x y 16)
  have b0 := b 0; have b1 := b 1; have b2 := b 2; have b3 := b 3; have b4 := b 4; have b5 := b 5; have b6 := b 6; have b7 := b 7
  unfold dig
  rw [h]
  obtain rfl | rfl | rfl | rfl | rfl | rfl | rfl | rfl : j = 0 ∨ j = 1 ∨ j = 2 ∨ j = 3 ∨ j = 4 ∨ j = 5 ∨ j = 6 ∨ j = 7 := by omega
  all_goals
    simp only [show (65536 : Int) ^ 0 = 1 from rfl, show (65536 : Int) ^ 1 = 65536 from rfl, show (65536 : Int) ^ 2 = 4294967296 from rfl, show (65536 : Int) ^ 3 = 281474976710656 from rfl, show (65536 : Int) ^ 4 = 18446744073709551616 from rfl, show (65536 : Int) ^ 5 = 1208925819614629174706176 from rfl, show (65536 : Int) ^ 6 = 79228162514264337593543950336 from rfl, show (65536 : Int) ^ 7 = 5192296858534827628530496329220096 from rfl]
    omega

set_option maxRecDepth 100000 in
set_option maxHeartbeats 2000000 in
theorem refWMul_any (a b : Int) (a0 : 0 ≤ a) (a1 : a < 18446744073709551616) (b0 : 0 ≤ b) (b1 : b < 18446744073709551616) (w : World) :
    Calls Try.prog 14 #[.int .u64 a, .int .u64 b] w fun e w' => e = .returned (.agg (arr8 (dig (a * b)))) ∧ Below w.heap.size w w' := by
  have HP := Lib.hid (dig_prod a b a0 a1 b0 b1)
  have HX := Lib.hid (of_low a a0 a1)
  have HY := Lib.hid (of_low b b0 b1)
  have XA : Hid (arr8 (dig a) = #[.int .u64 (dig a 0), .int .u64 (dig a 1), .int .u64 (dig a 2), .int .u64 (dig a 3), .int .u64 (dig a 4), .int .u64 (dig a 5), .int .u64 (dig a 6), .int .u64 (dig a 7)]) := Lib.hid rfl
  have YA : Hid (arr8 (dig b) = #[.int .u64 (dig b 0), .int .u64 (dig b 1), .int .u64 (dig b 2), .int .u64 (dig b 3), .int .u64 (dig b 4), .int .u64 (dig b 5), .int .u64 (dig b 6), .int .u64 (dig b 7)]) := Lib.hid rfl
  go_enter Try.func14, Try.ntmps14
  go_wp2_with fail
  refine (HX.out _).mono ?_
  rw [XA.out]
  rintro e w1 ⟨rfl, hb1⟩
  go_wp2_with fail
  refine (HY.out _).mono ?_
  rw [YA.out]
  rintro e w2 ⟨rfl, hb2⟩
  go_wp2_with fail
  have XA' := XA.out
  have YA' := YA.out
  have hB0 := (Below.refl w.heap.size w).alloc (Nat.le_refl _) (.cells (arr8 fun _ => 0) 25)
  have bR0 := Blk.new w 25 (arr8 fun _ => 0) w.heap.size rfl
  have hB1 := Below.past hB0 hb1 hB0.size
  have bR1 := bR0.past hb1
  have bX1 := Blk.new w1 25 (arr8 (dig a)) w1.heap.size rfl
  have hB2 := Below.past (hB1.alloc hB1.size (.cells (arr8 (dig a)) 25)) hb2 (by have := hB1.size; simp; omega)
  have bR2 := (bR1.alloc (.cells (arr8 (dig a)) 25)).past hb2
  have bX2 := bX1.past hb2
  have bY3 := Blk.new w2 25 (arr8 (dig b)) w2.heap.size rfl
  have hB3 := hB2.alloc hB2.size (.cells (arr8 (dig b)) 25)
  have bR3 := bR2.alloc (.cells (arr8 (dig b)) 25)
  have bX3 := bX2.alloc (.cells (arr8 (dig b)) 25)
  have hs3 : (w2.alloc (.cells (arr8 (dig b)) 25)).heap.size = w2.heap.size + 1 := by simp
  have hs1 := hB1.size
  have hs2 := hB2.size
  have hxy : w1.heap.size < w2.heap.size := by have := hb2.size; simp at this; omega
  rw [← YA']
  rw [show #[Value.int IntKind.u64 0, Value.int IntKind.u64 0, Value.int IntKind.u64 0, Value.int IntKind.u64 0, Value.int IntKind.u64 0, Value.int IntKind.u64 0, Value.int IntKind.u64 0, Value.int IntKind.u64 0] = arr8 (conv a b 0) from rfl]
  clear XA' YA' hb1 hb2 bR0 bR1 bR2 bX1 bX2 hB0 hB1
  obtain ⟨W, hW⟩ : ∃ W, Hid (w2.alloc (.cells (arr8 (dig b)) 25) = W) := ⟨_, Lib.hid rfl⟩
  rw [hW.out] at hB3 bR3 bX3 bY3 hs3 ⊢
  rw [← hs3]
  have hsl : w2.heap.size < W.heap.size := by omega
  clear hs3
  have hN0 := Blk.new W 25 (arr8 (conv a b 0)) W.heap.size rfl
  go_loopw [8] (fun i wr => ∃ k : Nat, k ≤ 4 ∧ i = .int .i64 k ∧ Blk wr W.heap.size 25 (arr8 (conv a b (4 * k))) ∧ Below W.heap.size W wr) (fun i _ => 4 - (intOf i).toNat)
  case atStart => exact ⟨0, by omega, rfl, hN0, (Below.refl _ _).alloc (Nat.le_refl _) _⟩
  case round =>
    obtain ⟨i, hi, rfl, hD, hB⟩ := hrel
    by_cases hlt : i < 4
    · have q1 : decide ((i : Int) < 4) = true := dec_t (by omega)
      go_wp2_with fail
      obtain ⟨wo, hwo⟩ : ∃ wo : World, wo = wr := ⟨_, rfl⟩
      subst hwo
      go_loopw [9] (fun s wr => ∃ k : Nat, k ≤ 4 ∧ s = .int .i64 k ∧ Blk wr W.heap.size 25 (arr8 (conv a b (4 * i + k))) ∧ Below W.heap.size W wr) (fun s _ => 4 - (intOf s).toNat)
      case atStart => exact ⟨0, by omega, rfl, hD, hB⟩
      case round =>
        obtain ⟨k, hk, rfl, hE, hB2⟩ := hrel
        by_cases hlk : k < 4
        · have hcv := conv_bd a b (4 * i + k) (i + k)
          have hdg := digmul_bd a b i k
          have HN : Hid (conv a b (4 * i + k + 1) = upd (conv a b (4 * i + k)) (i + k) (conv a b (4 * i + k) (i + k) + dig a i * dig b k)) := Lib.hid (by
            rw [conv, show (4 * i + k) / 4 = i by omega, show (4 * i + k) % 4 = k by omega])
          have e1 : wr.cell? ⟨W.heap.size, i + k, none⟩ = some (.int .u64 (conv a b (4 * i + k) (i + k))) := (hE.cell (i + k)).trans (arr8_get _ _ (by omega))
          have e2 := hE.frozen (i + k)
          have ex : wr.cell? ⟨w1.heap.size, i, none⟩ = some (.int .u64 (dig a i)) := ((bX3.below hB2 (by omega)).cell i).trans (arr8_get _ _ (by omega))
          have ey : wr.cell? ⟨w2.heap.size, k, none⟩ = some (.int .u64 (dig b k)) := ((bY3.below hB2 (by omega)).cell k).trans (arr8_get _ _ (by omega))
          generalize hC : conv a b (4 * i + k) (i + k) = C at *
          have HC := Lib.hid hC
          clear hC
          have q2 : decide ((k : Int) < 4) = true := dec_t (by omega)
          go_wp2_with fail
          have m3 : IntKind.i64.wrap ((i : Int) + (k : Int)) = (i : Int) + (k : Int) := IntWalk.i64_in _ (by omega)
          have n0 : 0 ≤ (i : Int) := by omega
          have n1 : (i : Int) < 8 := by omega
          have n2 : 0 ≤ (k : Int) := by omega
          have n2' : (k : Int) < 8 := by omega
          have n3 : 0 ≤ (i : Int) + (k : Int) := by omega
          have n4 : (i : Int) + (k : Int) < 8 := by omega
          have n5 : ((i : Int) + (k : Int)).toNat = i + k := by omega
          have p1 : IntKind.u64.wrap (dig a i * dig b k) = dig a i * dig b k := by rw [IntKind.wrap_u64]; omega
          have p2 : IntKind.u64.wrap (C + dig a i * dig b k) = C + dig a i * dig b k := by rw [IntKind.wrap_u64]; omega
          go_region
          clear m3 n5 p1 p2
          go_wp2_with fail
          go_roundw
          case rel =>
            refine ⟨k + 1, by omega, by go_num, ?_, ?_⟩
            · rw [show 4 * i + (k + 1) = 4 * i + k + 1 by omega, HN.out, ← arr8_set _ _ _ (by omega)]
              exact hE.put (i + k) _
            · exact (hB2.setCell (by exact Nat.le_refl _) _).drew
          case measure => simp [intOf]; omega
        · obtain rfl : 4 = k := by omega
          go_wp2_with fail
          go_roundw
          case rel => exact ⟨i + 1, by omega, by go_num, by rw [show 4 * (i + 1) = 4 * i + 4 by omega]; exact hE, hB2⟩
          case measure => simp [intOf]; omega
    · obtain rfl : 4 = i := by omega
      have hD : Blk wr W.heap.size 25 (arr8 (conv a b 16)) := hD
      have hcb : ∀ j, 0 ≤ conv a b 16 j ∧ conv a b 16 j ≤ 68717379600 := fun j => by have := conv_bd a b 16 j; omega
      generalize conv a b 16 = D at *
      have HCB := Lib.hid hcb
      clear hcb
      have hD0 : Blk wr W.heap.size 25 (arr8 (mixD D 0)) := hD
      go_wp2_with fail
      go_loopw [10, 11] (fun s i wr => ∃ k : Nat, k ≤ 8 ∧ i = .int .i64 k ∧ s = .int .u64 (carr D k) ∧ Blk wr W.heap.size 25 (arr8 (mixD D k)) ∧ Below W.heap.size W wr) (fun _ i _ => 8 - (intOf i).toNat)
      case atStart => exact ⟨0, by omega, rfl, rfl, hD0, hB⟩
      case round =>
        obtain ⟨k, hk, rfl, rfl, hE, hB2⟩ := hrel
        by_cases hlk : k < 8
        · have hc := carr_bd D HCB.out k
          have hd := HCB.out k
          have hmk : mixD D k k = D k := by simp [mixD]
          have c1 : wr.cell? ⟨W.heap.size, k, none⟩ = some (.int .u64 (D k)) := by rw [← hmk]; exact (hE.cell k).trans (arr8_get _ _ hlk)
          have f1 := hE.frozen k
          have HN : Hid (arr8 (mixD D (k + 1)) = ((arr8 (mixD D k)).setIfInBounds k (.int .u64 (D k + carr D k))).setIfInBounds k (.int .u64 (edig D k))) := Lib.hid (mixD_step D k hlk)
          have hE1 := hE.put k (.int .u64 (D k + carr D k))
          have hE2 := hE1.put k (.int .u64 (edig D k))
          rw [← HN.out] at hE2
          have HE2 := Lib.hid hE2
          have HC : Hid (carr D (k + 1) = (D k + carr D k) / 65536) := Lib.hid rfl
          have HD : Hid (edig D k = (D k + carr D k) % 65536) := Lib.hid rfl
          clear hmk hE1 hE2
          have z0 : 0 ≤ D k + carr D k := by omega
          have z1 : D k + carr D k < 18446744073709551616 := by omega
          have t1 := and_low16 (D k + carr D k) z0 z1
          rw [← HD.out] at t1
          go_wp2_with fail
          go_roundw
          case rel => exact ⟨k + 1, by omega, by go_num, by rw [HC.out], by exact HE2.out, (hB2.setCell (by exact Nat.le_refl _) _).setCell (by exact Nat.le_refl _) _⟩
          case measure => simp [intOf]; omega
        · obtain rfl : 8 = k := by omega
          have hE : Blk wr W.heap.size 25 (arr8 (edig D)) := hE
          rw [HP.out] at hE
          have bR4 := bR3.below hB2 bR3.lt
          obtain ⟨P, hP⟩ : ∃ P, Hid (a * b = P) := ⟨_, Lib.hid rfl⟩
          rw [hP.out] at hE
          have e0 := (hE.cell 0).trans (arr8_get _ 0 (by omega))
          have e1 := (hE.cell 1).trans (arr8_get _ 1 (by omega))
          have e2 := (hE.cell 2).trans (arr8_get _ 2 (by omega))
          have e3 := (hE.cell 3).trans (arr8_get _ 3 (by omega))
          have e4 := (hE.cell 4).trans (arr8_get _ 4 (by omega))
          have e5 := (hE.cell 5).trans (arr8_get _ 5 (by omega))
          have e6 := (hE.cell 6).trans (arr8_get _ 6 (by omega))
          have e7 := (hE.cell 7).trans (arr8_get _ 7 (by omega))
          have r0 := (bR4.cell 0).trans (arr8_get _ 0 (by omega))
          have r1 := (bR4.cell 1).trans (arr8_get _ 1 (by omega))
          have r2 := (bR4.cell 2).trans (arr8_get _ 2 (by omega))
          have r3 := (bR4.cell 3).trans (arr8_get _ 3 (by omega))
          have r4 := (bR4.cell 4).trans (arr8_get _ 4 (by omega))
          have r5 := (bR4.cell 5).trans (arr8_get _ 5 (by omega))
          have r6 := (bR4.cell 6).trans (arr8_get _ 6 (by omega))
          have r7 := (bR4.cell 7).trans (arr8_get _ 7 (by omega))
          have rz0 := bR4.frozen 0
          have rz1 := bR4.frozen 1
          have rz2 := bR4.frozen 2
          have rz3 := bR4.frozen 3
          have rz4 := bR4.frozen 4
          have rz5 := bR4.frozen 5
          have rz6 := bR4.frozen 6
          have rz7 := bR4.frozen 7
          have hBw : Below w.heap.size w wr := Below.past hB3 hB2 hB3.size
          go_wp2_with fail
          have hf := blk8 (D := dig P) bR4
          have hBf := below8 (D := dig P) hBw (Nat.le_refl w.heap.size)
          unfold put8 at hf hBf
          generalize ((((((((wr.setCell ⟨w.heap.size, 0, none⟩ (.int .u64 (dig P 0))).setCell ⟨w.heap.size, 1, none⟩ (.int .u64 (dig P 1))).setCell ⟨w.heap.size, 2, none⟩ (.int .u64 (dig P 2))).setCell ⟨w.heap.size, 3, none⟩ (.int .u64 (dig P 3))).setCell ⟨w.heap.size, 4, none⟩ (.int .u64 (dig P 4))).setCell ⟨w.heap.size, 5, none⟩ (.int .u64 (dig P 5))).setCell ⟨w.heap.size, 6, none⟩ (.int .u64 (dig P 6))).setCell ⟨w.heap.size, 7, none⟩ (.int .u64 (dig P 7))) = wf at *
          clear e0 e1 e2 e3 e4 e5 e6 e7 r0 r1 r2 r3 r4 r5 r6 r7
          have e0 := (hf.cell 0).trans (arr8_get _ 0 (by omega))
          have e1 := (hf.cell 1).trans (arr8_get _ 1 (by omega))
          have e2 := (hf.cell 2).trans (arr8_get _ 2 (by omega))
          have e3 := (hf.cell 3).trans (arr8_get _ 3 (by omega))
          have e4 := (hf.cell 4).trans (arr8_get _ 4 (by omega))
          have e5 := (hf.cell 5).trans (arr8_get _ 5 (by omega))
          have e6 := (hf.cell 6).trans (arr8_get _ 6 (by omega))
          have e7 := (hf.cell 7).trans (arr8_get _ 7 (by omega))
          refine bodyPost_ret (v := .agg (arr8 (dig P))) (by simp [results, Try.results14, go_sem, e0, e1, e2, e3, e4, e5, e6, e7, arr8]) rfl ⟨by rw [hP.out], hBf⟩
end Go.Proofs.Ytfilpmmimpkfmaa
