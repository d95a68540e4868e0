import Derived.Test.YtfilpmmimpkfmaaWidD
import Derived.Test.YtfilpmmimpkfmaaWidQ
namespace Go.Proofs.Ytfilpmmimpkfmaa
open Go.RowKit

set_option maxRecDepth 100000 in
set_option maxHeartbeats 2000000 in
theorem refCmp_any (x y : Int) (w : World) (x0 : 0 ≤ x) (x1 : x < 340282366920938463463374607431768211456) (y0 : 0 ≤ y) (y1 : y < 340282366920938463463374607431768211456) :
    Calls Try.prog 19 #[.agg (arr8 (dig x)), .agg (arr8 (dig y))] w fun e w' => e = .returned (.int .i64 (cmpI x y)) ∧ Below w.heap.size w w' := by
  have hB0 := ((Below.refl w.heap.size w).alloc (Nat.le_refl _) (.cells (arr8 (dig x)) 25)).alloc (by simp) (.cells (arr8 (dig y)) 25)
  have bx := (Blk.new w 25 (arr8 (dig x)) w.heap.size rfl).alloc (.cells (arr8 (dig y)) 25)
  have bY := Blk.new (w.alloc (.cells (arr8 (dig x)) 25)) 25 (arr8 (dig y)) (w.heap.size + 1) (by simp)
  have h8 : Hid (x / 65536 ^ 8 = y / 65536 ^ 8) := Lib.hid (by rw [show (65536 : Int) ^ 8 = 340282366920938463463374607431768211456 from rfl, Int.ediv_eq_zero_of_lt x0 x1, Int.ediv_eq_zero_of_lt y0 y1])
  obtain ⟨W, hW⟩ : ∃ W, Hid ((w.alloc (.cells (arr8 (dig x)) 25)).alloc (.cells (arr8 (dig y)) 25) = W) := ⟨_, Lib.hid rfl⟩
  rw [hW.out] at hB0 bx bY
  obtain ⟨v, hv⟩ : ∃ v, Hid (cmpI x y = v) := ⟨_, Lib.hid rfl⟩
  rw [hv.out]
  go_enter Try.func19, Try.ntmps19
  go_wp2_with fail
  rw [hW.out]
  go_loopw [5] (fun i wr => ∃ (k : Nat) (z : Int), k ≤ 8 ∧ i = .int .i64 z ∧ z ≤ (k : Int) - 1 ∧ (k : Int) - 1 ≤ z ∧ Hid (x / 65536 ^ k = y / 65536 ^ k) ∧ Below W.heap.size W wr) (fun i _ => (intOf i + 1).toNat)
  case atStart => exact ⟨8, 7, by omega, rfl, by omega, by omega, h8, Below.refl _ _⟩
  case round =>
    obtain ⟨k, z, hk, rfl, z0, z1, hE, hb⟩ := hrel
    by_cases hlt : 1 ≤ k
    · obtain ⟨t, rfl⟩ := Int.eq_ofNat_of_zero_le (show 0 ≤ z by omega)
      obtain rfl : k = t + 1 := by omega
      have q3 : decide (0 ≤ (t : Int)) = true := dec_t (by omega)
      have cx := ((bx.past hb).cell t).trans (arr8_get _ _ (by omega))
      have cy := ((bY.past hb).cell t).trans (arr8_get _ _ (by omega))
      have px := part_step x t
      have py := part_step y t
      rw [hE.out] at px
      have dx := dig_bd x t
      have dy := dig_bd y t
      obtain ⟨p, hp⟩ : ∃ p, Hid (dig x t = p) := ⟨_, Lib.hid rfl⟩
      obtain ⟨q, hq⟩ : ∃ p, Hid (dig y t = p) := ⟨_, Lib.hid rfl⟩
      rw [hp.out] at cx px dx
      rw [hq.out] at cy py dy
      have n0 : 0 ≤ (t : Int) := by omega
      have n1 : (t : Int) < 8 := by omega
      by_cases c1 : p < q
      · have r1 := dec_t c1
        have HV : Hid (v = -1) := Lib.hid (by
          have := part_lt x y t (by omega)
          rw [← hv.out, cmpI, if_pos this])
        clear px py
        go_wp2_with fail
        go_quiet (fail)
        go_wp2_with fail
        go_ret
        rw [HV.out]
        exact ⟨rfl, below_drewN (Below.past hB0 hb hB0.size) _⟩
      · have r1 := dec_f c1
        by_cases c2 : q < p
        · have r2 := dec_t c2
          have HV : Hid (v = 1) := Lib.hid (by
            have := part_lt y x t (by omega)
            rw [← hv.out, cmpI, if_neg (by omega), if_pos this])
          clear px py
          go_wp2_with fail
          go_quiet (fail)
          go_wp2_with fail
          go_quiet (fail)
          go_wp2_with fail
          go_ret
          rw [HV.out]
          exact ⟨rfl, below_drewN (below_drewN (Below.past hB0 hb hB0.size) _) _⟩
        · have r2 := dec_f c2
          have HN : Hid (x / 65536 ^ t = y / 65536 ^ t) := Lib.hid (by omega)
          clear px py
          go_wp2_with fail
          go_quiet (fail)
          go_wp2_with fail
          go_quiet (fail)
          go_wp2_with fail
          go_roundw
          case rel => exact ⟨t, (t : Int) - 1, by omega, by first | rfl | go_num, by omega, by omega, HN, below_drewN hb _⟩
          case measure => simp [intOf] <;> omega
    · obtain rfl : k = 0 := by omega
      obtain rfl : z = -1 := by omega
      have HV : Hid (v = 0) := Lib.hid (by
        have := hE.out
        simp at this
        rw [← hv.out, cmpI, if_neg (by omega), if_neg (by omega)])
      go_wp2_with fail
      go_ret
      rw [HV.out]
      exact ⟨rfl, Below.past hB0 hb hB0.size⟩

set_option maxRecDepth 100000 in
set_option maxHeartbeats 2000000 in
theorem refPlus_any (x y : Int) (w : World) (x0 : 0 ≤ x) (x1 : x < 340282366920938463463374607431768211456) (y0 : 0 ≤ y) (y1 : y < 340282366920938463463374607431768211456) :
    Calls Try.prog 22 #[.agg (arr8 (dig x)), .agg (arr8 (dig y))] w fun e w' => e = .returned (.tuple #[.agg (arr8 (dig (x + y))), .bool (decide (x + y < 340282366920938463463374607431768211456))]) ∧ Below w.heap.size w w' := by
  have HS := Lib.hid (sum_digits x y x0 x1 y0 y1)
  obtain ⟨P, hP⟩ : ∃ P, Hid (x + y = P) := ⟨_, Lib.hid rfl⟩
  rw [hP.out] at HS ⊢
  obtain ⟨bo, hbo⟩ : ∃ b, Hid (decide (P < 340282366920938463463374607431768211456) = b) := ⟨_, Lib.hid rfl⟩
  rw [hbo.out]
  have HC8 : Hid ((carr (sumD x y) 8 == 0) = bo) := Lib.hid (by
    have hp0 : 0 ≤ P := by rw [← hP.out]; omega
    rw [← hbo.out, HS.out.2, Bool.eq_iff_iff]
    simp only [beq_iff_eq, decide_eq_true_eq]
    omega)
  have hB0 := ((((Below.refl w.heap.size w).alloc (Nat.le_refl _) (.cells (arr8 (dig x)) 25)).alloc (by simp) (.cells (arr8 (dig y)) 25)).alloc (by simp; omega) (.cells (arr8 fun _ => 0) 25))
  have bx := ((Blk.new w 25 (arr8 (dig x)) w.heap.size rfl).alloc (.cells (arr8 (dig y)) 25)).alloc (.cells (arr8 fun _ => 0) 25)
  have bY := (Blk.new (w.alloc (.cells (arr8 (dig x)) 25)) 25 (arr8 (dig y)) (w.heap.size + 1) (by simp)).alloc (.cells (arr8 fun _ => 0) 25)
  have bR := Blk.new ((w.alloc (.cells (arr8 (dig x)) 25)).alloc (.cells (arr8 (dig y)) 25)) 25 (arr8 fun _ => 0) (w.heap.size + 1 + 1) (by simp)
  go_enter Try.func22, Try.ntmps22
  go_wp2_with fail
  rw [show #[Value.int IntKind.u64 0, Value.int IntKind.u64 0, Value.int IntKind.u64 0, Value.int IntKind.u64 0, Value.int IntKind.u64 0, Value.int IntKind.u64 0, Value.int IntKind.u64 0, Value.int IntKind.u64 0] = arr8 (fun _ => 0) from rfl]
  obtain ⟨W, hW⟩ : ∃ W, Hid (((w.alloc (.cells (arr8 (dig x)) 25)).alloc (.cells (arr8 (dig y)) 25)).alloc (.cells (arr8 fun _ => 0) 25) = W) := ⟨_, Lib.hid rfl⟩
  have hsW : W.heap.size = w.heap.size + 1 + 1 + 1 := by rw [← hW.out]; simp
  rw [hW.out] at hB0 bx bY bR ⊢
  rw [← hsW]
  have l1 : w.heap.size + 2 < W.heap.size := by omega
  clear hsW
  have hN0 : Blk (W.alloc (.cells (arr8 fun _ => 0) 25)) W.heap.size 25 (arr8 (mixS x y 0)) := by
    have : arr8 (mixS x y 0) = arr8 fun _ => 0 := arr8_congr _ _ (fun j hj => by unfold mixS; rw [if_neg (by omega)])
    rw [this]; exact Blk.new _ _ _ _ rfl
  go_loopw [7, 8] (fun s i wr => ∃ k : Nat, k ≤ 8 ∧ i = .int .i64 k ∧ s = .int .u64 (carr (sumD x y) k) ∧ Blk wr W.heap.size 25 (arr8 (mixS x y k)) ∧ Below W.heap.size W wr) (fun _ i _ => 8 - (intOf i).toNat)
  case atStart => exact ⟨0, by omega, rfl, rfl, hN0, (Below.refl _ _).alloc (Nat.le_refl _) _⟩
  case round =>
    obtain ⟨k, hk, rfl, rfl, hE, hB2⟩ := hrel
    by_cases hlk : k < 8
    · have hc := carr_bd (sumD x y) (fun j => by have := sumD_bd x y j; omega) k
      have dx := dig_bd x k
      have dy := dig_bd y k
      have hDk : Hid (dig x k + dig y k = sumD x y k) := Lib.hid rfl
      have c1 := (hE.cell k).trans (arr8_get _ _ hlk)
      have f1 := hE.frozen k
      have ex := ((bx.below hB2 (by omega)).cell k).trans (arr8_get _ _ hlk)
      have ey := ((bY.below hB2 (by omega)).cell k).trans (arr8_get _ _ hlk)
      have HN : Hid (arr8 (mixS x y (k + 1)) = ((arr8 (mixS x y k)).setIfInBounds k (.int .u64 (dig x k + dig y k + carr (sumD x y) k))).setIfInBounds k (.int .u64 (edig (sumD x y) k))) := Lib.hid (by
        rw [arr8_set _ _ _ hlk, arr8_set _ _ _ hlk]
        refine arr8_congr _ _ fun j hj => ?_
        unfold upd mixS
        by_cases h : j = k
        · subst h; simp
        · simp only [h, if_false]
          by_cases h2 : j < k
          · rw [if_pos h2, if_pos (by omega)]
          · rw [if_neg h2, if_neg (by omega)])
      have hE1 := hE.put k (.int .u64 (dig x k + dig y k + carr (sumD x y) k))
      have hE2 := hE1.put k (.int .u64 (edig (sumD x y) k))
      rw [← HN.out] at hE2
      have HE2 := Lib.hid hE2
      have HC : Hid (carr (sumD x y) (k + 1) = (dig x k + dig y k + carr (sumD x y) k) / 65536) := Lib.hid rfl
      have HD : Hid (edig (sumD x y) k = (dig x k + dig y k + carr (sumD x y) k) % 65536) := Lib.hid rfl
      clear hE2 c1
      obtain ⟨c, hcc⟩ : ∃ c, Hid (carr (sumD x y) k = c) := ⟨_, Lib.hid rfl⟩
      obtain ⟨p, hp⟩ : ∃ c, Hid (dig x k = c) := ⟨_, Lib.hid rfl⟩
      obtain ⟨q, hq⟩ : ∃ c, Hid (dig y k = c) := ⟨_, Lib.hid rfl⟩
      obtain ⟨d, hd⟩ : ∃ c, Hid (edig (sumD x y) k = c) := ⟨_, Lib.hid rfl⟩
      obtain ⟨v0, hv0⟩ : ∃ v, wr.cell? ⟨W.heap.size, k, none⟩ = some v := ⟨_, (hE.cell k).trans (arr8_get _ _ hlk)⟩
      rw [hp.out, hq.out, hcc.out] at HC HD HE2 hE1
      rw [hd.out] at HD HE2
      rw [hp.out] at ex dx
      rw [hq.out] at ey dy
      rw [hcc.out] at hc ⊢
      have z0 : 0 ≤ p + q + c := by omega
      have z1 : p + q + c < 18446744073709551616 := by omega
      have t1 := and_low16 (p + q + c) z0 z1
      rw [← HD.out] at t1
      have q2 : decide ((k : Int) < 8) = true := dec_t (by omega)
      have n0 : 0 ≤ (k : Int) := by omega
      have n1 : (k : Int) < 8 := by omega
      have p1 : IntKind.u64.wrap (p + q) = p + q := IntWalk.u64_in _ (by omega)
      have p2 : IntKind.u64.wrap (p + q + c) = p + q + c := IntWalk.u64_in _ (by omega)
      go_wp2_with fail
      go_region
      clear p1 p2
      go_wp2_with fail
      go_roundw
      case rel => exact ⟨k + 1, by omega, by go_num, by rw [HC.out], HE2.out.drewN 1, ((hB2.setCell (by exact Nat.le_refl _) _).setCell (by exact Nat.le_refl _) _).drew⟩
      case measure => simp [intOf]; omega
    · obtain rfl : 8 = k := by omega
      have hE : Blk wr W.heap.size 25 (arr8 (edig (sumD x y))) := by
        have : arr8 (edig (sumD x y)) = arr8 (mixS x y 8) := arr8_congr _ _ (fun j hj => by unfold mixS; rw [if_pos (by omega)])
        rw [this]; exact hE
      rw [HS.out.1] at hE
      have bR4 := bR.below hB2 bR.lt
      have hBw : Below w.heap.size w wr := Below.past hB0 hB2 hB0.size
      obtain ⟨c, hcc⟩ : ∃ c, Hid (carr (sumD x y) 8 = c) := ⟨_, Lib.hid rfl⟩
      have hbo' := HC8.out
      rw [hcc.out] at hbo' ⊢
      clear HS
      have e0 := (hE.cell 0).trans (arr8_get _ 0 (by omega))
      have e1 := (hE.cell 1).trans (arr8_get _ 1 (by omega))
      have e2 := (hE.cell 2).trans (arr8_get _ 2 (by omega))
      have e3 := (hE.cell 3).trans (arr8_get _ 3 (by omega))
      have e4 := (hE.cell 4).trans (arr8_get _ 4 (by omega))
      have e5 := (hE.cell 5).trans (arr8_get _ 5 (by omega))
      have e6 := (hE.cell 6).trans (arr8_get _ 6 (by omega))
      have e7 := (hE.cell 7).trans (arr8_get _ 7 (by omega))
      have r0 := (bR4.cell 0).trans (arr8_get _ 0 (by omega))
      have r1 := (bR4.cell 1).trans (arr8_get _ 1 (by omega))
      have r2 := (bR4.cell 2).trans (arr8_get _ 2 (by omega))
      have r3 := (bR4.cell 3).trans (arr8_get _ 3 (by omega))
      have r4 := (bR4.cell 4).trans (arr8_get _ 4 (by omega))
      have r5 := (bR4.cell 5).trans (arr8_get _ 5 (by omega))
      have r6 := (bR4.cell 6).trans (arr8_get _ 6 (by omega))
      have r7 := (bR4.cell 7).trans (arr8_get _ 7 (by omega))
      have rz0 := bR4.frozen 0
      have rz1 := bR4.frozen 1
      have rz2 := bR4.frozen 2
      have rz3 := bR4.frozen 3
      have rz4 := bR4.frozen 4
      have rz5 := bR4.frozen 5
      have rz6 := bR4.frozen 6
      have rz7 := bR4.frozen 7
      go_wp2_with fail
      have hf := blk8 (D := dig P) bR4
      have hBf := below8 (D := dig P) hBw (show w.heap.size ≤ w.heap.size + 1 + 1 by omega)
      unfold put8 at hf hBf
      generalize ((((((((wr.setCell ⟨w.heap.size + 1 + 1, 0, none⟩ (.int .u64 (dig P 0))).setCell ⟨w.heap.size + 1 + 1, 1, none⟩ (.int .u64 (dig P 1))).setCell ⟨w.heap.size + 1 + 1, 2, none⟩ (.int .u64 (dig P 2))).setCell ⟨w.heap.size + 1 + 1, 3, none⟩ (.int .u64 (dig P 3))).setCell ⟨w.heap.size + 1 + 1, 4, none⟩ (.int .u64 (dig P 4))).setCell ⟨w.heap.size + 1 + 1, 5, none⟩ (.int .u64 (dig P 5))).setCell ⟨w.heap.size + 1 + 1, 6, none⟩ (.int .u64 (dig P 6))).setCell ⟨w.heap.size + 1 + 1, 7, none⟩ (.int .u64 (dig P 7))) = wf at *
      clear e0 e1 e2 e3 e4 e5 e6 e7 r0 r1 r2 r3 r4 r5 r6 r7
      have e0 := (hf.cell 0).trans (arr8_get _ 0 (by omega))
      have e1 := (hf.cell 1).trans (arr8_get _ 1 (by omega))
      have e2 := (hf.cell 2).trans (arr8_get _ 2 (by omega))
      have e3 := (hf.cell 3).trans (arr8_get _ 3 (by omega))
      have e4 := (hf.cell 4).trans (arr8_get _ 4 (by omega))
      have e5 := (hf.cell 5).trans (arr8_get _ 5 (by omega))
      have e6 := (hf.cell 6).trans (arr8_get _ 6 (by omega))
      have e7 := (hf.cell 7).trans (arr8_get _ 7 (by omega))
      refine bodyPost_ret (v := .tuple #[.agg (arr8 (dig P)), .bool bo]) (by simp [results, Try.results22, go_sem, e0, e1, e2, e3, e4, e5, e6, e7, arr8]) rfl ⟨rfl, hBf⟩
end Go.Proofs.Ytfilpmmimpkfmaa
