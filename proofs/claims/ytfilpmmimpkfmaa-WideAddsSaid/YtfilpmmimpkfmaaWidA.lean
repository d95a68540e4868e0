import Derived.Test.YtfilpmmimpkfmaaDivA
import Derived.Test.YtfilpmmimpkfmaaMonE
namespace Go.Proofs.Ytfilpmmimpkfmaa
open Go.RowKit

/-! ### The document's numbers of eight digits -/
theorem dig_of (hi lo : Int) (l0 : 0 ≤ lo) (l1 : lo < 18446744073709551616) : (∀ i, i < 4 → dig (hi * 18446744073709551616 + lo) i = dig lo i) ∧ (∀ i, i < 4 → dig (hi * 18446744073709551616 + lo) (i + 4) = dig hi i) := by
  constructor
  · intro i hi'
    obtain rfl | rfl | rfl | rfl : i = 0 ∨ i = 1 ∨ i = 2 ∨ i = 3 := by omega
    all_goals
      unfold dig
      simp only [show (65536 : Int) ^ 0 = 1 from rfl, show (65536 : Int) ^ 1 = 65536 from rfl, show (65536 : Int) ^ 2 = 4294967296 from rfl, show (65536 : Int) ^ 3 = 281474976710656 from rfl]
      omega
  · intro i hi'
    obtain rfl | rfl | rfl | rfl : i = 0 ∨ i = 1 ∨ i = 2 ∨ i = 3 := by omega
    all_goals
      unfold dig
      simp only [show (65536 : Int) ^ 0 = 1 from rfl, show (65536 : Int) ^ 1 = 65536 from rfl, show (65536 : Int) ^ 2 = 4294967296 from rfl, show (65536 : Int) ^ 3 = 281474976710656 from rfl,
        show (65536 : Int) ^ (0 + 4) = 18446744073709551616 from rfl, show (65536 : Int) ^ (1 + 4) = 1208925819614629174706176 from rfl, show (65536 : Int) ^ (2 + 4) = 79228162514264337593543950336 from rfl, show (65536 : Int) ^ (3 + 4) = 5192296858534827628530496329220096 from rfl]
      omega
/-- Eight words laid into a block. -/
def put8 (w : World) (g : Nat) (D : Nat → Int) : World := ((((((((w.setCell ⟨g, 0, none⟩ (.int .u64 (D 0))).setCell ⟨g, 1, none⟩ (.int .u64 (D 1))).setCell ⟨g, 2, none⟩ (.int .u64 (D 2))).setCell ⟨g, 3, none⟩ (.int .u64 (D 3))).setCell ⟨g, 4, none⟩ (.int .u64 (D 4))).setCell ⟨g, 5, none⟩ (.int .u64 (D 5))).setCell ⟨g, 6, none⟩ (.int .u64 (D 6))).setCell ⟨g, 7, none⟩ (.int .u64 (D 7)))
theorem blk8_put {w : World} {g : Nat} {t : TypeId} {F : Nat → Int} (h : Blk w g t (arr8 F)) (j : Nat) (hj : j < 8) (v : Int) : Blk (w.setCell ⟨g, j, none⟩ (.int .u64 v)) g t (arr8 (upd F j v)) := by
  rw [← arr8_set _ _ _ hj]; exact h.put j _
theorem blk8 {w : World} {g : Nat} {t : TypeId} {F D : Nat → Int} (h : Blk w g t (arr8 F)) : Blk (put8 w g D) g t (arr8 D) := by
  have h8 := blk8_put (blk8_put (blk8_put (blk8_put (blk8_put (blk8_put (blk8_put (blk8_put h 0 (by omega) (D 0)) 1 (by omega) (D 1)) 2 (by omega) (D 2)) 3 (by omega) (D 3)) 4 (by omega) (D 4)) 5 (by omega) (D 5)) 6 (by omega) (D 6)) 7 (by omega) (D 7)
  have e : arr8 D = arr8 (upd (upd (upd (upd (upd (upd (upd (upd F 0 (D 0)) 1 (D 1)) 2 (D 2)) 3 (D 3)) 4 (D 4)) 5 (D 5)) 6 (D 6)) 7 (D 7)) := by
    refine arr8_congr _ _ fun j hj => ?_
    obtain rfl | rfl | rfl | rfl | rfl | rfl | rfl | rfl : j = 0 ∨ j = 1 ∨ j = 2 ∨ j = 3 ∨ j = 4 ∨ j = 5 ∨ j = 6 ∨ j = 7 := by omega
    all_goals rfl
  rw [e]
  exact h8
theorem below8 {B : Nat} {a w : World} {g : Nat} {D : Nat → Int} (h : Below B a w) (hg : B ≤ g) : Below B a (put8 w g D) :=
  (((((((h.setCell (by exact hg) _).setCell (by exact hg) _).setCell (by exact hg) _).setCell (by exact hg) _).setCell (by exact hg) _).setCell (by exact hg) _).setCell (by exact hg) _).setCell (by exact hg) _
/-- The array while the digits are laid. -/
def mixO (N : Int) (k : Nat) : Nat → Int := fun j => if j < k ∨ (4 ≤ j ∧ j < 4 + k) then dig N j else 0

set_option maxRecDepth 100000 in
set_option maxHeartbeats 1000000 in
theorem of_any (hi lo : Int) (h0 : 0 ≤ hi) (h1 : hi < 18446744073709551616) (l0 : 0 ≤ lo) (l1 : lo < 18446744073709551616) (w : World) :
    Calls Try.prog 20 #[.int .u64 hi, .int .u64 lo] w fun e w' => e = .returned (.agg (arr8 (dig (hi * 18446744073709551616 + lo)))) ∧ Below w.heap.size w w' := by
  obtain ⟨N, hN⟩ : ∃ N, Hid (hi * 18446744073709551616 + lo = N) := ⟨_, Lib.hid rfl⟩
  have HD := Lib.hid (dig_of hi lo l0 l1)
  rw [hN.out] at HD ⊢
  go_enter Try.func20, Try.ntmps20
  go_wp2_with fail
  go_loopw [6] (fun i wr => ∃ k : Nat, k ≤ 4 ∧ i = .int .i64 k ∧ Blk wr w.heap.size 25 (arr8 fun _ => 0) ∧ Blk wr (w.heap.size + 1) 25 (arr8 (mixO N k)) ∧ Below w.heap.size w wr) (fun i _ => 4 - (intOf i).toNat)
  case atStart => exact ⟨0, by omega, rfl, (Blk.new w _ _ _ rfl).alloc _, by have : arr8 (mixO N 0) = arr8 fun _ => 0 := arr8_congr _ _ (fun j hj => by unfold mixO; rw [if_neg (by omega)]); rw [this]; exact Blk.new _ _ _ _ (by simp), ((Below.refl _ _).alloc (Nat.le_refl _) _).alloc (by simp) _⟩
  case round =>
    obtain ⟨k, hk, rfl, hR, hE, hB⟩ := hrel
    by_cases hlt : k < 4
    · have q1 : decide ((k : Int) < 4) = true := dec_t (by omega)
      have f1 := hE.frozen k
      have f2 := hE.frozen (k + 4)
      have c1 := (hE.cell k).trans (arr8_get _ _ (by omega))
      have c2 := (hE.cell (k + 4)).trans (arr8_get _ _ (by omega))
      have d1 := dig_bd N k
      have t1 := and_dig lo k l0 l1
      have t2 := and_dig hi k h0 h1
      rw [← HD.out.1 k hlt] at t1
      rw [← HD.out.2 k hlt] at t2
      have hE2 := (hE.put k (.int .u64 (dig N k))).put (k + 4) (.int .u64 (dig N (k + 4)))
      have hc3 : arr8 (mixO N (k + 1)) = ((arr8 (mixO N k)).setIfInBounds k (.int .u64 (dig N k))).setIfInBounds (k + 4) (.int .u64 (dig N (k + 4))) := by
        rw [arr8_set _ _ _ (by omega), arr8_set _ _ _ (by omega)]
        refine arr8_congr _ _ fun j hj => ?_
        unfold upd mixO
        by_cases a1 : j = k + 4
        · subst a1; rw [if_pos (by omega), if_pos rfl]
        · rw [if_neg a1]
          by_cases a2 : j = k
          · subst a2; rw [if_pos (by omega), if_pos rfl]
          · rw [if_neg a2]
            by_cases a3 : j < k ∨ (4 ≤ j ∧ j < 4 + k)
            · rw [if_pos a3, if_pos (by omega)]
            · rw [if_neg a3, if_neg (by omega)]
      rw [← hc3] at hE2
      have HE2 := Lib.hid hE2
      clear hE2 hc3
      have m1 : IntKind.i64.wrap (16 * (k : Int)) = 16 * (k : Int) := IntWalk.i64_in _ (by omega)
      have n1 : 0 ≤ 16 * (k : Int) := by omega
      have n2 : (16 * (k : Int)).toNat = 16 * k := by omega
      go_wp2_with fail
      go_roundw
      case rel => exact ⟨k + 1, by omega, by go_num, (hR.far (by simp) _).far (by simp) _, HE2.out, (hB.setCell (by simp) _).setCell (by simp) _⟩
      case measure => simp [intOf]; omega
    · obtain rfl : 4 = k := by omega
      have hE4 : Blk wr (w.heap.size + 1) 25 (arr8 (dig N)) := by
        have : arr8 (dig N) = arr8 (mixO N 4) := arr8_congr _ _ (fun j hj => by unfold mixO; rw [if_pos (by omega)])
        rw [this]; exact hE
      clear hE
      have e0 := (hE4.cell 0).trans (arr8_get _ 0 (by omega))
      have e1 := (hE4.cell 1).trans (arr8_get _ 1 (by omega))
      have e2 := (hE4.cell 2).trans (arr8_get _ 2 (by omega))
      have e3 := (hE4.cell 3).trans (arr8_get _ 3 (by omega))
      have e4 := (hE4.cell 4).trans (arr8_get _ 4 (by omega))
      have e5 := (hE4.cell 5).trans (arr8_get _ 5 (by omega))
      have e6 := (hE4.cell 6).trans (arr8_get _ 6 (by omega))
      have e7 := (hE4.cell 7).trans (arr8_get _ 7 (by omega))
      have r0 := (hR.cell 0).trans (arr8_get _ 0 (by omega))
      have r1 := (hR.cell 1).trans (arr8_get _ 1 (by omega))
      have r2 := (hR.cell 2).trans (arr8_get _ 2 (by omega))
      have r3 := (hR.cell 3).trans (arr8_get _ 3 (by omega))
      have r4 := (hR.cell 4).trans (arr8_get _ 4 (by omega))
      have r5 := (hR.cell 5).trans (arr8_get _ 5 (by omega))
      have r6 := (hR.cell 6).trans (arr8_get _ 6 (by omega))
      have r7 := (hR.cell 7).trans (arr8_get _ 7 (by omega))
      have rz0 := hR.frozen 0
      have rz1 := hR.frozen 1
      have rz2 := hR.frozen 2
      have rz3 := hR.frozen 3
      have rz4 := hR.frozen 4
      have rz5 := hR.frozen 5
      have rz6 := hR.frozen 6
      have rz7 := hR.frozen 7
      go_wp2_with fail
      have hf := blk8 (D := dig N) hR
      have hBf := below8 (D := dig N) hB (Nat.le_refl w.heap.size)
      unfold put8 at hf hBf
      generalize ((((((((wr.setCell ⟨w.heap.size, 0, none⟩ (.int .u64 (dig N 0))).setCell ⟨w.heap.size, 1, none⟩ (.int .u64 (dig N 1))).setCell ⟨w.heap.size, 2, none⟩ (.int .u64 (dig N 2))).setCell ⟨w.heap.size, 3, none⟩ (.int .u64 (dig N 3))).setCell ⟨w.heap.size, 4, none⟩ (.int .u64 (dig N 4))).setCell ⟨w.heap.size, 5, none⟩ (.int .u64 (dig N 5))).setCell ⟨w.heap.size, 6, none⟩ (.int .u64 (dig N 6))).setCell ⟨w.heap.size, 7, none⟩ (.int .u64 (dig N 7))) = wf at *
      clear e0 e1 e2 e3 e4 e5 e6 e7 r0 r1 r2 r3 r4 r5 r6 r7
      have e0 := (hf.cell 0).trans (arr8_get _ 0 (by omega))
      have e1 := (hf.cell 1).trans (arr8_get _ 1 (by omega))
      have e2 := (hf.cell 2).trans (arr8_get _ 2 (by omega))
      have e3 := (hf.cell 3).trans (arr8_get _ 3 (by omega))
      have e4 := (hf.cell 4).trans (arr8_get _ 4 (by omega))
      have e5 := (hf.cell 5).trans (arr8_get _ 5 (by omega))
      have e6 := (hf.cell 6).trans (arr8_get _ 6 (by omega))
      have e7 := (hf.cell 7).trans (arr8_get _ 7 (by omega))
      refine bodyPost_ret (v := .agg (arr8 (dig N))) (by simp [results, Try.results20, go_sem, e0, e1, e2, e3, e4, e5, e6, e7, arr8]) rfl ⟨rfl, hBf⟩
end Go.Proofs.Ytfilpmmimpkfmaa
