import Derived.Test.YtfedjgblgnkbcaaDoorRepD
namespace Go.Proofs.YtfedjgblgnkbcaaDoor
open Go.RowKit Go.Sort

/-! ### The example -/
/-- The words that the example asks for lie in their table. -/
structure RpOk (w : World) : Prop where
  tab : TabOk w
  paid : w.cell? ⟨0, 10, none⟩ = some (.string ⟨#[112, 97, 105, 100]⟩)
  man : w.cell? ⟨0, 11, none⟩ = some (.string ⟨#[109, 97, 110]⟩)
  lt : 0 < w.heap.size
theorem RpOk.past {w w' : World} (h : RpOk w) (hb : Below w.heap.size w w') : RpOk w' :=
  ⟨h.tab.past hb, (hb.cell (p := ⟨0, 10, none⟩) h.lt).trans h.paid, (hb.cell (p := ⟨0, 11, none⟩) h.lt).trans h.man, Nat.lt_of_lt_of_le h.lt hb.size⟩

theorem contains_man (c : UInt8) (w : World) : Calls Tryd.prog 17 #[.string ⟨#[109, 97, 110]⟩, .string ⟨#[c]⟩] w fun e w' => e = .returned (.bool (decide (0 ≤ Lib.indexByte [109, 97, 110] c))) ∧ w' = w := Tryd.strings_Contains_one ⟨#[109, 97, 110]⟩ c w

set_option maxRecDepth 10000 in
set_option maxHeartbeats 1000000 in
theorem parts_paid (w : World) : Calls Tryd.prog 16 #[.agg #[.int .i64 5, .int .i64 1, .int .i64 0, .int .i64 300, .int .i64 0]] w fun e w' => e = .returned (.agg #[.int .i64 1, .int .i64 0, .int .i64 300, .int .i64 0]) ∧ Below w.heap.size w w' := by
  have hB0 := (Below.refl w.heap.size w).alloc (Nat.le_refl _) (.cells #[.int .i64 5, .int .i64 1, .int .i64 0, .int .i64 300, .int .i64 0] 34)
  go_enter Tryd.func16, Tryd.ntmps16
  go_wp2_with fail
  refine bodyPost_ret (v := .agg #[.int .i64 1, .int .i64 0, .int .i64 300, .int .i64 0]) (by simp [results, Tryd.results16, go_sem]) rfl ⟨rfl, hB0.alloc hB0.size _⟩

/-- The line as it grows. -/
def preT : Nat → List UInt8
  | 0 => [112, 97, 105, 100]
  | 1 => [112, 97, 105, 100, 32, 109, 49]
  | 2 => [112, 97, 105, 100, 32, 109, 49, 32, 97, 48]
  | _ => [112, 97, 105, 100, 32, 109, 49, 32, 97, 48, 32, 110, 51, 48, 48]
set_option maxRecDepth 100000 in
set_option maxHeartbeats 4000000 in
theorem event_paid (w : World) (hw : RpOk w) : Calls Tryd.prog 9 #[.agg #[.int .i64 5, .int .i64 1, .int .i64 0, .int .i64 300, .int .i64 0]] w fun e w' => e = .returned (.tuple #[.string ⟨#[112, 97, 105, 100, 32, 109, 49, 32, 97, 48, 32, 110, 51, 48, 48]⟩, .int .i64 0]) ∧ Below w.heap.size w w' := by
  have hB0 := (Below.refl w.heap.size w).alloc (Nat.le_refl _) (.cells #[.int .i64 5, .int .i64 1, .int .i64 0, .int .i64 300, .int .i64 0] 34)
  have bx0 := Blk.new w 34 #[.int .i64 5, .int .i64 1, .int .i64 0, .int .i64 300, .int .i64 0] w.heap.size rfl
  obtain ⟨W, hW⟩ : ∃ W, Hid (w.alloc (.cells #[.int .i64 5, .int .i64 1, .int .i64 0, .int .i64 300, .int .i64 0] 34) = W) := ⟨_, Lib.hid rfl⟩
  rw [hW.out] at hB0 bx0
  have HW := Lib.hid (hw.past hB0)
  have kp := HW.out.paid
  have km := HW.out.man
  have k0 := (bx0).cell 0
  have k1 := (bx0).cell 1
  have k2 := (bx0).cell 2
  have k3 := (bx0).cell 3
  have k4 := (bx0).cell 4
  simp at k0 k1 k2 k3 k4
  have HX := Lib.hid bx0
  clear bx0 hw
  go_enter Tryd.func9, Tryd.ntmps9
  go_upto_region 1 with fail
  rw [hW.out]
  go_wp2_with fail
  go_quiet (fail)
  have hb1 := below_drewN (Below.refl W.heap.size W)
  have bx1 := fun n => (HX.out.drewN n).cell
  go_wp2_with fail
  refine (parts_paid _).mono ?_
  rintro e w2 ⟨rfl, hb2⟩
  have HB2 : Hid (Below W.heap.size W w2) := Lib.hid (Below.next (hb1 _) hb2)
  clear hb2 hb1 kp km k0 k1 k2 k3 k4 bx1
  go_wp2_with fail
  go_loopw [4, 29] (fun s i wr => ∃ k : Nat, k ≤ 4 ∧ i = .int .i64 (k : Nat) ∧ s = .string ⟨(preT k).toArray⟩ ∧ Hid (Below W.heap.size W wr)) (fun _ i _ => 4 - (intOf i).toNat)
  case atStart => exact ⟨0, by omega, rfl, rfl, HB2⟩
  case round =>
    clear HB2
    obtain ⟨k, hk, rfl, rfl, HB⟩ := hrel
    have HT := Lib.hid (HW.out.past HB.out).tab
    obtain rfl | rfl | rfl | rfl | rfl : k = 0 ∨ k = 1 ∨ k = 2 ∨ k = 3 ∨ k = 4 := by omega
    · have hix : ∀ wr : World, (Instr.index 44 (.agg #[.int .i64 1, .int .i64 0, .int .i64 300, .int .i64 0]) (.int .i64 0)).run Tryd.prog wr = .ok (.int .i64 1) wr := fun wr => by simp [Instr.index, run_underlying Tryd.underlying44, asIntOf, go_sem]
      have s1 : (⟨#[109, 97, 110, 111]⟩ : ByteArray).extract 0 1 = ⟨#[109]⟩ := by decide
      have hc : decide (0 ≤ Lib.indexByte [109, 97, 110] 109) = true := by decide
      have HC := Lib.hid (contains_man 109)
      rw [hc] at HC
      have HF := Lib.hid (fun W' ht => fmt_any 1 (by unfold inI; omega) W' ht)
      rw [show numI 1 = [49] by decide] at HF
      have c1 : (⟨#[32]⟩ : ByteArray) ++ ⟨#[109]⟩ = ⟨#[32, 109]⟩ := by decide
      have c2 : (⟨#[32, 109]⟩ : ByteArray) ++ ⟨[49].toArray⟩ = ⟨#[32, 109, 49]⟩ := by decide
      have c3 : (⟨(preT 0).toArray⟩ : ByteArray) ++ ⟨#[32, 109, 49]⟩ = ⟨(preT 1).toArray⟩ := by decide
      have c4 : (⟨(preT 0).toArray⟩ : ByteArray).size = 4 := by decide
      have HD := Lib.hid c3
      have hd4 := c4
      rw [show ((0 : Nat) : Int) = 0 from rfl]
      rw [show (⟨(preT 0).toArray⟩ : ByteArray) = ⟨#[112, 97, 105, 100]⟩ from rfl]
      rw [show (⟨(preT 0).toArray⟩ : ByteArray) = ⟨#[112, 97, 105, 100]⟩ from rfl] at c3
      clear hc c4 hd4
      go_wp2_with fail
      refine (HC.out _).mono ?_
      rintro e w3 ⟨rfl, rfl⟩
      go_wp2_with fail
      refine (HF.out _ HT.out).mono ?_
      rintro e w4 ⟨rfl, hb4⟩
      have HB4 := Lib.hid (Below.past HB.out hb4 HB.out.size)
      clear hb4 HB HT
      go_wp2_with fail
      go_roundw
      case rel => exact ⟨1, by omega, by first | rfl | go_num, rfl, HB4⟩
      case measure => simp [intOf]
    · have hix : ∀ wr : World, (Instr.index 44 (.agg #[.int .i64 1, .int .i64 0, .int .i64 300, .int .i64 0]) (.int .i64 1)).run Tryd.prog wr = .ok (.int .i64 0) wr := fun wr => by simp [Instr.index, run_underlying Tryd.underlying44, asIntOf, go_sem]
      have s1 : (⟨#[109, 97, 110, 111]⟩ : ByteArray).extract 1 2 = ⟨#[97]⟩ := by decide
      have hc : decide (0 ≤ Lib.indexByte [109, 97, 110] 97) = true := by decide
      have HC := Lib.hid (contains_man 97)
      rw [hc] at HC
      have HF := Lib.hid (fun W' ht => fmt_any 0 (by unfold inI; omega) W' ht)
      rw [show numI 0 = [48] by decide] at HF
      have c1 : (⟨#[32]⟩ : ByteArray) ++ ⟨#[97]⟩ = ⟨#[32, 97]⟩ := by decide
      have c2 : (⟨#[32, 97]⟩ : ByteArray) ++ ⟨[48].toArray⟩ = ⟨#[32, 97, 48]⟩ := by decide
      have c3 : (⟨(preT 1).toArray⟩ : ByteArray) ++ ⟨#[32, 97, 48]⟩ = ⟨(preT 2).toArray⟩ := by decide
      have c4 : (⟨(preT 1).toArray⟩ : ByteArray).size = 7 := by decide
      have HD := Lib.hid c3
      have hd4 := c4
      rw [show ((1 : Nat) : Int) = 1 from rfl]
      rw [show (⟨(preT 1).toArray⟩ : ByteArray) = ⟨#[112, 97, 105, 100, 32, 109, 49]⟩ from rfl]
      rw [show (⟨(preT 1).toArray⟩ : ByteArray) = ⟨#[112, 97, 105, 100, 32, 109, 49]⟩ from rfl] at c3
      clear hc c4 hd4
      go_wp2_with fail
      refine (HC.out _).mono ?_
      rintro e w3 ⟨rfl, rfl⟩
      go_wp2_with fail
      refine (HF.out _ HT.out).mono ?_
      rintro e w4 ⟨rfl, hb4⟩
      have HB4 := Lib.hid (Below.past HB.out hb4 HB.out.size)
      clear hb4 HB HT
      go_wp2_with fail
      go_roundw
      case rel => exact ⟨2, by omega, by first | rfl | go_num, rfl, HB4⟩
      case measure => simp [intOf]
    · have hix : ∀ wr : World, (Instr.index 44 (.agg #[.int .i64 1, .int .i64 0, .int .i64 300, .int .i64 0]) (.int .i64 2)).run Tryd.prog wr = .ok (.int .i64 300) wr := fun wr => by simp [Instr.index, run_underlying Tryd.underlying44, asIntOf, go_sem]
      have s1 : (⟨#[109, 97, 110, 111]⟩ : ByteArray).extract 2 3 = ⟨#[110]⟩ := by decide
      have hc : decide (0 ≤ Lib.indexByte [109, 97, 110] 110) = true := by decide
      have HC := Lib.hid (contains_man 110)
      rw [hc] at HC
      have HF := Lib.hid (fun W' ht => fmt_any 300 (by unfold inI; omega) W' ht)
      rw [show numI 300 = [51, 48, 48] by decide] at HF
      have c1 : (⟨#[32]⟩ : ByteArray) ++ ⟨#[110]⟩ = ⟨#[32, 110]⟩ := by decide
      have c2 : (⟨#[32, 110]⟩ : ByteArray) ++ ⟨[51, 48, 48].toArray⟩ = ⟨#[32, 110, 51, 48, 48]⟩ := by decide
      have c3 : (⟨(preT 2).toArray⟩ : ByteArray) ++ ⟨#[32, 110, 51, 48, 48]⟩ = ⟨(preT 3).toArray⟩ := by decide
      have c4 : (⟨(preT 2).toArray⟩ : ByteArray).size = 10 := by decide
      have HD := Lib.hid c3
      have hd4 := c4
      rw [show ((2 : Nat) : Int) = 2 from rfl]
      rw [show (⟨(preT 2).toArray⟩ : ByteArray) = ⟨#[112, 97, 105, 100, 32, 109, 49, 32, 97, 48]⟩ from rfl]
      rw [show (⟨(preT 2).toArray⟩ : ByteArray) = ⟨#[112, 97, 105, 100, 32, 109, 49, 32, 97, 48]⟩ from rfl] at c3
      clear hc c4 hd4
      go_wp2_with fail
      refine (HC.out _).mono ?_
      rintro e w3 ⟨rfl, rfl⟩
      go_wp2_with fail
      refine (HF.out _ HT.out).mono ?_
      rintro e w4 ⟨rfl, hb4⟩
      have HB4 := Lib.hid (Below.past HB.out hb4 HB.out.size)
      clear hb4 HB HT
      go_wp2_with fail
      go_roundw
      case rel => exact ⟨3, by omega, by first | rfl | go_num, rfl, HB4⟩
      case measure => simp [intOf]
    · have hix : ∀ wr : World, (Instr.index 44 (.agg #[.int .i64 1, .int .i64 0, .int .i64 300, .int .i64 0]) (.int .i64 3)).run Tryd.prog wr = .ok (.int .i64 0) wr := fun wr => by simp [Instr.index, run_underlying Tryd.underlying44, asIntOf, go_sem]
      have s1 : (⟨#[109, 97, 110, 111]⟩ : ByteArray).extract 3 4 = ⟨#[111]⟩ := by decide
      have hc : decide (0 ≤ Lib.indexByte [109, 97, 110] 111) = false := by decide
      have HC := Lib.hid (contains_man 111)
      rw [hc] at HC
      rw [show ((3 : Nat) : Int) = 3 from rfl]
      clear hc HT
      go_wp2_with fail
      refine (HC.out _).mono ?_
      rintro e w3 ⟨rfl, rfl⟩
      go_wp2_with fail
      go_roundw
      case rel => exact ⟨4, by omega, by first | rfl | go_num, rfl, HB⟩
      case measure => simp [intOf]
    · rw [show ((4 : Nat) : Int) = 4 from rfl]
      clear HT
      go_wp2_with fail
      refine bodyPost_ret (v := .tuple #[.string ⟨#[112, 97, 105, 100, 32, 109, 49, 32, 97, 48, 32, 110, 51, 48, 48]⟩, .int .i64 0]) (by simp [results, Tryd.results9, go_sem, preT]) rfl ⟨rfl, Below.past hB0 HB.out hB0.size⟩

set_option maxRecDepth 10000 in
set_option maxHeartbeats 1000000 in
theorem awake36 (w : World) (hw : RpOk w) : Calls Tryd.prog 4 #[] w fun e w' => e = .returned (.bool true) ∧ Below w.heap.size w w' := by
  have HE := Lib.hid (event_paid w hw)
  have HA := Lib.hid (fun W' ht => answer_any 11 0 (by unfold inI; omega) W' ht)
  rw [show answT 11 0 = [101, 114, 114, 111, 114, 32, 112, 104, 97, 115, 101] by decide] at HA
  have HW := Lib.hid hw
  clear hw
  go_enter Tryd.func4, Tryd.ntmps4
  go_wp2_with fail
  refine HE.out.mono ?_
  rintro e w1 ⟨rfl, hb1⟩
  have HT := Lib.hid (HW.out.past hb1).tab
  go_wp2_with fail
  refine (HA.out _ HT.out).mono ?_
  rintro e w2 ⟨rfl, hb2⟩
  go_wp2_with fail
  go_ret
  exact ⟨rfl, Below.next hb1 hb2⟩
end Go.Proofs.YtfedjgblgnkbcaaDoor
