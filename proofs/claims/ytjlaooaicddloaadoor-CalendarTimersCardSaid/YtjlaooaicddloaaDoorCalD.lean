import Derived.Test.YtjlaooaicddloaaDoorCalC
namespace Go.Proofs.YtjlaooaicddloaaDoor
open Go.RowKit

def pageC : Conf := plainCf 2 1 1

set_option maxRecDepth 10000 in
set_option maxHeartbeats 2000000 in
theorem awake20 (w : World) (hw : WdOk w) : Calls Tryd.prog 5 #[] w fun e w' => e = .returned (.bool true) ∧ Below w.heap.size w w' := by
  have q1 : (nearI 2 2 16).toNat = 2 := by decide
  have q2 : (nearI 1 1 8).toNat = 1 := by decide
  have q3 : (nearI 1 1 4).toNat = 1 := by decide
  have HA : Hid (atC pageC 4 = (0, 2, 0)) := Lib.hid (by decide)
  have HN : Hid (nextC pageC 4 = some 7) := Lib.hid (by decide)
  have HW : Hid (wdI 2 = [102, 117, 110, 100]) := Lib.hid (by decide)
  have HP := Lib.hid (plain_is 2 1 1)
  have hq := Lib.hid (And.intro q1 (And.intro q2 q3))
  clear q1 q2 q3
  go_enter Tryd.func5, Tryd.ntmps5
  go_wp2_with fail
  refine (HP.out _).mono ?_
  rintro e w1 ⟨A1, A2, A3, cp1, cp2, cp3, rfl, hr, hb1⟩
  rw [hq.out.1, hq.out.2.1, hq.out.2.2] at hr ⊢
  have hr : CfRd w1 A1 2 A2 1 A3 1 pageC := hr
  have hs1 := hb1.size
  have hr1 := hr.alloc (.cells #[.slice A1 2 cp1, .slice A2 1 cp2, .slice A3 1 cp3, .int .i64 500, .int .i64 200, .int .i64 1, .int .i64 64, .int .i64 32] 26)
  have bx := Blk.new w1 26 #[.slice A1 2 cp1, .slice A2 1 cp2, .slice A3 1 cp3, .int .i64 500, .int .i64 200, .int .i64 1, .int .i64 64, .int .i64 32] w1.heap.size rfl
  have hB1 := hb1.alloc hs1 (.cells #[.slice A1 2 cp1, .slice A2 1 cp2, .slice A3 1 cp3, .int .i64 500, .int .i64 200, .int .i64 1, .int .i64 64, .int .i64 32] 26)
  have A := Lib.hid (at_any A1 A2 A3 2 1 1 cp1 cp2 cp3 pageC 4 _ hr1)
  rw [HA.out] at A
  go_wp2_with fail
  refine (A.out).mono ?_
  rintro e w2 ⟨rfl, hb2⟩
  have bx2 := bx.past hb2
  have hr2 := hr1.past hb2
  have hB2 := Below.past hB1 hb2 hB1.size
  have e0 := (bx2).cell 0
  have e1 := (bx2).cell 1
  have e2 := (bx2).cell 2
  have e3 := (bx2).cell 3
  have e4 := (bx2).cell 4
  have e5 := (bx2).cell 5
  have e6 := (bx2).cell 6
  have e7 := (bx2).cell 7
  simp at e0 e1 e2 e3 e4 e5 e6 e7
  have B := Lib.hid (next_any A1 A2 A3 2 1 1 cp1 cp2 cp3 pageC 4 _ hr2)
  rw [HN.out] at B
  go_wp2_with fail
  refine (B.out).mono ?_
  rintro e w3 ⟨rfl, hb3⟩
  have hB3 := Below.next hB2 hb3
  go_wp2_with fail
  refine (word_any 2 _ (hw.past hB3)).mono ?_
  rw [HW.out]
  rintro e w' ⟨rfl, rfl⟩
  go_wp2_with fail
  go_ret
  exact ⟨rfl, hB3⟩

/-- The words' list, as the law has it. -/
theorem wd_want (i : Int) (k : Nat) : True := trivial

end Go.Proofs.YtjlaooaicddloaaDoor
