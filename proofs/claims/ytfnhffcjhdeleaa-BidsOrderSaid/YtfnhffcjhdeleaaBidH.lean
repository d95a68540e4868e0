import Derived.Test.YtfnhffcjhdeleaaBidG
namespace Go.Proofs.Ytfnhffcjhdeleaa
open Go.RowKit

set_option maxRecDepth 100000 in
set_option maxHeartbeats 8000000 in
theorem awake24 (w : World) : Calls Try.prog 55 #[] w fun e w' => e = .returned (.bool true) ∧ Below w.heap.size w w' := by
  go_enter Try.func55, Try.ntmps55
  go_wp2_with fail
  refine (plain_is 2 1 1 _).mono ?_
  rintro e w1 ⟨A1, A2, A3, cp1, cp2, cp3, rfl, hr, hb1⟩
  have q1 : (nearI 2 2 16).toNat = 2 := rfl
  have q2 : (nearI 1 1 8).toNat = 1 := rfl
  have q3 : (nearI 1 1 4).toNat = 1 := rfl
  rw [q1, q2, q3] at hr ⊢
  clear q1 q2 q3
  have hr : CfRd w1 A1 2 A2 1 A3 1 pageCf := hr
  have hs1 := hb1.size
  have HN := Lib.hid (newB_yes A1 A2 A3 2 1 1 cp1 cp2 cp3 pageCf w1 hr page_check)
  clear hr
  go_wp2_with fail
  refine HN.out.mono ?_
  rintro e w2 ⟨g, B1, d1, B2, d2, B3, d3, rfl, hg, hx2, hb2⟩
  have hb3 := Below.past hb1 hb2 hs1
  have hs3 := hb3.size
  have hs2 := hb2.size
  have HX2 := Lib.hid hx2
  clear hx2 hb2 hb1 HN
  go_wp2_with fail
  refine (bidP_any 5 12 _).mono ?_
  rintro e w4 ⟨rfl, hb4⟩
  have HA4 := Lib.hid (addB_ok g w1.heap.size B1 2 d1 B2 1 d2 B3 1 d3 pageCf _ [] ⟨0, 1, 1, 5, 12⟩ w4 (HX2.out.past hb4) (by simp) page_b1 (by decide) (by have := hb4.size; omega))
  have hb5 := Below.past hb3 hb4 hs3
  have hs5 := hb5.size
  have hs4 := hb4.size
  clear hb4 hb3
  go_wp2_with fail
  refine HA4.out.mono ?_
  rintro e w6 ⟨rfl, v6, hx6, ho6, _⟩
  have hb7 := Below.trans hb5 (ho6.frame (by omega) hs5 (by simp [Value.ownBlock]))
  have hs7 := hb7.size
  have hs6 := ho6.size
  have HX6 : Hid (BoxV w6 g w1.heap.size B1 2 d1 B2 1 d2 B3 1 d3 pageCf v6 [⟨1, 1, 1, 5, 12⟩]) := Lib.hid hx6
  clear hx6 ho6 hb5 HA4
  go_wp2_with fail
  refine (bidP_any 6 11 _).mono ?_
  rintro e w8 ⟨rfl, hb8⟩
  have HA8 := Lib.hid (addB_ok g w1.heap.size B1 2 d1 B2 1 d2 B3 1 d3 pageCf _ [⟨1, 1, 1, 5, 12⟩] ⟨0, 1, 1, 6, 11⟩ w8 (HX6.out.past hb8) (by simp) page_b2 (by decide) (by have := hb8.size; omega))
  have hb9 := Below.past hb7 hb8 hs7
  have hs9 := hb9.size
  have hs8 := hb8.size
  clear hb8 hb7
  go_wp2_with fail
  refine HA8.out.mono ?_
  rintro e w10 ⟨rfl, v10, hx10, ho10, _⟩
  have hb11 := Below.trans hb9 (ho10.frame (by omega) hs9 (fun k e => by have := (HX6.out.row.lt k e).1; omega))
  have hs11 := hb11.size
  have hs10 := ho10.size
  have HX10 : Hid (BoxV w10 g w1.heap.size B1 2 d1 B2 1 d2 B3 1 d3 pageCf v10 [⟨1, 1, 1, 5, 12⟩, ⟨2, 1, 1, 6, 11⟩]) := Lib.hid hx10
  clear hx10 ho10 hb9 HA8
  go_wp2_with fail
  refine (bidP_any 7 12 _).mono ?_
  rintro e w12 ⟨rfl, hb12⟩
  have HA12 := Lib.hid (addB_ok g w1.heap.size B1 2 d1 B2 1 d2 B3 1 d3 pageCf _ [⟨1, 1, 1, 5, 12⟩, ⟨2, 1, 1, 6, 11⟩] ⟨0, 1, 1, 7, 12⟩ w12 (HX10.out.past hb12) (by simp) page_b3 (by decide) (by have := hb12.size; omega))
  have hb13 := Below.past hb11 hb12 hs11
  have hs13 := hb13.size
  have hs12 := hb12.size
  clear hb12 hb11
  go_wp2_with fail
  refine HA12.out.mono ?_
  rintro e w14 ⟨rfl, v14, hx14, ho14, _⟩
  have hb15 := Below.trans hb13 (ho14.frame (by omega) hs13 (fun k e => by have := (HX10.out.row.lt k e).1; omega))
  have hs15 := hb15.size
  have hs14 := ho14.size
  have HX14 : Hid (BoxV w14 g w1.heap.size B1 2 d1 B2 1 d2 B3 1 d3 pageCf v14 [⟨1, 1, 1, 5, 12⟩, ⟨2, 1, 1, 6, 11⟩, ⟨3, 1, 1, 7, 12⟩]) := Lib.hid hx14
  clear hx14 ho14 hb13 HA12
  go_wp2_with fail
  refine (bidP_any 7 13 _).mono ?_
  rintro e w16 ⟨rfl, hb16⟩
  have HX16 := Lib.hid (HX14.out.past hb16)
  have HA16 := Lib.hid (addB_wrong g w1.heap.size B1 2 d1 B2 1 d2 B3 1 d3 pageCf _ _ ⟨0, 1, 1, 7, 13⟩ w16 HX16.out (by simp) 15 page_b4 (by decide))
  have hb17 := Below.past hb15 hb16 hs15
  have hs17 := hb17.size
  clear hb16 hb15
  go_wp2_with fail
  refine HA16.out.mono ?_
  rintro e w18 ⟨rfl, hb18⟩
  have HS18 := Lib.hid (secB_any g w1.heap.size B1 2 d1 B2 1 d2 B3 1 d3 pageCf _ _ 1 w18 (HX16.out.past hb18) (by simp))
  have hb19 := Below.past hb17 hb18 hs17
  have hs19 := hb19.size
  clear hb18 hb17 HA16
  go_wp2_with fail
  refine HS18.out.mono ?_
  rintro e w20 ⟨v20, rfl, hown, hb20⟩
  rw [page_sort] at hown
  have hown : w20.ownsRow w18.heap.size 103 5 v20 3 [.int .i64 2, .int .i64 1, .int .i64 1, .int .i64 6, .int .i64 11, .int .i64 1, .int .i64 1, .int .i64 1, .int .i64 5, .int .i64 12, .int .i64 3, .int .i64 1, .int .i64 1, .int .i64 7, .int .i64 12] := hown
  obtain ⟨gg, cap, rfl, _, hlt⟩ := hown.form (by decide)
  have hcs := hown.cells (g := gg) rfl
  have t0 := hcs 0 _ rfl
  have t1 := hcs 5 _ rfl
  have t2 := hcs 10 _ rfl
  simp only [Addr.add, Nat.reduceEqDiff, if_false, if_true, Nat.zero_add] at t0 t1 t2
  have hb21 := Below.past hb19 hb20 hs19
  clear hcs hown hb20 hb19 HS18
  go_wp2_with fail
  go_ret
  exact ⟨rfl, hb21⟩
end Go.Proofs.Ytfnhffcjhdeleaa
