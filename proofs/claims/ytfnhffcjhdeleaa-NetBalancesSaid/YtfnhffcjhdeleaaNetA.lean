import Derived.Test.YtfnhffcjhdeleaaNetP
import Derived.Test.YtfnhffcjhdeleaaConfP
namespace Go.Proofs.Ytfnhffcjhdeleaa
open Go.RowKit

theorem legK_no {M S : Nat} {x : Leg} (h : x.member < 1 ∨ (M : Int) < x.member) : legK M S x = 9 := if_pos h
theorem legK_sec {M S : Nat} {x : Leg} (h : ¬ (x.member < 1 ∨ (M : Int) < x.member)) (h2 : x.asset < 0 ∨ (S : Int) < x.asset) : legK M S x = 10 := by unfold legK; rw [if_neg h, if_pos h2]
theorem legK_yes {M S : Nat} {x : Leg} (h : ¬ (x.member < 1 ∨ (M : Int) < x.member)) (h2 : ¬ (x.asset < 0 ∨ (S : Int) < x.asset)) : legK M S x = 0 := by unfold legK; rw [if_neg h, if_neg h2]

set_option maxHeartbeats 2000000 in
set_option maxRecDepth 100000 in
theorem netCheck_any (A1 A2 A3 : Option Addr) (n1 n2 n3 cp1 cp2 cp3 : Nat) (cf : Conf) (x : Leg) (w : World) (hr : CfRd w A1 n1 A2 n2 A3 n3 cf) :
    Calls Try.prog 92 #[.agg #[.slice A1 n1 cp1, .slice A2 n2 cp2, .slice A3 n3 cp3, .int .i64 cf.line, .int .i64 cf.capital, .int .i64 cf.lead, .int .i64 cf.trades, .int .i64 cf.bids], .agg #[.int .i64 x.member, .int .i64 x.asset, .int .i64 x.amount]] w fun e w' => e = .returned (.int .i64 (legK n1 n2 x)) ∧ Below w.heap.size w w' := by
  obtain ⟨W, hW⟩ : ∃ W, Hid ((w.alloc (.cells #[.slice A1 n1 cp1, .slice A2 n2 cp2, .slice A3 n3 cp3, .int .i64 cf.line, .int .i64 cf.capital, .int .i64 cf.lead, .int .i64 cf.trades, .int .i64 cf.bids] 89)).alloc (.cells #[.int .i64 x.member, .int .i64 x.asset, .int .i64 x.amount] 97) = W) := ⟨_, Lib.hid rfl⟩
  have hB0 : Below w.heap.size w W := by rw [← hW.out]; exact ((Below.refl _ _).alloc (Nat.le_refl _) _).alloc (by simp) _
  have hWs : W.heap.size = w.heap.size + 2 := by rw [← hW.out]; simp
  have bc0 : Blk W w.heap.size 89 #[.slice A1 n1 cp1, .slice A2 n2 cp2, .slice A3 n3 cp3, .int .i64 cf.line, .int .i64 cf.capital, .int .i64 cf.lead, .int .i64 cf.trades, .int .i64 cf.bids] := by
    rw [← hW.out]; exact (Blk.new w _ _ _ rfl).alloc _
  have bx0 : Blk W (w.heap.size + 1) 97 #[.int .i64 x.member, .int .i64 x.asset, .int .i64 x.amount] := by
    rw [← hW.out]; exact Blk.new (w.alloc (.cells #[.slice A1 n1 cp1, .slice A2 n2 cp2, .slice A3 n3 cp3, .int .i64 cf.line, .int .i64 cf.capital, .int .i64 cf.lead, .int .i64 cf.trades, .int .i64 cf.bids] 89)) _ _ _ (by simp)
  have HR0 := Lib.hid (hr.past hB0)
  obtain ⟨m, km, hm, hcm⟩ := member_any A1 A2 A3 n1 n2 n3 cp1 cp2 cp3 cf x.member W HR0.out
  have HCM := Lib.hid hcm
  have e0 := (bc0).cell 0
  have e1 := (bc0).cell 1
  have e2 := (bc0).cell 2
  have e3 := (bc0).cell 3
  have e4 := (bc0).cell 4
  have e5 := (bc0).cell 5
  have e6 := (bc0).cell 6
  have e7 := (bc0).cell 7
  simp at e0 e1 e2 e3 e4 e5 e6 e7
  have x0 := bx0.cell 0
  have x1 := bx0.cell 1
  simp at x0 x1
  have HC0 := Lib.hid bc0
  have HX0 := Lib.hid bx0
  clear hcm bc0 bx0 hr
  go_enter Try.func92, Try.ntmps92
  go_upto_region 1 with fail
  rw [hW.out]
  go_wp2_with fail
  refine HCM.out.mono ?_
  rintro e w2 ⟨rfl, hb2⟩
  have hs2 := hb2.size
  have hbz := (Below.refl w2.heap.size w2).alloc (Nat.le_refl _) (.cells #[.int .i64 m.coll, .int .i64 m.fund] 165)
  have hb3 := Below.past hb2 hbz hs2
  have HC3 := Lib.hid (HC0.out.past hb3)
  have HX3 := Lib.hid (HX0.out.past hb3)
  have hB3 := Below.past hB0 hb3 hB0.size
  obtain ⟨s, ks, hsc, hcs⟩ := sec_any A1 A2 A3 n1 n2 n3 cp1 cp2 cp3 cf x.asset _ (HR0.out.past hb3)
  have HCS := Lib.hid hcs
  clear hcs e0 e1 e2 e3 e4 e5 e6 e7 x0 x1 HCM
  obtain ⟨W3, hW3⟩ : ∃ W, Hid (w2.alloc (.cells #[.int .i64 m.coll, .int .i64 m.fund] 165) = W) := ⟨_, Lib.hid rfl⟩
  rw [hW3.out] at hb3 HC3 HX3 hB3 HCS hbz
  have bc3 := HC3.out
  have bx3 := HX3.out
  have e0 := (bc3).cell 0
  have e1 := (bc3).cell 1
  have e2 := (bc3).cell 2
  have e3 := (bc3).cell 3
  have e4 := (bc3).cell 4
  have e5 := (bc3).cell 5
  have e6 := (bc3).cell 6
  have e7 := (bc3).cell 7
  simp at e0 e1 e2 e3 e4 e5 e6 e7
  have x1 := bx3.cell 1
  simp at x1
  clear bc3 bx3 hbz
  go_upto_region 2 with fail
  rw [hW3.out]
  rcases hm with ⟨h1, h2, rfl, _⟩ | ⟨h1, rfl, _⟩
  · by_cases ha : x.asset = 0
    · have hk : Hid (legK n1 n2 x = 0) := Lib.hid (legK_yes (by omega) (by omega))
      have q : (x.asset == 0) = true := by simpa using ha
      have Ha := Lib.hid ha
      clear ha
      go_wp2_with fail
      go_ret
      exact ⟨by rw [hk.out]; rfl, hB3⟩
    · have q : (x.asset == 0) = false := by simpa using ha
      have Ha := Lib.hid ha
      clear ha
      go_wp2_with fail
      refine HCS.out.mono ?_
      rintro e w4 ⟨rfl, hb4⟩
      have hB4 := Below.past hB3 hb4 hB3.size
      have hk : Hid (legK n1 n2 x = ks) := Lib.hid (by
        rcases hsc with ⟨a1, a2, rfl, _⟩ | ⟨a1, rfl, _⟩
        · exact legK_yes (by omega) (by omega)
        · exact legK_sec (by omega) (by have := Ha.out; omega))
      clear hsc
      go_wp2_with fail
      go_ret
      exact ⟨by rw [hk.out]; rfl, hB4.alloc hB4.size _⟩
  · have hk : Hid (legK n1 n2 x = 9) := Lib.hid (legK_no h1)
    go_wp2_with fail
    go_ret
    exact ⟨by rw [hk.out]; rfl, hB3⟩
end Go.Proofs.Ytfnhffcjhdeleaa
