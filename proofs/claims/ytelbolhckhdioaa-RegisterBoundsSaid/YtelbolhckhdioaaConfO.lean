import Derived.Test.YtelbolhckhdioaaConfN
namespace Go.Proofs.Ytelbolhckhdioaa
open Go.RowKit

/-- What a copy of a config is: three rows of its own. -/
structure CfOwn (w : World) (B : Nat) (B1 : Option Addr) (n1 d1 : Nat) (B2 : Option Addr) (n2 d2 : Nat) (B3 : Option Addr) (n3 d3 : Nat) (cf : Conf) : Prop where
  m : w.ownsRow B 135 2 (.slice B1 n1 d1) n1 (cf.members.flatMap Memb.cells)
  s : w.ownsRow B 137 2 (.slice B2 n2 d2) n2 (cf.secs.flatMap Secu.cells)
  c : w.ownsRow B 139 4 (.slice B3 n3 d3) n3 (cf.cycles.flatMap Cyc.cells)
  hm : n1 ≤ 1000
  hs : n2 ≤ 1000
  hc : n3 ≤ 1000
theorem CfOwn.rd {w : World} {B : Nat} {B1 : Option Addr} {n1 d1 : Nat} {B2 : Option Addr} {n2 d2 : Nat} {B3 : Option Addr} {n3 d3 : Nat} {cf : Conf} (h : CfOwn w B B1 n1 d1 B2 n2 d2 B3 n3 d3 cf) : CfRd w B1 n1 B2 n2 B3 n3 cf :=
  ⟨Rd.of_own h.m, Rd.of_own h.s, Rd.of_own h.c, h.hm, h.hs, h.hc⟩
theorem Rd.none_zero {w : World} {B sz n : Nat} {xs : List Value} (h : Rd w B sz none n xs) : n = 0 := by
  rcases Nat.eq_zero_or_pos n with h0 | h0
  · exact h0
  · obtain ⟨b, off, e, _⟩ := h.2 h0
    cases e
theorem own_past' {w w' : World} {base : Nat} {e : TypeId} {size : Nat} {v : Value} {n : Nat} {xs : List Value} (h : w.ownsRow base e size v n xs) (hb : Below w.heap.size w w') : w'.ownsRow base e size v n xs := by
  refine ⟨h.1, ?_⟩
  rcases h.2 with h0 | ⟨g, cap, cur, rfl, hg, hh, h1⟩
  · exact .inl h0
  · refine .inr ⟨g, cap, cur, rfl, hg, ?_, h1⟩
    have hlt : g < w.heap.size := by
      rcases Nat.lt_or_ge g w.heap.size with hlt | hge
      · exact hlt
      · rw [Array.getElem?_eq_none hge] at hh; cases hh
    rw [hb.block g hlt]; exact hh
theorem own_mono' {w : World} {base base' : Nat} {e : TypeId} {size n : Nat} {v : Value} {xs : List Value} (h : w.ownsRow base e size v n xs) (hb : base' ≤ base) : w.ownsRow base' e size v n xs := by
  refine ⟨h.1, ?_⟩
  rcases h.2 with h0 | ⟨g, cap, cur, rfl, hg, h1⟩
  · exact .inl h0
  · exact .inr ⟨g, cap, cur, rfl, by omega, h1⟩
theorem CfOwn.past {w w' : World} {B : Nat} {B1 : Option Addr} {n1 d1 : Nat} {B2 : Option Addr} {n2 d2 : Nat} {B3 : Option Addr} {n3 d3 : Nat} {cf : Conf} (h : CfOwn w B B1 n1 d1 B2 n2 d2 B3 n3 d3 cf) (hb : Below w.heap.size w w') : CfOwn w' B B1 n1 d1 B2 n2 d2 B3 n3 d3 cf :=
  ⟨own_past' h.m hb, own_past' h.s hb, own_past' h.c hb, h.hm, h.hs, h.hc⟩

theorem undrew {W w1 : World} (h : Below W.drew.heap.size W.drew w1) : Below W.heap.size W w1 := ⟨h.os, h.tape, h.output, h.size, h.block⟩

/-- What stands behind the copying of the three lists. -/
def CopyCut (w : World) (n1 n2 n3 : Nat) (cf : Conf) (wc : World) : Prop :=
  ∃ B1 B2 B3 d1 d2 d3, CfOwn wc (w.heap.size + 2) B1 n1 d1 B2 n2 d2 B3 n3 d3 cf ∧ Blk wc w.heap.size 78 #[.slice B1 n1 d1, .slice B2 n2 d2, .slice B3 n3 d3, .int .i64 cf.line, .int .i64 cf.capital, .int .i64 cf.lead, .int .i64 cf.trades, .int .i64 cf.bids] ∧ Blk wc (w.heap.size + 1) 78 #[.slice none 0 0, .slice none 0 0, .slice none 0 0, .int .i64 0, .int .i64 0, .int .i64 0, .int .i64 0, .int .i64 0] ∧ Below w.heap.size w wc

theorem copyCut_of {w W w1 w2 w3 : World} {A1 A2 A3 B1 B2 B3 : Option Addr} {n1 n2 n3 cp1 cp2 cp3 d1 d2 d3 : Nat} {cf : Conf} (hsW : W.heap.size = w.heap.size + 2) (hB : Below w.heap.size w W) (hm : n1 ≤ 1000) (hs : n2 ≤ 1000) (hc : n3 ≤ 1000)
    (hx : Blk w3 w.heap.size 78 #[.slice A1 n1 cp1, .slice A2 n2 cp2, .slice A3 n3 cp3, .int .i64 cf.line, .int .i64 cf.capital, .int .i64 cf.lead, .int .i64 cf.trades, .int .i64 cf.bids])
    (hz : Blk W (w.heap.size + 1) 78 #[.slice none 0 0, .slice none 0 0, .slice none 0 0, .int .i64 0, .int .i64 0, .int .i64 0, .int .i64 0, .int .i64 0])
    (hb1 : Below W.heap.size W w1) (hb2 : Below w1.heap.size w1 w2) (hb3 : Below w2.heap.size w2 w3)
    (ho1 : w1.ownsRow W.heap.size 135 2 (.slice B1 n1 d1) n1 (cf.members.flatMap Memb.cells)) (ho2 : w2.ownsRow w1.heap.size 137 2 (.slice B2 n2 d2) n2 (cf.secs.flatMap Secu.cells)) (ho3 : w3.ownsRow w2.heap.size 139 4 (.slice B3 n3 d3) n3 (cf.cycles.flatMap Cyc.cells)) :
    CopyCut w n1 n2 n3 cf (((w3.setCell ⟨w.heap.size, 0, none⟩ (.slice B1 n1 d1)).setCell ⟨w.heap.size, 1, none⟩ (.slice B2 n2 d2)).setCell ⟨w.heap.size, 2, none⟩ (.slice B3 n3 d3)) := by
  have s1 := hb1.size
  have s2 := hb2.size
  have o1 := own_past' (own_past' (own_mono' ho1 (show w.heap.size + 2 ≤ _ by omega)) hb2) hb3
  have o2 := own_past' (own_mono' ho2 (show w.heap.size + 2 ≤ _ by omega)) hb3
  have o3 := own_mono' ho3 (show w.heap.size + 2 ≤ _ by omega)
  have hz3 := ((hz.past hb1).past hb2).past hb3
  have hB3 := Below.past (Below.past (Below.past hB hb1 hB.size) hb2 (by have := hB.size; omega)) hb3 (by have := hB.size; omega)
  refine ⟨B1, B2, B3, d1, d2, d3, ⟨?_, ?_, ?_, hm, hs, hc⟩, ?_, ?_, ?_⟩
  · exact ownsRow_setCell_below (ownsRow_setCell_below (ownsRow_setCell_below o1 (by show w.heap.size < _; omega) _) (by show w.heap.size < _; omega) _) (by show w.heap.size < _; omega) _
  · exact ownsRow_setCell_below (ownsRow_setCell_below (ownsRow_setCell_below o2 (by show w.heap.size < _; omega) _) (by show w.heap.size < _; omega) _) (by show w.heap.size < _; omega) _
  · exact ownsRow_setCell_below (ownsRow_setCell_below (ownsRow_setCell_below o3 (by show w.heap.size < _; omega) _) (by show w.heap.size < _; omega) _) (by show w.heap.size < _; omega) _
  · exact ((hx.put 0 (.slice B1 n1 d1)).put 1 (.slice B2 n2 d2)).put 2 (.slice B3 n3 d3)
  · exact ((hz3.far (p := ⟨w.heap.size, 0, none⟩) (by show w.heap.size + 1 ≠ w.heap.size; omega) _).far (p := ⟨w.heap.size, 1, none⟩) (by show w.heap.size + 1 ≠ w.heap.size; omega) _).far (p := ⟨w.heap.size, 2, none⟩) (by show w.heap.size + 1 ≠ w.heap.size; omega) _
  · exact ((hB3.setCell (p := ⟨w.heap.size, 0, none⟩) (Nat.le_refl _) _).setCell (p := ⟨w.heap.size, 1, none⟩) (Nat.le_refl _) _).setCell (p := ⟨w.heap.size, 2, none⟩) (Nat.le_refl _) _
theorem own_set8 {w : World} {base : Nat} {e : TypeId} {size : Nat} {v : Value} {n : Nat} {xs : List Value} (h : w.ownsRow base e size v n xs) {k : Nat} (hk : k < base) (u0 u1 u2 u3 u4 u5 u6 u7 : Value) :
    ((((((((w.setCell ⟨k, 0, none⟩ u0).setCell ⟨k, 1, none⟩ u1).setCell ⟨k, 2, none⟩ u2).setCell ⟨k, 3, none⟩ u3).setCell ⟨k, 4, none⟩ u4).setCell ⟨k, 5, none⟩ u5).setCell ⟨k, 6, none⟩ u6).setCell ⟨k, 7, none⟩ u7).ownsRow base e size v n xs :=
  ownsRow_setCell_below (ownsRow_setCell_below (ownsRow_setCell_below (ownsRow_setCell_below (ownsRow_setCell_below (ownsRow_setCell_below (ownsRow_setCell_below (ownsRow_setCell_below h hk _) hk _) hk _) hk _) hk _) hk _) hk _) hk _

set_option maxRecDepth 100000 in
set_option maxHeartbeats 4000000 in
theorem confCopy_any (A1 A2 A3 : Option Addr) (n1 n2 n3 cp1 cp2 cp3 : Nat) (cf : Conf) (w : World) (hr : CfRd w A1 n1 A2 n2 A3 n3 cf) :
    Calls Try.prog 92 #[.agg #[.slice A1 n1 cp1, .slice A2 n2 cp2, .slice A3 n3 cp3, .int .i64 cf.line, .int .i64 cf.capital, .int .i64 cf.lead, .int .i64 cf.trades, .int .i64 cf.bids]] w fun e w' => ∃ B1 B2 B3 d1 d2 d3, e = .returned (.agg #[.slice B1 n1 d1, .slice B2 n2 d2, .slice B3 n3 d3, .int .i64 cf.line, .int .i64 cf.capital, .int .i64 cf.lead, .int .i64 cf.trades, .int .i64 cf.bids]) ∧ CfOwn w' (w.heap.size + 2) B1 n1 d1 B2 n2 d2 B3 n3 d3 cf ∧ Below w.heap.size w w' := by
  have hB := ((Below.refl w.heap.size w).alloc (Nat.le_refl _) (.cells #[.slice A1 n1 cp1, .slice A2 n2 cp2, .slice A3 n3 cp3, .int .i64 cf.line, .int .i64 cf.capital, .int .i64 cf.lead, .int .i64 cf.trades, .int .i64 cf.bids] 78)).alloc (by simp) (.cells #[.slice none 0 0, .slice none 0 0, .slice none 0 0, .int .i64 0, .int .i64 0, .int .i64 0, .int .i64 0, .int .i64 0] 78)
  have bx := (Blk.new w 78 #[.slice A1 n1 cp1, .slice A2 n2 cp2, .slice A3 n3 cp3, .int .i64 cf.line, .int .i64 cf.capital, .int .i64 cf.lead, .int .i64 cf.trades, .int .i64 cf.bids] w.heap.size rfl).alloc (.cells #[.slice none 0 0, .slice none 0 0, .slice none 0 0, .int .i64 0, .int .i64 0, .int .i64 0, .int .i64 0, .int .i64 0] 78)
  have bz := Blk.new (w.alloc (.cells #[.slice A1 n1 cp1, .slice A2 n2 cp2, .slice A3 n3 cp3, .int .i64 cf.line, .int .i64 cf.capital, .int .i64 cf.lead, .int .i64 cf.trades, .int .i64 cf.bids] 78)) 78 #[.slice none 0 0, .slice none 0 0, .slice none 0 0, .int .i64 0, .int .i64 0, .int .i64 0, .int .i64 0, .int .i64 0] (w.heap.size + 1) (by simp)
  obtain ⟨W, hW⟩ : ∃ W, Hid ((w.alloc (.cells #[.slice A1 n1 cp1, .slice A2 n2 cp2, .slice A3 n3 cp3, .int .i64 cf.line, .int .i64 cf.capital, .int .i64 cf.lead, .int .i64 cf.trades, .int .i64 cf.bids] 78)).alloc (.cells #[.slice none 0 0, .slice none 0 0, .slice none 0 0, .int .i64 0, .int .i64 0, .int .i64 0, .int .i64 0, .int .i64 0] 78) = W) := ⟨_, Lib.hid rfl⟩
  have hsW : W.heap.size = w.heap.size + 2 := by rw [← hW.out]; simp
  rw [hW.out] at hB bx bz
  have HR := Lib.hid (hr.past hB)
  have z1 : A1 = none → n1 = 0 := fun e => by subst e; exact hr.m.none_zero
  have z2 : A2 = none → n2 = 0 := fun e => by subst e; exact hr.s.none_zero
  have z3 : A3 = none → n3 = 0 := fun e => by subst e; exact hr.c.none_zero
  have HX := Lib.hid bx
  have HZ := Lib.hid bz
  have HSW := Lib.hid hsW
  have HB := Lib.hid hB
  have e0 := bx.cell 0
  have e1 := bx.cell 1
  have e2 := bx.cell 2
  simp at e0 e1 e2
  have HZ1 := Lib.hid z1
  have HZ2 := Lib.hid z2
  have HZ3 := Lib.hid z3
  clear hr hB bx bz hsW z1 z2 z3
  go_enter Try.func92, Try.ntmps92
  go_upto_region 1 with fail
  rw [hW.out]
  go_cut [] (fun w' => CopyCut w n1 n2 n3 cf w')
  case first =>
    go_region_with (first
      | (go_at_call 125; refine (cloneM_any A1 n1 cp1 cf.members W.drew (HR.out.past (Below.refl _ _).drew).m HR.out.hm HZ1.out).mono ?_; rintro e w1 ⟨v1, rfl, ho1, hb1⟩; obtain ⟨B1, d1, rfl⟩ := own_form ho1; have bx1 : Blk w1 w.heap.size _ _ := HX.out.past (undrew hb1); have f0 := bx1.cell 0; have f1 := bx1.cell 1; have f2 := bx1.cell 2; simp at f0 f1 f2)
      | (go_at_call 126; refine (cloneS_any A2 n2 cp2 cf.secs w1 (HR.out.past (undrew hb1)).s HR.out.hs HZ2.out).mono ?_; rintro e w2 ⟨v2, rfl, ho2, hb2⟩; obtain ⟨B2, d2, rfl⟩ := own_form ho2; have bx2 := bx1.past hb2; have g0 := bx2.cell 0; have g1 := bx2.cell 1; have g2 := bx2.cell 2; simp at g0 g1 g2; have hb12 : Below W.heap.size W w2 := Below.past (undrew hb1) hb2 (undrew hb1).size)
      | (go_at_call 127; refine (cloneC_any A3 n3 cp3 cf.cycles w2 (HR.out.past hb12).c HR.out.hc HZ3.out).mono ?_; rintro e w3 ⟨v3, rfl, ho3, hb3⟩; obtain ⟨B3, d3, rfl⟩ := own_form ho3; have bx3 := bx2.past hb3; have i0 := bx3.cell 0; have i1 := bx3.cell 1; have i2 := bx3.cell 2; have j0 := bx3.frozen 0; have j1 := bx3.frozen 1; have j2 := bx3.frozen 2; simp at i0 i1 i2))
    all_goals
      have HCC := Lib.hid (copyCut_of HSW.out HB.out HR.out.hm HR.out.hs HR.out.hc bx3 HZ.out (undrew hb1) hb2 hb3 ho1 ho2 ho3)
      clear ho1 ho2 ho3 hb1 hb2 hb3 hb12 bx1 bx2
      go_wp2_with fail
      go_meet
      exact HCC.out
  case rest =>
    obtain ⟨B1, B2, B3, d1, d2, d3, hown, bx, bz, hb⟩ := hcut
    have x0 := bx.cell 0
    have x1 := bx.cell 1
    have x2 := bx.cell 2
    have x3 := bx.cell 3
    have x4 := bx.cell 4
    have x5 := bx.cell 5
    have x6 := bx.cell 6
    have x7 := bx.cell 7
    have y0 := bz.cell 0
    have y1 := bz.cell 1
    have y2 := bz.cell 2
    have y3 := bz.cell 3
    have y4 := bz.cell 4
    have y5 := bz.cell 5
    have y6 := bz.cell 6
    have y7 := bz.cell 7
    simp at x0 x1 x2 x3 x4 x5 x6 x7 y0 y1 y2 y3 y4 y5 y6 y7
    have f0 := bz.frozen 0
    have f1 := bz.frozen 1
    have f2 := bz.frozen 2
    have f3 := bz.frozen 3
    have f4 := bz.frozen 4
    have f5 := bz.frozen 5
    have f6 := bz.frozen 6
    have f7 := bz.frozen 7
    have hzl := bz.lt
    have HO := Lib.hid hown
    have HBC := Lib.hid hb
    clear hown bx bz hb e0 e1 e2
    go_wp2_with fail
    refine bodyPost_ret (v := .agg #[.slice B1 n1 d1, .slice B2 n2 d2, .slice B3 n3 d3, .int .i64 cf.line, .int .i64 cf.capital, .int .i64 cf.lead, .int .i64 cf.trades, .int .i64 cf.bids]) (by simp [results, Try.results92, go_sem, y0, y1, y2, y3, y4, y5, y6, y7]) rfl ⟨B1, B2, B3, d1, d2, d3, rfl, ⟨own_set8 HO.out.m (by omega) _ _ _ _ _ _ _ _, own_set8 HO.out.s (by omega) _ _ _ _ _ _ _ _, own_set8 HO.out.c (by omega) _ _ _ _ _ _ _ _, HO.out.hm, HO.out.hs, HO.out.hc⟩, ?_⟩
    have hk : w.heap.size ≤ w.heap.size + 1 := by omega
    exact (((((((HBC.out.setCell (p := ⟨w.heap.size + 1, 0, none⟩) hk _).setCell (p := ⟨w.heap.size + 1, 1, none⟩) hk _).setCell (p := ⟨w.heap.size + 1, 2, none⟩) hk _).setCell (p := ⟨w.heap.size + 1, 3, none⟩) hk _).setCell (p := ⟨w.heap.size + 1, 4, none⟩) hk _).setCell (p := ⟨w.heap.size + 1, 5, none⟩) hk _).setCell (p := ⟨w.heap.size + 1, 6, none⟩) hk _).setCell (p := ⟨w.heap.size + 1, 7, none⟩) hk _
end Go.Proofs.Ytelbolhckhdioaa
