import Derived.Test.YtelbolhckhdioaaRgI
namespace Go.Proofs.Ytelbolhckhdioaa
open Go.RowKit

/-! ### Copy of a register -/
section
variable {g gt gu base : Nat} {B1 : Option Addr} {n1 d1 : Nat} {B2 : Option Addr} {n2 d2 : Nat} {B3 : Option Addr} {n3 d3 : Nat} {cf : Conf} {vt vu : Value} {ac : Int} {S : List TRow} {U : List URow}
def CopyRPost (base : Nat) (B1 : Option Addr) (n1 d1 : Nat) (B2 : Option Addr) (n2 d2 : Nat) (B3 : Option Addr) (n3 d3 : Nat) (cf : Conf) (ac : Int) (S : List TRow) (U : List URow) (w : World) (e : Ending) (w' : World) : Prop :=
  ∃ g gt gu vt vu, e = .returned (.pointer (some ⟨g, 0, none⟩)) ∧ RgsV w' g gt gu base B1 n1 d1 B2 n2 d2 B3 n3 d3 cf vt vu ac S U ∧ (w.heap.size ≤ g ∧ w.heap.size ≤ gt ∧ w.heap.size ≤ gu ∧ (∀ k, vt.ownBlock = some k → w.heap.size ≤ k) ∧ (∀ k, vu.ownBlock = some k → w.heap.size ≤ k)) ∧ Below w.heap.size w w'
set_option maxHeartbeats 8000000 in
set_option maxRecDepth 100000 in
theorem copyR_any (w : World) (hx : RgsV w g gt gu base B1 n1 d1 B2 n2 d2 B3 n3 d3 cf vt vu ac S U) (hbase : base ≤ w.heap.size) :
    Calls Try.prog 50 #[.pointer (some ⟨g, 0, none⟩)] w (CopyRPost base B1 n1 d1 B2 n2 d2 B3 n3 d3 cf ac S U w) := by
  have hba := (Below.refl w.heap.size w).alloc (Nat.le_refl _) (.cells #[.slice B1 n1 d1, .slice B2 n2 d2, .slice B3 n3 d3, .int .i64 cf.line, .int .i64 cf.capital, .int .i64 cf.lead, .int .i64 cf.trades, .int .i64 cf.bids, .pointer (some ⟨gt, 0, none⟩), .pointer (some ⟨gu, 0, none⟩), .int .i64 ac] 149)
  have bx0 := Blk.new w 149 #[.slice B1 n1 d1, .slice B2 n2 d2, .slice B3 n3 d3, .int .i64 cf.line, .int .i64 cf.capital, .int .i64 cf.lead, .int .i64 cf.trades, .int .i64 cf.bids, .pointer (some ⟨gt, 0, none⟩), .pointer (some ⟨gu, 0, none⟩), .int .i64 ac] w.heap.size rfl
  obtain ⟨W, hW⟩ : ∃ W, Hid (w.alloc (.cells #[.slice B1 n1 d1, .slice B2 n2 d2, .slice B3 n3 d3, .int .i64 cf.line, .int .i64 cf.capital, .int .i64 cf.lead, .int .i64 cf.trades, .int .i64 cf.bids, .pointer (some ⟨gt, 0, none⟩), .pointer (some ⟨gu, 0, none⟩), .int .i64 ac] 149) = W) := ⟨_, Lib.hid rfl⟩
  obtain ⟨xb, hxb⟩ : ∃ xb, Hid (w.heap.size = xb) := ⟨_, Lib.hid rfl⟩
  have hx0 := hx.past hba
  have hbk := hx.blk
  have p0 := (hbk).cell 0
  have p1 := (hbk).cell 1
  have p2 := (hbk).cell 2
  have p3 := (hbk).cell 3
  have p4 := (hbk).cell 4
  have p5 := (hbk).cell 5
  have p6 := (hbk).cell 6
  have p7 := (hbk).cell 7
  have p8 := (hbk).cell 8
  have p9 := (hbk).cell 9
  have p10 := (hbk).cell 10
  simp at p0 p1 p2 p3 p4 p5 p6 p7 p8 p9 p10
  rw [hW.out] at hba bx0 hx0
  rw [hxb.out] at bx0
  have hdr := Below.drew (Below.refl W.heap.size W)
  have HX := Lib.hid (hx0.past hdr)
  have HB := Lib.hid hba.drew
  have HXB := Lib.hid (bx0.past hdr)
  have HCT := Lib.hid (TTbR.copyT_any gt base cf.trades vt S W.drew HX.out.tab)
  unfold TTbR.CopyTPost at HCT
  have hxg : xb ≠ g := by have := hx.blk.lt; have := hxb.out; omega
  clear hx hx0 hba bx0 hdr hbk
  go_enter Try.func50, Try.ntmps50
  go_upto_region 4 with fail
  rw [hW.out, hxb.out]
  clear p0 p1 p2 p3 p4 p5 p6 p7 p8 p9 p10
  have hS0 : W.drew.cell? ⟨g, 8, none⟩ = some (.pointer (some ⟨gt, 0, none⟩)) ∧ W.drew.cell? ⟨g, 9, none⟩ = some (.pointer (some ⟨gu, 0, none⟩)) := ⟨by simpa using HX.out.blk.cell 8, by simpa using HX.out.blk.cell 9⟩
  refine wp_region_held_drew (S := fun w' => w'.cell? ⟨g, 8, none⟩ = some (.pointer (some ⟨gt, 0, none⟩)) ∧ w'.cell? ⟨g, 9, none⟩ = some (.pointer (some ⟨gu, 0, none⟩))) (by kernel_rfl) hS0 (fun hHeld => ?_)
  clear hS0
  refine wpAnyH_take (i := 0) (v := ?_) rfl (by kernel_rfl) (by kernel_rfl) (by kernel_rfl) (fun _ _ _ h => h) (Or.inl ⟨by rfl, ?_⟩) (by assumption) ?_
  rotate_left
  · (intro w' hSw; (try dsimp only at hSw); first | (go_simp; done) | (go_simp; with_reducible rfl))
  try simp only [Act.put, List.getElem_toArray, List.getElem_cons_zero, List.getElem_cons_succ, List.setIfInBounds_toArray, List.set_cons_zero, List.set_cons_succ]
  refine wpAnyH_take (i := 1) (v := ?_) rfl (by kernel_rfl) (by kernel_rfl) (by kernel_rfl) (fun _ _ _ h => h) (Or.inl ⟨by rfl, ?_⟩) (by assumption) ?_
  rotate_left
  · (intro w' hSw; (try dsimp only at hSw); first | (go_simp; done) | (go_simp; with_reducible rfl))
  try simp only [Act.put, List.getElem_toArray, List.getElem_cons_zero, List.getElem_cons_succ, List.setIfInBounds_toArray, List.set_cons_zero, List.set_cons_succ]
  refine wpAnyH_take (i := 2) (v := ?_) rfl (by kernel_rfl) (by kernel_rfl) (by kernel_rfl) (fun _ _ _ h => h) (Or.inl ⟨by rfl, ?_⟩) (by assumption) ?_
  rotate_left
  · (intro w' hSw; (try dsimp only at hSw); first | (go_simp; done) | (go_simp; with_reducible rfl))
  try simp only [Act.put, List.getElem_toArray, List.getElem_cons_zero, List.getElem_cons_succ, List.setIfInBounds_toArray, List.set_cons_zero, List.set_cons_succ]
  refine wpAnyH_take (i := 3) (v := ?_) rfl (by kernel_rfl) (by kernel_rfl) (by kernel_rfl) (fun _ _ _ h => h) (Or.inl ⟨by rfl, ?_⟩) (by assumption) ?_
  rotate_left
  · (intro w' hSw; (try dsimp only at hSw); first | (go_simp; done) | (go_simp; with_reducible rfl))
  try simp only [Act.put, List.getElem_toArray, List.getElem_cons_zero, List.getElem_cons_succ, List.setIfInBounds_toArray, List.set_cons_zero, List.set_cons_succ]
  refine wpAnyH_take (i := 5) (v := ?_) rfl (by kernel_rfl) (by kernel_rfl) (by kernel_rfl) (fun _ _ _ h => h) (Or.inl ⟨by rfl, ?_⟩) (by assumption) ?_
  rotate_left
  · (intro w' hSw; (try dsimp only at hSw); first | (go_simp; done) | (go_simp; with_reducible rfl))
  try simp only [Act.put, List.getElem_toArray, List.getElem_cons_zero, List.getElem_cons_succ, List.setIfInBounds_toArray, List.set_cons_zero, List.set_cons_succ]
  refine wpAnyH_take (i := 6) (v := ?_) rfl (by kernel_rfl) (by kernel_rfl) (by kernel_rfl) (fun _ _ _ h => h) (Or.inl ⟨by rfl, ?_⟩) (by assumption) ?_
  rotate_left
  · (intro w' hSw; (try dsimp only at hSw); first | (go_simp; done) | (go_simp; with_reducible rfl))
  try simp only [Act.put, List.getElem_toArray, List.getElem_cons_zero, List.getElem_cons_succ, List.setIfInBounds_toArray, List.set_cons_zero, List.set_cons_succ]
  refine wpAnyH_take (i := 7) (v := ?_) rfl (by kernel_rfl) (by kernel_rfl) (by kernel_rfl) (fun _ _ _ h => h) (Or.inl ⟨by rfl, ?_⟩) (by assumption) ?_
  rotate_left
  · (intro w' hSw; (try dsimp only at hSw); first | (go_simp; done) | (go_simp; with_reducible rfl))
  try simp only [Act.put, List.getElem_toArray, List.getElem_cons_zero, List.getElem_cons_succ, List.setIfInBounds_toArray, List.set_cons_zero, List.set_cons_succ]
  refine wpAnyH_take (i := 8) (v := ?_) rfl (by kernel_rfl) (by kernel_rfl) (by kernel_rfl) (fun _ _ _ h => h) (Or.inl ⟨by rfl, ?_⟩) (by assumption) ?_
  rotate_left
  · (intro w' hSw; (try dsimp only at hSw); first | (go_simp; done) | (go_simp; with_reducible rfl))
  try simp only [Act.put, List.getElem_toArray, List.getElem_cons_zero, List.getElem_cons_succ, List.setIfInBounds_toArray, List.set_cons_zero, List.set_cons_succ]
  refine wpAnyH_ready (rs := [4]) (by kernel_rfl) (by simp) ?_
  refine AllReadyH.cons rfl (fun K hK => ?_) AllReadyH.nil
  go_simp
  go_at_call 105
  refine HCT.out.mono ?_
  rintro e w1 ⟨g2, v2, rfl, hg2, ht2, hb1⟩
  have HX1 := Lib.hid (HX.out.past hb1)
  have HXB1 := Lib.hid (HXB.out.past hb1)
  have HT1 := Lib.hid ht2
  have HB1 := Lib.hid (Below.past HB.out hb1 HB.out.size)
  have hs0 := HB.out.size
  have hg2' : w.heap.size ≤ g2 := Nat.le_trans hs0 hg2
  have HCU := Lib.hid (TTbI.copyT_any gu base (cf.trades * (n3 : Nat)) vu U w1 HX1.out.use)
  unfold TTbI.CopyTPost at HCU
  clear hb1 ht2 HCT hHeld hg2
  refine hK.out _ _ (⟨by simpa using HX1.out.blk.cell 8, by simpa using HX1.out.blk.cell 9⟩) (fun hHeld => ?_)
  try simp only [Act.put, List.getElem_toArray, List.getElem_cons_zero, List.getElem_cons_succ, List.setIfInBounds_toArray, List.set_cons_zero, List.set_cons_succ]
  refine wpAnyH_ready (rs := [9]) (by kernel_rfl) (by simp) ?_
  refine AllReadyH.cons rfl (fun K hK => ?_) AllReadyH.nil
  go_simp
  go_at_call 106
  refine HCU.out.mono ?_
  rintro e w2 ⟨g3, v3, rfl, hg3, ht3, hb2⟩
  have HX2 := Lib.hid (HX1.out.past hb2)
  have HXB2 := Lib.hid (HXB1.out.past hb2)
  have HT2 := Lib.hid (HT1.out.past hb2)
  have HU2 := Lib.hid ht3
  have HB2 := Lib.hid (Below.past HB1.out hb2 HB1.out.size)
  have hs1 := HB1.out.size
  have hg3' : w.heap.size ≤ g3 := Nat.le_trans hs1 hg3
  clear hb2 ht3 HCU hHeld hg3
  refine hK.out _ _ (⟨by simpa using HX2.out.blk.cell 8, by simpa using HX2.out.blk.cell 9⟩) (fun hHeld => ?_)
  try simp only [Act.put, List.getElem_toArray, List.getElem_cons_zero, List.getElem_cons_succ, List.setIfInBounds_toArray, List.set_cons_zero, List.set_cons_succ]
  refine wpAnyH_take (i := 10) (v := ?_) rfl (by kernel_rfl) (by kernel_rfl) (by kernel_rfl) (fun _ _ _ h => h) (Or.inl ⟨by rfl, ?_⟩) (by assumption) ?_
  rotate_left
  · (intro w' hSw; (try dsimp only at hSw); first | (go_simp; done) | (go_simp; with_reducible rfl))
  try simp only [Act.put, List.getElem_toArray, List.getElem_cons_zero, List.getElem_cons_succ, List.setIfInBounds_toArray, List.set_cons_zero, List.set_cons_succ]
  have x8 := HXB2.out.cell 8
  have x9 := HXB2.out.cell 9
  have f8 := HXB2.out.frozen 8
  have f9 := HXB2.out.frozen 9
  simp at x8 x9
  have HFIN : Hid (CopyRPost base B1 n1 d1 B2 n2 d2 B3 n3 d3 cf ac S U w (.returned (.pointer (some ⟨xb, 0, none⟩))) ((w2.setCell ⟨xb, 8, none⟩ (.pointer (some ⟨g2, 0, none⟩))).setCell ⟨xb, 9, none⟩ (.pointer (some ⟨g3, 0, none⟩)))) := Lib.hid (by
    have hxw : w.heap.size ≤ xb := by have := hxb.out; omega
    have far : ∀ {b0 : Nat} {e : TypeId} {sz n : Nat} {v : Value} {xs : List Value}, w2.ownsRow b0 e sz v n xs → e ≠ 149 → ((w2.setCell ⟨xb, 8, none⟩ (.pointer (some ⟨g2, 0, none⟩))).setCell ⟨xb, 9, none⟩ (.pointer (some ⟨g3, 0, none⟩))).ownsRow b0 e sz v n xs := fun h h1 => by
      have hne := own_blk_ne h HXB2.out h1
      exact own_far (p := ⟨xb, 9, none⟩) (own_far (p := ⟨xb, 8, none⟩) h hne _) hne _
    have farb : ∀ {k : Nat} {t : TypeId} {arr : Array Value}, Blk w2 k t arr → t ≠ 149 → Blk ((w2.setCell ⟨xb, 8, none⟩ (.pointer (some ⟨g2, 0, none⟩))).setCell ⟨xb, 9, none⟩ (.pointer (some ⟨g3, 0, none⟩))) k t arr := fun h h1 => by
      have hne := blk_neZ h HXB2.out h1
      exact (h.far (p := ⟨xb, 8, none⟩) hne _).far (p := ⟨xb, 9, none⟩) hne _
    refine ⟨xb, g2, g3, v2, v3, rfl, ⟨(HXB2.out.put 8 _).put 9 _, ⟨HT2.out.form, farb HT2.out.blk (by decide), far (own_monoZ HT2.out.row (Nat.le_trans hbase hs0)) (by decide), HT2.out.ris, HT2.out.len, HT2.out.rm⟩, ⟨HU2.out.form, farb HU2.out.blk (by decide), far (own_monoZ HU2.out.row (Nat.le_trans hbase hs1)) (by decide), HU2.out.ris, HU2.out.len, HU2.out.rm⟩, ⟨far HX2.out.cfo.m (by decide), far HX2.out.cfo.s (by decide), far HX2.out.cfo.c (by decide), HX2.out.cfo.hm, HX2.out.cfo.hs, HX2.out.cfo.hc⟩, Nat.le_trans hbase hxw, Nat.le_trans hbase hg2', Nat.le_trans hbase hg3'⟩, ⟨hxw, hg2', hg3', fun k e => Nat.le_trans hs0 (HT2.out.row.lt k e).1, fun k e => Nat.le_trans hs1 (HU2.out.row.lt k e).1⟩, ?_⟩
    exact (HB2.out.setCell (p := ⟨xb, 8, none⟩) hxw _).setCell (p := ⟨xb, 9, none⟩) hxw _)
  refine wpAnyH_ready (rs := [11]) (by kernel_rfl) (by simp) ?_
  refine AllReadyH.cons rfl (fun K hK => ?_) AllReadyH.nil
  go_simp
  have hg1 := HX2.out.blk.far (p := ⟨xb, 8, none⟩) (fun e => hxg e.symm) (.pointer (some ⟨g2, 0, none⟩))
  have hxb1 := HXB2.out.put 8 (.pointer (some ⟨g2, 0, none⟩))
  have HG1 := Lib.hid hg1
  have HG2 := Lib.hid (hg1.far (p := ⟨xb, 9, none⟩) (fun e => hxg e.symm) (.pointer (some ⟨g3, 0, none⟩)))
  clear hHeld
  refine hK.out _ _ ⟨by simpa using HG1.out.cell 8, by simpa using HG1.out.cell 9⟩ (fun hHeld => ?_)
  clear hK
  refine wpAnyH_take (i := 12) (v := ?_) rfl (by kernel_rfl) (by kernel_rfl) (by kernel_rfl) (fun _ _ _ h => h) (Or.inl ⟨by rfl, ?_⟩) (by assumption) ?_
  rotate_left
  · (intro w' hSw; (try dsimp only at hSw); first | (go_simp; done) | (go_simp; with_reducible rfl))
  try simp only [Act.put, List.getElem_toArray, List.getElem_cons_zero, List.getElem_cons_succ, List.setIfInBounds_toArray, List.set_cons_zero, List.set_cons_succ]
  have y9 := hxb1.cell 9
  have fy9 := hxb1.frozen 9
  simp at y9
  clear hg1 hxb1 x8 x9 f8 f9
  refine wpAnyH_ready (rs := [13]) (by kernel_rfl) (by simp) ?_
  refine AllReadyH.cons rfl (fun K hK => ?_) AllReadyH.nil
  go_simp
  clear hHeld
  refine hK.out _ _ ⟨by simpa using HG2.out.cell 8, by simpa using HG2.out.cell 9⟩ (fun hHeld => ?_)
  clear hK
  refine wpAnyH_done (by kernel_rfl) ?_ _
  clear hHeld y9 fy9
  go_wp2_with fail
  go_ret
  exact HFIN.out
end
theorem copyR_nil (w : World) : Calls Try.prog 50 #[.pointer none] w fun e w' => e = .returned (.pointer none) ∧ w = w' := by
  go_enter Try.func50, Try.ntmps50
  go_wp2_with fail
  go_ret
  exact ⟨rfl, rfl⟩
end Go.Proofs.Ytelbolhckhdioaa
