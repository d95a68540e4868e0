import Derived.Test.YtfnhffcjhdeleaaBidB
import Derived.Test.YtfnhffcjhdeleaaConfD
namespace Go.Proofs.Ytfnhffcjhdeleaa
open Go.RowKit

/-! ### A box of bids in memory -/
theorem bidInfo : (Try.prog.info? 103).map (fun i => (i.zero, i.size, i.bytes)) = some (some (.agg #[.int .i64 0, .int .i64 0, .int .i64 0, .int .i64 0, .int .i64 0]), 5, 40) := by kernel_rfl
/-- The cells of a box. -/
def boxC (cf : Conf) (B1 : Option Addr) (n1 d1 : Nat) (B2 : Option Addr) (n2 d2 : Nat) (B3 : Option Addr) (n3 d3 : Nat) (v : Value) : Array Value := #[.slice B1 n1 d1, .slice B2 n2 d2, .slice B3 n3 d3, .int .i64 cf.line, .int .i64 cf.capital, .int .i64 cf.lead, .int .i64 cf.trades, .int .i64 cf.bids, v]
structure BoxV (w : World) (g base : Nat) (B1 : Option Addr) (n1 d1 : Nat) (B2 : Option Addr) (n2 d2 : Nat) (B3 : Option Addr) (n3 d3 : Nat) (cf : Conf) (v : Value) (l : List BidV) : Prop where
  form : ∃ A c, v = .slice A l.length c
  blk : Blk w g 174 #[.slice B1 n1 d1, .slice B2 n2 d2, .slice B3 n3 d3, .int .i64 cf.line, .int .i64 cf.capital, .int .i64 cf.lead, .int .i64 cf.trades, .int .i64 cf.bids, v]
  row : w.ownsRow base 103 5 v l.length (l.flatMap BidV.cells)
  own : CfOwn w base B1 n1 d1 B2 n2 d2 B3 n3 d3 cf
theorem CfOwn.mono {w : World} {B B' : Nat} {B1 : Option Addr} {n1 d1 : Nat} {B2 : Option Addr} {n2 d2 : Nat} {B3 : Option Addr} {n3 d3 : Nat} {cf : Conf} (h : CfOwn w B B1 n1 d1 B2 n2 d2 B3 n3 d3 cf) (hb : B' ≤ B) : CfOwn w B' B1 n1 d1 B2 n2 d2 B3 n3 d3 cf :=
  ⟨own_mono' h.m hb, own_mono' h.s hb, own_mono' h.c hb, h.hm, h.hs, h.hc⟩
theorem BoxV.past {w w' : World} {g base : Nat} {B1 : Option Addr} {n1 d1 : Nat} {B2 : Option Addr} {n2 d2 : Nat} {B3 : Option Addr} {n3 d3 : Nat} {cf : Conf} {v : Value} {l : List BidV} (h : BoxV w g base B1 n1 d1 B2 n2 d2 B3 n3 d3 cf v l) (hb : Below w.heap.size w w') : BoxV w' g base B1 n1 d1 B2 n2 d2 B3 n3 d3 cf v l :=
  ⟨h.form, h.blk.past hb, own_past' h.row hb, h.own.past hb⟩
/-- Nothing that was there is touched, but block g and the row of v. -/
structure OnlyB (g : Nat) (v : Value) (w w' : World) : Prop where
  os : w'.os = w.os
  tape : w'.tape = w.tape
  output : w'.output = w.output
  size : w.heap.size ≤ w'.heap.size
  block : ∀ k, k < w.heap.size → k ≠ g → v.ownBlock ≠ some k → w'.heap[k]? = w.heap[k]?
theorem OnlyB.of_below {g : Nat} {v : Value} {w w' : World} (h : Below w.heap.size w w') : OnlyB g v w w' := ⟨h.os, h.tape, h.output, h.size, fun k hk _ _ => h.block k hk⟩
theorem OnlyB.below {g : Nat} {v : Value} {a w w' : World} (h : OnlyB g v a w) (hb : Below w.heap.size w w') : OnlyB g v a w' :=
  ⟨hb.os.trans h.os, hb.tape.trans h.tape, hb.output.trans h.output, Nat.le_trans h.size hb.size, fun k hk h1 h2 => (hb.block k (Nat.lt_of_lt_of_le hk h.size)).trans (h.block k hk h1 h2)⟩
theorem OnlyB.grown {g : Nat} {v : Value} {a w w' : World} (h : OnlyB g v a w) (hg : w.grownBy w' v.ownBlock) : OnlyB g v a w' :=
  ⟨hg.os.trans h.os, hg.tape.trans h.tape, hg.output.trans h.output, Nat.le_trans h.size hg.size, fun k hk h1 h2 => (hg.block k (Nat.lt_of_lt_of_le hk h.size) (fun e => h2 e.symm)).trans (h.block k hk h1 h2)⟩
theorem OnlyB.setCell {g : Nat} {v : Value} {a w : World} (h : OnlyB g v a w) (p : Addr) (hp : p.block = g) (u : Value) : OnlyB g v a (w.setCell p u) :=
  ⟨h.os, h.tape, h.output, by have := h.size; simpa [World.setCell] using this, fun k hk h1 h2 => (Below.heap_setCell w p u k (by rw [hp]; exact h1)).trans (h.block k hk h1 h2)⟩
theorem OnlyB.frame {g B : Nat} {v : Value} {w w' : World} (h : OnlyB g v w w') (hg : B ≤ g) (hw : B ≤ w.heap.size) (hv : ∀ k, v.ownBlock = some k → B ≤ k) : Below B w w' :=
  ⟨h.os, h.tape, h.output, h.size, fun k hk => h.block k (by omega) (by omega) (fun e => by have := hv k e; omega)⟩

/-! ### New -/
set_option maxRecDepth 100000 in
set_option maxHeartbeats 1000000 in
theorem newB_no (A1 A2 A3 : Option Addr) (n1 n2 n3 cp1 cp2 cp3 : Nat) (cf : Conf) (w : World) (hr : CfRd w A1 n1 A2 n2 A3 n3 cf) (h : checkC cf ≠ 0) : Calls Try.prog 56 #[.agg #[.slice A1 n1 cp1, .slice A2 n2 cp2, .slice A3 n3 cp3, .int .i64 cf.line, .int .i64 cf.capital, .int .i64 cf.lead, .int .i64 cf.trades, .int .i64 cf.bids]] w fun e w' => e = .returned (.tuple #[.pointer none, .int .i64 (checkC cf)]) ∧ Below w.heap.size w w' := by
  obtain ⟨k, hk⟩ : ∃ k, Hid (checkC cf = k) := ⟨_, Lib.hid rfl⟩
  have hB0 := (Below.refl w.heap.size w).alloc (Nat.le_refl _) (.cells #[.slice A1 n1 cp1, .slice A2 n2 cp2, .slice A3 n3 cp3, .int .i64 cf.line, .int .i64 cf.capital, .int .i64 cf.lead, .int .i64 cf.trades, .int .i64 cf.bids] 89)
  have HC := Lib.hid (checkC_any A1 A2 A3 n1 n2 n3 cp1 cp2 cp3 cf _ (hr.past hB0))
  rw [hk.out] at HC h ⊢
  have q : (k != 0) = true := by simpa using h
  clear h hr
  go_enter Try.func56, Try.ntmps56
  go_wp2_with fail
  refine HC.out.mono ?_
  rintro e w1 ⟨rfl, hb1⟩
  have hB1 := Below.past hB0 hb1 hB0.size
  go_wp2_with fail
  refine bodyPost_ret (v := .tuple #[.pointer none, .int .i64 k]) (by simp [results, Try.results56, go_sem]) rfl ⟨rfl, hB1⟩
set_option maxRecDepth 100000 in
set_option maxHeartbeats 1000000 in
theorem newB_yes (A1 A2 A3 : Option Addr) (n1 n2 n3 cp1 cp2 cp3 : Nat) (cf : Conf) (w : World) (hr : CfRd w A1 n1 A2 n2 A3 n3 cf) (h : checkC cf = 0) : Calls Try.prog 56 #[.agg #[.slice A1 n1 cp1, .slice A2 n2 cp2, .slice A3 n3 cp3, .int .i64 cf.line, .int .i64 cf.capital, .int .i64 cf.lead, .int .i64 cf.trades, .int .i64 cf.bids]] w fun e w' => ∃ g B1 d1 B2 d2 B3 d3, e = .returned (.tuple #[.pointer (some ⟨g, 0, none⟩), .int .i64 0]) ∧ w.heap.size ≤ g ∧ BoxV w' g w.heap.size B1 n1 d1 B2 n2 d2 B3 n3 d3 cf (.slice none 0 0) [] ∧ Below w.heap.size w w' := by
  have hB0 := (Below.refl w.heap.size w).alloc (Nat.le_refl _) (.cells #[.slice A1 n1 cp1, .slice A2 n2 cp2, .slice A3 n3 cp3, .int .i64 cf.line, .int .i64 cf.capital, .int .i64 cf.lead, .int .i64 cf.trades, .int .i64 cf.bids] 89)
  have bx0 := Blk.new w 89 #[.slice A1 n1 cp1, .slice A2 n2 cp2, .slice A3 n3 cp3, .int .i64 cf.line, .int .i64 cf.capital, .int .i64 cf.lead, .int .i64 cf.trades, .int .i64 cf.bids] w.heap.size rfl
  have HC := Lib.hid (checkC_any A1 A2 A3 n1 n2 n3 cp1 cp2 cp3 cf _ (hr.past hB0))
  rw [h] at HC
  have HR0 := Lib.hid (hr.past hB0)
  clear h hr
  go_enter Try.func56, Try.ntmps56
  go_wp2_with fail
  refine HC.out.mono ?_
  rintro e w1 ⟨rfl, hb1⟩
  have hB1 := Below.past hB0 hb1 hB0.size
  have HCp := Lib.hid (confCopy_any A1 A2 A3 n1 n2 n3 cp1 cp2 cp3 cf w1 (HR0.out.past hb1))
  have bx1 := bx0.past hb1
  have e0 := bx1.cell 0
  have e1 := bx1.cell 1
  have e2 := bx1.cell 2
  have e3 := bx1.cell 3
  have e4 := bx1.cell 4
  have e5 := bx1.cell 5
  have e6 := bx1.cell 6
  have e7 := bx1.cell 7
  simp at e0 e1 e2 e3 e4 e5 e6 e7
  have hs1 := hB1.size
  clear bx0 bx1 hb1 hB0
  go_wp2_with fail
  refine HCp.out.mono ?_
  rintro e w2 ⟨B1, B2, B3, d1, d2, d3, rfl, hown, hb2⟩
  have hbz := (Below.refl w2.heap.size w2).alloc (Nat.le_refl _) (.cells #[.slice B1 n1 d1, .slice B2 n2 d2, .slice B3 n3 d3, .int .i64 cf.line, .int .i64 cf.capital, .int .i64 cf.lead, .int .i64 cf.trades, .int .i64 cf.bids, .slice none 0 0] 174)
  have bz := Blk.new w2 174 #[.slice B1 n1 d1, .slice B2 n2 d2, .slice B3 n3 d3, .int .i64 cf.line, .int .i64 cf.capital, .int .i64 cf.lead, .int .i64 cf.trades, .int .i64 cf.bids, .slice none 0 0] w2.heap.size rfl
  have hs2 := hb2.size
  have HV : Hid (BoxV (w2.alloc (.cells #[.slice B1 n1 d1, .slice B2 n2 d2, .slice B3 n3 d3, .int .i64 cf.line, .int .i64 cf.capital, .int .i64 cf.lead, .int .i64 cf.trades, .int .i64 cf.bids, .slice none 0 0] 174)) w2.heap.size w.heap.size B1 n1 d1 B2 n2 d2 B3 n3 d3 cf (.slice none 0 0) []) :=
    Lib.hid ⟨⟨none, 0, rfl⟩, bz, World.ownsRow_nil _ _ _ _, (hown.past hbz).mono (by omega)⟩
  have hB3 := Below.past (Below.past hB1 hb2 hs1) hbz (by omega)
  clear hown hb2 hbz bz
  go_wp2_with fail
  refine bodyPost_ret (v := .tuple #[.pointer (some ⟨w2.heap.size, 0, none⟩), .int .i64 0]) (by simp [results, Try.results56, go_sem]) rfl ⟨w2.heap.size, B1, d1, B2, d2, B3, d3, rfl, by omega, HV.out, hB3⟩
end Go.Proofs.Ytfnhffcjhdeleaa
