import Derived.Test.YtndhhnfhookeaaaBidI
namespace Go.Proofs.Ytndhhnfhookeaaa
open Go.RowKit

/-! ### A box that is none -/
set_option maxHeartbeats 1000000 in
theorem addB_nil (b : BidV) (w : World) : Calls Try.prog 48 #[.pointer none, .agg #[.int .i64 b.seq, .int .i64 b.mem, .int .i64 b.sec, .int .i64 b.qty, .int .i64 b.price]] w fun e w' => e = .returned (.tuple #[.int .i64 0, .int .i64 8]) ∧ Below w.heap.size w w' := by
  have hB0 := (Below.refl w.heap.size w).alloc (Nat.le_refl _) (.cells #[.int .i64 b.seq, .int .i64 b.mem, .int .i64 b.sec, .int .i64 b.qty, .int .i64 b.price] 90)
  go_enter Try.func48, Try.ntmps48
  go_wp2_with fail
  refine bodyPost_ret (v := .tuple #[.int .i64 0, .int .i64 8]) (by simp [results, Try.results48, go_sem]) rfl ⟨rfl, hB0⟩
set_option maxHeartbeats 1000000 in
theorem clearB_nil (w : World) : Calls Try.prog 54 #[.pointer none] w fun e w' => e = .returned (.int .i64 0) ∧ w = w' := by
  go_enter Try.func54, Try.ntmps54
  go_wp2_with fail
  go_ret
  exact ⟨rfl, rfl⟩
set_option maxHeartbeats 1000000 in
theorem copyB_nil (w : World) : Calls Try.prog 55 #[.pointer none] w fun e w' => e = .returned (.pointer none) ∧ w = w' := by
  go_enter Try.func55, Try.ntmps55
  go_wp2_with fail
  go_ret
  exact ⟨rfl, rfl⟩

/-! ### Clear, Copy -/
def ClearBPost (g base : Nat) (B1 : Option Addr) (n1 d1 : Nat) (B2 : Option Addr) (n2 d2 : Nat) (B3 : Option Addr) (n3 d3 : Nat) (cf : Conf) (n : Nat) (w : World) (e : Ending) (w' : World) : Prop :=
  e = .returned (.int .i64 (n : Nat)) ∧ BoxV w' g base B1 n1 d1 B2 n2 d2 B3 n3 d3 cf (.slice none 0 0) [] ∧ OnlyB g (.slice none 0 0) w w'
set_option maxHeartbeats 1000000 in
theorem clearB_any (g base : Nat) (B1 : Option Addr) (n1 d1 : Nat) (B2 : Option Addr) (n2 d2 : Nat) (B3 : Option Addr) (n3 d3 : Nat) (cf : Conf) (v : Value) (l : List BidV) (w : World) (hx : BoxV w g base B1 n1 d1 B2 n2 d2 B3 n3 d3 cf v l) :
    Calls Try.prog 54 #[.pointer (some ⟨g, 0, none⟩)] w (ClearBPost g base B1 n1 d1 B2 n2 d2 B3 n3 d3 cf l.length w) := by
  obtain ⟨⟨A, c, rfl⟩, bg, hrow, hown⟩ := hx
  obtain ⟨n, hn⟩ : ∃ n, Hid (l.length = n) := ⟨_, Lib.hid rfl⟩
  rw [hn.out] at bg hrow ⊢
  have p8 := bg.cell 8
  have f8 := bg.frozen 8
  simp at p8
  have HV : Hid (BoxV (w.setCell ⟨g, 8, none⟩ (.slice none 0 0)) g base B1 n1 d1 B2 n2 d2 B3 n3 d3 cf (.slice none 0 0) []) :=
    Lib.hid ⟨⟨none, 0, rfl⟩, bg.put 8 (.slice none 0 0), World.ownsRow_nil _ _ _ _, ⟨own_far (p := ⟨g, 8, none⟩) hown.m (own_blk_ne hown.m bg (by decide)) _, own_far (p := ⟨g, 8, none⟩) hown.s (own_blk_ne hown.s bg (by decide)) _, own_far (p := ⟨g, 8, none⟩) hown.c (own_blk_ne hown.c bg (by decide)) _, hown.hm, hown.hs, hown.hc⟩⟩
  have HB : Hid (OnlyB g (.slice none 0 0) w (w.setCell ⟨g, 8, none⟩ (.slice none 0 0))) := Lib.hid ((OnlyB.of_below (Below.refl _ _)).setCell ⟨g, 8, none⟩ rfl _)
  clear bg hrow hown
  go_enter Try.func54, Try.ntmps54
  go_wp2_with fail
  go_ret
  exact ⟨rfl, HV.out, HB.out⟩

def CopyBPost (base : Nat) (B1 : Option Addr) (n1 d1 : Nat) (B2 : Option Addr) (n2 d2 : Nat) (B3 : Option Addr) (n3 d3 : Nat) (cf : Conf) (l : List BidV) (w : World) (e : Ending) (w' : World) : Prop :=
  ∃ g' v', e = .returned (.pointer (some ⟨g', 0, none⟩)) ∧ w.heap.size ≤ g' ∧ BoxV w' g' base B1 n1 d1 B2 n2 d2 B3 n3 d3 cf v' l ∧ (∀ k, v'.ownBlock = some k → w.heap.size ≤ k) ∧ Below w.heap.size w w'
set_option maxHeartbeats 4000000 in
set_option maxRecDepth 100000 in
theorem copyB_any (g base : Nat) (B1 : Option Addr) (n1 d1 : Nat) (B2 : Option Addr) (n2 d2 : Nat) (B3 : Option Addr) (n3 d3 : Nat) (cf : Conf) (v : Value) (l : List BidV) (w : World) (hx : BoxV w g base B1 n1 d1 B2 n2 d2 B3 n3 d3 cf v l) (hl : l.length ≤ 1000) (hbase : base ≤ w.heap.size) :
    Calls Try.prog 55 #[.pointer (some ⟨g, 0, none⟩)] w (CopyBPost base B1 n1 d1 B2 n2 d2 B3 n3 d3 cf l w) := by
  obtain ⟨⟨A, c, rfl⟩, bg, hrow, hown⟩ := hx
  have hrd := Rd.of_own hrow
  have hC := Lib.hid (cloneB_any A l.length c l w.drew (hrd.past (Below.drew (Below.refl _ _))) hl (fun e => by subst e; exact hrd.none_zero))
  obtain ⟨n, hn⟩ : ∃ n, Hid (l.length = n) := ⟨_, Lib.hid rfl⟩
  rw [hn.out] at hC bg
  have p0 := bg.cell 0
  have p1 := bg.cell 1
  have p2 := bg.cell 2
  have p3 := bg.cell 3
  have p4 := bg.cell 4
  have p5 := bg.cell 5
  have p6 := bg.cell 6
  have p7 := bg.cell 7
  have p8 := bg.cell 8
  simp at p0 p1 p2 p3 p4 p5 p6 p7 p8
  have HBG := Lib.hid bg
  have HOC := Lib.hid hown
  clear bg hrow hown hrd
  go_enter Try.func55, Try.ntmps55
  go_wp2_with fail
  go_region_with (go_at_call 93; refine hC.out.mono ?_; rintro e w1 ⟨v, rfl, hov, hb0⟩; obtain ⟨A2, c2, rfl⟩ := own_form hov; have hb : Below w.heap.size w w1 := undrew hb0; have bl1 := HBG.out.past hb; have m0 := bl1.cell 0; have m1 := bl1.cell 1; have m2 := bl1.cell 2; have m3 := bl1.cell 3; have m4 := bl1.cell 4; have m5 := bl1.cell 5; have m6 := bl1.cell 6; have m7 := bl1.cell 7; have m8 := bl1.cell 8; simp at m0 m1 m2 m3 m4 m5 m6 m7 m8)
  all_goals
    have hs := hb.size
    have hbz := (Below.refl w1.heap.size w1).alloc (Nat.le_refl _) (.cells #[.slice B1 n1 d1, .slice B2 n2 d2, .slice B3 n3 d3, .int .i64 cf.line, .int .i64 cf.capital, .int .i64 cf.lead, .int .i64 cf.trades, .int .i64 cf.bids, .slice A2 n c2] 149)
    have HV : Hid (BoxV (w1.alloc (.cells #[.slice B1 n1 d1, .slice B2 n2 d2, .slice B3 n3 d3, .int .i64 cf.line, .int .i64 cf.capital, .int .i64 cf.lead, .int .i64 cf.trades, .int .i64 cf.bids, .slice A2 n c2] 149)) w1.heap.size base B1 n1 d1 B2 n2 d2 B3 n3 d3 cf (.slice A2 n c2) l) :=
      Lib.hid ⟨⟨A2, c2, by rw [hn.out]⟩, Blk.new w1 149 _ _ rfl, by rw [hn.out]; exact own_past' (own_mono' hov hbase) hbz, (HOC.out.past hb).past hbz⟩
    have HLO : Hid (∀ k, (Value.slice A2 n c2).ownBlock = some k → w.heap.size ≤ k) := Lib.hid fun k e => (hov.lt k e).1
    have HBB := Lib.hid (Below.past hb hbz hs)
    clear hov hb0 hb hbz bl1
    go_wp2_with fail
    go_ret
    exact ⟨_, _, rfl, hs, HV.out, HLO.out, HBB.out⟩

/-! ### The same bids -/
set_option maxHeartbeats 2000000 in
theorem refSameB_yes (A1 : Option Addr) (n c1 : Nat) (A2 : Option Addr) (c2 : Nat) (l : List BidV) (w : World) (hr1 : Rd w w.heap.size 5 A1 n (l.flatMap BidV.cells)) (hr2 : Rd w w.heap.size 5 A2 n (l.flatMap BidV.cells)) (hn : n ≤ 1000000) :
    Calls Try.prog 57 #[.slice A1 n c1, .slice A2 n c2] w fun e w' => e = .returned (.bool true) ∧ Below w.heap.size w w' := by
  have HL := Lib.hid (hr1.len BidV.cells_len (by omega))
  have q0 : ((n : Int) != (n : Int)) = false := by simp
  go_enter Try.func57, Try.ntmps57
  go_wp2_with fail
  go_loopw [5] (fun i wr => ∃ k : Nat, k ≤ n ∧ i = .int .i64 k ∧ Hid (Below w.heap.size w wr)) (fun i _ => n - (intOf i).toNat)
  case atStart => exact ⟨0, Nat.zero_le _, rfl, Lib.hid (Below.refl _ _)⟩
  case round =>
    obtain ⟨k, hk, rfl, HD⟩ := hrel
    by_cases hlt : k < n
    · have hlz : (k : Int) < (n : Int) := by omega
      obtain ⟨f, hg⟩ : ∃ f, l[k]? = some f := ⟨_, List.getElem?_eq_getElem (by have := HL.out; omega)⟩
      obtain ⟨b1, o1, rfl, hb1, hc1⟩ := (hr1.below HD.out).elem BidV.cells_len hg hlt
      obtain ⟨b2, o2, rfl, hb2, hc2⟩ := (hr2.below HD.out).elem BidV.cells_len hg hlt
      have c0 := hc1 0 _ rfl
      have c1 := hc1 1 _ rfl
      have c2 := hc1 2 _ rfl
      have c3 := hc1 3 _ rfl
      have c4 := hc1 4 _ rfl
      have d0 := hc2 0 _ rfl
      have d1 := hc2 1 _ rfl
      have d2 := hc2 2 _ rfl
      have d3 := hc2 3 _ rfl
      have d4 := hc2 4 _ rfl
      simp only [Nat.add_zero] at c0 d0
      clear hg hc1 hc2
      go_wp2_with fail
      go_quiet (fail)
      clear c0 c1 c2 c3 c4 d0 d1 d2 d3 d4
      go_wp2_with fail
      go_roundw
      case rel => exact ⟨k + 1, by omega, by go_num, Lib.hid (below_drewN HD.out nq)⟩
      case measure => simp [intOf]; omega
    · have hlz : ¬ (k : Int) < (n : Int) := by omega
      go_wp2_with fail
      go_ret
      exact ⟨rfl, HD.out⟩
end Go.Proofs.Ytndhhnfhookeaaa
