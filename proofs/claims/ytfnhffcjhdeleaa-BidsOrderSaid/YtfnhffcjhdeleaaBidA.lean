import Derived.Test.YtfnhffcjhdeleaaConfP
namespace Go.Proofs.Ytfnhffcjhdeleaa
open Go.RowKit

structure BidV where
  seq : Int
  mem : Int
  sec : Int
  qty : Int
  price : Int
def BidV.cells (b : BidV) : List Value := [.int .i64 b.seq, .int .i64 b.mem, .int .i64 b.sec, .int .i64 b.qty, .int .i64 b.price]
theorem BidV.cells_len (b : BidV) : b.cells.length = 5 := rfl
/-- Is there one of this number? -/
def inN (n : Nat) (i : Int) : Bool := decide (1 ≤ i ∧ i ≤ (n : Int))
/-- What is wrong with a bid, first, by what is wrong with it. -/
def bidC (b0 b1 b2 b3 b4 : Bool) : Int := if b0 then 9 else if b1 then 10 else if b2 then 1 else if b3 then 2 else if b4 then 15 else 0
def capOf (cf : Conf) (n2 : Nat) (i : Int) : Int := if inN n2 i then ((cf.secs[(i - 1).toNat]?).map Secu.cap).getD 0 else 0
def checkB (cf : Conf) (n1 n2 : Nat) (b : BidV) : Int :=
  bidC (!inN n1 b.mem) (!inN n2 b.sec) (decide (b.qty < 1) || decide (b.price < 1)) (decide (274877906944 < b.qty)) (decide (capOf cf n2 b.sec < b.price))

/-! ### The checks of a bid, one by one -/
set_option maxHeartbeats 1000000 in
theorem chkB1 (g h : Nat) (A1 A2 A3 : Option Addr) (n1 n2 n3 cp1 cp2 cp3 : Nat) (cf : Conf) (b : BidV) (w : World) (hc : Blk w g 89 #[.slice A1 n1 cp1, .slice A2 n2 cp2, .slice A3 n3 cp3, .int .i64 cf.line, .int .i64 cf.capital, .int .i64 cf.lead, .int .i64 cf.trades, .int .i64 cf.bids]) (hb : Blk w h 103 #[.int .i64 b.seq, .int .i64 b.mem, .int .i64 b.sec, .int .i64 b.qty, .int .i64 b.price]) (hr : CfRd w A1 n1 A2 n2 A3 n3 cf) :
    Calls Try.prog 124 #[.pointer (some ⟨g, 0, none⟩), .pointer (some ⟨h, 0, none⟩)] w fun e w' => e = .returned (.bool (!inN n1 b.mem)) ∧ Below w.heap.size w w' := by
  obtain ⟨m, k, hm, hcm⟩ := member_any A1 A2 A3 n1 n2 n3 cp1 cp2 cp3 cf b.mem w hr
  have HCM := Lib.hid hcm
  have e0 := hc.cell 0
  have e1 := hc.cell 1
  have e2 := hc.cell 2
  have e3 := hc.cell 3
  have e4 := hc.cell 4
  have e5 := hc.cell 5
  have e6 := hc.cell 6
  have e7 := hc.cell 7
  have f1 := hb.cell 1
  simp at e0 e1 e2 e3 e4 e5 e6 e7 f1
  have HK : Hid ((k != 0) = !inN n1 b.mem) := Lib.hid (by
    rcases hm with ⟨h1, h2, rfl, _⟩ | ⟨h1, rfl, _⟩
    · have : inN n1 b.mem = true := decide_eq_true ⟨h1, h2⟩
      rw [this]; rfl
    · have : inN n1 b.mem = false := decide_eq_false (by omega)
      rw [this]; rfl)
  clear hcm hc hb hr hm
  rw [← HK.out]
  go_enter Try.func124, Try.ntmps124
  go_wp2_with fail
  refine HCM.out.mono ?_
  rintro e w1 ⟨rfl, hb1⟩
  have hb2 := hb1.alloc hb1.size (.cells #[.int .i64 m.coll, .int .i64 m.fund] 165)
  go_wp2_with fail
  go_ret
  exact ⟨rfl, hb2⟩
set_option maxHeartbeats 1000000 in
theorem chkB2 (g : Nat) (k : Int) (w : World) (hc : w.cell? ⟨g, 0, none⟩ = some (.int .i64 k)) :
    Calls Try.prog 125 #[.pointer (some ⟨g, 0, none⟩)] w fun e w' => e = .returned (.bool (k != 0)) ∧ Below w.heap.size w w' := by
  have hB := Below.refl w.heap.size w
  go_enter Try.func125, Try.ntmps125
  go_wp2_with fail
  go_ret
  exact ⟨rfl, hB⟩
set_option maxHeartbeats 1000000 in
theorem chkB3 (h : Nat) (b : BidV) (w : World) (hb : Blk w h 103 #[.int .i64 b.seq, .int .i64 b.mem, .int .i64 b.sec, .int .i64 b.qty, .int .i64 b.price]) :
    Calls Try.prog 126 #[.pointer (some ⟨h, 0, none⟩)] w fun e w' => e = .returned (.bool (decide (b.qty < 1) || decide (b.price < 1))) ∧ Below w.heap.size w w' := by
  have hB := Below.refl w.heap.size w
  have f3 := hb.cell 3
  have f4 := hb.cell 4
  simp at f3 f4
  clear hb
  by_cases h1 : b.qty < 1
  · have q1 := decide_eq_true h1
    rw [q1]
    clear h1
    go_enter Try.func126, Try.ntmps126
    go_wp2_with fail
    go_ret
    exact ⟨rfl, hB⟩
  · have q1 := decide_eq_false h1
    rw [q1]
    clear h1
    go_enter Try.func126, Try.ntmps126
    go_wp2_with fail
    go_ret
    exact ⟨rfl, hB⟩
set_option maxHeartbeats 1000000 in
theorem chkB4 (h : Nat) (b : BidV) (w : World) (hb : Blk w h 103 #[.int .i64 b.seq, .int .i64 b.mem, .int .i64 b.sec, .int .i64 b.qty, .int .i64 b.price]) :
    Calls Try.prog 127 #[.pointer (some ⟨h, 0, none⟩)] w fun e w' => e = .returned (.bool (decide (274877906944 < b.qty))) ∧ Below w.heap.size w w' := by
  have hB := Below.refl w.heap.size w
  have f3 := hb.cell 3
  simp at f3
  clear hb
  go_enter Try.func127, Try.ntmps127
  go_wp2_with fail
  go_ret
  exact ⟨rfl, hB⟩
set_option maxHeartbeats 1000000 in
theorem chkB5 (h g : Nat) (b : BidV) (s : Secu) (w : World) (hb : Blk w h 103 #[.int .i64 b.seq, .int .i64 b.mem, .int .i64 b.sec, .int .i64 b.qty, .int .i64 b.price]) (hs : Blk w g 167 #[.int .i64 s.price, .int .i64 s.cap]) :
    Calls Try.prog 128 #[.pointer (some ⟨h, 0, none⟩), .pointer (some ⟨g, 0, none⟩)] w fun e w' => e = .returned (.bool (decide (s.cap < b.price))) ∧ Below w.heap.size w w' := by
  have hB := Below.refl w.heap.size w
  have f4 := hb.cell 4
  have g1 := hs.cell 1
  simp at f4 g1
  clear hb hs
  go_enter Try.func128, Try.ntmps128
  go_wp2_with fail
  go_ret
  exact ⟨rfl, hB⟩

set_option maxRecDepth 100000 in
set_option maxHeartbeats 4000000 in
theorem checkB_any (A1 A2 A3 : Option Addr) (n1 n2 n3 cp1 cp2 cp3 : Nat) (cf : Conf) (b : BidV) (w : World) (hr : CfRd w A1 n1 A2 n2 A3 n3 cf) :
    Calls Try.prog 98 #[.agg #[.slice A1 n1 cp1, .slice A2 n2 cp2, .slice A3 n3 cp3, .int .i64 cf.line, .int .i64 cf.capital, .int .i64 cf.lead, .int .i64 cf.trades, .int .i64 cf.bids], .agg #[.int .i64 b.seq, .int .i64 b.mem, .int .i64 b.sec, .int .i64 b.qty, .int .i64 b.price]] w fun e w' => e = .returned (.int .i64 (checkB cf n1 n2 b)) ∧ Below w.heap.size w w' := by
  obtain ⟨W, hW⟩ : ∃ W, Hid ((w.alloc (.cells #[.slice A1 n1 cp1, .slice A2 n2 cp2, .slice A3 n3 cp3, .int .i64 cf.line, .int .i64 cf.capital, .int .i64 cf.lead, .int .i64 cf.trades, .int .i64 cf.bids] 89)).alloc (.cells #[.int .i64 b.seq, .int .i64 b.mem, .int .i64 b.sec, .int .i64 b.qty, .int .i64 b.price] 103) = W) := ⟨_, Lib.hid rfl⟩
  have hB0 : Below w.heap.size w W := by rw [← hW.out]; exact ((Below.refl _ _).alloc (Nat.le_refl _) _).alloc (by simp) _
  have hs0 : W.heap.size = w.heap.size + 2 := by rw [← hW.out]; simp
  have hr0 := hr.past hB0
  have bc0 : Blk W w.heap.size 89 #[.slice A1 n1 cp1, .slice A2 n2 cp2, .slice A3 n3 cp3, .int .i64 cf.line, .int .i64 cf.capital, .int .i64 cf.lead, .int .i64 cf.trades, .int .i64 cf.bids] := by
    rw [← hW.out]; exact (Blk.new w _ _ _ rfl).alloc _
  have bb0 : Blk W (w.heap.size + 1) 103 #[.int .i64 b.seq, .int .i64 b.mem, .int .i64 b.sec, .int .i64 b.qty, .int .i64 b.price] := by
    rw [← hW.out]; exact Blk.new _ _ _ _ (by simp)
  obtain ⟨s, ks, hsc, hcs⟩ := sec_any A1 A2 A3 n1 n2 n3 cp1 cp2 cp3 cf b.sec W hr0
  have HCS := Lib.hid hcs
  have HK : Hid ((ks != 0) = !inN n2 b.sec ∧ s.cap = capOf cf n2 b.sec) := Lib.hid (by
    rcases hsc with ⟨h1, h2, rfl, hx⟩ | ⟨h1, rfl, rfl⟩
    · have : inN n2 b.sec = true := decide_eq_true ⟨h1, h2⟩
      rw [capOf, this, hx]; exact ⟨rfl, rfl⟩
    · have : inN n2 b.sec = false := decide_eq_false (by omega)
      rw [capOf, this]; exact ⟨rfl, rfl⟩)
  obtain ⟨v0, hv0⟩ : ∃ v, Hid ((!inN n1 b.mem) = v) := ⟨_, Lib.hid rfl⟩
  obtain ⟨v1, hv1⟩ : ∃ v, Hid ((ks != 0) = v) := ⟨_, Lib.hid rfl⟩
  obtain ⟨v2, hv2⟩ : ∃ v, Hid ((decide (b.qty < 1) || decide (b.price < 1)) = v) := ⟨_, Lib.hid rfl⟩
  obtain ⟨v3, hv3⟩ : ∃ v, Hid (decide (274877906944 < b.qty) = v) := ⟨_, Lib.hid rfl⟩
  obtain ⟨v4, hv4⟩ : ∃ v, Hid (decide (s.cap < b.price) = v) := ⟨_, Lib.hid rfl⟩
  have HC : Hid (checkB cf n1 n2 b = bidC v0 v1 v2 v3 v4) := Lib.hid (by rw [checkB, ← HK.out.1, ← HK.out.2, hv0.out, hv1.out, hv2.out, hv3.out, hv4.out])
  rw [HC.out]
  have e0 := bc0.cell 0
  have e1 := bc0.cell 1
  have e2 := bc0.cell 2
  have e3 := bc0.cell 3
  have e4 := bc0.cell 4
  have e5 := bc0.cell 5
  have e6 := bc0.cell 6
  have e7 := bc0.cell 7
  have f2 := bb0.cell 2
  simp at e0 e1 e2 e3 e4 e5 e6 e7 f2
  have HR0 := Lib.hid hr0
  have HBC := Lib.hid bc0
  have HBB := Lib.hid bb0
  clear hsc hcs hr hr0 bc0 bb0
  go_enter Try.func98, Try.ntmps98
  go_upto_region 1 with fail
  rw [hW.out]
  go_wp2_with fail
  refine HCS.out.mono ?_
  rintro e w1 ⟨rfl, hb1⟩
  obtain ⟨W3, hW3⟩ : ∃ W, Hid (((w1.alloc (.cells #[.int .i64 s.price, .int .i64 s.cap] 167)).alloc (.cells #[.int .i64 ks] 26)).alloc (.cells #[.int .i64 9, .func (.func 124) #[] #[.pointer (some ⟨w.heap.size, 0, none⟩), .pointer (some ⟨w.heap.size + 1, 0, none⟩)], .int .i64 10, .func (.func 125) #[] #[.pointer (some ⟨w1.heap.size + 1, 0, none⟩)], .int .i64 1, .func (.func 126) #[] #[.pointer (some ⟨w.heap.size + 1, 0, none⟩)], .int .i64 2, .func (.func 127) #[] #[.pointer (some ⟨w.heap.size + 1, 0, none⟩)], .int .i64 15, .func (.func 128) #[] #[.pointer (some ⟨w.heap.size + 1, 0, none⟩), .pointer (some ⟨w1.heap.size, 0, none⟩)]] 213) = W) := ⟨_, Lib.hid rfl⟩
  have hs1 := hb1.size
  have hbw3 : Below w1.heap.size w1 W3 := by rw [← hW3.out]; exact (((Below.refl _ _).alloc (Nat.le_refl _) _).alloc (by simp) _).alloc (by simp; omega) _
  have HS3 : Hid (Blk W3 w1.heap.size 167 #[.int .i64 s.price, .int .i64 s.cap]) := Lib.hid (by rw [← hW3.out]; exact ((Blk.new w1 _ _ _ rfl).alloc _).alloc _)
  have HK3 : Hid (Blk W3 (w1.heap.size + 1) 26 #[.int .i64 ks]) := Lib.hid (by rw [← hW3.out]; exact (Blk.new (w1.alloc _) _ _ _ (by simp)).alloc _)
  have HF3 : Hid (Blk W3 (w1.heap.size + 1 + 1) 213 #[.int .i64 9, .func (.func 124) #[] #[.pointer (some ⟨w.heap.size, 0, none⟩), .pointer (some ⟨w.heap.size + 1, 0, none⟩)], .int .i64 10, .func (.func 125) #[] #[.pointer (some ⟨w1.heap.size + 1, 0, none⟩)], .int .i64 1, .func (.func 126) #[] #[.pointer (some ⟨w.heap.size + 1, 0, none⟩)], .int .i64 2, .func (.func 127) #[] #[.pointer (some ⟨w.heap.size + 1, 0, none⟩)], .int .i64 15, .func (.func 128) #[] #[.pointer (some ⟨w.heap.size + 1, 0, none⟩), .pointer (some ⟨w1.heap.size, 0, none⟩)]]) := Lib.hid (by rw [← hW3.out]; exact Blk.new _ _ _ _ (by simp))
  have hbW3 : Below W.heap.size W W3 := Below.past hb1 hbw3 hs1
  have hBW3 := Below.past hB0 hbW3 hB0.size
  have hsW3 := hBW3.size
  clear e0 e1 e2 e3 e4 e5 e6 e7 f2 hb1
  go_wp2_with fail
  rw [hW3.out]
  go_loopw [8, 28] (fun _ i wr => ∃ k : Nat, k ≤ 5 ∧ i = .int .i64 k ∧ Hid ((1 ≤ k → v0 = false) ∧ (2 ≤ k → v1 = false) ∧ (3 ≤ k → v2 = false) ∧ (4 ≤ k → v3 = false) ∧ (5 ≤ k → v4 = false)) ∧ Below W3.heap.size W3 wr) (fun _ i _ => 5 - (intOf i).toNat)
  case atStart => exact ⟨0, by omega, rfl, Lib.hid ⟨nofun, nofun, nofun, nofun, nofun⟩, Below.refl _ _⟩
  case round =>
    obtain ⟨k, hk, rfl, hno, hb⟩ := hrel
    have hs := hb.size
    have hb3 : Below W.heap.size W wr := Below.past hbW3 hb hbW3.size
    have hB4 := Below.past hBW3 hb hsW3
    have hsB4 := hB4.size
    have HFr := Lib.hid (HF3.out.past hb)
    by_cases hlt : k < 5
    · obtain rfl | rfl | rfl | rfl | rfl : k = 0 ∨ k = 1 ∨ k = 2 ∨ k = 3 ∨ k = 4 := by omega
      · have c0 := HFr.out.cell 0
        have c1 := HFr.out.cell 1
        simp at c0 c1
        have hbo := (Below.refl wr.heap.size wr).alloc (Nat.le_refl _) (.cells #[.int .i64 9, .func (.func 124) #[] #[.pointer (some ⟨w.heap.size, 0, none⟩), .pointer (some ⟨w.heap.size + 1, 0, none⟩)]] 213)
        have HC1 := Lib.hid (chkB1 w.heap.size (w.heap.size + 1) A1 A2 A3 n1 n2 n3 cp1 cp2 cp3 cf b _ ((HBC.out.past hb3).past hbo) ((HBB.out.past hb3).past hbo) ((HR0.out.past hb3).past hbo))
        rw [hv0.out] at HC1
        have bo := Blk.new wr 213 #[.int .i64 9, .func (.func 124) #[] #[.pointer (some ⟨w.heap.size, 0, none⟩), .pointer (some ⟨w.heap.size + 1, 0, none⟩)]] wr.heap.size rfl
        cases hvv' : v0 with
        | false =>
          rw [hvv'] at HC1
          have hvv := Lib.hid hvv'
          clear hvv'
          go_wp2_with fail
          refine HC1.out.mono ?_
          rintro e w2 ⟨rfl, hb2⟩
          have hb5 := Below.past (Below.past hb hbo hs) hb2 (by simp; omega)
          go_wp2_with fail
          go_roundw
          case rel => exact ⟨1, by omega, rfl, Lib.hid ⟨fun _ => (by first | trivial | exact hvv.out), fun h => absurd h (by omega), fun h => absurd h (by omega), fun h => absurd h (by omega), fun h => absurd h (by omega)⟩, hb5⟩
          case measure => simp [intOf]
        | true =>
          rw [hvv'] at HC1
          have hvv := Lib.hid hvv'
          clear hvv'
          go_wp2_with fail
          refine HC1.out.mono ?_
          rintro e w2 ⟨rfl, hb2⟩
          have d0 := (bo.past hb2).cell 0
          simp at d0
          have hb5 := Below.past (Below.past hB4 hbo hsB4) hb2 (by simp; omega)
          go_wp2_with fail
          go_ret
          exact ⟨ret_int (by rw [hvv.out]; rfl), hb5⟩
      · have c0 := HFr.out.cell 2
        have c1 := HFr.out.cell 3
        simp at c0 c1
        have hbo := (Below.refl wr.heap.size wr).alloc (Nat.le_refl _) (.cells #[.int .i64 10, .func (.func 125) #[] #[.pointer (some ⟨w1.heap.size + 1, 0, none⟩)]] 213)
        have HC1 := Lib.hid (chkB2 (w1.heap.size + 1) ks _ (((HK3.out.past hb).past hbo).cell 0))
        rw [hv1.out] at HC1
        have bo := Blk.new wr 213 #[.int .i64 10, .func (.func 125) #[] #[.pointer (some ⟨w1.heap.size + 1, 0, none⟩)]] wr.heap.size rfl
        cases hvv' : v1 with
        | false =>
          rw [hvv'] at HC1
          have hvv := Lib.hid hvv'
          clear hvv'
          go_wp2_with fail
          refine HC1.out.mono ?_
          rintro e w2 ⟨rfl, hb2⟩
          have hb5 := Below.past (Below.past hb hbo hs) hb2 (by simp; omega)
          go_wp2_with fail
          go_roundw
          case rel => exact ⟨2, by omega, rfl, Lib.hid ⟨fun _ => hno.out.1 (by omega), fun _ => (by first | trivial | exact hvv.out), fun h => absurd h (by omega), fun h => absurd h (by omega), fun h => absurd h (by omega)⟩, hb5⟩
          case measure => simp [intOf]
        | true =>
          rw [hvv'] at HC1
          have hvv := Lib.hid hvv'
          clear hvv'
          go_wp2_with fail
          refine HC1.out.mono ?_
          rintro e w2 ⟨rfl, hb2⟩
          have d0 := (bo.past hb2).cell 0
          simp at d0
          have hb5 := Below.past (Below.past hB4 hbo hsB4) hb2 (by simp; omega)
          go_wp2_with fail
          go_ret
          exact ⟨ret_int (by rw [hno.out.1 (by omega), hvv.out]; rfl), hb5⟩
      · have c0 := HFr.out.cell 4
        have c1 := HFr.out.cell 5
        simp at c0 c1
        have hbo := (Below.refl wr.heap.size wr).alloc (Nat.le_refl _) (.cells #[.int .i64 1, .func (.func 126) #[] #[.pointer (some ⟨w.heap.size + 1, 0, none⟩)]] 213)
        have HC1 := Lib.hid (chkB3 (w.heap.size + 1) b _ ((HBB.out.past hb3).past hbo))
        rw [hv2.out] at HC1
        have bo := Blk.new wr 213 #[.int .i64 1, .func (.func 126) #[] #[.pointer (some ⟨w.heap.size + 1, 0, none⟩)]] wr.heap.size rfl
        cases hvv' : v2 with
        | false =>
          rw [hvv'] at HC1
          have hvv := Lib.hid hvv'
          clear hvv'
          go_wp2_with fail
          refine HC1.out.mono ?_
          rintro e w2 ⟨rfl, hb2⟩
          have hb5 := Below.past (Below.past hb hbo hs) hb2 (by simp; omega)
          go_wp2_with fail
          go_roundw
          case rel => exact ⟨3, by omega, rfl, Lib.hid ⟨fun _ => hno.out.1 (by omega), fun _ => hno.out.2.1 (by omega), fun _ => (by first | trivial | exact hvv.out), fun h => absurd h (by omega), fun h => absurd h (by omega)⟩, hb5⟩
          case measure => simp [intOf]
        | true =>
          rw [hvv'] at HC1
          have hvv := Lib.hid hvv'
          clear hvv'
          go_wp2_with fail
          refine HC1.out.mono ?_
          rintro e w2 ⟨rfl, hb2⟩
          have d0 := (bo.past hb2).cell 0
          simp at d0
          have hb5 := Below.past (Below.past hB4 hbo hsB4) hb2 (by simp; omega)
          go_wp2_with fail
          go_ret
          exact ⟨ret_int (by rw [hno.out.1 (by omega), hno.out.2.1 (by omega), hvv.out]; rfl), hb5⟩
      · have c0 := HFr.out.cell 6
        have c1 := HFr.out.cell 7
        simp at c0 c1
        have hbo := (Below.refl wr.heap.size wr).alloc (Nat.le_refl _) (.cells #[.int .i64 2, .func (.func 127) #[] #[.pointer (some ⟨w.heap.size + 1, 0, none⟩)]] 213)
        have HC1 := Lib.hid (chkB4 (w.heap.size + 1) b _ ((HBB.out.past hb3).past hbo))
        rw [hv3.out] at HC1
        have bo := Blk.new wr 213 #[.int .i64 2, .func (.func 127) #[] #[.pointer (some ⟨w.heap.size + 1, 0, none⟩)]] wr.heap.size rfl
        cases hvv' : v3 with
        | false =>
          rw [hvv'] at HC1
          have hvv := Lib.hid hvv'
          clear hvv'
          go_wp2_with fail
          refine HC1.out.mono ?_
          rintro e w2 ⟨rfl, hb2⟩
          have hb5 := Below.past (Below.past hb hbo hs) hb2 (by simp; omega)
          go_wp2_with fail
          go_roundw
          case rel => exact ⟨4, by omega, rfl, Lib.hid ⟨fun _ => hno.out.1 (by omega), fun _ => hno.out.2.1 (by omega), fun _ => hno.out.2.2.1 (by omega), fun _ => (by first | trivial | exact hvv.out), fun h => absurd h (by omega)⟩, hb5⟩
          case measure => simp [intOf]
        | true =>
          rw [hvv'] at HC1
          have hvv := Lib.hid hvv'
          clear hvv'
          go_wp2_with fail
          refine HC1.out.mono ?_
          rintro e w2 ⟨rfl, hb2⟩
          have d0 := (bo.past hb2).cell 0
          simp at d0
          have hb5 := Below.past (Below.past hB4 hbo hsB4) hb2 (by simp; omega)
          go_wp2_with fail
          go_ret
          exact ⟨ret_int (by rw [hno.out.1 (by omega), hno.out.2.1 (by omega), hno.out.2.2.1 (by omega), hvv.out]; rfl), hb5⟩
      · have c0 := HFr.out.cell 8
        have c1 := HFr.out.cell 9
        simp at c0 c1
        have hbo := (Below.refl wr.heap.size wr).alloc (Nat.le_refl _) (.cells #[.int .i64 15, .func (.func 128) #[] #[.pointer (some ⟨w.heap.size + 1, 0, none⟩), .pointer (some ⟨w1.heap.size, 0, none⟩)]] 213)
        have HC1 := Lib.hid (chkB5 (w.heap.size + 1) w1.heap.size b s _ ((HBB.out.past hb3).past hbo) ((HS3.out.past hb).past hbo))
        rw [hv4.out] at HC1
        have bo := Blk.new wr 213 #[.int .i64 15, .func (.func 128) #[] #[.pointer (some ⟨w.heap.size + 1, 0, none⟩), .pointer (some ⟨w1.heap.size, 0, none⟩)]] wr.heap.size rfl
        cases hvv' : v4 with
        | false =>
          rw [hvv'] at HC1
          have hvv := Lib.hid hvv'
          clear hvv'
          go_wp2_with fail
          refine HC1.out.mono ?_
          rintro e w2 ⟨rfl, hb2⟩
          have hb5 := Below.past (Below.past hb hbo hs) hb2 (by simp; omega)
          go_wp2_with fail
          go_roundw
          case rel => exact ⟨5, by omega, rfl, Lib.hid ⟨fun _ => hno.out.1 (by omega), fun _ => hno.out.2.1 (by omega), fun _ => hno.out.2.2.1 (by omega), fun _ => hno.out.2.2.2.1 (by omega), fun _ => (by first | trivial | exact hvv.out)⟩, hb5⟩
          case measure => simp [intOf]
        | true =>
          rw [hvv'] at HC1
          have hvv := Lib.hid hvv'
          clear hvv'
          go_wp2_with fail
          refine HC1.out.mono ?_
          rintro e w2 ⟨rfl, hb2⟩
          have d0 := (bo.past hb2).cell 0
          simp at d0
          have hb5 := Below.past (Below.past hB4 hbo hsB4) hb2 (by simp; omega)
          go_wp2_with fail
          go_ret
          exact ⟨ret_int (by rw [hno.out.1 (by omega), hno.out.2.1 (by omega), hno.out.2.2.1 (by omega), hno.out.2.2.2.1 (by omega), hvv.out]; rfl), hb5⟩
    · obtain rfl : k = 5 := by omega
      go_wp2_with fail
      go_ret
      exact ⟨ret_int (by rw [hno.out.1 (by omega), hno.out.2.1 (by omega), hno.out.2.2.1 (by omega), hno.out.2.2.2.1 (by omega), hno.out.2.2.2.2 (by omega)]; rfl), hB4⟩
end Go.Proofs.Ytfnhffcjhdeleaa
