import Derived.Test.YtfnhffcjhdeleaaBidC
import Derived.StillTailTactics
namespace Go.Proofs.Ytfnhffcjhdeleaa
open Go.RowKit

/-- step_append_blk, and where the new row lies. -/
theorem step_append_blkB {P : Program} {ops : Array Oper} {o : Oper} {a : Act} {W : World} {K : Act → World → Prop} {Q : Exit → Act → World → Prop} {E : Prop}
    (hgd : o.guard = none) (s x : Operand) (t : TypeId) (ho : o.op = .call { callee := .builtin .append, args := #[s, x], argTypes := #[t, t] })
    (base : Nat) (e : TypeId) (i : TypeInfo) (z : Value) (size bytes : Nat) (ht : P.underlying t = some (.slice e)) (hi : P.info? e = some i) (hz : i.zero = some z)
    (hsize : i.size = size) (hby : i.bytes = bytes) (hzs : z.cells.size = size) (hsz : 0 < size)
    (v : Value) (n : Nat) (xs : List Value) (hs : a.eval s = v) (hown : W.ownsRow base e size v n xs)
    (g m c : Nat) (arr : Array Value) (hx : a.eval x = .slice (some ⟨g, 0, none⟩) m c) (hb : Blk W g e arr) (hl : arr.size = m * size) (h1 : ∀ u ∈ arr.toList, u.oneCell' = true)
    (h63 : n + m ≤ 1000000) (hsz2 : bytes ≤ 1000000) (hbase : base ≤ W.heap.size)
    (h : ∀ v' w', w'.ownsRow base e size v' (n + m) (xs ++ arr.toList) → W.grownBy w' v.ownBlock → (v'.ownBlock = v.ownBlock ∨ v'.ownBlock = some W.heap.size) → K (a.put o.dst v') w') :
    if Region.wanted o (yielded ops a.tmps) = true then Oper.wp P o a W K Q else E := by
  have hw : Region.wanted o (yielded ops a.tmps) = true := by simp [Region.wanted, hgd]
  rw [if_pos hw]
  have hbb : (n + m) * bytes ≤ 140737488355328 := by
    have : (n + m) * bytes ≤ 1000000 * 1000000 := Nat.mul_le_mul h63 hsz2
    omega
  have hnews : ∀ (j : Nat) (u : Value), arr.toList[j]? = some u → W.cell? ((⟨g, 0, none⟩ : Addr).add j) = some u := by
    intro j u hu
    have hj : (⟨g, 0, none⟩ : Addr).add j = ⟨g, j, none⟩ := by
      unfold Addr.add; split
      · rename_i h0; rw [h0]
      · simp
    rw [hj, hb.cell j]
    simpa using hu
  obtain ⟨v', w', hr, h2, h3, _, h5⟩ := run_append_own_at (P := P) W base t o.type e i z size bytes ht hi hz hsize hby hzs hsz v n xs hown ⟨g, 0, none⟩ m c arr.toList (by simpa using hl) hnews h1 (by simp only [maxLen]; omega) hbb hbase
  unfold Oper.wp execOp
  simp only [ho, resolve, invoke, builtin, Sem.run_bind, Sem.run_pure, Result.andThen_ok, List.map_toArray, List.map_cons, List.map_nil, hs, hx, hr]
  exact h v' w' h2 h3 h5

set_option maxHeartbeats 4000000 in
set_option maxRecDepth 100000 in
theorem addB_wrong (g base : Nat) (B1 : Option Addr) (n1 d1 : Nat) (B2 : Option Addr) (n2 d2 : Nat) (B3 : Option Addr) (n3 d3 : Nat) (cf : Conf) (v : Value) (l : List BidV) (b : BidV) (w : World) (hx : BoxV w g base B1 n1 d1 B2 n2 d2 B3 n3 d3 cf v l) (hl : l.length ≤ 1000) (k : Int) (hk : checkB cf n1 n2 b = k) (hk0 : k ≠ 0) :
    Calls Try.prog 57 #[.pointer (some ⟨g, 0, none⟩), .agg #[.int .i64 b.seq, .int .i64 b.mem, .int .i64 b.sec, .int .i64 b.qty, .int .i64 b.price]] w fun e w' => e = .returned (.tuple #[.int .i64 0, .int .i64 k]) ∧ Below w.heap.size w w' := by
  obtain ⟨⟨A, c, rfl⟩, bg, hrow, hown⟩ := hx
  have q0 : (k != 0) = true := by simpa using hk0
  clear hk0
  have hB0 := (Below.refl w.heap.size w).alloc (Nat.le_refl _) (.cells #[.int .i64 b.seq, .int .i64 b.mem, .int .i64 b.sec, .int .i64 b.qty, .int .i64 b.price] 103)
  have bt0 := Blk.new w 103 #[.int .i64 b.seq, .int .i64 b.mem, .int .i64 b.sec, .int .i64 b.qty, .int .i64 b.price] w.heap.size rfl
  have bg0 := bg.past hB0
  have ho0 := own_past' hrow hB0
  have hc0 := hown.past hB0
  have hgw := bg.lt
  have HNX : Hid ((Value.slice A l.length c).ownBlock ≠ some w.heap.size) := Lib.hid fun e => by have := (hrow.lt _ e).2; omega
  obtain ⟨W, hW⟩ : ∃ W, Hid (w.alloc (.cells #[.int .i64 b.seq, .int .i64 b.mem, .int .i64 b.sec, .int .i64 b.qty, .int .i64 b.price] 103) = W) := ⟨_, Lib.hid rfl⟩
  rw [hW.out] at bt0 bg0 ho0 hB0 hc0
  have HC := Lib.hid (checkB_any B1 B2 B3 n1 n2 n3 d1 d2 d3 cf b W.drew ((hc0.past (Below.drew (Below.refl _ _))).rd))
  rw [hk] at HC
  obtain ⟨n, hn⟩ : ∃ n, Hid (l.length = n) := ⟨_, Lib.hid rfl⟩
  rw [hn.out] at bg0 ho0 hl HNX
  have HBG := Lib.hid bg0
  have HBT := Lib.hid bt0
  have HOR := Lib.hid ho0
  have HOC := Lib.hid hc0
  have hBW : Below w.heap.size w W := hB0
  have hWs : w.heap.size < W.heap.size := bt0.lt
  have p0 := bg0.cell 0
  have p1 := bg0.cell 1
  have p2 := bg0.cell 2
  have p3 := bg0.cell 3
  have p4 := bg0.cell 4
  have p5 := bg0.cell 5
  have p6 := bg0.cell 6
  have p7 := bg0.cell 7
  have p8 := bg0.cell 8
  have t0 := bt0.cell 0
  have t1 := bt0.cell 1
  have t2 := bt0.cell 2
  have t3 := bt0.cell 3
  have t4 := bt0.cell 4
  simp at p0 p1 p2 p3 p4 p5 p6 p7 p8 t0 t1 t2 t3 t4
  clear bg hrow hown bg0 ho0 hc0 bt0 hB0 hk
  go_enter Try.func57, Try.ntmps57
  go_wp2_with fail
  rw [hW.out]
  go_still_tail 5, (by kernel_rfl)
  change wpList _ _ _ _ _ W.drew
  go_wp2_with fail
  refine HC.out.mono ?_
  rintro e w1 ⟨rfl, hb1⟩
  have hb1' : Below W.heap.size W w1 := undrew hb1
  have hBx := Below.past hBW hb1' (Nat.le_of_lt hWs)
  have HBG1 := Lib.hid (HBG.out.past hb1')
  have HBT1 := Lib.hid (HBT.out.past hb1')
  have HOR1 := Lib.hid (own_past' HOR.out hb1')
  have HOC1 := Lib.hid (HOC.out.past hb1')
  clear p0 p1 p2 p3 p4 p5 p6 p7 p8 t0 t1 t2 t3 t4 hb1 hb1' HC HBG HBT HOR HOC hBW
  go_wp2_with fail
  refine bodyPost_ret (v := .tuple #[.int .i64 0, .int .i64 k]) (by simp [results, Try.results57, go_sem]) rfl ⟨rfl, hBx⟩

set_option maxHeartbeats 4000000 in
set_option maxRecDepth 100000 in
theorem addB_full (g base : Nat) (B1 : Option Addr) (n1 d1 : Nat) (B2 : Option Addr) (n2 d2 : Nat) (B3 : Option Addr) (n3 d3 : Nat) (cf : Conf) (v : Value) (l : List BidV) (b : BidV) (w : World) (hx : BoxV w g base B1 n1 d1 B2 n2 d2 B3 n3 d3 cf v l) (hl : l.length ≤ 1000) (hk : checkB cf n1 n2 b = 0) (hf : cf.bids ≤ l.length) :
    Calls Try.prog 57 #[.pointer (some ⟨g, 0, none⟩), .agg #[.int .i64 b.seq, .int .i64 b.mem, .int .i64 b.sec, .int .i64 b.qty, .int .i64 b.price]] w fun e w' => e = .returned (.tuple #[.int .i64 0, .int .i64 6]) ∧ Below w.heap.size w w' := by
  obtain ⟨⟨A, c, rfl⟩, bg, hrow, hown⟩ := hx
  have hB0 := (Below.refl w.heap.size w).alloc (Nat.le_refl _) (.cells #[.int .i64 b.seq, .int .i64 b.mem, .int .i64 b.sec, .int .i64 b.qty, .int .i64 b.price] 103)
  have bt0 := Blk.new w 103 #[.int .i64 b.seq, .int .i64 b.mem, .int .i64 b.sec, .int .i64 b.qty, .int .i64 b.price] w.heap.size rfl
  have bg0 := bg.past hB0
  have ho0 := own_past' hrow hB0
  have hc0 := hown.past hB0
  have hgw := bg.lt
  have HNX : Hid ((Value.slice A l.length c).ownBlock ≠ some w.heap.size) := Lib.hid fun e => by have := (hrow.lt _ e).2; omega
  obtain ⟨W, hW⟩ : ∃ W, Hid (w.alloc (.cells #[.int .i64 b.seq, .int .i64 b.mem, .int .i64 b.sec, .int .i64 b.qty, .int .i64 b.price] 103) = W) := ⟨_, Lib.hid rfl⟩
  rw [hW.out] at bt0 bg0 ho0 hB0 hc0
  have HC := Lib.hid (checkB_any B1 B2 B3 n1 n2 n3 d1 d2 d3 cf b W.drew ((hc0.past (Below.drew (Below.refl _ _))).rd))
  rw [hk] at HC
  obtain ⟨n, hn⟩ : ∃ n, Hid (l.length = n) := ⟨_, Lib.hid rfl⟩
  rw [hn.out] at bg0 ho0 hl HNX
  have HBG := Lib.hid bg0
  have HBT := Lib.hid bt0
  have HOR := Lib.hid ho0
  have HOC := Lib.hid hc0
  have hBW : Below w.heap.size w W := hB0
  have hWs : w.heap.size < W.heap.size := bt0.lt
  have p0 := bg0.cell 0
  have p1 := bg0.cell 1
  have p2 := bg0.cell 2
  have p3 := bg0.cell 3
  have p4 := bg0.cell 4
  have p5 := bg0.cell 5
  have p6 := bg0.cell 6
  have p7 := bg0.cell 7
  have p8 := bg0.cell 8
  have t0 := bt0.cell 0
  have t1 := bt0.cell 1
  have t2 := bt0.cell 2
  have t3 := bt0.cell 3
  have t4 := bt0.cell 4
  simp at p0 p1 p2 p3 p4 p5 p6 p7 p8 t0 t1 t2 t3 t4
  clear bg hrow hown bg0 ho0 hc0 bt0 hB0 hk
  rw [hn.out] at hf
  have q1 : decide (cf.bids ≤ (n : Int)) = true := decide_eq_true hf
  clear hf
  go_enter Try.func57, Try.ntmps57
  go_wp2_with fail
  rw [hW.out]
  go_still_tail 5, (by kernel_rfl)
  change wpList _ _ _ _ _ W.drew
  go_wp2_with fail
  refine HC.out.mono ?_
  rintro e w1 ⟨rfl, hb1⟩
  have hb1' : Below W.heap.size W w1 := undrew hb1
  have hBx := Below.past hBW hb1' (Nat.le_of_lt hWs)
  have HBG1 := Lib.hid (HBG.out.past hb1')
  have HBT1 := Lib.hid (HBT.out.past hb1')
  have HOR1 := Lib.hid (own_past' HOR.out hb1')
  have HOC1 := Lib.hid (HOC.out.past hb1')
  clear p0 p1 p2 p3 p4 p5 p6 p7 p8 t0 t1 t2 t3 t4 hb1 hb1' HC HBG HBT HOR HOC hBW
  have p7 := HBG1.out.cell 7
  have p8 := HBG1.out.cell 8
  simp at p7 p8
  go_wp2_with fail
  go_quiet (fail)
  have hBy := below_drewN hBx nq
  go_wp2_with fail
  refine bodyPost_ret (v := .tuple #[.int .i64 0, .int .i64 6]) (by simp [results, Try.results57, go_sem]) rfl ⟨rfl, hBy⟩

/-- What Add leaves. -/
def AddBPost (g base : Nat) (B1 : Option Addr) (n1 d1 : Nat) (B2 : Option Addr) (n2 d2 : Nat) (B3 : Option Addr) (n3 d3 : Nat) (cf : Conf) (v : Value) (l : List BidV) (b : BidV) (w : World) (e : Ending) (w' : World) : Prop :=
  e = .returned (.tuple #[.int .i64 ((l.length : Int) + 1), .int .i64 0]) ∧ ∃ v', BoxV w' g base B1 n1 d1 B2 n2 d2 B3 n3 d3 cf v' (l ++ [⟨(l.length : Int) + 1, b.mem, b.sec, b.qty, b.price⟩]) ∧ OnlyB g v w w' ∧ (v'.ownBlock = v.ownBlock ∨ ∃ k, v'.ownBlock = some k ∧ w.heap.size ≤ k)

set_option maxHeartbeats 4000000 in
set_option maxRecDepth 100000 in
theorem addB_ok (g base : Nat) (B1 : Option Addr) (n1 d1 : Nat) (B2 : Option Addr) (n2 d2 : Nat) (B3 : Option Addr) (n3 d3 : Nat) (cf : Conf) (v : Value) (l : List BidV) (b : BidV) (w : World) (hx : BoxV w g base B1 n1 d1 B2 n2 d2 B3 n3 d3 cf v l) (hl : l.length ≤ 1000) (hk : checkB cf n1 n2 b = 0) (hf : ¬ cf.bids ≤ l.length) (hbase : base ≤ w.heap.size) :
    Calls Try.prog 57 #[.pointer (some ⟨g, 0, none⟩), .agg #[.int .i64 b.seq, .int .i64 b.mem, .int .i64 b.sec, .int .i64 b.qty, .int .i64 b.price]] w (AddBPost g base B1 n1 d1 B2 n2 d2 B3 n3 d3 cf v l b w) := by
  obtain ⟨⟨A, c, rfl⟩, bg, hrow, hown⟩ := hx
  have hB0 := (Below.refl w.heap.size w).alloc (Nat.le_refl _) (.cells #[.int .i64 b.seq, .int .i64 b.mem, .int .i64 b.sec, .int .i64 b.qty, .int .i64 b.price] 103)
  have bt0 := Blk.new w 103 #[.int .i64 b.seq, .int .i64 b.mem, .int .i64 b.sec, .int .i64 b.qty, .int .i64 b.price] w.heap.size rfl
  have bg0 := bg.past hB0
  have ho0 := own_past' hrow hB0
  have hc0 := hown.past hB0
  have hgw := bg.lt
  have HNX : Hid ((Value.slice A l.length c).ownBlock ≠ some w.heap.size) := Lib.hid fun e => by have := (hrow.lt _ e).2; omega
  obtain ⟨W, hW⟩ : ∃ W, Hid (w.alloc (.cells #[.int .i64 b.seq, .int .i64 b.mem, .int .i64 b.sec, .int .i64 b.qty, .int .i64 b.price] 103) = W) := ⟨_, Lib.hid rfl⟩
  rw [hW.out] at bt0 bg0 ho0 hB0 hc0
  have HC := Lib.hid (checkB_any B1 B2 B3 n1 n2 n3 d1 d2 d3 cf b W.drew ((hc0.past (Below.drew (Below.refl _ _))).rd))
  rw [hk] at HC
  obtain ⟨n, hn⟩ : ∃ n, Hid (l.length = n) := ⟨_, Lib.hid rfl⟩
  rw [hn.out] at bg0 ho0 hl HNX
  have HBG := Lib.hid bg0
  have HBT := Lib.hid bt0
  have HOR := Lib.hid ho0
  have HOC := Lib.hid hc0
  have hBW : Below w.heap.size w W := hB0
  have hWs : w.heap.size < W.heap.size := bt0.lt
  have p0 := bg0.cell 0
  have p1 := bg0.cell 1
  have p2 := bg0.cell 2
  have p3 := bg0.cell 3
  have p4 := bg0.cell 4
  have p5 := bg0.cell 5
  have p6 := bg0.cell 6
  have p7 := bg0.cell 7
  have p8 := bg0.cell 8
  have t0 := bt0.cell 0
  have t1 := bt0.cell 1
  have t2 := bt0.cell 2
  have t3 := bt0.cell 3
  have t4 := bt0.cell 4
  simp at p0 p1 p2 p3 p4 p5 p6 p7 p8 t0 t1 t2 t3 t4
  clear bg hrow hown bg0 ho0 hc0 bt0 hB0 hk
  rw [hn.out] at hf
  have q1 : decide (cf.bids ≤ (n : Int)) = false := decide_eq_false hf
  clear hf
  obtain ⟨j0, hj0, jz0, jz1, jz2⟩ := info_parts bidInfo
  go_enter Try.func57, Try.ntmps57
  go_wp2_with fail
  rw [hW.out]
  go_still_tail 5, (by kernel_rfl)
  change wpList _ _ _ _ _ W.drew
  go_wp2_with fail
  refine HC.out.mono ?_
  rintro e w1 ⟨rfl, hb1⟩
  have hb1' : Below W.heap.size W w1 := undrew hb1
  have hBx := Below.past hBW hb1' (Nat.le_of_lt hWs)
  have HBG1 := Lib.hid (HBG.out.past hb1')
  have HBT1 := Lib.hid (HBT.out.past hb1')
  have HOR1 := Lib.hid (own_past' HOR.out hb1')
  have HOC1 := Lib.hid (HOC.out.past hb1')
  clear p0 p1 p2 p3 p4 p5 p6 p7 p8 t0 t1 t2 t3 t4 hb1 hb1' HC HBG HBT HOR HOC hBW
  have p7 := HBG1.out.cell 7
  have p8 := HBG1.out.cell 8
  simp at p7 p8
  go_wp2_with fail
  go_quiet (fail)
  have hBy := below_drewN hBx nq
  have bly := HBG1.out.drewN nq
  have bty := HBT1.out.drewN nq
  have hoy := own_drewN HOR1.out nq
  have HOC2 : Hid (CfOwn (w1.drewN nq) base B1 n1 d1 B2 n2 d2 B3 n3 d3 cf) := Lib.hid ⟨own_drewN HOC1.out.m nq, own_drewN HOC1.out.s nq, own_drewN HOC1.out.c nq, HOC1.out.hm, HOC1.out.hs, HOC1.out.hc⟩
  clear p7 p8 hBx q1 HBG1 HBT1 HOR1 HOC1
  generalize w1.drewN nq = V0 at hBy bly hoy bty HOC2 ⊢
  have p8 := bly.cell 8
  have t0 := bty.cell 0
  have tf := bty.frozen 0
  simp at p8 t0
  go_upto_region 9 with fail
  have hV0s := bty.lt
  have hgV := bly.lt
  have hne : g ≠ w.heap.size := by omega
  have btz : Blk (V0.setCell ⟨w.heap.size, 0, none⟩ (.int .i64 ((n : Int) + 1))) w.heap.size 103 #[.int .i64 ((n : Int) + 1), .int .i64 b.mem, .int .i64 b.sec, .int .i64 b.qty, .int .i64 b.price] := bty.put 0 (.int .i64 ((n : Int) + 1))
  have blz := bly.far (p := ⟨w.heap.size, 0, none⟩) hne (.int .i64 ((n : Int) + 1))
  have hoz := own_far (p := ⟨w.heap.size, 0, none⟩) hoy HNX.out (.int .i64 ((n : Int) + 1))
  have HOC3 : Hid (CfOwn (V0.setCell ⟨w.heap.size, 0, none⟩ (.int .i64 ((n : Int) + 1))) base B1 n1 d1 B2 n2 d2 B3 n3 d3 cf) := Lib.hid ⟨own_far (p := ⟨w.heap.size, 0, none⟩) HOC2.out.m (own_blk_ne HOC2.out.m bty (by decide)) _, own_far (p := ⟨w.heap.size, 0, none⟩) HOC2.out.s (own_blk_ne HOC2.out.s bty (by decide)) _, own_far (p := ⟨w.heap.size, 0, none⟩) HOC2.out.c (own_blk_ne HOC2.out.c bty (by decide)) _, HOC2.out.hm, HOC2.out.hs, HOC2.out.hc⟩
  have hBz := hBy.setCell (p := ⟨w.heap.size, 0, none⟩) (Nat.le_refl _) (.int .i64 ((n : Int) + 1))
  clear p8 t0 tf bly bty hoy HOC2 hBy
  generalize V0.setCell ⟨w.heap.size, 0, none⟩ (.int .i64 ((n : Int) + 1)) = V at hBz blz btz hoz HOC3 ⊢
  have l8 := blz.cell 8
  have t0 := btz.cell 0
  have t1 := btz.cell 1
  have t2 := btz.cell 2
  have t3 := btz.cell 3
  have t4 := btz.cell 4
  simp at l8 t0 t1 t2 t3 t4
  have hVs := blz.lt
  have hVt := btz.lt
  have hBV : w.heap.size ≤ V.heap.size := by omega
  go_region_law (refine step_append_blkB rfl (.tmp 40) (.tmp 42) 99 rfl base 103 j0 _ 5 40 Try.underlying99 hj0 jz0 jz1 jz2 rfl (by decide) (.slice A n c) n (l.flatMap BidV.cells) (by simp [Act.eval, Act.put]) (by first | exact hoz.alloc _ | exact own_drewN (hoz.alloc _) 1) V.heap.size 1 1 #[.int .i64 ((n : Int) + 1), .int .i64 b.mem, .int .i64 b.sec, .int .i64 b.qty, .int .i64 b.price] (by simp [Act.eval, Act.put]) (by exact Blk.new V 103 _ _ rfl) rfl (by simp [Value.oneCell']) (by omega) (by omega) (by simp; omega) ?_; intro v' w' hown' hg' hd; obtain ⟨A', c', rfl⟩ := own_form hown'; have bz : Blk w' g 174 #[.slice B1 n1 d1, .slice B2 n2 d2, .slice B3 n3 d3, .int .i64 cf.line, .int .i64 cf.capital, .int .i64 cf.lead, .int .i64 cf.trades, .int .i64 cf.bids, .slice A n c] := Blk.grown (by first | exact blz.alloc _ | exact (blz.alloc _).drewN 1) hg' (own_blk_ne hoz blz (by decide)); have bx : Blk w' w.heap.size 103 #[.int .i64 ((n : Int) + 1), .int .i64 b.mem, .int .i64 b.sec, .int .i64 b.qty, .int .i64 b.price] := Blk.grown (by first | exact btz.alloc _ | exact (btz.alloc _).drewN 1) hg' HNX.out; have hd2 : (Value.slice A' (n + 1) c').ownBlock = (Value.slice A n c).ownBlock ∨ ∃ k, (Value.slice A' (n + 1) c').ownBlock = some k ∧ w.heap.size ≤ k := hd.imp id (fun e => ⟨_, e, by simp; omega⟩); have bw : OnlyB g (.slice A n c) w w' := OnlyB.grown (OnlyB.of_below (by first | exact hBz.alloc hBV _ | exact (hBz.alloc hBV _).drew)) hg'; have hc' : CfOwn w' base B1 n1 d1 B2 n2 d2 B3 n3 d3 cf := ⟨World.ownsRow.kept (by first | exact HOC3.out.m.alloc _ | exact own_drewN (HOC3.out.m.alloc _) 1) hg' (own_ne HOC3.out.m hoz (by decide)), World.ownsRow.kept (by first | exact HOC3.out.s.alloc _ | exact own_drewN (HOC3.out.s.alloc _) 1) hg' (own_ne HOC3.out.s hoz (by decide)), World.ownsRow.kept (by first | exact HOC3.out.c.alloc _ | exact own_drewN (HOC3.out.c.alloc _) 1) hg' (own_ne HOC3.out.c hoz (by decide)), HOC3.out.hm, HOC3.out.hs, HOC3.out.hc⟩; have z1 := bz.cell 8; have zf := bz.frozen 8; simp at z1)
  all_goals
    have hne8 := own_blk_ne hown' bz (by decide)
    have HZ := Lib.hid (bz.put 8 (.slice A' (n + 1) c'))
    have HO := Lib.hid (own_far (p := ⟨g, 8, none⟩) hown' hne8 (.slice A' (n + 1) c'))
    have HB := Lib.hid (bw.setCell ⟨g, 8, none⟩ rfl (.slice A' (n + 1) c'))
    have HCc : Hid (CfOwn (w'.setCell ⟨g, 8, none⟩ (.slice A' (n + 1) c')) base B1 n1 d1 B2 n2 d2 B3 n3 d3 cf) := Lib.hid ⟨own_far (p := ⟨g, 8, none⟩) hc'.m (own_blk_ne hc'.m bz (by decide)) _, own_far (p := ⟨g, 8, none⟩) hc'.s (own_blk_ne hc'.s bz (by decide)) _, own_far (p := ⟨g, 8, none⟩) hc'.c (own_blk_ne hc'.c bz (by decide)) _, hc'.hm, hc'.hs, hc'.hc⟩
    have cz := (bx.far (p := ⟨g, 8, none⟩) (fun e => hne e.symm) (.slice A' (n + 1) c')).cell 0
    simp at cz
    have HD := Lib.hid hd2
    clear hd2 hne8 z1 zf bz bx bw hown' hg' hd hc'
    go_wp2_with fail
    refine bodyPost_ret (v := .tuple #[.int .i64 ((n : Int) + 1), .int .i64 0]) (by simp [results, Try.results57, go_sem]) rfl ⟨by rw [hn.out], .slice A' (n + 1) c', ⟨⟨A', c', by simp [hn.out]⟩, HZ.out, by rw [List.length_append, hn.out, List.flatMap_append]; exact HO.out, HCc.out⟩, by rw [hn.out]; exact HB.out, by rw [hn.out]; exact HD.out⟩
end Go.Proofs.Ytfnhffcjhdeleaa
