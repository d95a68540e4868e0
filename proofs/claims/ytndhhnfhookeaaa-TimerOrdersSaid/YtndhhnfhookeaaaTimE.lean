import Derived.Test.YtndhhnfhookeaaaTimD
import Derived.Deep.RegionLaw
import Derived.StillTailTactics
namespace Go.Proofs.Ytndhhnfhookeaaa
open Go.RowKit

/-- append onto a row of the call's own, as one step of a region that draws: the source a block that is known whole. -/
theorem step_append_blk {P : Program} {ops : Array Oper} {o : Oper} {a : Act} {W : World} {K : Act → World → Prop} {Q : Exit → Act → World → Prop} {E : Prop}
    (hgd : o.guard = none) (s x : Operand) (t : TypeId) (ho : o.op = .call { callee := .builtin .append, args := #[s, x], argTypes := #[t, t] })
    (base : Nat) (e : TypeId) (i : TypeInfo) (z : Value) (size bytes : Nat) (ht : P.underlying t = some (.slice e)) (hi : P.info? e = some i) (hz : i.zero = some z)
    (hsize : i.size = size) (hby : i.bytes = bytes) (hzs : z.cells.size = size) (hsz : 0 < size)
    (v : Value) (n : Nat) (xs : List Value) (hs : a.eval s = v) (hown : W.ownsRow base e size v n xs)
    (g m c : Nat) (arr : Array Value) (hx : a.eval x = .slice (some ⟨g, 0, none⟩) m c) (hb : Blk W g e arr) (hl : arr.size = m * size) (h1 : ∀ u ∈ arr.toList, u.oneCell' = true)
    (h63 : n + m ≤ 1000000) (hsz2 : bytes ≤ 1000000) (hbase : base ≤ W.heap.size)
    (h : ∀ v' w', w'.ownsRow base e size v' (n + m) (xs ++ arr.toList) → W.grownBy w' v.ownBlock → K (a.put o.dst v') w') :
    if Region.wanted o (yielded ops a.tmps) = true then Oper.wp P o a W K Q else E := by
  have hw : Region.wanted o (yielded ops a.tmps) = true := by simp [Region.wanted, hgd]
  rw [if_pos hw]
  refine wp_append_own W s x t ho base e i z size bytes ht hi hz hsize hby hzs hsz v n xs hs hown ⟨g, 0, none⟩ m c arr.toList hx (by simpa using hl) ?_ h1 (by simp only [maxLen]; omega) ?_ hbase (fun v' w' a b _ => h v' w' a b)
  · intro j u hu
    have hj : (⟨g, 0, none⟩ : Addr).add j = ⟨g, j, none⟩ := by
      unfold Addr.add; split
      · rename_i h0; rw [h0]
      · simp
    rw [hj, hb.cell j]
    simpa using hu
  · have : (n + m) * bytes ≤ 1000000 * 1000000 := Nat.mul_le_mul h63 hsz2
    omega

/-- What Set leaves: a code, and the wheel. -/
def SetPost (B : Nat) (a : World) (g : Nat) (room : Int) (base : Nat) (code : Int) (ts : List Tim) (e : Ending) (w' : World) : Prop :=
  e = .returned (.int .i64 code) ∧ Wh w' g room base ts ∧ Below B a w'

set_option maxHeartbeats 4000000 in
set_option maxRecDepth 10000 in
theorem set_twice (g : Nat) (room : Int) (base : Nat) (ts : List Tim) (t : Tim) (w : World) (hw : Wh w g room base ts) (hl : ts.length ≤ 1000) (hh : hasT ts t = true) (B : Nat) (a : World) (hB : Below B a w) (hBw : B ≤ w.heap.size) (hbw : base ≤ w.heap.size) (hBg : B ≤ g) (hBb : B ≤ base) :
    Calls Try.prog 15 #[.pointer (some ⟨g, 0, none⟩), .agg #[.int .i64 t.due, .int .i64 t.kind, .int .i64 t.mem, .int .i64 t.lev]] w (SetPost B a g room base 7 ts) := by
  obtain ⟨A, c, bl, hown⟩ := hw
  have hB0 := (Below.refl w.heap.size w).alloc (Nat.le_refl _) (.cells #[.int .i64 t.due, .int .i64 t.kind, .int .i64 t.mem, .int .i64 t.lev] 29)
  have bt0 := Blk.new w 29 #[.int .i64 t.due, .int .i64 t.kind, .int .i64 t.mem, .int .i64 t.lev] w.heap.size rfl
  have bl0 := bl.alloc (.cells #[.int .i64 t.due, .int .i64 t.kind, .int .i64 t.mem, .int .i64 t.lev] 29)
  have ho0 := hown.alloc (.cells #[.int .i64 t.due, .int .i64 t.kind, .int .i64 t.mem, .int .i64 t.lev] 29)
  obtain ⟨W, hW⟩ : ∃ W, Hid (w.alloc (.cells #[.int .i64 t.due, .int .i64 t.kind, .int .i64 t.mem, .int .i64 t.lev] 29) = W) := ⟨_, Lib.hid rfl⟩
  rw [hW.out] at bt0 bl0 ho0 hB0
  have HC := Lib.hid (containsT_any A ts.length c ts t W.drew (Rd.of_own (own_drewN ho0 1)) (by omega))
  rw [hh] at HC
  obtain ⟨n, hn⟩ : ∃ n, Hid (ts.length = n) := ⟨_, Lib.hid rfl⟩
  rw [hn.out] at HC bl0 ho0 hl
  have t0 := bt0.cell 0
  have t1 := bt0.cell 1
  have t2 := bt0.cell 2
  have t3 := bt0.cell 3
  have l0 := bl0.cell 0
  have l1 := bl0.cell 1
  simp at t0 t1 t2 t3 l0 l1
  have hBW : Below B a W := Below.trans hB (hB0.mono hBw)
  have hWs : w.heap.size < W.heap.size := bt0.lt
  have hbl := Lib.hid bl0
  have hob := Lib.hid ho0
  have hbt := Lib.hid bt0
  clear bl hown hB0 hB bl0 ho0 bt0 hh
  go_enter Try.func15, Try.ntmps15
  go_wp2_with fail
  rw [hW.out]
  go_still_tail 5, (by kernel_rfl)
  change wpList _ _ _ _ _ W.drew
  go_wp2_with fail
  refine HC.out.mono ?_
  rintro e w1 ⟨rfl, hb1⟩
  have hBx := Below.past hBW.drew hb1 (by have := hBW.size; show B ≤ W.drew.heap.size; exact Nat.le_trans hBw (Nat.le_of_lt hWs))
  have blx := Blk.past (w := W.drew) hbl.out hb1
  have hox := own_past (own_drewN hob.out 1) hb1
  have btx := Blk.past (w := W.drew) hbt.out hb1
  clear t0 t1 t2 t3 l0 l1 hb1 hBW HC
  go_wp2_with fail
  go_ret
  exact ⟨rfl, ⟨A, c, by rw [hn.out]; exact blx, by rw [hn.out]; exact hox⟩, hBx⟩

set_option maxHeartbeats 4000000 in
set_option maxRecDepth 10000 in
theorem set_full (g : Nat) (room : Int) (base : Nat) (ts : List Tim) (t : Tim) (w : World) (hw : Wh w g room base ts) (hl : ts.length ≤ 1000) (hh : hasT ts t = false) (hr : room ≤ ts.length) (B : Nat) (a : World) (hB : Below B a w) (hBw : B ≤ w.heap.size) (hbw : base ≤ w.heap.size) (hBg : B ≤ g) (hBb : B ≤ base) :
    Calls Try.prog 15 #[.pointer (some ⟨g, 0, none⟩), .agg #[.int .i64 t.due, .int .i64 t.kind, .int .i64 t.mem, .int .i64 t.lev]] w (SetPost B a g room base 6 ts) := by
  obtain ⟨A, c, bl, hown⟩ := hw
  have hB0 := (Below.refl w.heap.size w).alloc (Nat.le_refl _) (.cells #[.int .i64 t.due, .int .i64 t.kind, .int .i64 t.mem, .int .i64 t.lev] 29)
  have bt0 := Blk.new w 29 #[.int .i64 t.due, .int .i64 t.kind, .int .i64 t.mem, .int .i64 t.lev] w.heap.size rfl
  have bl0 := bl.alloc (.cells #[.int .i64 t.due, .int .i64 t.kind, .int .i64 t.mem, .int .i64 t.lev] 29)
  have ho0 := hown.alloc (.cells #[.int .i64 t.due, .int .i64 t.kind, .int .i64 t.mem, .int .i64 t.lev] 29)
  obtain ⟨W, hW⟩ : ∃ W, Hid (w.alloc (.cells #[.int .i64 t.due, .int .i64 t.kind, .int .i64 t.mem, .int .i64 t.lev] 29) = W) := ⟨_, Lib.hid rfl⟩
  rw [hW.out] at bt0 bl0 ho0 hB0
  have HC := Lib.hid (containsT_any A ts.length c ts t W.drew (Rd.of_own (own_drewN ho0 1)) (by omega))
  rw [hh] at HC
  obtain ⟨n, hn⟩ : ∃ n, Hid (ts.length = n) := ⟨_, Lib.hid rfl⟩
  rw [hn.out] at HC bl0 ho0 hl
  have t0 := bt0.cell 0
  have t1 := bt0.cell 1
  have t2 := bt0.cell 2
  have t3 := bt0.cell 3
  have l0 := bl0.cell 0
  have l1 := bl0.cell 1
  simp at t0 t1 t2 t3 l0 l1
  have hBW : Below B a W := Below.trans hB (hB0.mono hBw)
  have hWs : w.heap.size < W.heap.size := bt0.lt
  have hbl := Lib.hid bl0
  have hob := Lib.hid ho0
  have hbt := Lib.hid bt0
  clear bl hown hB0 hB bl0 ho0 bt0 hh
  rw [hn.out] at hr
  have q1 : decide (room ≤ (n : Int)) = true := decide_eq_true hr
  go_enter Try.func15, Try.ntmps15
  go_wp2_with fail
  rw [hW.out]
  go_still_tail 5, (by kernel_rfl)
  change wpList _ _ _ _ _ W.drew
  go_wp2_with fail
  refine HC.out.mono ?_
  rintro e w1 ⟨rfl, hb1⟩
  have hBx := Below.past hBW.drew hb1 (by have := hBW.size; show B ≤ W.drew.heap.size; exact Nat.le_trans hBw (Nat.le_of_lt hWs))
  have blx := Blk.past (w := W.drew) hbl.out hb1
  have hox := own_past (own_drewN hob.out 1) hb1
  have btx := Blk.past (w := W.drew) hbt.out hb1
  clear t0 t1 t2 t3 l0 l1 hb1 hBW HC
  have l0 := blx.cell 0
  have l1 := blx.cell 1
  simp at l0 l1
  go_wp2_with fail
  go_quiet (fail)
  have hBy := below_drewN hBx nq
  go_wp2_with fail
  go_ret
  exact ⟨rfl, ⟨A, c, by rw [hn.out]; exact blx.drewN nq, by rw [hn.out]; exact own_drewN hox nq⟩, hBy⟩

set_option maxHeartbeats 4000000 in
set_option maxRecDepth 10000 in
theorem set_new (g : Nat) (room : Int) (base : Nat) (ts : List Tim) (t : Tim) (w : World) (hw : Wh w g room base ts) (hl : ts.length ≤ 1000) (hh : hasT ts t = false) (hr : ¬ room ≤ ts.length) (B : Nat) (a : World) (hB : Below B a w) (hBw : B ≤ w.heap.size) (hbw : base ≤ w.heap.size) (hBg : B ≤ g) (hBb : B ≤ base) :
    Calls Try.prog 15 #[.pointer (some ⟨g, 0, none⟩), .agg #[.int .i64 t.due, .int .i64 t.kind, .int .i64 t.mem, .int .i64 t.lev]] w (SetPost B a g room base 0 (ts ++ [t])) := by
  obtain ⟨A, c, bl, hown⟩ := hw
  have hB0 := (Below.refl w.heap.size w).alloc (Nat.le_refl _) (.cells #[.int .i64 t.due, .int .i64 t.kind, .int .i64 t.mem, .int .i64 t.lev] 29)
  have bt0 := Blk.new w 29 #[.int .i64 t.due, .int .i64 t.kind, .int .i64 t.mem, .int .i64 t.lev] w.heap.size rfl
  have bl0 := bl.alloc (.cells #[.int .i64 t.due, .int .i64 t.kind, .int .i64 t.mem, .int .i64 t.lev] 29)
  have ho0 := hown.alloc (.cells #[.int .i64 t.due, .int .i64 t.kind, .int .i64 t.mem, .int .i64 t.lev] 29)
  obtain ⟨W, hW⟩ : ∃ W, Hid (w.alloc (.cells #[.int .i64 t.due, .int .i64 t.kind, .int .i64 t.mem, .int .i64 t.lev] 29) = W) := ⟨_, Lib.hid rfl⟩
  rw [hW.out] at bt0 bl0 ho0 hB0
  have HC := Lib.hid (containsT_any A ts.length c ts t W.drew (Rd.of_own (own_drewN ho0 1)) (by omega))
  rw [hh] at HC
  obtain ⟨n, hn⟩ : ∃ n, Hid (ts.length = n) := ⟨_, Lib.hid rfl⟩
  rw [hn.out] at HC bl0 ho0 hl
  have t0 := bt0.cell 0
  have t1 := bt0.cell 1
  have t2 := bt0.cell 2
  have t3 := bt0.cell 3
  have l0 := bl0.cell 0
  have l1 := bl0.cell 1
  simp at t0 t1 t2 t3 l0 l1
  have hBW : Below B a W := Below.trans hB (hB0.mono hBw)
  have hWs : w.heap.size < W.heap.size := bt0.lt
  have hbl := Lib.hid bl0
  have hob := Lib.hid ho0
  have hbt := Lib.hid bt0
  clear bl hown hB0 hB bl0 ho0 bt0 hh
  rw [hn.out] at hr
  have q1 : decide (room ≤ (n : Int)) = false := decide_eq_false hr
  obtain ⟨j0, hj0, jz0, jz1, jz2⟩ := info_parts timInfo
  go_enter Try.func15, Try.ntmps15
  go_wp2_with fail
  rw [hW.out]
  go_still_tail 5, (by kernel_rfl)
  change wpList _ _ _ _ _ W.drew
  go_wp2_with fail
  refine HC.out.mono ?_
  rintro e w1 ⟨rfl, hb1⟩
  have hBx := Below.past hBW.drew hb1 (by have := hBW.size; show B ≤ W.drew.heap.size; exact Nat.le_trans hBw (Nat.le_of_lt hWs))
  have blx := Blk.past (w := W.drew) hbl.out hb1
  have hox := own_past (own_drewN hob.out 1) hb1
  have btx := Blk.past (w := W.drew) hbt.out hb1
  clear t0 t1 t2 t3 l0 l1 hb1 hBW HC
  have l0 := blx.cell 0
  have l1 := blx.cell 1
  simp at l0 l1
  go_wp2_with fail
  go_quiet (fail)
  have hBy := below_drewN hBx nq
  have bly := blx.drewN nq
  have hoy := own_drewN hox nq
  have bty := btx.drewN nq
  clear l0 l1 hBx blx hox btx q1 hr
  generalize w1.drewN nq = V at hBy bly hoy bty ⊢
  have l0 := bly.cell 0
  have l1 := bly.cell 1
  have t0 := bty.cell 0
  have t1 := bty.cell 1
  have t2 := bty.cell 2
  have t3 := bty.cell 3
  simp at l0 l1 t0 t1 t2 t3
  have hVs := bly.lt
  have hVt := bty.lt
  have hBV : B ≤ V.heap.size := by omega
  go_wp2_with fail
  go_region_law (refine step_append_blk rfl (.tmp 30) (.tmp 32) 22 rfl base 29 j0 _ 4 32 Try.underlying22 hj0 jz0 jz1 jz2 rfl (by decide) (.slice A n c) n (ts.flatMap Tim.cells) (by simp [Act.eval, Act.put]) (by first | exact hoy.alloc _ | exact own_drewN (hoy.alloc _) 1) V.heap.size 1 1 #[.int .i64 t.due, .int .i64 t.kind, .int .i64 t.mem, .int .i64 t.lev] (by simp [Act.eval, Act.put]) (by exact Blk.new V 29 _ _ rfl) rfl (by simp [Value.oneCell']) (by omega) (by omega) (by simp; omega) ?_; intro v' w' hown' hg'; obtain ⟨A', c', rfl⟩ := own_form hown'; have bz : Blk w' g 113 #[.int .i64 room, .slice A n c] := Blk.grown (by first | exact bly.alloc _ | exact (bly.alloc _).drewN 1) hg' (own_blk_ne hoy bly (by decide)); have bw : Below B a w' := below_own (by first | exact hBy.alloc hBV _ | exact (hBy.alloc hBV _).drew) hg' hoy (by simp; omega) hBb; have z1 := bz.cell 1; have zf := bz.frozen 1; simp at z1)
  all_goals
    have hne := own_blk_ne hown' bz (by decide)
    have HZ := Lib.hid (bz.put 1 (.slice A' (n + 1) c'))
    have HO := Lib.hid (own_far (p := ⟨g, 1, none⟩) hown' hne (.slice A' (n + 1) c'))
    have HB := Lib.hid (bw.setCell (p := ⟨g, 1, none⟩) hBg (.slice A' (n + 1) c'))
    clear hne z1 zf bz bw hown' hg'
    go_wp2_with fail
    go_ret
    exact ⟨rfl, ⟨A', c', by rw [show (ts ++ [t]).length = n + 1 by simp [hn.out]]; exact HZ.out, by rw [show (ts ++ [t]).length = n + 1 by simp [hn.out], List.flatMap_append]; exact HO.out⟩, HB.out⟩
end Go.Proofs.Ytndhhnfhookeaaa
