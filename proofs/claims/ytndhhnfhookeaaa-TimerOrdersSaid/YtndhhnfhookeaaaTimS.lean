import Derived.Test.YtndhhnfhookeaaaTimM
import Derived.Deep.RegionLaw
import Derived.StillTailTactics
namespace Go.Proofs.Ytndhhnfhookeaaa
open Go.RowKit

/-- What Set leaves: a code, the wheel, and all that lies beside it. -/
def SetVPost (g : Nat) (room : Int) (base : Nat) (v : Value) (w : World) (code : Int) (ts : List Tim) (e : Ending) (w' : World) : Prop :=
  e = .returned (.int .i64 code) ∧ ∃ v', Whv w' g room base v' ts ∧ Only g v w w' ∧ (v'.ownBlock = v.ownBlock ∨ ∃ k, v'.ownBlock = some k ∧ w.heap.size ≤ k)

set_option maxHeartbeats 4000000 in
set_option maxRecDepth 10000 in
theorem setv_twice (g : Nat) (room : Int) (base : Nat) (ts : List Tim) (t : Tim) (v : Value) (w : World) (hw : Whv w g room base v ts) (hl : ts.length ≤ 1000) (hh : hasT ts t = true) (hbw : base ≤ w.heap.size) :
    Calls Try.prog 15 #[.pointer (some ⟨g, 0, none⟩), .agg #[.int .i64 t.due, .int .i64 t.kind, .int .i64 t.mem, .int .i64 t.lev]] w (SetVPost g room base v w 7 ts) := by
  obtain ⟨A, c, rfl, bl, hown⟩ := hw
  have hB0 := (Below.refl w.heap.size w).alloc (Nat.le_refl _) (.cells #[.int .i64 t.due, .int .i64 t.kind, .int .i64 t.mem, .int .i64 t.lev] 29)
  have bt0 := Blk.new w 29 #[.int .i64 t.due, .int .i64 t.kind, .int .i64 t.mem, .int .i64 t.lev] w.heap.size rfl
  have bl0 := bl.alloc (.cells #[.int .i64 t.due, .int .i64 t.kind, .int .i64 t.mem, .int .i64 t.lev] 29)
  have ho0 := hown.alloc (.cells #[.int .i64 t.due, .int .i64 t.kind, .int .i64 t.mem, .int .i64 t.lev] 29)
  obtain ⟨W, hW⟩ : ∃ W, Hid (w.alloc (.cells #[.int .i64 t.due, .int .i64 t.kind, .int .i64 t.mem, .int .i64 t.lev] 29) = W) := ⟨_, Lib.hid rfl⟩
  rw [hW.out] at bt0 bl0 ho0 hB0
  have HC := Lib.hid (containsT_any A ts.length c ts t W.drew (Rd.of_own (own_drewN ho0 1)) (by omega))
  rw [hh] at HC
  obtain ⟨n, hn⟩ : ∃ n, Hid (ts.length = n) := ⟨_, Lib.hid rfl⟩
  rw [hn.out] at HC bl0 ho0 hl
  have t0 := bt0.cell 0
  have t1 := bt0.cell 1
  have t2 := bt0.cell 2
  have t3 := bt0.cell 3
  have l0 := bl0.cell 0
  have l1 := bl0.cell 1
  simp at t0 t1 t2 t3 l0 l1
  have hBW : Below w.heap.size w W := hB0
  have hWs : w.heap.size < W.heap.size := bt0.lt
  have hbl := Lib.hid bl0
  have hob := Lib.hid ho0
  have hbt := Lib.hid bt0
  clear bl hown hB0 bl0 ho0 bt0 hh
  go_enter Try.func15, Try.ntmps15
  go_wp2_with fail
  rw [hW.out]
  go_still_tail 5, (by kernel_rfl)
  change wpList _ _ _ _ _ W.drew
  go_wp2_with fail
  refine HC.out.mono ?_
  rintro e w1 ⟨rfl, hb1⟩
  have hBx := Below.past hBW.drew hb1 (show w.heap.size ≤ W.drew.heap.size from Nat.le_of_lt hWs)
  have blx := Blk.past (w := W.drew) hbl.out hb1
  have hox := own_past (own_drewN hob.out 1) hb1
  have btx := Blk.past (w := W.drew) hbt.out hb1
  clear t0 t1 t2 t3 l0 l1 hb1 hBW HC
  go_wp2_with fail
  go_ret
  exact ⟨rfl, .slice A n c, ⟨A, c, by rw [hn.out], blx, by rw [hn.out]; exact hox⟩, Only.of_below hBx, by rw [hn.out]; exact .inl rfl⟩

set_option maxHeartbeats 4000000 in
set_option maxRecDepth 10000 in
theorem setv_full (g : Nat) (room : Int) (base : Nat) (ts : List Tim) (t : Tim) (v : Value) (w : World) (hw : Whv w g room base v ts) (hl : ts.length ≤ 1000) (hh : hasT ts t = false) (hr : room ≤ ts.length) (hbw : base ≤ w.heap.size) :
    Calls Try.prog 15 #[.pointer (some ⟨g, 0, none⟩), .agg #[.int .i64 t.due, .int .i64 t.kind, .int .i64 t.mem, .int .i64 t.lev]] w (SetVPost g room base v w 6 ts) := by
  obtain ⟨A, c, rfl, bl, hown⟩ := hw
  have hB0 := (Below.refl w.heap.size w).alloc (Nat.le_refl _) (.cells #[.int .i64 t.due, .int .i64 t.kind, .int .i64 t.mem, .int .i64 t.lev] 29)
  have bt0 := Blk.new w 29 #[.int .i64 t.due, .int .i64 t.kind, .int .i64 t.mem, .int .i64 t.lev] w.heap.size rfl
  have bl0 := bl.alloc (.cells #[.int .i64 t.due, .int .i64 t.kind, .int .i64 t.mem, .int .i64 t.lev] 29)
  have ho0 := hown.alloc (.cells #[.int .i64 t.due, .int .i64 t.kind, .int .i64 t.mem, .int .i64 t.lev] 29)
  obtain ⟨W, hW⟩ : ∃ W, Hid (w.alloc (.cells #[.int .i64 t.due, .int .i64 t.kind, .int .i64 t.mem, .int .i64 t.lev] 29) = W) := ⟨_, Lib.hid rfl⟩
  rw [hW.out] at bt0 bl0 ho0 hB0
  have HC := Lib.hid (containsT_any A ts.length c ts t W.drew (Rd.of_own (own_drewN ho0 1)) (by omega))
  rw [hh] at HC
  obtain ⟨n, hn⟩ : ∃ n, Hid (ts.length = n) := ⟨_, Lib.hid rfl⟩
  rw [hn.out] at HC bl0 ho0 hl
  have t0 := bt0.cell 0
  have t1 := bt0.cell 1
  have t2 := bt0.cell 2
  have t3 := bt0.cell 3
  have l0 := bl0.cell 0
  have l1 := bl0.cell 1
  simp at t0 t1 t2 t3 l0 l1
  have hBW : Below w.heap.size w W := hB0
  have hWs : w.heap.size < W.heap.size := bt0.lt
  have hbl := Lib.hid bl0
  have hob := Lib.hid ho0
  have hbt := Lib.hid bt0
  clear bl hown hB0 bl0 ho0 bt0 hh
  rw [hn.out] at hr
  have q1 : decide (room ≤ (n : Int)) = true := decide_eq_true hr
  go_enter Try.func15, Try.ntmps15
  go_wp2_with fail
  rw [hW.out]
  go_still_tail 5, (by kernel_rfl)
  change wpList _ _ _ _ _ W.drew
  go_wp2_with fail
  refine HC.out.mono ?_
  rintro e w1 ⟨rfl, hb1⟩
  have hBx := Below.past hBW.drew hb1 (show w.heap.size ≤ W.drew.heap.size from Nat.le_of_lt hWs)
  have blx := Blk.past (w := W.drew) hbl.out hb1
  have hox := own_past (own_drewN hob.out 1) hb1
  have btx := Blk.past (w := W.drew) hbt.out hb1
  clear t0 t1 t2 t3 l0 l1 hb1 hBW HC
  have l0 := blx.cell 0
  have l1 := blx.cell 1
  simp at l0 l1
  go_wp2_with fail
  go_quiet (fail)
  have hBy := below_drewN hBx nq
  go_wp2_with fail
  go_ret
  exact ⟨rfl, .slice A n c, ⟨A, c, by rw [hn.out], blx.drewN nq, by rw [hn.out]; exact own_drewN hox nq⟩, Only.of_below hBy, by rw [hn.out]; exact .inl rfl⟩

set_option maxHeartbeats 4000000 in
set_option maxRecDepth 10000 in
theorem setv_new (g : Nat) (room : Int) (base : Nat) (ts : List Tim) (t : Tim) (v : Value) (w : World) (hw : Whv w g room base v ts) (hl : ts.length ≤ 1000) (hh : hasT ts t = false) (hr : ¬ room ≤ ts.length) (hbw : base ≤ w.heap.size) :
    Calls Try.prog 15 #[.pointer (some ⟨g, 0, none⟩), .agg #[.int .i64 t.due, .int .i64 t.kind, .int .i64 t.mem, .int .i64 t.lev]] w (SetVPost g room base v w 0 (ts ++ [t])) := by
  obtain ⟨A, c, rfl, bl, hown⟩ := hw
  have hB0 := (Below.refl w.heap.size w).alloc (Nat.le_refl _) (.cells #[.int .i64 t.due, .int .i64 t.kind, .int .i64 t.mem, .int .i64 t.lev] 29)
  have bt0 := Blk.new w 29 #[.int .i64 t.due, .int .i64 t.kind, .int .i64 t.mem, .int .i64 t.lev] w.heap.size rfl
  have bl0 := bl.alloc (.cells #[.int .i64 t.due, .int .i64 t.kind, .int .i64 t.mem, .int .i64 t.lev] 29)
  have ho0 := hown.alloc (.cells #[.int .i64 t.due, .int .i64 t.kind, .int .i64 t.mem, .int .i64 t.lev] 29)
  obtain ⟨W, hW⟩ : ∃ W, Hid (w.alloc (.cells #[.int .i64 t.due, .int .i64 t.kind, .int .i64 t.mem, .int .i64 t.lev] 29) = W) := ⟨_, Lib.hid rfl⟩
  rw [hW.out] at bt0 bl0 ho0 hB0
  have HC := Lib.hid (containsT_any A ts.length c ts t W.drew (Rd.of_own (own_drewN ho0 1)) (by omega))
  rw [hh] at HC
  obtain ⟨n, hn⟩ : ∃ n, Hid (ts.length = n) := ⟨_, Lib.hid rfl⟩
  rw [hn.out] at HC bl0 ho0 hl
  have t0 := bt0.cell 0
  have t1 := bt0.cell 1
  have t2 := bt0.cell 2
  have t3 := bt0.cell 3
  have l0 := bl0.cell 0
  have l1 := bl0.cell 1
  simp at t0 t1 t2 t3 l0 l1
  have hBW : Below w.heap.size w W := hB0
  have hWs : w.heap.size < W.heap.size := bt0.lt
  have hbl := Lib.hid bl0
  have hob := Lib.hid ho0
  have hbt := Lib.hid bt0
  clear bl hown hB0 bl0 ho0 bt0 hh
  rw [hn.out] at hr
  have q1 : decide (room ≤ (n : Int)) = false := decide_eq_false hr
  obtain ⟨j0, hj0, jz0, jz1, jz2⟩ := info_parts timInfo
  go_enter Try.func15, Try.ntmps15
  go_wp2_with fail
  rw [hW.out]
  go_still_tail 5, (by kernel_rfl)
  change wpList _ _ _ _ _ W.drew
  go_wp2_with fail
  refine HC.out.mono ?_
  rintro e w1 ⟨rfl, hb1⟩
  have hBx := Below.past hBW.drew hb1 (show w.heap.size ≤ W.drew.heap.size from Nat.le_of_lt hWs)
  have blx := Blk.past (w := W.drew) hbl.out hb1
  have hox := own_past (own_drewN hob.out 1) hb1
  have btx := Blk.past (w := W.drew) hbt.out hb1
  clear t0 t1 t2 t3 l0 l1 hb1 hBW HC
  have l0 := blx.cell 0
  have l1 := blx.cell 1
  simp at l0 l1
  go_wp2_with fail
  go_quiet (fail)
  have hBy := below_drewN hBx nq
  have bly := blx.drewN nq
  have hoy := own_drewN hox nq
  have bty := btx.drewN nq
  clear l0 l1 hBx blx hox btx q1 hr
  generalize w1.drewN nq = V at hBy bly hoy bty ⊢
  have l0 := bly.cell 0
  have l1 := bly.cell 1
  have t0 := bty.cell 0
  have t1 := bty.cell 1
  have t2 := bty.cell 2
  have t3 := bty.cell 3
  simp at l0 l1 t0 t1 t2 t3
  have hVs := bly.lt
  have hVt := bty.lt
  have hBV : w.heap.size ≤ V.heap.size := by omega
  go_wp2_with fail
  go_region_law (refine step_append_blk_at rfl (.tmp 30) (.tmp 32) 22 rfl base 29 j0 _ 4 32 Try.underlying22 hj0 jz0 jz1 jz2 rfl (by decide) (.slice A n c) n (ts.flatMap Tim.cells) (by simp [Act.eval, Act.put]) (by first | exact hoy.alloc _ | exact own_drewN (hoy.alloc _) 1) V.heap.size 1 1 #[.int .i64 t.due, .int .i64 t.kind, .int .i64 t.mem, .int .i64 t.lev] (by simp [Act.eval, Act.put]) (by exact Blk.new V 29 _ _ rfl) rfl (by simp [Value.oneCell']) (by omega) (by omega) (by simp; omega) ?_; intro v' w' hown' hg' hd; obtain ⟨A', c', rfl⟩ := own_form hown'; have bz : Blk w' g 113 #[.int .i64 room, .slice A n c] := Blk.grown (by first | exact bly.alloc _ | exact (bly.alloc _).drewN 1) hg' (own_blk_ne hoy bly (by decide)); have bw : Only g (.slice A n c) w w' := Only.grown (Only.of_below (by first | exact hBy.alloc hBV _ | exact (hBy.alloc hBV _).drew)) hg'; have hd2 : (Value.slice A' (n + 1) c').ownBlock = (Value.slice A n c).ownBlock ∨ ∃ k, (Value.slice A' (n + 1) c').ownBlock = some k ∧ w.heap.size ≤ k := hd.imp id (fun e => ⟨_, e, by simp; omega⟩); have z1 := bz.cell 1; have zf := bz.frozen 1; simp at z1)
  all_goals
    have hne := own_blk_ne hown' bz (by decide)
    have HZ := Lib.hid (bz.put 1 (.slice A' (n + 1) c'))
    have HO := Lib.hid (own_far (p := ⟨g, 1, none⟩) hown' hne (.slice A' (n + 1) c'))
    have HB := Lib.hid (bw.setCell ⟨g, 1, none⟩ rfl (.slice A' (n + 1) c'))
    have HD := Lib.hid hd2
    clear hne z1 zf bz bw hown' hg' hd hd2
    go_wp2_with fail
    go_ret
    exact ⟨rfl, .slice A' (n + 1) c', ⟨A', c', by simp [hn.out], HZ.out, by rw [show (ts ++ [t]).length = n + 1 by simp [hn.out], List.flatMap_append]; exact HO.out⟩, by rw [hn.out]; exact HB.out, by rw [hn.out]; exact HD.out⟩
end Go.Proofs.Ytndhhnfhookeaaa
