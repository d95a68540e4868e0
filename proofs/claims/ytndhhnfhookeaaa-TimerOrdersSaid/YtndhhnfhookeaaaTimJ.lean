import Derived.Test.YtndhhnfhookeaaaTimI
namespace Go.Proofs.Ytndhhnfhookeaaa
open Go.RowKit

theorem own_pos {w : World} {base : Nat} {e : TypeId} {size n c : Nat} {A : Option Addr} {xs : List Value} (h : w.ownsRow base e size (.slice A n c) n xs) (hn : 0 < n) : ∃ k, A = some ⟨k, 0, none⟩ ∧ base ≤ k ∧ k < w.heap.size := by
  rcases h.2 with ⟨_, h2⟩ | ⟨g, cap, cur, hv, hb, hh, _⟩
  · omega
  · cases hv
    refine ⟨g, rfl, hb, ?_⟩
    rcases Nat.lt_or_ge g w.heap.size with hlt | hge
    · exact hlt
    · rw [Array.getElem?_eq_none hge] at hh; cases hh

theorem Whv.setFar {w : World} {g : Nat} {room : Int} {base : Nat} {v : Value} {ts : List Tim} (h : Whv w g room base v ts) (p : Addr) (hg : g ≠ p.block) (hv : p.block < base) (u : Value) : Whv (w.setCell p u) g room base v ts := by
  obtain ⟨A, c, h0, h1, h2⟩ := h
  refine ⟨A, c, h0, ?_, ownsRow_setCell_below h2 hv u⟩
  unfold Blk at h1 ⊢
  rw [Below.heap_setCell _ _ _ _ hg]; exact h1
theorem Only.setNew {g : Nat} {v : Value} {a w : World} (h : Only g v a w) (p : Addr) (hp : a.heap.size ≤ p.block) (u : Value) : Only g v a (w.setCell p u) :=
  ⟨h.os, h.tape, h.output, by have := h.size; simpa [World.setCell] using this, fun k hk h1 h2 => (Below.heap_setCell w p u k (by omega)).trans (h.block k hk h1 h2)⟩

/-- What First leaves. -/
def FirstVPost (g : Nat) (room : Int) (w : World) (t : Tim) (is : Bool) (left : List Tim) (e : Ending) (w' : World) : Prop :=
  e = .returned (.tuple #[.agg #[.int .i64 t.due, .int .i64 t.kind, .int .i64 t.mem, .int .i64 t.lev], .bool is]) ∧ ∃ v', Whv w' g room w.heap.size v' left ∧ Only g (.slice none 0 0) w w'

set_option maxHeartbeats 1000000 in
theorem first_empty (g : Nat) (room : Int) (base : Nat) (now : Int) (w : World) (hw : Wh w g room base []) :
    Calls Try.prog 20 #[.pointer (some ⟨g, 0, none⟩), .int .i64 now] w fun e w' => e = .returned (.tuple #[.agg #[.int .i64 0, .int .i64 0, .int .i64 0, .int .i64 0], .bool false]) ∧ Below w.heap.size w w' := by
  have hB0 := (Below.refl w.heap.size w).alloc (Nat.le_refl _) (.cells #[.int .i64 0, .int .i64 0, .int .i64 0, .int .i64 0] 29)
  have bz0 := Blk.new w 29 #[.int .i64 0, .int .i64 0, .int .i64 0, .int .i64 0] w.heap.size rfl
  have HS := Lib.hid (all_any g room base [] (w.alloc (.cells #[.int .i64 0, .int .i64 0, .int .i64 0, .int .i64 0] 29)) (hw.past hB0) (by simp))
  clear hw
  go_enter Try.func20, Try.ntmps20
  go_wp2_with fail
  refine HS.out.mono ?_
  rintro e w1 ⟨v, rfl, hov, hb1⟩
  obtain ⟨A1, c1, rfl⟩ := own_form hov
  have bz1 := bz0.past hb1
  have hbA := Below.past hB0 hb1 hB0.size
  have z0 := bz1.cell 0
  have z1 := bz1.cell 1
  have z2 := bz1.cell 2
  have z3 := bz1.cell 3
  have hzl := bz1.lt
  simp at z0 z1 z2 z3
  have f0 := bz1.frozen 0
  have f1 := bz1.frozen 1
  have f2 := bz1.frozen 2
  have f3 := bz1.frozen 3
  clear hov HS
  go_wp2_with fail
  refine bodyPost_ret (v := .tuple #[.agg #[.int .i64 0, .int .i64 0, .int .i64 0, .int .i64 0], .bool false]) (by simp [results, Try.results20, go_sem, z0, z1, z2, z3, hzl]) rfl ⟨rfl, ?_⟩
  exact ((((hbA).setCell (p := ⟨w.heap.size, 0, none⟩) (Nat.le_refl _) _).setCell (p := ⟨w.heap.size, 1, none⟩) (Nat.le_refl _) _).setCell (p := ⟨w.heap.size, 2, none⟩) (Nat.le_refl _) _).setCell (p := ⟨w.heap.size, 3, none⟩) (Nat.le_refl _) _

set_option maxHeartbeats 1000000 in
theorem first_late (g : Nat) (room : Int) (base : Nat) (ts r : List Tim) (h : Tim) (now : Int) (w : World) (hw : Wh w g room base ts) (hl : ts.length ≤ 1000) (hs : sortT ts = h :: r) (hd0 : now < h.due) :
    Calls Try.prog 20 #[.pointer (some ⟨g, 0, none⟩), .int .i64 now] w fun e w' => e = .returned (.tuple #[.agg #[.int .i64 0, .int .i64 0, .int .i64 0, .int .i64 0], .bool false]) ∧ Below w.heap.size w w' := by
  have hB0 := (Below.refl w.heap.size w).alloc (Nat.le_refl _) (.cells #[.int .i64 0, .int .i64 0, .int .i64 0, .int .i64 0] 29)
  have bz0 := Blk.new w 29 #[.int .i64 0, .int .i64 0, .int .i64 0, .int .i64 0] w.heap.size rfl
  have HS := Lib.hid (all_any g room base ts (w.alloc (.cells #[.int .i64 0, .int .i64 0, .int .i64 0, .int .i64 0] 29)) (hw.past hB0) hl)
  have hlen : ts.length = r.length + 1 := by rw [← sortT_len, hs]; rfl
  obtain ⟨n, hn⟩ : ∃ n, Hid (ts.length = n) := ⟨_, Lib.hid rfl⟩
  rw [hn.out] at HS hl hlen
  have q0 : ((n : Int) == 0) = false := by simp; omega
  have q1 : (0 : Int) < (n : Int) := by omega
  have hpos : 0 < n := by omega
  have q2 : decide (now < h.due) = true := decide_eq_true hd0
  clear hlen
  clear hw
  go_enter Try.func20, Try.ntmps20
  go_wp2_with fail
  refine HS.out.mono ?_
  rintro e w1 ⟨v, rfl, hov, hb1⟩
  obtain ⟨A1, c1, rfl⟩ := own_form hov
  have bz1 := bz0.past hb1
  have hbA := Below.past hB0 hb1 hB0.size
  have z0 := bz1.cell 0
  have z1 := bz1.cell 1
  have z2 := bz1.cell 2
  have z3 := bz1.cell 3
  have hzl := bz1.lt
  simp at z0 z1 z2 z3
  have f0 := bz1.frozen 0
  have f1 := bz1.frozen 1
  have f2 := bz1.frozen 2
  have f3 := bz1.frozen 3
  have hr := Rd.of_own hov
  rw [hs] at hr
  obtain ⟨k, rfl, hk1, hk2⟩ := own_pos hov hpos
  obtain ⟨b_f, off_f, he, hbb, hc⟩ := hr.elem Tim.cells_len (show (h :: r)[0]? = some h from rfl) hpos
  cases he
  have c0 := hc 0 _ rfl
  have c1' := hc 1 _ rfl
  have c2 := hc 2 _ rfl
  have c3 := hc 3 _ rfl
  simp at c0 c1' c2 c3
  clear hov HS hr hc
  go_wp2_with fail
  refine bodyPost_ret (v := .tuple #[.agg #[.int .i64 0, .int .i64 0, .int .i64 0, .int .i64 0], .bool false]) (by simp [results, Try.results20, go_sem, z0, z1, z2, z3, hzl]) rfl ⟨rfl, ?_⟩
  exact ((((hbA).setCell (p := ⟨w.heap.size, 0, none⟩) (Nat.le_refl _) _).setCell (p := ⟨w.heap.size, 1, none⟩) (Nat.le_refl _) _).setCell (p := ⟨w.heap.size, 2, none⟩) (Nat.le_refl _) _).setCell (p := ⟨w.heap.size, 3, none⟩) (Nat.le_refl _) _

set_option maxHeartbeats 2000000 in
theorem first_yes (g : Nat) (room : Int) (base : Nat) (ts r : List Tim) (h : Tim) (now : Int) (w : World) (hw : Wh w g room base ts) (hl : ts.length ≤ 1000) (ho : Once ts) (hs : sortT ts = h :: r) (hd : h.due ≤ now) :
    Calls Try.prog 20 #[.pointer (some ⟨g, 0, none⟩), .int .i64 now] w (FirstVPost g room w h true (ts.filter fun f => !eqT f h)) := by
  have hB0 := (Below.refl w.heap.size w).alloc (Nat.le_refl _) (.cells #[.int .i64 0, .int .i64 0, .int .i64 0, .int .i64 0] 29)
  have bz0 := Blk.new w 29 #[.int .i64 0, .int .i64 0, .int .i64 0, .int .i64 0] w.heap.size rfl
  have HS := Lib.hid (all_any g room base ts (w.alloc (.cells #[.int .i64 0, .int .i64 0, .int .i64 0, .int .i64 0] 29)) (hw.past hB0) hl)
  have hgw := hw.lt
  have HW0 := Lib.hid (hw.past hB0)
  have hlen : ts.length = r.length + 1 := by rw [← sortT_len, hs]; rfl
  obtain ⟨n, hn⟩ : ∃ n, Hid (ts.length = n) := ⟨_, Lib.hid rfl⟩
  rw [hn.out] at HS hlen
  have q0 : ((n : Int) == 0) = false := by simp; omega
  have q1 : (0 : Int) < (n : Int) := by omega
  have hpos : 0 < n := by omega
  clear hlen
  have q2 : decide (now < h.due) = false := decide_eq_false (by omega)
  clear hw
  go_enter Try.func20, Try.ntmps20
  go_wp2_with fail
  refine HS.out.mono ?_
  rintro e w1 ⟨v, rfl, hov, hb1⟩
  obtain ⟨A1, c1, rfl⟩ := own_form hov
  have bz1 := bz0.past hb1
  have hbA := Below.past hB0 hb1 hB0.size
  have z0 := bz1.cell 0
  have z1 := bz1.cell 1
  have z2 := bz1.cell 2
  have z3 := bz1.cell 3
  have hzl := bz1.lt
  simp at z0 z1 z2 z3
  have f0 := bz1.frozen 0
  have f1 := bz1.frozen 1
  have f2 := bz1.frozen 2
  have f3 := bz1.frozen 3
  have hr := Rd.of_own hov
  rw [hs] at hr
  obtain ⟨k, rfl, hk1, hk2⟩ := own_pos hov hpos
  obtain ⟨b_f, off_f, he, hbb, hc⟩ := hr.elem Tim.cells_len (show (h :: r)[0]? = some h from rfl) hpos
  cases he
  have c0 := hc 0 _ rfl
  have c1' := hc 1 _ rfl
  have c2 := hc 2 _ rfl
  have c3 := hc 3 _ rfl
  simp at c0 c1' c2 c3
  have HC := Lib.hid (cancelv_any g room base ts h w1 (HW0.out.past hb1) (by rw [hn.out] at hl; rw [hn.out]; exact hl))
  clear hov HS hr hc
  go_wp2_with fail
  refine HC.out.mono ?_
  rintro e w2 ⟨rfl, v', hw2, ho2⟩
  have hk3 : w2.heap[k]? = w1.heap[k]? := ho2.block k hk2 (by simp at hk1; omega) (by simp [Value.ownBlock])
  have d0 : w2.cell? ⟨k, 0, none⟩ = _ := (World.cell?_of_block (w := w1) hk3).trans c0
  have d1 : w2.cell? ⟨k, 1, none⟩ = _ := (World.cell?_of_block (w := w1) hk3).trans c1'
  have d2 : w2.cell? ⟨k, 2, none⟩ = _ := (World.cell?_of_block (w := w1) hk3).trans c2
  have d3 : w2.cell? ⟨k, 3, none⟩ = _ := (World.cell?_of_block (w := w1) hk3).trans c3
  have bz2 : Blk w2 w.heap.size 29 #[.int .i64 0, .int .i64 0, .int .i64 0, .int .i64 0] := ho2.blk bz1 (by omega) (by simp [Value.ownBlock])
  have y0 := bz2.cell 0
  have y1 := bz2.cell 1
  have y2 := bz2.cell 2
  have y3 := bz2.cell 3
  simp at y0 y1 y2 y3
  have x0 := bz2.frozen 0
  have x1 := bz2.frozen 1
  have x2 := bz2.frozen 2
  have x3 := bz2.frozen 3
  have hy := bz2.lt
  have HW2 := Lib.hid hw2
  have hsz := hbA.size
  have HO2 := Lib.hid (ho2.after hbA)
  clear hw2 ho2 c0 c1' c2 c3 HC z0 z1 z2 z3 f0 f1 f2 f3 bz1 bz2 hbb
  go_wp2_with fail
  refine bodyPost_ret (v := .tuple #[.agg #[.int .i64 h.due, .int .i64 h.kind, .int .i64 h.mem, .int .i64 h.lev], .bool true]) (by simp [results, Try.results20, go_sem, y0, y1, y2, y3, hy]) rfl ⟨rfl, v', ?_, ?_⟩
  · exact Whv.mono (((((HW2.out).setFar ⟨w.heap.size, 0, none⟩ (by show g ≠ w.heap.size; omega) (by show w.heap.size < w1.heap.size; omega) _).setFar ⟨w.heap.size, 1, none⟩ (by show g ≠ w.heap.size; omega) (by show w.heap.size < w1.heap.size; omega) _).setFar ⟨w.heap.size, 2, none⟩ (by show g ≠ w.heap.size; omega) (by show w.heap.size < w1.heap.size; omega) _).setFar ⟨w.heap.size, 3, none⟩ (by show g ≠ w.heap.size; omega) (by show w.heap.size < w1.heap.size; omega) _) hsz
  · exact ((((HO2.out).setNew ⟨w.heap.size, 0, none⟩ (Nat.le_refl _) _).setNew ⟨w.heap.size, 1, none⟩ (Nat.le_refl _) _).setNew ⟨w.heap.size, 2, none⟩ (Nat.le_refl _) _).setNew ⟨w.heap.size, 3, none⟩ (Nat.le_refl _) _
end Go.Proofs.Ytndhhnfhookeaaa
