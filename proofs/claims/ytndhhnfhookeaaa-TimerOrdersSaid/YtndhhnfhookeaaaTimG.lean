import Derived.Test.YtndhhnfhookeaaaTimF
namespace Go.Proofs.Ytndhhnfhookeaaa
open Go.RowKit

theorem Wh.mono {w : World} {g : Nat} {room : Int} {base base' : Nat} {ts : List Tim} (h : Wh w g room base ts) (hb : base' ≤ base) : Wh w g room base' ts := by
  obtain ⟨A, c, h1, h2⟩ := h
  exact ⟨A, c, h1, own_mono h2 hb⟩
theorem Wh.past {w w' : World} {g : Nat} {room : Int} {base : Nat} {ts : List Tim} (h : Wh w g room base ts) (hb : Below w.heap.size w w') : Wh w' g room base ts := by
  obtain ⟨A, c, h1, h2⟩ := h
  exact ⟨A, c, h1.past hb, own_past h2 hb⟩
theorem Wh.lt {w : World} {g : Nat} {room : Int} {base : Nat} {ts : List Tim} (h : Wh w g room base ts) : g < w.heap.size := by
  obtain ⟨A, c, h1, _⟩ := h; exact h1.lt

set_option maxHeartbeats 1000000 in
theorem fireP (h : Nat) (now : Int) (w : World) (B0 : Nat) (hh : h < B0) (hc : w.cell? ⟨h, 0, none⟩ = some (.int .i64 now)) : PredT 62 #[.pointer (some ⟨h, 0, none⟩)] (fun f => decide (f.due ≤ now)) w B0 := by
  intro W hb f
  have c0 := (hb.cell (p := ⟨h, 0, none⟩) hh).trans hc
  have hB := (Below.refl W.heap.size W).alloc (Nat.le_refl _) (.cells #[.int .i64 f.due, .int .i64 f.kind, .int .i64 f.mem, .int .i64 f.lev] 29)
  show Calls Try.prog _ #[.agg #[.int .i64 f.due, .int .i64 f.kind, .int .i64 f.mem, .int .i64 f.lev], .pointer (some ⟨h, 0, none⟩)] W _
  have hlt : h < W.heap.size := by
    rcases Nat.lt_or_ge h W.heap.size with h1 | h1
    · exact h1
    · simp [World.cell?, Array.getElem?_eq_none h1] at c0
  clear hb hc
  go_enter Try.func62, Try.ntmps62
  go_wp2_with fail
  go_ret
  exact ⟨rfl, hB⟩

theorem eg_fire : ∀ args w, (callFunc 62 args).run Try.prog w = .ok (.enter 62 args) w := enters_of Try.func62 (by kernel_rfl) rfl

set_option maxHeartbeats 2000000 in
theorem fire_any (g : Nat) (room : Int) (base : Nat) (ts : List Tim) (now : Int) (w : World) (hw : Wh w g room base ts) (hl : ts.length ≤ 1000) (B : Nat) (a : World) (hB : Below B a w) (hBw : B ≤ w.heap.size) (hBg : B ≤ g) :
    Calls Try.prog 17 #[.pointer (some ⟨g, 0, none⟩), .int .i64 now] w (PartPost B a g room w.heap.size (ts.filter fun f => decide (f.due ≤ now)) (ts.filter fun f => !decide (f.due ≤ now))) := by
  have hB0 := (Below.refl w.heap.size w).alloc (Nat.le_refl _) (.cells #[.int .i64 now] 3)
  have bx := Blk.new w 3 #[.int .i64 now] w.heap.size rfl
  have HP := Lib.hid (part_any g room base ts 62 #[.pointer (some ⟨w.heap.size, 0, none⟩)] (fun f => decide (f.due ≤ now)) (w.alloc (.cells #[.int .i64 now] 3)) (hw.past hB0) hl eg_fire (fireP w.heap.size now _ _ (by simp) (bx.cell 0)) B a (Below.trans hB (hB0.mono hBw)) (by simp; omega) hBg)
  clear bx hB0 hB hw
  go_enter Try.func17, Try.ntmps17
  go_wp2_with fail
  refine HP.out.mono ?_
  rintro e w1 ⟨v, rfl, hov, hwh, hb1⟩
  have HO := Lib.hid (own_mono hov (show w.heap.size ≤ (w.alloc (.cells #[.int .i64 now] 3)).heap.size by simp))
  have HW := Lib.hid (hwh.mono (show w.heap.size ≤ (w.alloc (.cells #[.int .i64 now] 3)).heap.size by simp))
  clear hov hwh
  go_wp2_with fail
  go_ret
  exact ⟨_, rfl, HO.out, HW.out, hb1⟩

set_option maxHeartbeats 1000000 in
theorem timerLen_any (g : Nat) (room : Int) (base : Nat) (ts : List Tim) (w : World) (hw : Wh w g room base ts) :
    Calls Try.prog 24 #[.pointer (some ⟨g, 0, none⟩)] w fun e w' => e = .returned (.int .i64 (ts.length : Nat)) ∧ w = w' := by
  obtain ⟨A, c, bl, _⟩ := hw
  have l0 := bl.cell 0
  have l1 := bl.cell 1
  simp at l0 l1
  go_enter Try.func24, Try.ntmps24
  go_wp2_with fail
  go_ret
  exact ⟨rfl, rfl⟩

set_option maxHeartbeats 8000000 in
set_option maxRecDepth 100000 in
theorem awake21 (w : World) : Calls Try.prog 13 #[] w fun e w' => e = .returned (.bool true) ∧ Below w.heap.size w w' := by
  go_enter Try.func13, Try.ntmps13
  go_wp2_with fail
  refine (timerNew_any 5 _).mono ?_
  rintro e w1 ⟨rfl, hw1, hb1⟩
  have hs1 := hb1.size
  have hgw := hw1.out.lt
  go_wp2_with fail
  refine (set_new w.heap.size (max 5 0) w.heap.size [] ⟨5, 0, 0, 0⟩ w1 hw1.out (by simp) rfl (by decide) w.heap.size w hb1 hs1 hs1 (Nat.le_refl _) (Nat.le_refl _)).mono ?_
  rintro e w2 ⟨rfl, hw, hb2⟩
  have hw2 := Lib.hid hw
  have hs2 := hb2.size
  clear hw hw1 hb1
  go_wp2_with fail
  refine (set_new w.heap.size (max 5 0) w.heap.size ([] ++ [⟨5, 0, 0, 0⟩]) ⟨3, 0, 2, 0⟩ w2 hw2.out (by simp) rfl (by decide) w.heap.size w hb2 hs2 hs2 (Nat.le_refl _) (Nat.le_refl _)).mono ?_
  rintro e w3 ⟨rfl, hw, hb3⟩
  have hw3 := Lib.hid hw
  have hs3 := hb3.size
  clear hw hw2 hb2
  go_wp2_with fail
  refine (set_new w.heap.size (max 5 0) w.heap.size ([] ++ [⟨5, 0, 0, 0⟩] ++ [⟨3, 0, 2, 0⟩]) ⟨3, 0, 0, 0⟩ w3 hw3.out (by simp) rfl (by decide) w.heap.size w hb3 hs3 hs3 (Nat.le_refl _) (Nat.le_refl _)).mono ?_
  rintro e w4 ⟨rfl, hw, hb4⟩
  have hw4 := Lib.hid hw
  have hs4 := hb4.size
  clear hw hw3 hb3
  go_wp2_with fail
  refine (fire_any w.heap.size (max 5 0) w.heap.size ([] ++ [⟨5, 0, 0, 0⟩] ++ [⟨3, 0, 2, 0⟩] ++ [⟨3, 0, 0, 0⟩]) 4 w4 hw4.out (by simp) w.heap.size w hb4 hs4 (Nat.le_refl _)).mono ?_
  rintro e w5 ⟨v, rfl, hov, hw, hb5⟩
  rw [show (List.filter (fun f => decide (f.due ≤ 4)) ([] ++ [(⟨5, 0, 0, 0⟩ : Tim)] ++ [⟨3, 0, 2, 0⟩] ++ [⟨3, 0, 0, 0⟩])) = [⟨3, 0, 2, 0⟩, ⟨3, 0, 0, 0⟩] from rfl, show sortT [⟨3, 0, 2, 0⟩, ⟨3, 0, 0, 0⟩] = [⟨3, 0, 0, 0⟩, ⟨3, 0, 2, 0⟩] from rfl] at hov
  rw [show (List.filter (fun f => !decide (f.due ≤ 4)) ([] ++ [(⟨5, 0, 0, 0⟩ : Tim)] ++ [⟨3, 0, 2, 0⟩] ++ [⟨3, 0, 0, 0⟩])) = [⟨5, 0, 0, 0⟩] from rfl] at hw
  obtain ⟨A5, c5, rfl⟩ := own_form hov
  have hr5 := Lib.hid (Rd.of_own hov)
  have hw5 := Lib.hid hw
  have hs5 := hb5.size
  clear hov hw hw4 hb4
  have hB6 := hb5.alloc hs5 (.cells #[.int .i64 3, .int .i64 0, .int .i64 0, .int .i64 0, .int .i64 3, .int .i64 0, .int .i64 2, .int .i64 0] 29)
  have hB6' := (Below.refl w5.heap.size w5).alloc (Nat.le_refl _) (.cells #[.int .i64 3, .int .i64 0, .int .i64 0, .int .i64 0, .int .i64 3, .int .i64 0, .int .i64 2, .int .i64 0] 29)
  have hlit := Rd.lit (n := 2) (sz := 4) w5 #[.int .i64 3, .int .i64 0, .int .i64 0, .int .i64 0, .int .i64 3, .int .i64 0, .int .i64 2, .int .i64 0] 29 w5.heap.size rfl rfl
  have HS := Lib.hid (refSame_yes A5 2 c5 (some ⟨w5.heap.size, 0, none⟩) 2 [⟨3, 0, 0, 0⟩, ⟨3, 0, 2, 0⟩] _ _ _ (hr5.out.past hB6') hlit (by omega))
  have hw6 := Lib.hid (hw5.out.past hB6')
  clear hlit hB6' hw5
  go_wp2_with fail
  refine HS.out.mono ?_
  rintro e w7 ⟨rfl, hd7⟩
  have hw7 := Lib.hid (hw6.out.past hd7.bel)
  have hB7 := hd7.below hB6
  clear hw6 hd7 HS hB6
  go_wp2_with fail
  refine (timerLen_any _ _ _ _ w7 hw7.out).mono ?_
  rintro e w8 ⟨rfl, rfl⟩
  go_wp2_with fail
  go_ret
  exact ⟨rfl, hB7⟩
end Go.Proofs.Ytndhhnfhookeaaa
