import Derived.Test.YtndhhnfhookeaaaTimG
import Derived.Test.YtndhhnfhookeaaaTimT
import Derived.Test.YtndhhnfhookeaaaTimL
import Derived.Test.YtndhhnfhookeaaaAppRd
namespace Go.Proofs.Ytndhhnfhookeaaa
open Go.RowKit

theorem Only.after {g : Nat} {v : Value} {w W w' : World} (h : Only g v W w') (hb : Below w.heap.size w W) : Only g v w w' :=
  ⟨h.os.trans hb.os, h.tape.trans hb.tape, h.output.trans hb.output, Nat.le_trans hb.size h.size, fun k hk h1 h2 => (h.block k (Nat.lt_of_lt_of_le hk hb.size) h1 h2).trans (hb.block k hk)⟩

/-! ### Fire -/
set_option maxHeartbeats 2000000 in
theorem firev_any (g : Nat) (room : Int) (base : Nat) (ts : List Tim) (now : Int) (w : World) (hw : Wh w g room base ts) (hl : ts.length ≤ 1000) :
    Calls Try.prog 17 #[.pointer (some ⟨g, 0, none⟩), .int .i64 now] w (PartVPost g room w (ts.filter (dueP now)) (ts.filter fun f => !dueP now f)) := by
  have hB0 := (Below.refl w.heap.size w).alloc (Nat.le_refl _) (.cells #[.int .i64 now] 3)
  have bx := Blk.new w 3 #[.int .i64 now] w.heap.size rfl
  have HP := Lib.hid (partv_any g room base ts 62 #[.pointer (some ⟨w.heap.size, 0, none⟩)] (dueP now) (w.alloc (.cells #[.int .i64 now] 3)) (hw.past hB0) hl eg_fire (fireP w.heap.size now _ _ (by simp) (bx.cell 0)))
  have HBB := Lib.hid hB0
  clear bx hB0 hw
  go_enter Try.func17, Try.ntmps17
  go_wp2_with fail
  refine HP.out.mono ?_
  rintro e w1 ⟨v, rfl, hov, v', hwh, hb1⟩
  have HO := Lib.hid (own_mono hov (show w.heap.size ≤ (w.alloc (.cells #[.int .i64 now] 3)).heap.size by simp))
  have HW := Lib.hid (hwh.mono (show w.heap.size ≤ (w.alloc (.cells #[.int .i64 now] 3)).heap.size by simp))
  have HZ := Lib.hid (hb1.after HBB.out)
  clear hov hwh hb1
  go_wp2_with fail
  go_ret
  exact ⟨_, rfl, HO.out, _, HW.out, HZ.out⟩

/-- What Cancel and Drop leave. -/
def CutVPost (g : Nat) (room : Int) (w : World) (code : Int) (left : List Tim) (e : Ending) (w' : World) : Prop :=
  e = .returned (.int .i64 code) ∧ ∃ v', Whv w' g room w.heap.size v' left ∧ Only g (.slice none 0 0) w w'

/-! ### All -/
set_option maxHeartbeats 1000000 in
theorem all_nil (w : World) : Calls Try.prog 19 #[.pointer none] w fun e w' => e = .returned (.slice none 0 0) ∧ w = w' := by
  go_enter Try.func19, Try.ntmps19
  go_wp2_with fail
  go_ret
  exact ⟨rfl, rfl⟩
set_option maxHeartbeats 1000000 in
theorem all_any (g : Nat) (room : Int) (base : Nat) (ts : List Tim) (w : World) (hw : Wh w g room base ts) (hl : ts.length ≤ 1000) :
    Calls Try.prog 19 #[.pointer (some ⟨g, 0, none⟩)] w (SrtTPost w ts ts.length) := by
  obtain ⟨A, c, bl, hown⟩ := hw
  have HS := Lib.hid (sorted_any A ts.length c ts w (Rd.of_own hown) hl)
  obtain ⟨n, hn⟩ : ∃ n, Hid (ts.length = n) := ⟨_, Lib.hid rfl⟩
  rw [hn.out] at HS bl ⊢
  have l0 := bl.cell 0
  have l1 := bl.cell 1
  simp at l0 l1
  clear hown hl
  go_enter Try.func19, Try.ntmps19
  go_wp2_with fail
  refine HS.out.mono ?_
  rintro e w1 ⟨v, rfl, hov, hb⟩
  have HO := Lib.hid hov
  clear hov
  go_wp2_with fail
  go_ret
  exact ⟨_, rfl, HO.out, hb⟩

/-! ### Cancel -/
set_option maxHeartbeats 1000000 in
theorem cancelP (h : Nat) (t : Tim) (w : World) (B0 : Nat) (hh : h < B0) (hc : Blk w h 29 #[.int .i64 t.due, .int .i64 t.kind, .int .i64 t.mem, .int .i64 t.lev]) : PredT 67 #[.pointer (some ⟨h, 0, none⟩)] (fun f => eqT f t) w B0 := by
  intro W hb f
  have bt := hc.below hb hh
  have hlt := bt.lt
  have c0 := bt.cell 0
  have c1 := bt.cell 1
  have c2 := bt.cell 2
  have c3 := bt.cell 3
  simp at c0 c1 c2 c3
  have hB := (Below.refl W.heap.size W).alloc (Nat.le_refl _) (.cells #[.int .i64 f.due, .int .i64 f.kind, .int .i64 f.mem, .int .i64 f.lev] 29)
  have hq := tim_eql f t
  show Calls Try.prog _ #[.agg #[.int .i64 f.due, .int .i64 f.kind, .int .i64 f.mem, .int .i64 f.lev], .pointer (some ⟨h, 0, none⟩)] W _
  obtain ⟨v, hv⟩ : ∃ v, Hid (eqT f t = v) := ⟨_, Lib.hid rfl⟩
  rw [hv.out] at hq
  simp only [hv.out]
  clear hb hc bt
  go_enter Try.func67, Try.ntmps67
  go_wp2_with fail
  go_ret
  exact ⟨rfl, hB⟩

theorem eg_cancel : ∀ args w, (callFunc 67 args).run Try.prog w = .ok (.enter 67 args) w := enters_of Try.func67 (by kernel_rfl) rfl

/-- What Cancel tells. -/
def cancC (ts : List Tim) (t : Tim) : Int := if (ts.filter fun f => eqT f t).length = 0 then 8 else 0

set_option maxHeartbeats 2000000 in
theorem cancelv_any (g : Nat) (room : Int) (base : Nat) (ts : List Tim) (t : Tim) (w : World) (hw : Wh w g room base ts) (hl : ts.length ≤ 1000) :
    Calls Try.prog 25 #[.pointer (some ⟨g, 0, none⟩), .agg #[.int .i64 t.due, .int .i64 t.kind, .int .i64 t.mem, .int .i64 t.lev]] w (CutVPost g room w (cancC ts t) (ts.filter fun f => !eqT f t)) := by
  have hB0 := (Below.refl w.heap.size w).alloc (Nat.le_refl _) (.cells #[.int .i64 t.due, .int .i64 t.kind, .int .i64 t.mem, .int .i64 t.lev] 29)
  have bx := Blk.new w 29 #[.int .i64 t.due, .int .i64 t.kind, .int .i64 t.mem, .int .i64 t.lev] w.heap.size rfl
  have HP := Lib.hid (partv_any g room base ts 67 #[.pointer (some ⟨w.heap.size, 0, none⟩)] (fun f => eqT f t) (w.alloc (.cells #[.int .i64 t.due, .int .i64 t.kind, .int .i64 t.mem, .int .i64 t.lev] 29)) (hw.past hB0) hl eg_cancel (cancelP w.heap.size t _ _ (by simp) bx))
  obtain ⟨m, hm⟩ : ∃ m, Hid ((ts.filter fun f => eqT f t).length = m) := ⟨_, Lib.hid rfl⟩
  have HC : Hid (cancC ts t = if m = 0 then 8 else 0) := Lib.hid (by rw [cancC, hm.out])
  rw [HC.out]
  have HBB := Lib.hid hB0
  clear bx hB0 hw
  by_cases h0 : m = 0
  · have q1 : ((m : Int) == 0) = true := by simp [h0]
    rw [if_pos h0]
    go_enter Try.func25, Try.ntmps25
    go_wp2_with fail
    refine HP.out.mono ?_
    rintro e w1 ⟨v, rfl, hov, v', hwh, hb1⟩
    rw [hm.out] at hov
    obtain ⟨Av, cv, rfl⟩ := own_form hov
    have HW := Lib.hid (hwh.mono (show w.heap.size ≤ (w.alloc (.cells #[.int .i64 t.due, .int .i64 t.kind, .int .i64 t.mem, .int .i64 t.lev] 29)).heap.size by simp))
    have HZ := Lib.hid (hb1.after HBB.out)
    clear hov hwh hb1 h0
    go_wp2_with fail
    go_ret
    exact ⟨rfl, _, HW.out, HZ.out⟩
  · have q1 : ((m : Int) == 0) = false := by simp; omega
    rw [if_neg h0]
    go_enter Try.func25, Try.ntmps25
    go_wp2_with fail
    refine HP.out.mono ?_
    rintro e w1 ⟨v, rfl, hov, v', hwh, hb1⟩
    rw [hm.out] at hov
    obtain ⟨Av, cv, rfl⟩ := own_form hov
    have HW := Lib.hid (hwh.mono (show w.heap.size ≤ (w.alloc (.cells #[.int .i64 t.due, .int .i64 t.kind, .int .i64 t.mem, .int .i64 t.lev] 29)).heap.size by simp))
    have HZ := Lib.hid (hb1.after HBB.out)
    clear hov hwh hb1 h0
    go_wp2_with fail
    go_ret
    exact ⟨rfl, _, HW.out, HZ.out⟩

/-! ### Drop -/
def dropB (k m : Int) (f : Tim) : Bool := f.kind == k && f.mem == m
set_option maxHeartbeats 1000000 in
theorem dropP (h1 h2 : Nat) (k m : Int) (w : World) (B0 : Nat) (hh1 : h1 < B0) (hh2 : h2 < B0) (hc1 : w.cell? ⟨h1, 0, none⟩ = some (.int .i64 k)) (hc2 : w.cell? ⟨h2, 0, none⟩ = some (.int .i64 m)) : PredT 68 #[.pointer (some ⟨h1, 0, none⟩), .pointer (some ⟨h2, 0, none⟩)] (dropB k m) w B0 := by
  intro W hb f
  have c1 := (hb.cell (p := ⟨h1, 0, none⟩) hh1).trans hc1
  have c2 := (hb.cell (p := ⟨h2, 0, none⟩) hh2).trans hc2
  have hlt : ∀ h v, W.cell? ⟨h, 0, none⟩ = some v → h < W.heap.size := fun h v hv => by
    rcases Nat.lt_or_ge h W.heap.size with h1 | h1
    · exact h1
    · simp [World.cell?, Array.getElem?_eq_none h1] at hv
  have l1 := hlt _ _ c1
  have l2 := hlt _ _ c2
  have hB := (Below.refl W.heap.size W).alloc (Nat.le_refl _) (.cells #[.int .i64 f.due, .int .i64 f.kind, .int .i64 f.mem, .int .i64 f.lev] 29)
  show Calls Try.prog _ #[.agg #[.int .i64 f.due, .int .i64 f.kind, .int .i64 f.mem, .int .i64 f.lev], .pointer (some ⟨h1, 0, none⟩), .pointer (some ⟨h2, 0, none⟩)] W _
  clear hb hc1 hc2 hlt
  cases hk : (f.kind == k) with
  | true =>
    have HV : Hid (dropB k m f = (f.mem == m)) := Lib.hid (by rw [dropB, hk]; simp)
    rw [HV.out]
    go_enter Try.func68, Try.ntmps68
    go_wp2_with fail
    go_ret
    exact ⟨rfl, hB⟩
  | false =>
    have HV : Hid (dropB k m f = false) := Lib.hid (by rw [dropB, hk]; simp)
    rw [HV.out]
    go_enter Try.func68, Try.ntmps68
    go_wp2_with fail
    go_ret
    exact ⟨rfl, hB⟩

theorem eg_drop : ∀ args w, (callFunc 68 args).run Try.prog w = .ok (.enter 68 args) w := enters_of Try.func68 (by kernel_rfl) rfl

set_option maxHeartbeats 2000000 in
theorem dropv_any (g : Nat) (room : Int) (base : Nat) (ts : List Tim) (k m : Int) (w : World) (hw : Wh w g room base ts) (hl : ts.length ≤ 1000) :
    Calls Try.prog 26 #[.pointer (some ⟨g, 0, none⟩), .int .i64 k, .int .i64 m] w (CutVPost g room w ((ts.filter (dropB k m)).length : Nat) (ts.filter fun f => !dropB k m f)) := by
  have hB0 := ((Below.refl w.heap.size w).alloc (Nat.le_refl _) (.cells #[.int .i64 k] 3)).alloc (by simp) (.cells #[.int .i64 m] 3)
  have bx := (Blk.new w 3 #[.int .i64 k] w.heap.size rfl).alloc (.cells #[.int .i64 m] 3)
  have by' := Blk.new (w.alloc (.cells #[.int .i64 k] 3)) 3 #[.int .i64 m] (w.heap.size + 1) (by simp)
  have HP := Lib.hid (partv_any g room base ts 68 #[.pointer (some ⟨w.heap.size, 0, none⟩), .pointer (some ⟨w.heap.size + 1, 0, none⟩)] (dropB k m) ((w.alloc (.cells #[.int .i64 k] 3)).alloc (.cells #[.int .i64 m] 3)) (hw.past hB0) hl eg_drop (dropP w.heap.size (w.heap.size + 1) k m _ _ (by simp; omega) (by simp) (bx.cell 0) (by'.cell 0)))
  obtain ⟨n, hn⟩ : ∃ n, Hid ((ts.filter (dropB k m)).length = n) := ⟨_, Lib.hid rfl⟩
  rw [hn.out]
  have HBB := Lib.hid hB0
  clear bx by' hB0 hw
  go_enter Try.func26, Try.ntmps26
  go_wp2_with fail
  refine HP.out.mono ?_
  rintro e w1 ⟨v, rfl, hov, v', hwh, hb1⟩
  rw [hn.out] at hov
  obtain ⟨Av, cv, rfl⟩ := own_form hov
  have HW := Lib.hid (hwh.mono (show w.heap.size ≤ ((w.alloc (.cells #[.int .i64 k] 3)).alloc (.cells #[.int .i64 m] 3)).heap.size by simp; omega))
  have HZ := Lib.hid (hb1.after HBB.out)
  clear hov hwh hb1
  go_wp2_with fail
  go_ret
  exact ⟨rfl, _, HW.out, HZ.out⟩
end Go.Proofs.Ytndhhnfhookeaaa
