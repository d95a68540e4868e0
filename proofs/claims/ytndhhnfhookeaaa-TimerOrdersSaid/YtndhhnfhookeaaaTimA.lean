import Derived.Test.YtndhhnfhookeaaaKeyE
import Derived.Test.YtndhhnfhookeaaaKeyF
import Derived.Test.YtndhhnfhookeaaaKeyG
import Derived.Test.YtndhhnfhookeaaaTimP
import Derived.Laws.StructEq
namespace Go.Proofs.Ytndhhnfhookeaaa
open Go.RowKit

def Tim.cells (t : Tim) : List Value := [.int .i64 t.due, .int .i64 t.kind, .int .i64 t.mem, .int .i64 t.lev]
theorem Tim.cells_len (t : Tim) : t.cells.length = 4 := rfl
theorem timInfo : (Try.prog.info? 29).map (fun i => (i.zero, i.size, i.bytes)) = some (some (.agg #[.int .i64 0, .int .i64 0, .int .i64 0, .int .i64 0]), 4, 32) := by kernel_rfl
theorem own_mono {w : World} {base base' : Nat} {e : TypeId} {size n : Nat} {v : Value} {xs : List Value} (h : w.ownsRow base e size v n xs) (hb : base' ≤ base) : w.ownsRow base' e size v n xs := by
  refine ⟨h.1, ?_⟩
  rcases h.2 with h0 | ⟨g, cap, cur, rfl, hg, h1⟩
  · exact .inl h0
  · exact .inr ⟨g, cap, cur, rfl, by omega, h1⟩

/-- A row of the call's own, over another call. -/
theorem own_past {w w' : World} {base : Nat} {e : TypeId} {size : Nat} {v : Value} {n : Nat} {xs : List Value} (h : w.ownsRow base e size v n xs) (hb : Below w.heap.size w w') : w'.ownsRow base e size v n xs := by
  refine ⟨h.1, ?_⟩
  rcases h.2 with h0 | ⟨g, cap, cur, rfl, hg, hh, h1⟩
  · exact .inl h0
  · refine .inr ⟨g, cap, cur, rfl, hg, ?_, h1⟩
    have hlt : g < w.heap.size := by
      rcases Nat.lt_or_ge g w.heap.size with hlt | hge
      · exact hlt
      · rw [Array.getElem?_eq_none hge] at hh; cases hh
    rw [hb.block g hlt]; exact hh

/-- Are two timers the same? -/
def eqT (x y : Tim) : Bool := x.due == y.due && (x.kind == y.kind && (x.mem == y.mem && x.lev == y.lev))
theorem eqT_refl (x : Tim) : eqT x x = true := by simp [eqT]
theorem eqT_iff {x y : Tim} : eqT x y = true ↔ x = y := by
  obtain ⟨a1, a2, a3, a4⟩ := x
  obtain ⟨b1, b2, b3, b4⟩ := y
  simp [eqT]
theorem tim_eql (x y : Tim) (w : World) : (binOp .eql 29 (.agg #[.int .i64 x.due, .int .i64 x.kind, .int .i64 x.mem, .int .i64 x.lev]) (.agg #[.int .i64 y.due, .int .i64 y.kind, .int .i64 y.mem, .int .i64 y.lev])).run Try.prog w = .ok (.bool (eqT x y)) w := by
  have u3 := Try.underlying3
  have hS : Try.prog.underlying 29 = some (.struct (Try.prog.fieldsOf 29)) := by kernel_rfl
  have hp : Try.prog.stoodInHeld 29 = false := by kernel_rfl
  rw [run_eql_struct, show (10000 : Nat) = 9999 + 1 from rfl, run_equalIn_agg w 9999 29 _ _ hS hp]
  simp only [Program.fieldsOf, Try.underlying29]
  go_simp
  unfold eqT
  by_cases h1 : x.due = y.due <;> by_cases h2 : x.kind = y.kind <;> by_cases h3 : x.mem = y.mem <;> by_cases h4 : x.lev = y.lev <;> simp [h1, h2, h3, h4]
theorem tim_neq (x y : Tim) (v : Bool) (hv : eqT x y = v) (w : World) : (binOp .neq 29 (.agg #[.int .i64 x.due, .int .i64 x.kind, .int .i64 x.mem, .int .i64 x.lev]) (.agg #[.int .i64 y.due, .int .i64 y.kind, .int .i64 y.mem, .int .i64 y.lev])).run Try.prog w = .ok (.bool (!v)) w := by
  have u3 := Try.underlying3
  have hS : Try.prog.underlying 29 = some (.struct (Try.prog.fieldsOf 29)) := by kernel_rfl
  have hp : Try.prog.stoodInHeld 29 = false := by kernel_rfl
  subst hv
  rw [run_neq_struct, show (10000 : Nat) = 9999 + 1 from rfl, run_equalIn_agg w 9999 29 _ _ hS hp]
  simp only [Program.fieldsOf, Try.underlying29]
  go_simp
  unfold eqT
  by_cases h1 : x.due = y.due <;> by_cases h2 : x.kind = y.kind <;> by_cases h3 : x.mem = y.mem <;> by_cases h4 : x.lev = y.lev <;> simp [h1, h2, h3, h4]

/-- The key of a timer: four numbers in a new block. -/
def KeyPost (w : World) (t : Tim) (e : Ending) (w' : World) : Prop := ∃ g, e = .returned (.slice (some ⟨g, 0, none⟩) 4 4) ∧ w.heap.size ≤ g ∧ Blk w' g 2 #[.int .i64 t.due, .int .i64 t.kind, .int .i64 t.mem, .int .i64 t.lev] ∧ Below w.heap.size w w'
set_option maxHeartbeats 1000000 in
theorem timerKey_any (t : Tim) (w : World) : Calls Try.prog 95 #[.agg #[.int .i64 t.due, .int .i64 t.kind, .int .i64 t.mem, .int .i64 t.lev]] w (KeyPost w t) := by
  have hB0 := (Below.refl w.heap.size w).alloc (Nat.le_refl _) (.cells #[.int .i64 t.due, .int .i64 t.kind, .int .i64 t.mem, .int .i64 t.lev] 29)
  have hB1 := hB0.alloc (by simp) (.cells #[.int .i64 t.due, .int .i64 t.kind, .int .i64 t.mem, .int .i64 t.lev] 2)
  have bl := Blk.new (w.alloc (.cells #[.int .i64 t.due, .int .i64 t.kind, .int .i64 t.mem, .int .i64 t.lev] 29)) 2 #[.int .i64 t.due, .int .i64 t.kind, .int .i64 t.mem, .int .i64 t.lev] (w.heap.size + 1) (by simp)
  go_enter Try.func95, Try.ntmps95
  go_wp2_with fail
  go_ret
  exact ⟨_, rfl, by simp, bl, hB1⟩

set_option maxHeartbeats 2000000 in
theorem refBelow_any (a b : Tim) (w : World) : Calls Try.prog 22 #[.agg #[.int .i64 a.due, .int .i64 a.kind, .int .i64 a.mem, .int .i64 a.lev], .agg #[.int .i64 b.due, .int .i64 b.kind, .int .i64 b.mem, .int .i64 b.lev]] w fun e w' => e = .returned (.bool (tB a b)) ∧ Below w.heap.size w w' := by
  have hB1 := ((Below.refl w.heap.size w).alloc (Nat.le_refl _) (.cells #[.int .i64 a.due, .int .i64 a.kind, .int .i64 a.mem, .int .i64 a.lev] 29)).alloc (by simp) (.cells #[.int .i64 b.due, .int .i64 b.kind, .int .i64 b.mem, .int .i64 b.lev] 29)
  by_cases h1 : a.due = b.due
  · have q1 : (a.due != b.due) = false := by simp [h1]
    by_cases h2 : a.kind = b.kind
    · have q2 : (a.kind != b.kind) = false := by simp [h2]
      by_cases h3 : a.mem = b.mem
      · have q3 : (a.mem != b.mem) = false := by simp [h3]
        have HV : Hid (tB a b = decide (a.lev < b.lev)) := Lib.hid (by rw [tB, if_neg (fun h => h h1), if_neg (fun h => h h2), if_neg (fun h => h h3)])
        rw [HV.out]
        clear h1 h2 h3
        go_enter Try.func22, Try.ntmps22
        go_wp2_with fail
        go_ret
        exact ⟨rfl, hB1⟩
      · have q3 : (a.mem != b.mem) = true := by simp [h3]
        have HV : Hid (tB a b = decide (a.mem < b.mem)) := Lib.hid (by rw [tB, if_neg (fun h => h h1), if_neg (fun h => h h2), if_pos h3])
        rw [HV.out]
        clear h1 h2 h3
        go_enter Try.func22, Try.ntmps22
        go_wp2_with fail
        go_ret
        exact ⟨rfl, hB1⟩
    · have q2 : (a.kind != b.kind) = true := by simp [h2]
      have HV : Hid (tB a b = decide (a.kind < b.kind)) := Lib.hid (by rw [tB, if_neg (fun h => h h1), if_pos h2])
      rw [HV.out]
      clear h1 h2
      go_enter Try.func22, Try.ntmps22
      go_wp2_with fail
      go_ret
      exact ⟨rfl, hB1⟩
  · have q1 : (a.due != b.due) = true := by simp [h1]
    have HV : Hid (tB a b = decide (a.due < b.due)) := Lib.hid (by rw [tB, if_pos h1])
    rw [HV.out]
    clear h1
    go_enter Try.func22, Try.ntmps22
    go_wp2_with fail
    go_ret
    exact ⟨rfl, hB1⟩

/-! ### The same timers -/
def sameT : List Tim → List Tim → Bool
  | [], [] => true
  | a :: l, b :: m => eqT a b && sameT l m
  | _, _ => false
theorem sameT_refl : ∀ l : List Tim, sameT l l = true
  | [] => rfl
  | a :: l => by simp [sameT, eqT_refl, sameT_refl l]

set_option maxHeartbeats 2000000 in
theorem refSame_yes (A1 : Option Addr) (n c1 : Nat) (A2 : Option Addr) (c2 : Nat) (l : List Tim) (B1 B2 : Nat) (w : World) (hr1 : Rd w B1 4 A1 n (l.flatMap Tim.cells)) (hr2 : Rd w B2 4 A2 n (l.flatMap Tim.cells)) (hn : n ≤ 1000000) :
    Calls Try.prog 18 #[.slice A1 n c1, .slice A2 n c2] w fun e w' => e = .returned (.bool true) ∧ Drawn w w' := by
  have HL := Lib.hid (hr1.len Tim.cells_len (by omega))
  have q0 : ((n : Int) != (n : Int)) = false := by simp
  go_enter Try.func18, Try.ntmps18
  go_wp2_with fail
  go_loopw [5] (fun i wr => ∃ k : Nat, k ≤ n ∧ i = .int .i64 k ∧ Hid (Drawn w wr)) (fun i _ => n - (intOf i).toNat)
  case atStart => exact ⟨0, Nat.zero_le _, rfl, Drawn.refl w⟩
  case round =>
    obtain ⟨k, hk, rfl, HD⟩ := hrel
    by_cases hlt : k < n
    · have hlz : (k : Int) < (n : Int) := by omega
      obtain ⟨f, hg⟩ : ∃ f, l[k]? = some f := ⟨_, List.getElem?_eq_getElem (by have := HL.out; omega)⟩
      obtain ⟨b1, o1, rfl, hb1, hc1⟩ := (hr1.keep fun p _ => HD.out.keep p).elem Tim.cells_len hg hlt
      obtain ⟨b2, o2, rfl, hb2, hc2⟩ := (hr2.keep fun p _ => HD.out.keep p).elem Tim.cells_len hg hlt
      have c0 := hc1 0 _ rfl
      have c1 := hc1 1 _ rfl
      have c2 := hc1 2 _ rfl
      have c3 := hc1 3 _ rfl
      have d0 := hc2 0 _ rfl
      have d1 := hc2 1 _ rfl
      have d2 := hc2 2 _ rfl
      have d3 := hc2 3 _ rfl
      simp only [Nat.add_zero] at c0 d0
      have hq : ∀ w, (binOp .neq 29 (.agg #[.int .i64 f.due, .int .i64 f.kind, .int .i64 f.mem, .int .i64 f.lev]) (.agg #[.int .i64 f.due, .int .i64 f.kind, .int .i64 f.mem, .int .i64 f.lev])).run Try.prog w = .ok (.bool false) w := fun w => tim_neq f f true (eqT_refl f) w
      clear hg hc1 hc2
      go_wp2_with fail
      go_quiet (fail)
      clear hq c0 c1 c2 c3 d0 d1 d2 d3
      go_wp2_with fail
      go_roundw
      case rel => exact ⟨k + 1, by omega, by go_num, HD.out.next _⟩
      case measure => simp [intOf]; omega
    · have hlz : ¬ (k : Int) < (n : Int) := by omega
      go_wp2_with fail
      go_ret
      exact ⟨rfl, HD.out⟩
end Go.Proofs.Ytndhhnfhookeaaa
