/-
  Two calls that hand back arrays, laid into two new variables, in whatever order: by an invariant.
-/
import Derived.Test.YtfilpmmimpkfmaaWidG
import Derived.Test.YtfilpmmimpkfmaaRegFr
namespace Go.Proofs.Ytfilpmmimpkfmaa
open Go.RowKit

/-- Behind the first statement: both numbers lie in memory, each whole. -/
def TwoCut (W : World) (P Q : Int) (p q : Value) (w' : World) : Prop := ∃ g h : Nat, p = .pointer (some ⟨g, 0, none⟩) ∧ q = .pointer (some ⟨h, 0, none⟩) ∧ Blk w' g 25 (arr8 (dig P)) ∧ Blk w' h 25 (arr8 (dig Q)) ∧ Below W.heap.size W w'

def zero8 : Array Value := arr8 fun _ => 0

/-- What has come up: the first call (c1), the second (c2), the blocks (a1, a2), the stores (s1, s2); x0, x1: the loads. -/
structure St8 (W : World) (P Q : Int) (c1 l1 l2 c2 a1 a2 s1 s2 : Bool) (vc1 vl1 vl2 vc2 vp vq : Value) (X0 X1 : Value) (w : World) : Prop where
  below : Below W.heap.size W w
  call1 : c1 = true → vc1 = .agg (arr8 (dig P))
  load1 : l1 = true → vl1 = X0
  load2 : l2 = true → vl2 = X1
  call2 : c2 = true → vc2 = .agg (arr8 (dig Q))
  new1 : a1 = true → ∃ g, vp = .pointer (some ⟨g, 0, none⟩) ∧ W.heap.size ≤ g ∧ Blk w g 25 (if s1 then arr8 (dig P) else zero8)
  new2 : a2 = true → ∃ h, vq = .pointer (some ⟨h, 0, none⟩) ∧ W.heap.size ≤ h ∧ Blk w h 25 (if s2 then arr8 (dig Q) else zero8)
  apart : a1 = true → a2 = true → vp ≠ vq
  one : s1 = true → a1 = true
  two : s2 = true → a2 = true

theorem St8.past {W : World} {P Q : Int} {c1 l1 l2 c2 a1 a2 s1 s2 : Bool} {vc1 vl1 vl2 vc2 vp vq X0 X1 : Value} {w w' : World} (h : St8 W P Q c1 l1 l2 c2 a1 a2 s1 s2 vc1 vl1 vl2 vc2 vp vq X0 X1 w) (hb : Below w.heap.size w w') :
    St8 W P Q c1 l1 l2 c2 a1 a2 s1 s2 vc1 vl1 vl2 vc2 vp vq X0 X1 w' :=
  { h with
    below := Below.next h.below hb
    new1 := fun e => let ⟨g, e1, e2, e3⟩ := h.new1 e; ⟨g, e1, e2, e3.past hb⟩
    new2 := fun e => let ⟨g, e1, e2, e3⟩ := h.new2 e; ⟨g, e1, e2, e3.past hb⟩ }
theorem St8.setCall1 {W : World} {P Q : Int} {c1 l1 l2 c2 a1 a2 s1 s2 : Bool} {vc1 vl1 vl2 vc2 vp vq X0 X1 : Value} {w : World} (h : St8 W P Q c1 l1 l2 c2 a1 a2 s1 s2 vc1 vl1 vl2 vc2 vp vq X0 X1 w) :
    St8 W P Q true l1 l2 c2 a1 a2 s1 s2 (.agg (arr8 (dig P))) vl1 vl2 vc2 vp vq X0 X1 w := { h with call1 := fun _ => rfl }
theorem St8.setCall2 {W : World} {P Q : Int} {c1 l1 l2 c2 a1 a2 s1 s2 : Bool} {vc1 vl1 vl2 vc2 vp vq X0 X1 : Value} {w : World} (h : St8 W P Q c1 l1 l2 c2 a1 a2 s1 s2 vc1 vl1 vl2 vc2 vp vq X0 X1 w) :
    St8 W P Q c1 l1 l2 true a1 a2 s1 s2 vc1 vl1 vl2 (.agg (arr8 (dig Q))) vp vq X0 X1 w := { h with call2 := fun _ => rfl }
theorem St8.setLoad1 {W : World} {P Q : Int} {c1 l1 l2 c2 a1 a2 s1 s2 : Bool} {vc1 vl1 vl2 vc2 vp vq X0 X1 : Value} {w : World} (h : St8 W P Q c1 l1 l2 c2 a1 a2 s1 s2 vc1 vl1 vl2 vc2 vp vq X0 X1 w) :
    St8 W P Q c1 true l2 c2 a1 a2 s1 s2 vc1 X0 vl2 vc2 vp vq X0 X1 w := { h with load1 := fun _ => rfl }
theorem St8.setLoad2 {W : World} {P Q : Int} {c1 l1 l2 c2 a1 a2 s1 s2 : Bool} {vc1 vl1 vl2 vc2 vp vq X0 X1 : Value} {w : World} (h : St8 W P Q c1 l1 l2 c2 a1 a2 s1 s2 vc1 vl1 vl2 vc2 vp vq X0 X1 w) :
    St8 W P Q c1 l1 true c2 a1 a2 s1 s2 vc1 vl1 X1 vc2 vp vq X0 X1 w := { h with load2 := fun _ => rfl }
theorem St8.setNew1 {W : World} {P Q : Int} {c1 l1 l2 c2 a2 s1 s2 : Bool} {vc1 vl1 vl2 vc2 vp vq X0 X1 : Value} {w : World} (h : St8 W P Q c1 l1 l2 c2 false a2 s1 s2 vc1 vl1 vl2 vc2 vp vq X0 X1 w) :
    St8 W P Q c1 l1 l2 c2 true a2 s1 s2 vc1 vl1 vl2 vc2 (.pointer (some ⟨w.heap.size, 0, none⟩)) vq X0 X1 (w.alloc (.cells zero8 25)) := by
  have hb : Below w.heap.size w (w.alloc (.cells zero8 25)) := (Below.refl _ _).alloc (Nat.le_refl _) _
  have h' := h.past hb
  have hs1 : s1 = false := by cases hs : s1 with | false => rfl | true => exact absurd (h.one hs) (by simp)
  refine { h' with new1 := fun _ => ⟨_, rfl, h.below.size, ?_⟩, apart := fun _ e => ?_, one := fun e => rfl }
  · subst hs1; exact Blk.new w _ _ _ rfl
  · obtain ⟨g, e1, _, e3⟩ := h.new2 e
    have := e3.lt
    rw [e1]
    intro e4
    simp at e4 <;> omega
theorem St8.setNew2 {W : World} {P Q : Int} {c1 l1 l2 c2 a1 s1 s2 : Bool} {vc1 vl1 vl2 vc2 vp vq X0 X1 : Value} {w : World} (h : St8 W P Q c1 l1 l2 c2 a1 false s1 s2 vc1 vl1 vl2 vc2 vp vq X0 X1 w) :
    St8 W P Q c1 l1 l2 c2 a1 true s1 s2 vc1 vl1 vl2 vc2 vp (.pointer (some ⟨w.heap.size, 0, none⟩)) X0 X1 (w.alloc (.cells zero8 25)) := by
  have hb : Below w.heap.size w (w.alloc (.cells zero8 25)) := (Below.refl _ _).alloc (Nat.le_refl _) _
  have h' := h.past hb
  have hs2 : s2 = false := by cases hs : s2 with | false => rfl | true => exact absurd (h.two hs) (by simp)
  refine { h' with new2 := fun _ => ⟨_, rfl, h.below.size, ?_⟩, apart := fun e _ => ?_, two := fun e => rfl }
  · subst hs2; exact Blk.new w _ _ _ rfl
  · obtain ⟨g, e1, _, e3⟩ := h.new1 e
    have := e3.lt
    rw [e1]
    intro e4
    simp at e4 <;> omega

theorem far8 {w : World} {g h : Nat} {t : TypeId} {cs : Array Value} {D : Nat → Int} (hb : Blk w h t cs) (hne : h ≠ g) : Blk (put8 w g D) h t cs :=
  (((((((hb.far hne _).far hne _).far hne _).far hne _).far hne _).far hne _).far hne _).far hne _
theorem St8.setStore1 {W : World} {P Q : Int} {c1 l1 l2 c2 a2 s1 s2 : Bool} {vc1 vl1 vl2 vc2 vp vq X0 X1 : Value} {w : World} {g : Nat} (h : St8 W P Q c1 l1 l2 c2 true a2 s1 s2 vc1 vl1 vl2 vc2 vp vq X0 X1 w) (hg : vp = .pointer (some ⟨g, 0, none⟩)) :
    St8 W P Q c1 l1 l2 c2 true a2 true s2 vc1 vl1 vl2 vc2 vp vq X0 X1 (put8 w g (dig P)) := by
  obtain ⟨g', e1, e2, e3⟩ := h.new1 rfl
  obtain rfl : g = g' := by rw [hg] at e1; simpa using e1
  refine { h with below := below8 h.below e2, new1 := fun _ => ⟨g, hg, e2, ?_⟩, new2 := fun e => ?_, one := fun _ => rfl }
  · cases s1 with
    | false => exact blk8 (F := fun _ => 0) e3
    | true => exact blk8 (F := dig P) e3
  · obtain ⟨k, f1, f2, f3⟩ := h.new2 e
    refine ⟨k, f1, f2, far8 f3 (fun e5 => h.apart rfl e ?_)⟩
    rw [hg, f1, e5]
theorem St8.setStore2 {W : World} {P Q : Int} {c1 l1 l2 c2 a1 s1 s2 : Bool} {vc1 vl1 vl2 vc2 vp vq X0 X1 : Value} {w : World} {g : Nat} (h : St8 W P Q c1 l1 l2 c2 a1 true s1 s2 vc1 vl1 vl2 vc2 vp vq X0 X1 w) (hg : vq = .pointer (some ⟨g, 0, none⟩)) :
    St8 W P Q c1 l1 l2 c2 a1 true s1 true vc1 vl1 vl2 vc2 vp vq X0 X1 (put8 w g (dig Q)) := by
  obtain ⟨g', e1, e2, e3⟩ := h.new2 rfl
  obtain rfl : g = g' := by rw [hg] at e1; simpa using e1
  refine { h with below := below8 h.below e2, new2 := fun _ => ⟨g, hg, e2, ?_⟩, new1 := fun e => ?_, two := fun _ => rfl }
  · obtain ⟨k, f1, f2, f3⟩ := h.new1 e
    refine ⟨k, f1, f2, far8 f3 (fun e5 => h.apart e rfl ?_)⟩
    rw [hg, f1, e5]
  · cases s2 with
    | false => exact blk8 (F := fun _ => 0) e3
    | true => exact blk8 (F := dig Q) e3

set_option maxRecDepth 100000 in
set_option maxHeartbeats 1000000 in
/-- Eight words stored into a block, at the region's step. -/
theorem wpOp_store8 {ops : Array Oper} {Q : Exit → Act → World → Prop} {i : Nat} {o : Oper} {a : Act} {w : World} {K : Act → World → Prop} (ho : ops[i]? = some o) (hgd : o.guard = none) (hd : o.dst = none) (p x : Operand)
    (hop : o.op = .store 25 p x) (g : Nat) (F D : Nat → Int) (hp : a.eval p = .pointer (some ⟨g, 0, none⟩)) (hx : a.eval x = .agg (arr8 D)) (hb : Blk w g 25 (arr8 F))
    (h : K a (put8 w g D)) : wpOp Try.prog ops Q i K a w := by
  refine wpOp_step ho (fun K' hK => ?_)
  have s0 := (hb.cell 0).trans (arr8_get _ 0 (by omega))
  have s1 := (hb.cell 1).trans (arr8_get _ 1 (by omega))
  have s2 := (hb.cell 2).trans (arr8_get _ 2 (by omega))
  have s3 := (hb.cell 3).trans (arr8_get _ 3 (by omega))
  have s4 := (hb.cell 4).trans (arr8_get _ 4 (by omega))
  have s5 := (hb.cell 5).trans (arr8_get _ 5 (by omega))
  have s6 := (hb.cell 6).trans (arr8_get _ 6 (by omega))
  have s7 := (hb.cell 7).trans (arr8_get _ 7 (by omega))
  have sz0 := hb.frozen 0
  have sz1 := hb.frozen 1
  have sz2 := hb.frozen 2
  have sz3 := hb.frozen 3
  have sz4 := hb.frozen 4
  have sz5 := hb.frozen 5
  have sz6 := hb.frozen 6
  have sz7 := hb.frozen 7
  rw [if_pos (by simp [Region.wanted, hgd])]
  have hpa : a.put o.dst undef = a := by rw [hd]; rfl
  have HF := Lib.hid (hK _ _ h)
  clear h hK
  unfold Oper.wp
  have hu := Try.underlying25
  simp only [execOp, hop, hp, hx]
  unfold arr8
  go_simp
  exact HF.out

/-- A block of eight words, made at the region's step. -/
theorem wpOp_alloc8 {ops : Array Oper} {Q : Exit → Act → World → Prop} {i d : Nat} {o : Oper} {a : Act} {w : World} {K : Act → World → Prop} (ho : ops[i]? = some o) (hgd : o.guard = none) (hd : o.dst = some d)
    (hop : o.op = .alloc 25) (h : K (a.put (some d) (.pointer (some ⟨w.heap.size, 0, none⟩))) (w.alloc (.cells zero8 25))) : wpOp Try.prog ops Q i K a w := by
  refine wpOp_step ho (fun K' hK => ?_)
  rw [if_pos (by simp [Region.wanted, hgd])]
  have HF := Lib.hid (hK _ _ h)
  clear h hK
  unfold Oper.wp
  simp only [execOp, hop]
  go_simp
  exact HF.out

/-- A load of a word, at the region's step. -/
theorem wpOp_load64 {ops : Array Oper} {Q : Exit → Act → World → Prop} {i d : Nat} {o : Oper} {a : Act} {w : World} {K : Act → World → Prop} (ho : ops[i]? = some o) (hg : o.guard = none) (hd : o.dst = some d) (p : Operand) (hop : o.op = .load 22 p) (ad : Addr) (n : Int)
    (hp : a.eval p = .pointer (some ad)) (hc : w.cell? ad = some (.int .u64 n)) (h : K (a.put (some d) (.int .u64 n)) w) : wpOp Try.prog ops Q i K a w := by
  refine wpOp_yield ho hg hd _ ?_ h
  have hu := Try.underlying22
  simp only [execOp, hop, hp]
  go_simp
end Go.Proofs.Ytfilpmmimpkfmaa
