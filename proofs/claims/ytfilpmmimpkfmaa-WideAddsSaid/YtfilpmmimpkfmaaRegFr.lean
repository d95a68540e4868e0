/-
  A drawn region by an invariant, the slots that it writes kept as a function: each operation is one lemma.
-/
import Derived.Test.YtfilpmmimpkfmaaRegInv
import Derived.BigCall
namespace Go.Proofs.Ytfilpmmimpkfmaa
open Go.RowKit

/-- The frame a with the slots ds as v has them. -/
def frS (ds : List Nat) (a : Act) (v : Nat → Value) : Act := { a with tmps := a.tmps.mapIdx fun i x => if ds.contains i then v i else x }
def setV (v : Nat → Value) (d : Nat) (x : Value) : Nat → Value := fun k => if k = d then x else v k
theorem setV_same (v : Nat → Value) (d : Nat) (x : Value) : setV v d x d = x := if_pos rfl
theorem setV_other (v : Nat → Value) (d k : Nat) (x : Value) (h : k ≠ d) : setV v d x k = v k := if_neg h
section
variable {ds : List Nat} {a : Act} {v : Nat → Value}
theorem frS_self : frS ds a (fun d => a.tmps.getD d undef) = a := by
  obtain ⟨tm, df⟩ := a
  unfold frS
  congr 1
  apply Array.ext
  · simp
  · intro i h1 h2
    simp at h1 h2 ⊢
    intro _
    simp [h1]
theorem frS_put {d : Nat} {x : Value} (hd : ds.contains d = true) : (frS ds a v).put (some d) x = frS ds a (setV v d x) := by
  obtain ⟨tm, df⟩ := a
  unfold frS
  simp only [Act.put]
  congr 1
  apply Array.ext
  · simp
  · intro i h1 h2
    simp only [Array.size_setIfInBounds, Array.size_mapIdx] at h1
    rw [Array.getElem_setIfInBounds (by simpa using h1)]
    simp only [Array.getElem_mapIdx]
    by_cases e : d = i
    · subst e
      rw [if_pos rfl, if_pos hd, setV_same]
    · rw [if_neg e]
      by_cases c : ds.contains i = true
      · rw [if_pos c, if_pos c, setV_other _ _ _ _ (fun h => e h.symm)]
      · rw [if_neg c, if_neg c]
theorem frS_eval {d : Nat} (hd : ds.contains d = true) (hs : d < a.tmps.size) : (frS ds a v).eval (.tmp d) = v d := by
  unfold frS Act.eval
  simp [hs]
  intro h
  simp at hd
  exact absurd hd h
theorem frS_old {d : Nat} (hd : ds.contains d = false) : (frS ds a v).eval (.tmp d) = a.eval (.tmp d) := by
  unfold frS Act.eval
  simp at hd
  simp [hd]
end

theorem wpAny_inv_fr {P : Program} {ops : Array Oper} {Q : Exit → Act → World → Prop} {md : Region.Mode} {a0 : Act} {w : World} {fuel : Nat} {L0 : Array Bool} (ds : List Nat) (J : Array Bool → (Nat → Value) → World → Prop)
    (hf : toCome L0 ≤ fuel) (h0 : ∀ v, J L0 v w)
    (hend : ∀ L v w, J L v w → Region.ready md ops L = [] → Q .normal (frS ds a0 v) w)
    (hstep : ∀ L v w i, J L v w → i ∈ List.range ops.size → i ∈ Region.ready md ops L → wpOp P ops Q i (fun a' w' => ∃ v', a' = frS ds a0 v' ∧ J (L.setIfInBounds i true) v' w') (frS ds a0 v) w) : wpAny P md ops Q fuel L0 a0 w :=
  wpAny_inv (I := fun L a' w => ∃ v, a' = frS ds a0 v ∧ J L v w) (fun L a' w ⟨v, e, h⟩ hr => e ▸ hend L v w h hr) (fun L a' w i ⟨v, e, h⟩ hi => by
    subst e
    exact hstep L v w i h (List.mem_filter.1 hi).1 hi) fuel L0 a0 w hf ⟨_, frS_self.symm, h0 _⟩

/-- A call of two arguments, at the region's step. -/
theorem wpOp_call2 {ops : Array Oper} {Q : Exit → Act → World → Prop} {i d : Nat} {a : Act} {w : World} {K : Act → World → Prop} {f : FuncId} {x y : Operand} {ats : Array TypeId} {ty : TypeId} {pos : String} {after : Array Edge}
    (ho : ops[i]? = some { dst := some d, op := .call { callee := .value (.func f), args := #[x, y], argTypes := ats }, type := ty, pos := pos, after := after, guard := none })
    (hef : ∀ args w, (callFunc f args).run Try.prog w = .ok (.enter f args) w) (vx vy : Value) (hx : a.eval x = vx) (hy : a.eval y = vy) (v : Value)
    (hc : Calls Try.prog f #[vx, vy] w fun e w' => e = .returned v ∧ Below w.heap.size w w') (h : ∀ w', Below w.heap.size w w' → K (a.put (some d) v) w') : wpOp Try.prog ops Q i K a w := by
  refine wpOp_step ho (fun K' hK => ?_)
  rw [if_pos (by simp [Region.wanted])]
  unfold Oper.wp
  rw [execOp_call_go]
  have e : (#[] ++ #[x, y].map a.eval ++ #[] : Array Value) = #[vx, vy] := by simp [hx, hy]
  rw [e, hef]
  refine Calls.mono hc ?_
  rintro e w' ⟨rfl, hb⟩
  exact hK _ _ (h w' hb)

/-- An operation that only yields, in the world at hand. -/
theorem wpOp_yield {P : Program} {ops : Array Oper} {Q : Exit → Act → World → Prop} {i d : Nat} {o : Oper} {a : Act} {w : World} {K : Act → World → Prop} (ho : ops[i]? = some o) (hg : o.guard = none) (hd : o.dst = some d) (v : Value)
    (hv : (execOp a.eval o).run P w = .ok (.value v) w) (h : K (a.put (some d) v) w) : wpOp P ops Q i K a w := by
  refine wpOp_step ho (fun K' hK => ?_)
  rw [if_pos (by simp [Region.wanted, hg])]
  unfold Oper.wp
  rw [hv]
  show K' (a.put o.dst v) w
  rw [hd]
  exact hK _ _ h
end Go.Proofs.Ytfilpmmimpkfmaa
