/-
  copy, clear and the two appends of slices.Insert and slices.Delete at elements of any number of cells, as equations of runs over a block that is known whole (of no program).
-/
import Derived.Test.YtelbolhckhdioaaBase
import Derived.Laws.CopyRow
import Derived.Deep.AppendSrc
import Derived.Lib.SliceRun
import Derived.Lib.Overlaps
import Derived.Lib.AppendZerosOnto
namespace Go.Proofs.Ytelbolhckhdioaa
open Go.RowKit

section
variable {P : Program}
theorem run_copy_rowS (w : World) (dT sT ty elem : TypeId) (size g o dLen dCap : Nat) (a : Addr) (sLen sCap : Nat) (cur : Array Value) (t : TypeId) (cs : List Value)
    (hu : P.underlying dT = some (.slice elem)) (hs : (P.info? elem).map (·.size) = some size)
    (hg : w.heap[g]? = some (.cells cur t (0, 0))) (m : Nat) (hm : Nat.min sLen dLen = m) (hn : cs.length = m * size)
    (hsrc : ∀ j v, cs[j]? = some v → w.cell? (a.add j) = some v) (hfit : o + cs.length ≤ cur.size) (h1 : ∀ v ∈ cs, v.oneCell' = true) :
    (Builtin.copy_ #[dT, sT] ty #[.slice (some ⟨g, o, none⟩) dLen dCap, .slice (some a) sLen sCap]).run P w =
      .ok (goInt m) (w.setRow g (cur.toList.take o ++ cs ++ cur.toList.drop (o + cs.length)).toArray) := by
  have hl := run_loadCells_list (P := P) w a cs hsrc
  have hst := run_storeCells_at P g o t cs 0 cur w hg (by simpa using hfit) h1
  cases hq : P.info? elem with
  | none => simp [hq] at hs
  | some i =>
    have hi : i.size = size := by simpa [hq] using hs
    simp [Builtin.copy_, run_underlying hu, Builtin.lenOf, Builtin.firstCells, sizeOf, typeInfo, hq, hi, hm, ← hn, hl, hst]

/-- append(s, l...) where there is room, in a block that is known whole. -/
theorem run_append_room_row (w : World) (t tx ty e : TypeId) (i : TypeInfo) (ht : P.underlying t = some (.slice e)) (hi : P.info? e = some i) (size : Nat) (hz : i.size = size) (b off sLen sCap : Nat) (x : Value) (n : Nat) (news : List Value) (hs : Src P size tx x n news w)
    (hroom : sLen + n ≤ sCap) (cur : Array Value) (te : TypeId) (hg : w.heap[b]? = some (.cells cur te (0, 0))) (hfit : off + sLen * size + news.length ≤ cur.size) :
    (Builtin.append_ #[t, tx] ty #[.slice (some ⟨b, off, none⟩) sLen sCap, x]).run P w = .ok (.slice (some ⟨b, off, none⟩) (sLen + n) sCap) (w.setRow b (cur.toList.take (off + sLen * size) ++ news ++ cur.toList.drop (off + sLen * size + news.length)).toArray) := by
  subst hz
  have hst := run_storeCells_at P b (off + sLen * i.size) te news 0 cur w hg (by simpa using hfit) hs.one
  simp only [Nat.add_zero] at hst
  rcases hs.kind with ⟨e', hk⟩ | hk <;> simp [Builtin.append_, run_underlying ht, run_underlying hk, sizeOf, typeInfo, hi, hs.len, hroom, hs.cells, Addr.add_lit, hst]

/-- .. and as one step of a region that draws, its run known by an equation. -/
theorem step_append_runI {ops : Array Oper} {o : Oper} {a : Act} {w : World} {K : Act → World → Prop} {Q : Exit → Act → World → Prop} {E : Prop}
    (hg : o.guard = none) (d x : Operand) (dT sT : TypeId) (hop : o.op = Op.call { callee := Callee.builtin Builtin.append, args := #[d, x], argTypes := #[dT, sT] })
    (v u : Value) (hd : a.eval d = v) (hx : a.eval x = u) {v' : Value} {w' : World} (hr : (Builtin.append_ #[dT, sT] o.type #[v, u]).run P w = .ok v' w') (hK : K (a.put o.dst v') w') :
    if Region.wanted o (yielded ops a.tmps) = true then Oper.wp P o a w K Q else E := by
  have hw : Region.wanted o (yielded ops a.tmps) = true := by simp [Region.wanted, hg]
  rw [if_pos hw]
  unfold Oper.wp
  simp [execOp, hop, resolve, invoke, builtin, hd, hx, hr, Result.andThen]
  exact hK
theorem step_copy_runJ {ops : Array Oper} {o : Oper} {a : Act} {w : World} {K : Act → World → Prop} {Q : Exit → Act → World → Prop} {E : Prop}
    (hg : o.guard = none) (d x : Operand) (dT sT : TypeId) (hop : o.op = Op.call { callee := Callee.builtin Builtin.copy, args := #[d, x], argTypes := #[dT, sT] })
    (v u : Value) (hd : a.eval d = v) (hx : a.eval x = u) {v' : Value} {w' : World} (hr : (Builtin.copy_ #[dT, sT] o.type #[v, u]).run P w = .ok v' w') (hK : K (a.put o.dst v') w') :
    if Region.wanted o (yielded ops a.tmps) = true then Oper.wp P o a w K Q else E := by
  have hw : Region.wanted o (yielded ops a.tmps) = true := by simp [Region.wanted, hg]
  rw [if_pos hw]
  unfold Oper.wp
  simp [execOp, hop, resolve, invoke, builtin, hd, hx, hr, Result.andThen]
  exact hK
/-- copy and clear as operations of a list, their runs known by equations. -/
theorem wpList_copy_runJ (w : World) {ops : Array Oper} {rest : List Oper} {o : Oper} {a : Act} {Q : Exit → Act → World → Prop} (hgd : o.guard = none) (d s : Operand) (t t' : TypeId)
    (ho : o.op = .call { callee := .builtin .copy, args := #[d, s], argTypes := #[t, t'] }) (v u : Value) (hd : a.eval d = v) (hs : a.eval s = u) {v' : Value} {w' : World}
    (hr : (Builtin.copy_ #[t, t'] o.type #[v, u]).run P w = .ok v' w') (h : wpList P ops Q rest (a.put o.dst v') w') : wpList P ops Q (o :: rest) a w := by
  refine wpList_plain hgd fun K hK => ?_
  unfold Oper.wp execOp
  simp only [ho, resolve, invoke, builtin, Sem.run_bind, Sem.run_pure, Result.andThen_ok, List.map_toArray, List.map_cons, List.map_nil, hd, hs, hr]
  exact hK _ _ h
theorem wpList_clear_runJ (w : World) {ops : Array Oper} {rest : List Oper} {o : Oper} {a : Act} {Q : Exit → Act → World → Prop} (hgd : o.guard = none) (d : Operand) (t : TypeId)
    (ho : o.op = .call { callee := .builtin .clear, args := #[d], argTypes := #[t] }) (v : Value) (hd : a.eval d = v) {v' : Value} {w' : World}
    (hr : (Builtin.clear_ #[t] o.type #[v]).run P w = .ok v' w') (h : wpList P ops Q rest (a.put o.dst v') w') : wpList P ops Q (o :: rest) a w := by
  refine wpList_plain hgd fun K hK => ?_
  unfold Oper.wp execOp
  simp only [ho, resolve, invoke, builtin, Sem.run_bind, Sem.run_pure, Result.andThen_ok, List.map_toArray, List.map_cons, List.map_nil, hd, hr]
  exact hK _ _ h
/-- clear of one element. -/
theorem run_clear_row1 (w : World) (t e ty : TypeId) (z : Value) (ht : P.underlying t = some (.slice e)) (hv : ∀ w, (zeroValue e).run P w = .ok z w) (h1 : ∀ v ∈ z.cells.toList, v.oneCell' = true) (b o c : Nat)
    (cur : Array Value) (te : TypeId) (hg : w.heap[b]? = some (.cells cur te (0, 0))) (hfit : o + z.cells.size ≤ cur.size) :
    (Builtin.clear_ #[t] ty #[.slice (some ⟨b, o, none⟩) 1 c]).run P w = .ok (.tuple #[]) (w.setRow b (cur.toList.take o ++ z.cells.toList ++ cur.toList.drop (o + z.cells.size)).toArray) := by
  have hzc : (Builtin.zeroCells z.cells 1).toList = z.cells.toList := by
    simp only [Builtin.zeroCells, Nat.one_mul]
    apply List.ext_getElem
    · simp
    · intro i h2 h3
      have hi : i < z.cells.size := by simpa using h3
      simp [Nat.mod_eq_of_lt hi, hi]
  have hst := run_storeCells_at P b o te z.cells.toList 0 cur w hg (by simpa using hfit) h1
  simp only [Nat.add_zero] at hst
  simp [Builtin.clear_, run_underlying ht, hv, hzc, hst]
end

theorem grown_reflI (w : World) (r : Option Nat) : w.grownBy w r := ⟨rfl, rfl, rfl, Nat.le_refl _, fun _ _ _ => rfl⟩
theorem grown_setRowI {w w' : World} {b : Nat} (h : w.grownBy w' (some b)) (cs : Array Value) : w.grownBy (w'.setRow b cs) (some b) :=
  ⟨h.os, h.tape, h.output, by have := h.size; simpa [World.setRow] using this, fun k hk hne => (setRow_other w' b k cs (fun e => hne (by rw [e]))).trans (h.block k hk hne)⟩
theorem grown_drewI {w w' : World} {r : Option Nat} (h : w.grownBy w' r) : w.grownBy w'.drew r := ⟨h.os, h.tape, h.output, h.size, h.block⟩

/-- What stands behind an insertion in place. -/
theorem ins_place (L xs e : List Value) (a n : Nat) (hx : L.take n = xs) (ha : a ≤ n) (hn : n + e.length ≤ L.length) :
    let L1 := L.take (a + e.length) ++ xs.drop a ++ L.drop (a + e.length + (xs.drop a).length)
    (L1.take a ++ e ++ L1.drop (a + e.length)).take (n + e.length) = xs.take a ++ e ++ xs.drop a ∧ (L1.take a ++ e ++ L1.drop (a + e.length)).length = L.length ∧ L1.length = L.length := by
  intro L1
  have hxl : xs.length = n := by rw [← hx, List.length_take]; omega
  have hl1 : L1.length = L.length := by simp only [L1, List.length_append, List.length_take, List.length_drop]; omega
  have h1 : L1.take a = xs.take a := by
    simp only [L1]
    rw [List.append_assoc, List.take_append_of_le_length (by rw [List.length_take]; omega), List.take_take, ← hx, List.take_take]
    congr 1
    omega
  have h2 : L1.drop (a + e.length) = xs.drop a ++ L.drop (a + e.length + (xs.drop a).length) := by
    simp only [L1]
    rw [List.append_assoc, List.drop_append_of_le_length (by rw [List.length_take]; omega), List.drop_of_length_le (by rw [List.length_take]; omega), List.nil_append]
  refine ⟨?_, by simp only [List.length_append, List.length_take, List.length_drop, hl1]; omega, hl1⟩
  rw [h1, h2, ← List.append_assoc, List.take_append_of_le_length (by simp only [List.length_append, List.length_take, List.length_drop]; omega)]
  exact List.take_of_length_le (by simp only [List.length_append, List.length_take, List.length_drop]; omega)
/-- What stands behind an insertion into a new block. -/
theorem ins_new (R xs e : List Value) (a n : Nat) (hx : R.take a = xs.take a) (hxl : xs.length = n) (ha : a ≤ n) (hn : n + e.length ≤ R.length) :
    let R1 := R.take a ++ e ++ R.drop (a + e.length)
    (R1.take (a + e.length) ++ xs.drop a ++ R1.drop (a + e.length + (xs.drop a).length)).take (n + e.length) = xs.take a ++ e ++ xs.drop a ∧ (R1.take (a + e.length) ++ xs.drop a ++ R1.drop (a + e.length + (xs.drop a).length)).length = R.length ∧ R1.length = R.length := by
  intro R1
  have hl1 : R1.length = R.length := by simp only [R1, List.length_append, List.length_take, List.length_drop]; omega
  have h1 : R1.take (a + e.length) = xs.take a ++ e := by
    simp only [R1]
    rw [hx, List.take_append_of_le_length (by simp only [List.length_append, List.length_take]; omega)]
    exact List.take_of_length_le (by simp only [List.length_append, List.length_take]; omega)
  refine ⟨?_, by simp only [List.length_append, List.length_take, List.length_drop, hl1]; omega, hl1⟩
  rw [h1, List.take_append_of_le_length (by simp only [List.length_append, List.length_take, List.length_drop]; omega)]
  exact List.take_of_length_le (by simp only [List.length_append, List.length_take, List.length_drop]; omega)
/-- What stands behind a removal in place. -/
theorem del_place (L xs : List Value) (a k n : Nat) (hx : L.take n = xs) (ha : a + k ≤ n) (hn : n ≤ L.length) :
    let L1 := L.take a ++ xs.drop (a + k) ++ L.drop (a + (xs.drop (a + k)).length)
    L1.take (n - k) = xs.take a ++ xs.drop (a + k) ∧ L1.length = L.length := by
  intro L1
  have hxl : xs.length = n := by rw [← hx, List.length_take]; omega
  refine ⟨?_, by simp only [L1, List.length_append, List.length_take, List.length_drop]; omega⟩
  have e : L.take a = xs.take a := by rw [← hx, List.take_take]; congr 1; omega
  simp only [L1]
  rw [e, List.take_append_of_le_length (by simp only [List.length_append, List.length_take, List.length_drop]; omega)]
  exact List.take_of_length_le (by simp only [List.length_append, List.length_take, List.length_drop]; omega)
theorem flat_take {α : Type} (f : α → List Value) (sz : Nat) (hf : ∀ a, (f a).length = sz) : ∀ (l : List α) (k : Nat), (l.flatMap f).take (k * sz) = (l.take k).flatMap f
  | [], k => by simp
  | x :: l, 0 => by simp
  | x :: l, k + 1 => by
    rw [List.take_succ_cons, List.flatMap_cons, List.flatMap_cons, Nat.add_mul, Nat.one_mul, List.take_append, hf, ← flat_take f sz hf l k, List.take_of_length_le (by rw [hf]; omega)]
    congr 2
    omega
theorem flat_drop {α : Type} (f : α → List Value) (sz : Nat) (hf : ∀ a, (f a).length = sz) : ∀ (l : List α) (k : Nat), (l.flatMap f).drop (k * sz) = (l.drop k).flatMap f
  | [], k => by simp
  | x :: l, 0 => by simp
  | x :: l, k + 1 => by
    rw [List.drop_succ_cons, List.flatMap_cons, Nat.add_mul, Nat.one_mul, List.drop_append, hf, ← flat_drop f sz hf l k, List.drop_of_length_le (by rw [hf]; omega), List.nil_append]
    congr 1
    omega
end Go.Proofs.Ytelbolhckhdioaa
