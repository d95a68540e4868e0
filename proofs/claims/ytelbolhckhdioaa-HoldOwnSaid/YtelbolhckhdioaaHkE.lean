import Derived.Test.YtelbolhckhdioaaOpenL
import Derived.Test.YtelbolhckhdioaaOpenE
import Derived.Test.YtelbolhckhdioaaHkB
/-! ## from OpenH -/
namespace Go.Proofs.Ytelbolhckhdioaa
open Go.ChangeShapes Go.WideShapes Go.ChangeAt Go.RowKit Go.Deep

theorem act15_under : Try.prog.underlying 54 = some (.struct (Try.prog.fieldsOf 54)) := by kernel_rfl
theorem act15_fields : ((Try.prog.fieldsOf 54).map fun f => (f.type, f.offset)).toList = [(3, 0), (33, 1), (2, 2), (52, 3), (52, 5), (3, 7), (2, 8)] := by kernel_rfl
theorem act15_cells : Try.prog.cellsOf 54 = 9 ∧ Try.prog.cellsOf 3 = 1 ∧ Try.prog.cellsOf 2 = 1 ∧ Try.prog.cellsOf 33 = 1 ∧ Try.prog.cellsOf 52 = 2 ∧ (Try.prog.fieldsOf 54).size = 7 := ⟨by kernel_rfl, by kernel_rfl, by kernel_rfl, by kernel_rfl, by kernel_rfl, by kernel_rfl⟩
theorem acc15_under : Try.prog.underlying 52 = some (.struct (Try.prog.fieldsOf 52)) := by kernel_rfl
theorem acc15_flat : flatOf Try.prog 3 52 = some [.i64, .i64] := by kernel_rfl
theorem okAcc15 {zs : List Int} (h : IntsOk [.i64, .i64] zs) : ∃ t : Acc, intVals [.i64, .i64] zs = [.int .i64 t.kind, .int .i64 t.member] ∧ inI t.kind ∧ inI t.member := by
  match zs, h with
  | [a, b], h => exact ⟨⟨a, b⟩, rfl, wf_bd (h.2 0 _ _ rfl rfl), wf_bd (h.2 1 _ _ rfl rfl)⟩
theorem list9_of {cs : List Value} (h : cs.length = 9) : ∃ a b c d e f g i j, cs = [a, b, c, d, e, f, g, i, j] := by
  match cs, h with
  | [a, b, c, d, e, f, g, i, j], _ => exact ⟨a, b, c, d, e, f, g, i, j, rfl⟩
theorem open_act15 {H : Type} {enc : TypeId × Value → H} {w : World} {base : Nat} {held : Bool} (m : Nat) (cs : List Value) (y : DataW H × List MemPlace) (h : DataW.trod enc Try.prog w base (fun _ => true) held m 54 cs = some y) : ∃ b : ActH, cs = b.cells ∧ ActHOk w b := by
  obtain ⟨xs, n, rfl, rfl, hlen, hxl, hf⟩ := DataW.trod_struct act15_under h
  obtain ⟨k0, k1, k2, k3, k4, k5⟩ := act15_cells
  rw [k0] at hlen
  rw [k5] at hxl
  obtain ⟨f0, e0, t0, o0⟩ := field_at act15_fields (i := 0) rfl
  obtain ⟨f1, e1, t1, o1⟩ := field_at act15_fields (i := 1) rfl
  obtain ⟨f2, e2, t2, o2⟩ := field_at act15_fields (i := 2) rfl
  obtain ⟨f3, e3, t3, o3⟩ := field_at act15_fields (i := 3) rfl
  obtain ⟨f4, e4, t4, o4⟩ := field_at act15_fields (i := 4) rfl
  obtain ⟨f5, e5, t5, o5⟩ := field_at act15_fields (i := 5) rfl
  obtain ⟨f6, e6, t6, o6⟩ := field_at act15_fields (i := 6) rfl
  have g0 := hf 0 f0 e0
  have g1 := hf 1 f1 e1
  have g2 := hf 2 f2 e2
  have g3 := hf 3 f3 e3
  have g4 := hf 4 f4 e4
  have g5 := hf 5 f5 e5
  have g6 := hf 6 f6 e6
  rw [t0, o0, k1, List.getElem?_eq_getElem (by omega)] at g0
  rw [t1, o1, k3, List.getElem?_eq_getElem (by omega)] at g1
  rw [t2, o2, k2, List.getElem?_eq_getElem (by omega)] at g2
  rw [t3, o3, k4, List.getElem?_eq_getElem (by omega)] at g3
  rw [t4, o4, k4, List.getElem?_eq_getElem (by omega)] at g4
  rw [t5, o5, k1, List.getElem?_eq_getElem (by omega)] at g5
  rw [t6, o6, k2, List.getElem?_eq_getElem (by omega)] at g6
  obtain ⟨z0, z1, z2, z3, z4, z5, z6, z7, z8, rfl⟩ := list9_of hlen
  obtain ⟨kd, h0, _⟩ := DataW.trod_int Try.underlying3 g0
  obtain ⟨P, ln, cp, l, h1, _, _, hll, hgl, hrl⟩ := open_flat_list Ent.cells EntOk Try.underlying33 ent_flat ent_cellsOf (by decide) (fun _ => okEnt) g1
  obtain ⟨id, h2, _⟩ := DataW.trod_int Try.underlying2 g2
  obtain ⟨zs3, h3, ok3⟩ := flatOf_open 3 52 _ _ _ _ acc15_flat g3
  obtain ⟨zs4, h4, ok4⟩ := flatOf_open 3 52 _ _ _ _ acc15_flat g4
  obtain ⟨x, hx3, gx⟩ := okAcc15 ok3
  obtain ⟨y, hy4, gy⟩ := okAcc15 ok4
  obtain ⟨a, h5, w5⟩ := DataW.trod_int Try.underlying3 g5
  obtain ⟨z, h6, w6⟩ := DataW.trod_int Try.underlying2 g6
  rw [hx3] at h3
  rw [hy4] at h4
  simp at h0 h1 h2 h3 h4 h5 h6
  obtain ⟨h3, h3'⟩ := h3
  obtain ⟨h4, h4'⟩ := h4
  subst h0; subst h1; subst h2; subst h3; subst h3'; subst h4; subst h4'; subst h5; subst h6
  subst hll
  exact ⟨⟨kd, P, cp, l, id, x, y, a, z⟩, rfl, ⟨hrl, hgl, gx, gy, wf_bd w5.2, wf_bd w6.2⟩⟩
end Go.Proofs.Ytelbolhckhdioaa
