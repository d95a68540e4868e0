/-
  A table's calls, opened.
-/
import Derived.Test.YtkdiongmegnicaaOpenL
import Derived.Test.YtkdiongmegnicaaTabR
namespace Go.Proofs.Ytkdiongmegnicaa
open Go.ChangeShapes Go.WideShapes Go.ChangeAt Go.RowKit Go.Deep

theorem act04_under : Try.prog.underlying 49 = some (.struct (Try.prog.fieldsOf 49)) := by kernel_rfl
theorem act04_fields : ((Try.prog.fieldsOf 49).map fun f => (f.type, f.offset)).toList = [(3, 0), (2, 1), (9, 2)] := by kernel_rfl
theorem act04_cells : Try.prog.cellsOf 49 = 3 ∧ Try.prog.cellsOf 3 = 1 ∧ Try.prog.cellsOf 2 = 1 ∧ Try.prog.cellsOf 9 = 1 ∧ (Try.prog.fieldsOf 49).size = 3 := ⟨by kernel_rfl, by kernel_rfl, by kernel_rfl, by kernel_rfl, by kernel_rfl⟩
theorem open_act04 {H : Type} {enc : TypeId × Value → H} {w : World} {base : Nat} {held : Bool} (m : Nat) (cs : List Value) (y : DataW H × List MemPlace) (h : DataW.trod enc Try.prog w base (fun _ => true) held m 49 cs = some y) : ∃ b : ActT, cs = b.cells ∧ True := by
  obtain ⟨xs, n, rfl, rfl, hlen, hxl, hf⟩ := DataW.trod_struct act04_under h
  obtain ⟨k0, k1, k2, k3, k4⟩ := act04_cells
  rw [k0] at hlen
  rw [k4] at hxl
  obtain ⟨f0, e0, t0, o0⟩ := field_at act04_fields (i := 0) rfl
  obtain ⟨f1, e1, t1, o1⟩ := field_at act04_fields (i := 1) rfl
  obtain ⟨f2, e2, t2, o2⟩ := field_at act04_fields (i := 2) rfl
  have g0 := hf 0 f0 e0
  have g1 := hf 1 f1 e1
  have g2 := hf 2 f2 e2
  rw [t0, o0, k1, List.getElem?_eq_getElem (by omega)] at g0
  rw [t1, o1, k2, List.getElem?_eq_getElem (by omega)] at g1
  rw [t2, o2, k3, List.getElem?_eq_getElem (by omega)] at g2
  obtain ⟨a, b, c, rfl⟩ := list3_of hlen
  obtain ⟨z0, h0, _⟩ := DataW.trod_int Try.underlying3 g0
  obtain ⟨z1, h1, _⟩ := DataW.trod_int Try.underlying2 g1
  obtain ⟨s, h2, _⟩ := DataW.trod_string Try.underlying9 g2
  simp at h0 h1 h2
  subst h0; subst h1; subst h2
  exact ⟨⟨z0, z1, s⟩, rfl, trivial⟩
end Go.Proofs.Ytkdiongmegnicaa
