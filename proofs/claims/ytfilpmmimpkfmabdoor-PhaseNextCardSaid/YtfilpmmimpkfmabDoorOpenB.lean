import Derived.Test.YtfilpmmimpkfmabDoorPhaC
import Derived.Test.YtfilpmmimpkfmabDoorLaw
import Derived.Deep.Grids
import Derived.OpenShut
namespace Go.Proofs.YtfilpmmimpkfmabDoor
open Go.ChangeShapes Go.WideShapes Go.ChangeAt Go.RowKit Go.Deep

/-- A slice of bools that came in. -/
theorem open_bool_list {H : Type} {enc : TypeId × Value → H} {P : Program} {w : World} {base : Nat} {held : Bool} {t e : TypeId} {fuel : Nat} {cs : List Value} {x : DataW H × List MemPlace} (ht : P.underlying t = some (.slice e)) (he : P.underlying e = some .bool) (hc : P.cellsOf e = 1)
    (h : DataW.trod enc P w base (fun _ => true) held fuel t cs = some x) :
    ∃ (A : Option Addr) (len cap : Nat) (bs : List Bool), cs = [.slice A len cap] ∧ len ≤ cap ∧ cap ≤ maxLen ∧ bs.length = len ∧ Rd w w.heap.size 1 A len (bs.flatMap boolC) := by
  rcases open_bools ht he hc h with ⟨rfl, _⟩ | ⟨a, len, cap, B, rfl, hb, hl, hm, _, hcell⟩
  · exact ⟨none, 0, 0, [], rfl, Nat.le_refl _, by simp [maxLen], rfl, Rd.nil ..⟩
  · have hfl : ∀ l : List Bool, l.flatMap boolC = l.map Value.bool := fun l => by induction l with | nil => rfl | cons x l ih => rw [List.flatMap_cons, ih]; rfl
    refine ⟨some a, len, cap, (List.range len).map B, rfl, hl, hm, by simp, ⟨by rw [hfl]; simp, fun hn => ?_⟩⟩
    obtain ⟨b, off, spot⟩ := a
    have hc0 := hcell 0 (by omega)
    have hspot : spot = none := by simpa [Addr.add] using World.cell?_spot hc0
    subst hspot
    have hblt : b < w.heap.size := by
      rcases Nat.lt_or_ge b w.heap.size with hlt | hge
      · exact hlt
      · simp [Addr.add, World.cell?, Array.getElem?_eq_none hge] at hc0
    refine ⟨b, off, rfl, hblt, fun j u hu => ?_⟩
    rw [hfl, List.map_map] at hu
    have hj : j < len := by have := (List.getElem?_eq_some_iff.1 hu).1; simpa using this
    have hu2 : u = .bool (B j) := by rw [List.getElem?_map, List.getElem?_range hj] at hu; simpa using hu.symm
    have := hcell j (by omega)
    rw [hu2, ← Go.WideShapes.add_plain]
    exact this

/-- An array of two bools that came in. -/
theorem open_bool2 {H : Type} {enc : TypeId × Value → H} {P : Program} {w : World} {base : Nat} {sp : Nat → Bool} {held : Bool} {t e : TypeId} {fuel : Nat} {cs : List Value} {x : DataW H × List MemPlace} (ht : P.underlying t = some (.array 2 e)) (he : P.underlying e = some .bool) (hc : P.cellsOf e = 1) (hct : P.cellsOf t = 2)
    (h : DataW.trod enc P w base sp held fuel t cs = some x) : ∃ a b, cs = [.bool a, .bool b] := by
  obtain ⟨xs, m, rfl, _, hlen, hn, hel⟩ := DataW.trod_array ht h
  rw [hct] at hlen
  rw [hc] at hel
  match cs, hlen with
  | [c0, c1], _ =>
    have e0 := hel 0 (by omega)
    have e1 := hel 1 (by omega)
    rw [List.getElem?_eq_getElem (by omega)] at e0 e1
    obtain ⟨a, ha, _⟩ := DataW.trod_bool he e0
    obtain ⟨b, hb, _⟩ := DataW.trod_bool he e1
    simp at ha hb
    exact ⟨a, b, by rw [ha, hb]⟩
end Go.Proofs.YtfilpmmimpkfmabDoor
