/-
  An argument of the type [][]int64, opened to the keys that it holds.
-/
import Derived.Test.YtoohfbgbhjadgaaLaw
import Derived.Test.YtoohfbgbhjadgaaKeyA
import Derived.Deep.Matrix
namespace Go.Proofs.Ytoohfbgbhjadgaa
open Go.ChangeShapes Go.WideShapes Go.ChangeAt Go.RowKit Go.Deep

section
variable {H : Type} {enc : TypeId × Value → H} {w : World} {base : Nat} {held : Bool}

theorem cell_spot {w : World} {a : Addr} {v : Value} (h : w.cell? (a.add 0) = some v) : ∃ b off, a = ⟨b, off, none⟩ ∧ b < w.heap.size := by
  obtain ⟨b, off, spot⟩ := a
  have hspot : spot = none := by simpa [Addr.add] using World.cell?_spot h
  subst hspot
  refine ⟨b, off, rfl, ?_⟩
  rcases Nat.lt_or_ge b w.heap.size with hlt | hge
  · exact hlt
  · simp [Addr.add, World.cell?, Array.getElem?_eq_none hge] at h

theorem rd_of_add {w : World} {a : Addr} {n : Nat} {xs : List Value} (hl : xs.length = n) (h : ∀ j u, xs[j]? = some u → w.cell? (a.add j) = some u) : Rd w w.heap.size 1 (some a) n xs := by
  refine ⟨by omega, fun hn => ?_⟩
  obtain ⟨u, hu⟩ : ∃ u, xs[0]? = some u := ⟨_, List.getElem?_eq_getElem (by omega)⟩
  obtain ⟨b, off, rfl, hb⟩ := cell_spot (h 0 u hu)
  exact ⟨b, off, rfl, hb, fun j v hv => by rw [← Go.WideShapes.add_plain]; exact h j v hv⟩

theorem open_keys {fuel : Nat} {cs : List Value} {x : DataW H × List MemPlace} (h : DataW.trod enc Try.prog w base (fun _ => true) held fuel 26 cs = some x) :
    ∃ (A : Option Addr) (n cp : Nat) (vs : List KeyV), cs = [.slice A n cp] ∧ vs.length = n ∧ Rd w w.heap.size 1 A n (vs.flatMap KeyV.cells) ∧ (∀ v ∈ vs, Rd w w.heap.size 1 v.A v.k.length (v.k.flatMap iC)) ∧ (A = none → n = 0 ∧ cp = 0) := by
  rcases open_int_rows Try.underlying26 Try.underlying22 Try.underlying2 (by kernel_rfl) (by kernel_rfl) h with ⟨rfl, _⟩ | ⟨a, len, cap, A, L, C, Z, rfl, _, hl, _, _, hr⟩
  · exact ⟨none, 0, 0, [], rfl, rfl, Rd.nil .., (fun v hv => by cases hv), fun _ => ⟨rfl, rfl⟩⟩
  · have hlen : ∀ r, r < cap → ((Z r).take (L r)).length = L r := fun r hr' => by
      obtain ⟨_, h1, _, h2, _⟩ := hr r hr'
      rw [List.length_take, h2]; exact Nat.min_eq_left h1
    refine ⟨some a, len, cap, (List.range len).map fun r => ⟨A r, C r, (Z r).take (L r)⟩, rfl, by simp, rd_of_add ?_ ?_, ?_, fun h => by cases h⟩
    · rw [flat_len KeyV.cells 1 KeyV.cells_len]; simp
    · intro j u hu
      have hj : j < len := by
        have := (List.getElem?_eq_some_iff.1 hu).1
        rw [flat_len KeyV.cells 1 KeyV.cells_len] at this
        simpa using this
      have hg : ((List.range len).map fun r => (⟨A r, C r, (Z r).take (L r)⟩ : KeyV))[j]? = some ⟨A j, C j, (Z j).take (L j)⟩ := by simp [hj]
      have h2 := flat_get KeyV.cells 1 KeyV.cells_len _ j _ 0 hg (by omega)
      rw [Nat.mul_one, Nat.add_zero, hu] at h2
      rw [h2, (hr j (by omega)).1]
      simp only [KeyV.cells, KeyV.val, List.getElem?_cons_zero, hlen j (by omega)]
    · intro v hv
      obtain ⟨r, hr', rfl⟩ := List.mem_map.1 hv
      have hrl : r < len := by simpa using hr'
      obtain ⟨_, h1, _, h2, _, h3, h4⟩ := hr r (by omega)
      simp only
      rw [hlen r (by omega)]
      cases hA : A r with
      | none =>
        have hc := h3 hA
        have : L r = 0 := by omega
        rw [this]
        exact Rd.nil ..
      | some a' =>
        refine rd_of_add (by rw [flat_len iC 1 iC_len, hlen r (by omega)]; omega) fun j u hu => ?_
        have hj : j < L r := by
          have := (List.getElem?_eq_some_iff.1 hu).1
          rw [flat_len iC 1 iC_len, hlen r (by omega)] at this
          omega
        have hg : ((Z r).take (L r))[j]? = some ((Z r).getD j 0) := by
          rw [List.getElem?_take, if_pos hj]
          have : j < (Z r).length := by omega
          simp [List.getD, List.getElem?_eq_getElem this]
        have h5 := flat_get iC 1 iC_len _ j _ 0 hg (by omega)
        rw [Nat.mul_one, Nat.add_zero, hu] at h5
        rw [h5, (h4 a' hA).2 j (by omega)]
        rfl
end
end Go.Proofs.Ytoohfbgbhjadgaa
