/-
  An argument of the type [][]api.Entry, opened to the postings that it holds.
-/
import Derived.Test.YtelbolhckhdioaaLaw
import Derived.Test.YtelbolhckhdioaaBokJ
import Derived.Deep.Slices
namespace Go.Proofs.Ytelbolhckhdioaa
open Go.ChangeShapes Go.WideShapes Go.ChangeAt Go.RowKit Go.Deep

theorem ent_flat : flatOf Try.prog 3 110 = some [.i64, .i64, .i64, .i64] := by kernel_rfl
theorem ent_cellsOf : Try.prog.cellsOf 110 = 4 := by kernel_rfl
theorem okEnt {zs : List Int} (h : IntsOk [.i64, .i64, .i64, .i64] zs) : ∃ t : Ent, intVals [.i64, .i64, .i64, .i64] zs = t.cells ∧ EntOk t := by
  match zs, h with
  | [a, b, c, d], h => exact ⟨⟨a, b, c, d⟩, rfl, wf_bd (h.2 0 _ _ rfl rfl), wf_bd (h.2 1 _ _ rfl rfl), wf_bd (h.2 2 _ _ rfl rfl), wf_bd (h.2 3 _ _ rfl rfl)⟩
section
variable {H : Type} {enc : TypeId × Value → H} {w : World} {base : Nat} {held : Bool}
theorem cell_spotE {w : World} {a : Addr} {v : Value} (h : w.cell? (a.add 0) = some v) : ∃ b off, a = ⟨b, off, none⟩ ∧ b < w.heap.size := by
  obtain ⟨b, off, spot⟩ := a
  have hspot : spot = none := by simpa [Addr.add] using World.cell?_spot h
  subst hspot
  refine ⟨b, off, rfl, ?_⟩
  rcases Nat.lt_or_ge b w.heap.size with hlt | hge
  · exact hlt
  · simp [Addr.add, World.cell?, Array.getElem?_eq_none hge] at h
theorem rd_of_addE {w : World} {a : Addr} {n : Nat} {xs : List Value} (hl : xs.length = n) (h : ∀ j u, xs[j]? = some u → w.cell? (a.add j) = some u) : Rd w w.heap.size 1 (some a) n xs := by
  refine ⟨by omega, fun hn => ?_⟩
  obtain ⟨u, hu⟩ : ∃ u, xs[0]? = some u := ⟨_, List.getElem?_eq_getElem (by omega)⟩
  obtain ⟨b, off, rfl, hb⟩ := cell_spotE (h 0 u hu)
  exact ⟨b, off, rfl, hb, fun j v hv => by rw [← Go.WideShapes.add_plain]; exact h j v hv⟩
theorem open_posts {fuel : Nat} {cs : List Value} {x : DataW H × List MemPlace} (h : DataW.trod enc Try.prog w base (fun _ => true) held fuel 22 cs = some x) :
    ∃ (A : Option Addr) (n cp : Nat) (vs : List PosV), cs = [.slice A n cp] ∧ vs.length = n ∧ Rd w w.heap.size 1 A n (vs.flatMap PosV.cells) ∧ ∀ v ∈ vs, PosRd w v := by
  rcases open_slice1 Try.underlying22 (by kernel_rfl) h with ⟨rfl, _⟩ | ⟨a, len, cap, m, n, V, D, Pl, rfl, _, hl, _, hm, _, hx⟩
  · exact ⟨none, 0, 0, [], rfl, rfl, Rd.nil .., fun v hv => by cases hv⟩
  · have hmc : m = cap := by rw [hm]; rfl
    have hex : ∀ i, ∃ v : PosV, i < len → w.cell? (a.add i) = some (.slice v.P v.l.length v.c) ∧ PosRd w v := fun i => by
      by_cases hi : i < len
      · obtain ⟨hc, ht⟩ := hx i (by omega)
        obtain ⟨P, ln, cp, bs, hcs, _, _, hbl, hg, hr⟩ := open_flat_list Ent.cells EntOk Try.underlying33 ent_flat ent_cellsOf (by decide) (fun _ => okEnt) ht
        have hV : V i = .slice P ln cp := by simpa using hcs
        subst hbl
        exact ⟨⟨P, cp, bs⟩, fun _ => ⟨by rw [hc, hV], ⟨hr, hg⟩⟩⟩
      · exact ⟨⟨none, 0, []⟩, fun h => absurd h hi⟩
    have hF := fun i => Classical.choose_spec (hex i)
    generalize hFe : (fun i => Classical.choose (hex i)) = F at hF
    have hF' : ∀ i, i < len → w.cell? (a.add i) = some (.slice (F i).P (F i).l.length (F i).c) ∧ PosRd w (F i) := fun i hi => by
      have := hF i hi
      rw [← hFe]; exact this
    refine ⟨some a, len, cap, (List.range len).map F, rfl, by simp, rd_of_addE ?_ ?_, ?_⟩
    · rw [flat_len PosV.cells 1 PosV.cells_len]; simp
    · intro j u hu
      have hj : j < len := by
        have := (List.getElem?_eq_some_iff.1 hu).1
        rw [flat_len PosV.cells 1 PosV.cells_len] at this
        simpa using this
      have hg : ((List.range len).map F)[j]? = some (F j) := by simp [hj]
      have h2 := flat_get PosV.cells 1 PosV.cells_len _ j _ 0 hg (by omega)
      rw [Nat.mul_one, Nat.add_zero, hu] at h2
      rw [h2, (hF' j hj).1]; rfl
    · intro v hv
      obtain ⟨r, hr', rfl⟩ := List.mem_map.1 hv
      exact (hF' r (by simpa using hr')).2
end
end Go.Proofs.Ytelbolhckhdioaa
