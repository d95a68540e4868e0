import Derived.Test.YtfnhffcjhdeleaaNetF
import Derived.Test.YtfnhffcjhdeleaaTradB
namespace Go.Proofs.Ytfnhffcjhdeleaa
open Go.RowKit Go.ChangeShapes

/-! ### The document's nets -/
theorem gridS_zero (S : Nat) : gridS 0 S = [] := rfl
def rowS (i j : Nat) : List Sid := (List.range j).map fun (a : Nat) => ⟨(i : Int) + 1, (a : Int)⟩
theorem rowS_succ (i j : Nat) : rowS i (j + 1) = rowS i j ++ [⟨(i : Int) + 1, (j : Int)⟩] := by unfold rowS; rw [List.range_succ, List.map_append]; rfl
theorem gridS_succ (i S : Nat) : gridS (i + 1) S = gridS i S ++ rowS i (S + 1) := by
  unfold gridS rowS; rw [show List.range (i + 1) = List.range i ++ [i] from List.range_succ, List.flatMap_append]; simp
theorem gridS_len (i S : Nat) : (gridS i S).length = i * (S + 1) := by
  induction i with
  | zero => simp [gridS_zero]
  | succ i ih => rw [gridS_succ, List.length_append, ih, Nat.add_mul]; simp [rowS]
def outL (legs : List Leg) (L : List Sid) : List Leg := (L.filter (nzS legs)).map (ofS legs)
theorem outL_len (legs : List Leg) (L : List Sid) : (outL legs L).length ≤ L.length := by unfold outL; rw [List.length_map]; exact List.length_filter_le _ _
theorem outL_yes {legs : List Leg} {L : List Sid} {s : Sid} (h : ¬ sumS legs s = 0) : outL legs (L ++ [s]) = outL legs L ++ [⟨s.m, s.a, sumS legs s⟩] := by
  have hnz : nzS legs s = true := by simp [nzS, h]
  unfold outL; rw [List.filter_append, List.map_append]; simp [hnz, ofS]
theorem outL_no {legs : List Leg} {L : List Sid} {s : Sid} (h : sumS legs s = 0) : outL legs (L ++ [s]) = outL legs L := by
  have hnz : nzS legs s = false := by simp [nzS, h]
  unfold outL; rw [List.filter_append, List.map_append]; simp [hnz]
/-- What has been done of the sides. -/
structure RefRel (W : World) (B : Nat) (legs : List Leg) (L : List Sid) (v : Value) (wr : World) : Prop where
  ok : L.all (okS legs) = true
  row : wr.ownsRow B 97 3 v (outL legs L).length ((outL legs L).flatMap Leg.cells)
  below : Below W.heap.size W wr
theorem RefRel.no {W : World} {B : Nat} {legs : List Leg} {L : List Sid} {v : Value} {wr wq : World} (h : RefRel W B legs L v wr) {s : Sid} (hi : inI (sumS legs s)) (hz : sumS legs s = 0) (hb : Below wr.heap.size wr wq) (hB : B ≤ W.heap.size) : RefRel W B legs (L ++ [s]) v wq :=
  ⟨by rw [List.all_append, h.ok]; simp [okS, hi], by rw [outL_no hz]; exact own_past' h.row hb, Below.next h.below hb⟩
theorem refNets_bad {legs : List Leg} {n1 n2 : Nat} {L R : List Sid} {s : Sid} (hf : firstK n1 n2 legs = 0) (hg : gridS n1 n2 = L ++ s :: R) (h : ¬ inI (sumS legs s)) : netK n1 n2 legs = 2 ∧ netR n1 n2 legs = [] := by
  have : ¬ (gridS n1 n2).all (okS legs) = true := fun hh => by
    have := List.all_eq_true.1 hh s (by rw [hg]; simp)
    exact h (of_decide_eq_true this)
  unfold netK netR
  rw [if_pos hf, if_pos hf]
  unfold netsE netsL
  rw [if_neg this, if_neg this]
  exact ⟨rfl, rfl⟩
theorem refNets_good {legs : List Leg} {n1 n2 : Nat} (hf : firstK n1 n2 legs = 0) (h : (gridS n1 n2).all (okS legs) = true) : netK n1 n2 legs = 0 ∧ netR n1 n2 legs = outL legs (gridS n1 n2) := by
  unfold netK netR
  rw [if_pos hf, if_pos hf]
  unfold netsE netsL
  rw [if_pos h, if_pos h]
  exact ⟨rfl, rfl⟩
theorem grid_split {n1 n2 i j : Nat} (hi : i < n1) (hj : j ≤ n2) : ∃ R, gridS n1 n2 = (gridS i n2 ++ rowS i j) ++ ⟨(i : Int) + 1, (j : Int)⟩ :: R := by
  have h1 : ∀ d, ∃ R, gridS (i + 1 + d) n2 = gridS (i + 1) n2 ++ R := by
    intro d
    induction d with
    | zero => exact ⟨[], by simp⟩
    | succ d ih =>
      obtain ⟨R, hR⟩ := ih
      exact ⟨R ++ rowS (i + 1 + d) (n2 + 1), by rw [← Nat.add_assoc, gridS_succ, hR, List.append_assoc]⟩
  have h2 : ∀ d, ∃ R, rowS i (j + 1 + d) = rowS i (j + 1) ++ R := by
    intro d
    induction d with
    | zero => exact ⟨[], by simp⟩
    | succ d ih =>
      obtain ⟨R, hR⟩ := ih
      exact ⟨R ++ [⟨(i : Int) + 1, ((j + 1 + d : Nat) : Int)⟩], by rw [← Nat.add_assoc, rowS_succ, hR, List.append_assoc]⟩
  obtain ⟨R1, hR1⟩ := h1 (n1 - (i + 1))
  obtain ⟨R2, hR2⟩ := h2 (n2 + 1 - (j + 1))
  rw [show i + 1 + (n1 - (i + 1)) = n1 by omega, gridS_succ] at hR1
  rw [show j + 1 + (n2 + 1 - (j + 1)) = n2 + 1 by omega] at hR2
  have hR3 : rowS i (n2 + 1) = (rowS i j ++ [⟨(i : Int) + 1, (j : Int)⟩]) ++ R2 := by rw [← rowS_succ]; exact hR2
  rw [hR1, hR3]
  exact ⟨R2 ++ R1, by simp⟩
end Go.Proofs.Ytfnhffcjhdeleaa
