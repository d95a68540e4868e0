import Derived.Test.YtfnhffcjhdeleaaNetQ
namespace Go.Proofs.Ytfnhffcjhdeleaa
open Go.RowKit Go.ChangeShapes

def matB (x0 x1 : Int) (y : Leg) : Bool := decide (y.member = x0) && decide (y.asset = x1)
def nlB (x : Leg) : Bool := negB x && !leastB x
def clsL (l : List Leg) : List Leg := (l.filter nlB).map negL
theorem clsL_len (l : List Leg) : (clsL l).length ≤ l.length := by unfold clsL; rw [List.length_map]; exact List.length_filter_le _ _
theorem clsL_claim {l : List Leg} (h : l.any leastB = false) : clsL l = claimL l := by
  unfold clsL claimL
  congr 1
  refine List.filter_congr fun x hx => ?_
  have : leastB x = false := by
    cases hl : leastB x with
    | false => rfl
    | true =>
      have : l.any leastB = true := List.any_eq_true.2 ⟨x, hx, hl⟩
      rw [h] at this; cases this
  unfold nlB; rw [this]; simp
theorem ofL_snoc (x0 x1 : Int) (f : Leg) : ∀ l : List Leg, ofL (l ++ [f]) x0 x1 = if l.any (matB x0 x1) = true then ofL l x0 x1 else if matB x0 x1 f = true then f.amount else 0
  | [] => by
    have h0 : ([] : List Leg).any (matB x0 x1) = false := rfl
    rw [List.nil_append, if_neg (by rw [h0]; simp), ofL]
    by_cases h : f.member = x0 ∧ f.asset = x1
    · rw [if_pos h, if_pos (by simp [matB, h])]
    · rw [if_neg h, if_neg (by simpa [matB] using h)]; rfl
  | y :: l => by
    rw [List.cons_append, ofL, List.any_cons, ofL, ofL_snoc x0 x1 f l]
    by_cases h : y.member = x0 ∧ y.asset = x1
    · have : matB x0 x1 y = true := by simp [matB, h]
      rw [if_pos h, if_pos h, this]; simp
    · have : matB x0 x1 y = false := by simpa [matB] using h
      rw [if_neg h, if_neg h, this]; simp
def sdD (l : List Leg) (a : Int) : Int := if sidesOk l a = true then owedD l a else 0
def sdC (l : List Leg) (a : Int) : Int := if sidesOk l a = true then owedC l a else 0
def sdE (l : List Leg) (a : Int) : Int := if sidesOk l a = true then 0 else 2
theorem SidesPost.eq {l : List Leg} {a : Int} {w w' : World} {e : Ending} (h : SidesPost l a w e w') : e = .returned (.tuple #[.int .i64 (sdD l a), .int .i64 (sdC l a), .int .i64 (sdE l a)]) ∧ Below w.heap.size w w' := by
  unfold SidesPost at h
  unfold sdD sdC sdE
  refine ⟨?_, h.2⟩
  have h1 := h.1
  split at h1
  · rename_i hh; rw [if_pos hh, if_pos hh, if_pos hh]; exact h1
  · rename_i hh; rw [if_neg hh, if_neg hh, if_neg hh]; exact h1
structure LawRel (W : World) (l : List Leg) (x0 x1 : Int) (k : Nat) (v11 v12 : Value) (F : Int) (b c : Bool) (wr : World) : Prop where
  r11 : wr.ownsRow W.heap.size 97 3 v11 ((l.take k).filter posB).length (((l.take k).filter posB).flatMap Leg.cells)
  r12 : wr.ownsRow W.heap.size 97 3 v12 (clsL (l.take k)).length ((clsL (l.take k)).flatMap Leg.cells)
  ap : ApartVN v11 v12
  below : Below W.heap.size W wr
  first : ofL (l.take k) x0 x1 = F
  found : (l.take k).any (matB x0 x1) = b
  least : (l.take k).any leastB = c
/-- What a leg does to the first that was found. -/
theorem first_step {l : List Leg} {f : Leg} {k : Nat} {x0 x1 F : Int} {b : Bool} (hT : l.take (k + 1) = l.take k ++ [f]) (h1 : ofL (l.take k) x0 x1 = F) (h2 : (l.take k).any (matB x0 x1) = b) :
    ((f.member == x0) = false ∧ ofL (l.take (k + 1)) x0 x1 = F ∧ (l.take (k + 1)).any (matB x0 x1) = b) ∨
    ((f.member == x0) = true ∧ (f.asset == x1) = false ∧ ofL (l.take (k + 1)) x0 x1 = F ∧ (l.take (k + 1)).any (matB x0 x1) = b) ∨
    ((f.member == x0) = true ∧ (f.asset == x1) = true ∧ b = true ∧ ofL (l.take (k + 1)) x0 x1 = F ∧ (l.take (k + 1)).any (matB x0 x1) = true) ∨
    ((f.member == x0) = true ∧ (f.asset == x1) = true ∧ b = false ∧ ofL (l.take (k + 1)) x0 x1 = f.amount ∧ (l.take (k + 1)).any (matB x0 x1) = true) := by
  have hz : b = false → F = 0 := by
    intro hb
    rw [← h1]
    have : ∀ l : List Leg, l.any (matB x0 x1) = false → ofL l x0 x1 = 0 := by
      intro l
      induction l with
      | nil => intro _; rfl
      | cons y l ih =>
        intro h
        rw [List.any_cons, Bool.or_eq_false_iff] at h
        rw [ofL, if_neg (fun e => by have := h.1; simp [matB, e] at this)]
        exact ih h.2
    exact this _ (h2.trans hb)
  rw [hT, ofL_snoc, List.any_append, h1, h2]
  by_cases e1 : f.member = x0
  · by_cases e2 : f.asset = x1
    · have hm : matB x0 x1 f = true := by simp [matB, e1, e2]
      cases b with
      | true => right; right; left; simp [e1, e2]
      | false => right; right; right; simp [e1, e2, hm]
    · have hm : matB x0 x1 f = false := by simp [matB, e2]
      right; left
      cases b with
      | true => simp [e1, e2, hm]
      | false => simp [e1, e2, hm, hz rfl]
  · have hm : matB x0 x1 f = false := by simp [matB, e1]
    left
    cases b with
    | true => simp [e1, hm]
    | false => simp [e1, hm, hz rfl]
theorem clsL_yes {l : List Leg} {f : Leg} {k : Nat} (hT : l.take (k + 1) = l.take k ++ [f]) (he : nlB f = true) : clsL (l.take (k + 1)) = clsL (l.take k) ++ [negL f] := by
  unfold clsL; rw [filt_yes hT he, List.map_append]; rfl
theorem clsL_no {l : List Leg} {f : Leg} {k : Nat} (hT : l.take (k + 1) = l.take k ++ [f]) (he : nlB f = false) : clsL (l.take (k + 1)) = clsL (l.take k) := by
  unfold clsL; rw [filt_no hT he]
theorem least_step {l : List Leg} {f : Leg} {k : Nat} {c : Bool} (hT : l.take (k + 1) = l.take k ++ [f]) (h : (l.take k).any leastB = c) (hf : leastB f = false) : (l.take (k + 1)).any leastB = c := by
  rw [hT, List.any_append, h]; simp [hf]
theorem least_hit {l : List Leg} {f : Leg} {k : Nat} (hT : l.take (k + 1) = l.take k ++ [f]) (hf : leastB f = true) : (l.take (k + 1)).any leastB = true := by
  rw [hT, List.any_append]; simp [hf]
end Go.Proofs.Ytfnhffcjhdeleaa
