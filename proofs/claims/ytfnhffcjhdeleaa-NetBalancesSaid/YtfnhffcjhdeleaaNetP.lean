import Derived.Test.YtfnhffcjhdeleaaKeyC
import Derived.Test.YtfnhffcjhdeleaaTradA
namespace Go.Proofs.Ytfnhffcjhdeleaa
open Go.RowKit

/-! ### Plain law: the nets of legs, by the order of sides -/
structure Sid where
  m : Int
  a : Int
theorem Sid.same {s t : Sid} (h1 : s.m = t.m) (h2 : s.a = t.a) : s = t := by cases s; cases t; simp_all
def Sid.key (s : Sid) : List Int := [s.m, s.a]
def Sid.cells (s : Sid) : List Value := [.int .i64 s.m, .int .i64 s.a]
theorem Sid.cells_len (s : Sid) : s.cells.length = 2 := rfl
def sLe (s t : Sid) : Prop := s.m < t.m ∨ (s.m = t.m ∧ s.a ≤ t.a)
theorem sLe_key (s t : Sid) : cmpL s.key t.key ≤ 0 ↔ sLe s t := by
  unfold sLe
  simp only [Sid.key, cmpL]
  repeat' split
  all_goals simp
  all_goals omega
def dS : Sid := ⟨0, 0⟩
def sortS (l : List Sid) : List Sid := (ordK (l.map Sid.key)).map fun i => l.getD i dS
theorem sortS_len (l : List Sid) : (sortS l).length = l.length := by rw [sortS, List.length_map, ordK_len, List.length_map]
theorem sortS_perm (l : List Sid) : (sortS l).Perm l := by
  unfold sortS ordK
  refine ((ordB_perm _ _).map _).trans ?_
  have : (List.range (l.map Sid.key).length).map (fun i => l.getD i dS) = l := by
    apply List.ext_getElem?
    intro i
    by_cases hi : i < l.length
    · simp [hi, List.getD]
    · rw [List.getElem?_eq_none (by simp; omega), List.getElem?_eq_none (by omega)]
  rw [this]
theorem sortS_sorted (l : List Sid) : (sortS l).Pairwise sLe := by
  unfold sortS
  rw [List.pairwise_iff_getElem]
  intro i j hi hj hij
  have hi' : i < (ordK (l.map Sid.key)).length := by simpa using hi
  have hj' : j < (ordK (l.map Sid.key)).length := by simpa using hj
  have h := ordK_keys (List.getElem?_eq_getElem hi') (List.getElem?_eq_getElem hj') hij
  have hk : ∀ x, x < l.length → (l.map Sid.key).getD x [] = (l.getD x dS).key := fun x hx => by
    simp [List.getD, List.getElem?_eq_getElem hx]
  have m1 := ordK_mem.1 (List.getElem_mem hi')
  have m2 := ordK_mem.1 (List.getElem_mem hj')
  rw [List.length_map] at m1 m2
  rw [hk _ m1, hk _ m2] at h
  rw [← sLe_key]
  simpa using h

/-- All sides of a house, by member and then by asset. -/
def gridS (M S : Nat) : List Sid := (List.range M).flatMap fun (i : Nat) => (List.range (S + 1)).map fun (j : Nat) => ⟨(i : Int) + 1, (j : Int)⟩
theorem gridS_mem {M S : Nat} {s : Sid} : s ∈ gridS M S ↔ 1 ≤ s.m ∧ s.m ≤ M ∧ 0 ≤ s.a ∧ s.a ≤ S := by
  unfold gridS
  simp only [List.mem_flatMap, List.mem_range, List.mem_map]
  constructor
  · rintro ⟨i, hi, j, hj, rfl⟩
    simp only
    omega
  · rintro ⟨h1, h2, h3, h4⟩
    exact ⟨(s.m - 1).toNat, by omega, s.a.toNat, by omega, Sid.same (by simp only; omega) (by simp only; omega)⟩
theorem gridS_sorted (M S : Nat) : (gridS M S).Pairwise fun s t => s.m < t.m ∨ (s.m = t.m ∧ s.a < t.a) := by
  unfold gridS
  rw [List.pairwise_flatMap]
  constructor
  · intro i _
    rw [List.pairwise_map]
    refine List.pairwise_lt_range.imp fun h => ?_
    right
    exact ⟨rfl, by simp only; omega⟩
  · refine List.pairwise_lt_range.imp ?_
    intro i j h s hs t ht
    simp only [List.mem_map] at hs ht
    obtain ⟨_, _, rfl⟩ := hs
    obtain ⟨_, _, rfl⟩ := ht
    left
    simp only
    omega
/-- A side that has legs. -/
def hasS (legs : List Leg) (s : Sid) : Bool := !(owedL legs s.m s.a).isEmpty
theorem sort_grid {legs : List Leg} {done : List Sid} {M S : Nat} (hn : done.Nodup) (hm : ∀ s, s ∈ done ↔ hasS legs s = true) (hg : ∀ s, hasS legs s = true → s ∈ gridS M S) : sortS done = (gridS M S).filter (hasS legs) := by
  have hgn : (gridS M S).Nodup := (gridS_sorted M S).imp fun {s t} h e => by subst e; omega
  have hperm : done.Perm ((gridS M S).filter (hasS legs)) := by
    refine (List.perm_ext_iff_of_nodup hn (hgn.filter _)).2 fun s => ?_
    rw [List.mem_filter, hm]
    exact ⟨fun h => ⟨hg s h, h⟩, fun h => h.2⟩
  refine List.Perm.eq_of_pairwise (le := sLe) (fun s t _ _ h1 h2 => ?_) (sortS_sorted done) ?_ ((sortS_perm done).trans hperm)
  · unfold sLe at h1 h2
    exact Sid.same (by omega) (by omega)
  · exact ((gridS_sorted M S).filter _).imp fun {s t} h => by unfold sLe; omega

def sumS (legs : List Leg) (s : Sid) : Int := (owedL legs s.m s.a).sum
def okS (legs : List Leg) (s : Sid) : Bool := decide (inI (sumS legs s))
def ofS (legs : List Leg) (s : Sid) : Leg := ⟨s.m, s.a, sumS legs s⟩
def nzS (legs : List Leg) (s : Sid) : Bool := !(sumS legs s == 0)
def netsE (keys : List Sid) (legs : List Leg) : Int := if keys.all (okS legs) = true then 0 else 2
def netsL (keys : List Sid) (legs : List Leg) : List Leg := if keys.all (okS legs) = true then (keys.filter (nzS legs)).map (ofS legs) else []
theorem hasS_no {legs : List Leg} {s : Sid} (h : hasS legs s = false) : sumS legs s = 0 := by
  have : owedL legs s.m s.a = [] := by simpa [hasS] using h
  unfold sumS; rw [this]; rfl
theorem all_has (keys : List Sid) (legs : List Leg) : (keys.filter (hasS legs)).all (okS legs) = keys.all (okS legs) := by
  rw [Bool.eq_iff_iff]
  simp only [List.all_eq_true, List.mem_filter]
  constructor
  · intro h s hs
    cases hh : hasS legs s with
    | true => exact h s ⟨hs, hh⟩
    | false => rw [okS, hasS_no hh]; decide
  · exact fun h s hs => h s hs.1
theorem netsE_has (keys : List Sid) (legs : List Leg) : netsE (keys.filter (hasS legs)) legs = netsE keys legs := by unfold netsE; rw [all_has]
theorem netsL_has (keys : List Sid) (legs : List Leg) : netsL (keys.filter (hasS legs)) legs = netsL keys legs := by
  unfold netsL; rw [all_has]
  congr 2
  rw [List.filter_filter]
  refine List.filter_congr fun s _ => ?_
  cases hh : hasS legs s with
  | true => simp
  | false => simp [nzS, hasS_no hh]

/-- What is wrong with a leg. -/
def legK (M S : Nat) (x : Leg) : Int := if x.member < 1 ∨ (M : Int) < x.member then 9 else if x.asset < 0 ∨ (S : Int) < x.asset then 10 else 0
def firstK (M S : Nat) : List Leg → Int
  | [] => 0
  | x :: l => if legK M S x = 0 then firstK M S l else legK M S x
theorem legK_ok {M S : Nat} {x : Leg} (h : legK M S x = 0) : (⟨x.member, x.asset⟩ : Sid) ∈ gridS M S := by
  rw [gridS_mem]
  unfold legK at h
  split at h
  · omega
  · split at h
    · omega
    · simp only; omega
theorem firstK_snoc {M S : Nat} : ∀ {l : List Leg} {x : Leg}, firstK M S l = 0 → firstK M S (l ++ [x]) = legK M S x
  | [], x, _ => by simp only [List.nil_append, firstK]; split <;> simp_all
  | y :: l, x, h => by
    simp only [firstK] at h
    split at h
    · rename_i h0
      rw [List.cons_append, firstK, if_pos h0]
      exact firstK_snoc h
    · rename_i h0; exact absurd h h0
theorem firstK_stop {M S : Nat} : ∀ {l l' : List Leg}, firstK M S l ≠ 0 → firstK M S (l ++ l') = firstK M S l
  | [], _, h => absurd rfl h
  | y :: l, l', h => by
    simp only [List.cons_append, firstK] at h ⊢
    split
    · rename_i h0; rw [if_pos h0] at h; exact firstK_stop h
    · rfl
theorem firstK_all {M S : Nat} : ∀ {l : List Leg}, firstK M S l = 0 → ∀ x ∈ l, legK M S x = 0
  | [], _, x, hx => by cases hx
  | y :: l, h, x, hx => by
    simp only [firstK] at h
    split at h
    · rename_i h0
      rcases List.mem_cons.1 hx with rfl | hx
      · exact h0
      · exact firstK_all h x hx
    · rename_i h0; exact absurd h h0
theorem has_mem {legs : List Leg} {s : Sid} (h : hasS legs s = true) : ∃ x ∈ legs, x.member = s.m ∧ x.asset = s.a := by
  have h1 : owedL legs s.m s.a ≠ [] := by simpa [hasS] using h
  unfold owedL at h1
  obtain ⟨z, hz⟩ := List.exists_mem_of_ne_nil _ h1
  obtain ⟨x, hx, _⟩ := List.mem_map.1 hz
  have := List.mem_filter.1 hx
  exact ⟨x, this.1, by simpa using this.2⟩
theorem has_grid {M S : Nat} {legs : List Leg} (h : firstK M S legs = 0) : ∀ s, hasS legs s = true → s ∈ gridS M S := fun s hs => by
  obtain ⟨x, hx, h1, h2⟩ := has_mem hs
  have := legK_ok (firstK_all h x hx)
  rw [show s = ⟨x.member, x.asset⟩ from Sid.same h1.symm h2.symm]
  exact this
/-- What the nets of legs are told as. -/
def netK (M S : Nat) (legs : List Leg) : Int := if firstK M S legs = 0 then netsE (gridS M S) legs else firstK M S legs
def netR (M S : Nat) (legs : List Leg) : List Leg := if firstK M S legs = 0 then netsL (gridS M S) legs else []
end Go.Proofs.Ytfnhffcjhdeleaa
