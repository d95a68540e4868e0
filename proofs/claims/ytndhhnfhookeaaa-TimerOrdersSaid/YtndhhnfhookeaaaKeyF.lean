import Derived.Test.YtndhhnfhookeaaaKeyE
namespace Go.Proofs.Ytndhhnfhookeaaa
open Go.RowKit

/-! ### A row of numbers that is filled place by place -/
def rowA (n : Nat) (f : Nat → Nat) : Array Value := ((List.range n).map fun i => Value.int .i64 (f i : Nat)).toArray
theorem rowA_size (n : Nat) (f : Nat → Nat) : (rowA n f).size = n := by simp [rowA]
theorem rowA_at {n i : Nat} (f : Nat → Nat) (h : i < n) : (rowA n f)[i]? = some (.int .i64 (f i : Nat)) := by simp [rowA, h]
theorem rowA_put {n : Nat} {f f' : Nat → Nat} {i v : Nat} (h : i < n) (e : ∀ p, p < n → f' p = if p = i then v else f p) : (rowA n f).setIfInBounds i (.int .i64 (v : Nat)) = rowA n f' := by
  apply Array.ext_getElem?
  intro p
  rw [Array.getElem?_setIfInBounds]
  by_cases hp : p < n
  · rw [rowA_at f hp, rowA_at f' hp, rowA_size, if_pos h, e p hp]
    by_cases hip : i = p
    · subst hip; simp
    · rw [if_neg hip, if_neg (fun h => hip h.symm)]
  · rw [if_neg (by omega), Array.getElem?_eq_none (by rw [rowA_size]; omega), Array.getElem?_eq_none (by rw [rowA_size]; omega)]
theorem rowA_zero (n : Nat) : fillA n 0 = rowA n (fun _ => 0) := by
  unfold fillA rowA; congr 1
theorem rowA_rd {w : World} {g n : Nat} {t : TypeId} {f : Nat → Nat} {l : List Nat} (h : Blk w g t (rowA n f)) (hl : l.length = n) (e : ∀ i x, l[i]? = some x → f i = x) : Rd w w.heap.size 1 (some ⟨g, 0, none⟩) n (l.flatMap nC) := by
  refine ⟨by rw [flat_len nC 1 nC_len, hl], fun _ => ⟨g, 0, rfl, h.lt, fun j u hu => ?_⟩⟩
  have hj : j < l.length := by
    have := (List.getElem?_eq_some_iff.1 hu).1
    rw [flat_len nC 1 nC_len] at this
    omega
  have hg : l[j]? = some l[j] := List.getElem?_eq_getElem hj
  have h2 := flat_get nC 1 nC_len l j _ 0 hg (by omega)
  rw [Nat.mul_one, Nat.add_zero, hu] at h2
  rw [h2, Nat.zero_add, h.cell j, rowA_at f (by omega), e j _ hg]
  rfl

/-- A row that is read stays over a store elsewhere. -/
theorem Rd.set {w : World} {B sz n : Nat} {A : Option Addr} {xs : List Value} (h : Rd w B sz A n xs) {p : Addr} (hp : ∀ q, A = some q → q.block ≠ p.block) (u : Value) : Rd (w.setCell p u) B sz A n xs := by
  refine ⟨h.1, fun hn => ?_⟩
  obtain ⟨b, off, rfl, hb, hc⟩ := h.2 hn
  have := hp _ rfl
  exact ⟨b, off, rfl, hb, fun j v hv => (World.cell?_setCell_other _ _ _ _ (by intro e; exact this (by rw [e]))).trans (hc j v hv)⟩
theorem Rd.block {w : World} {B sz n : Nat} {A : Option Addr} {xs : List Value} (h : Rd w B sz A n xs) (hn : 0 < n) : ∃ b off, A = some ⟨b, off, none⟩ ∧ b < B := by
  obtain ⟨b, off, e, hb, _⟩ := h.2 hn
  exact ⟨b, off, e, hb⟩

/-! ### Where a key stands: the document's count -/
theorem range_count {p : Nat → Bool} (k : Nat) : (List.range (k + 1)).countP p = (List.range k).countP p + if p k then 1 else 0 := by
  rw [List.range_succ, List.countP_append]
  simp [List.countP_cons]
theorem countP_le_range (p : Nat → Bool) (k : Nat) : (List.range k).countP p ≤ k := by
  have := List.countP_le_length (p := p) (l := List.range k)
  simpa using this

theorem cfK_at {vs : List KeyV} {i j : Nat} {f g : KeyV} (hf : vs[i]? = some f) (hg : vs[j]? = some g) : cfK (keysOf vs) i j = cmpL f.k g.k := by
  have h1 := (List.getElem?_eq_some_iff.1 hf).1
  have h2 := (List.getElem?_eq_some_iff.1 hg).1
  rw [cfK, keysOf_len, clamp_of h1, clamp_of h2, keysOf_at hf, keysOf_at hg]

/-- The row behind k steps: who of the first k stands there. -/
def ordF (keys : List (List Int)) (k p : Nat) : Nat := if (ordK keys).getD p 0 < k then (ordK keys).getD p 0 else 0
theorem ordF_zero (keys : List (List Int)) (n : Nat) : rowA n (ordF keys 0) = rowA n (fun _ => 0) := by
  unfold rowA ordF; simp
theorem ordF_step {keys : List (List Int)} {k : Nat} (hk : k < keys.length) (p : Nat) (hp : p < keys.length) : ordF keys (k + 1) p = if p = placeK keys k then k else ordF keys k p := by
  have hl : p < (ordK keys).length := by rw [ordK_len]; exact hp
  have hg : (ordK keys)[p]? = some (ordK keys)[p] := List.getElem?_eq_getElem hl
  have hd : (ordK keys).getD p 0 = (ordK keys)[p] := by simp [List.getD, hg]
  have hpl := placeK_at hg
  unfold ordF
  rw [hd]
  by_cases e : p = placeK keys k
  · rw [if_pos e]
    have : (ordK keys)[p] = k := by
      have h1 := ordK_at hk
      rw [← e, hg] at h1
      exact Option.some.inj h1
    rw [this, if_pos (by omega)]
  · rw [if_neg e]
    have : (ordK keys)[p] ≠ k := fun h => e (by rw [← h]; exact hpl.symm)
    by_cases h : (ordK keys)[p] < k
    · rw [if_pos h, if_pos (by omega)]
    · rw [if_neg h, if_neg (by omega)]
theorem ordF_done {keys : List (List Int)} (i x : Nat) (h : (ordK keys)[i]? = some x) : ordF keys keys.length i = x := by
  have hd : (ordK keys).getD i 0 = x := by simp [List.getD, h]
  rw [ordF, hd, if_pos (ordK_mem.1 (List.mem_of_getElem? h))]

def placesK (keys : List (List Int)) : List Nat := (List.range keys.length).map (placeK keys)
theorem placesK_len (keys : List (List Int)) : (placesK keys).length = keys.length := by simp [placesK]
theorem placesK_at {keys : List (List Int)} {i : Nat} (h : i < keys.length) : (placesK keys)[i]? = some (placeK keys i) := by simp [placesK, h]
def plcF (keys : List (List Int)) (k p : Nat) : Nat := if placeK keys p < k then placeK keys p else 0
theorem plcF_zero (keys : List (List Int)) (n : Nat) : rowA n (plcF keys 0) = rowA n (fun _ => 0) := by
  unfold rowA plcF; simp
theorem plcF_step {keys : List (List Int)} {k i : Nat} (hi : (ordK keys)[k]? = some i) (p : Nat) (hp : p < keys.length) : plcF keys (k + 1) p = if p = i then k else plcF keys k p := by
  have hpl := placeK_at hi
  have hin := ordK_mem.1 (List.mem_of_getElem? hi)
  unfold plcF
  by_cases e : p = i
  · subst e; rw [if_pos rfl, hpl, if_pos (by omega)]
  · rw [if_neg e]
    have : placeK keys p ≠ k := fun h => e (placeK_inj hp hin (by rw [h, hpl]))
    by_cases h : placeK keys p < k
    · rw [if_pos h, if_pos (by omega)]
    · rw [if_neg h, if_neg (by omega)]
/-- What Place hands back. -/
def PlcPost (w : World) (vs : List KeyV) (n : Nat) (e : Ending) (w' : World) : Prop := ∃ (A : Option Addr) (c : Nat), e = .returned (.slice A n c) ∧ Rd w' w'.heap.size 1 A n ((placesK (keysOf vs)).flatMap nC) ∧ Below w.heap.size w w'

end Go.Proofs.Ytndhhnfhookeaaa
