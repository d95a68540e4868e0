import Derived.Test.YtoohfbgbhjadgaaKeyG
namespace Go.Proofs.Ytoohfbgbhjadgaa
open Go.RowKit

/-! ### Two rising lists, put together: the plain law -/
theorem riK_le {keys : List (List Int)} {n : Nat} (h : riK keys false n = true) : ∀ (j i : Nat), i ≤ j → j < n → cmpL (keys.getD i []) (keys.getD j []) ≤ 0
  | 0, i, h1, _ => by
    obtain rfl : i = 0 := by omega
    rw [cmpL_refl]; omega
  | j + 1, i, h1, h2 => by
    by_cases e : i = j + 1
    · subst e; rw [cmpL_refl]; omega
    · have hij := riK_le h j i (by omega) (by omega)
      have hk := List.all_eq_true.1 h (j + 1) (by simpa using h2)
      unfold okAt at hk
      have : cmpL (keys.getD j []) (keys.getD (j + 1) []) ≤ 0 := by
        simp only [Nat.add_sub_cancel, Bool.or_eq_true, Bool.and_eq_true, decide_eq_true_eq, beq_iff_eq] at hk
        rcases hk with hk | hk | hk
        · omega
        · omega
        · omega
      exact cmpL_le_tr hij this

/-- How the keys of two lists, one behind the other, compare. -/
theorem ahead_aa {xs bs : List (List Int)} {i j : Nat} (hj : j < xs.length) (hij : i < j) (h : cmpL (xs.getD i []) (xs.getD j []) ≤ 0) : ahead (xs ++ bs) i j = true := by
  rw [ahead_iff]
  have h1 : (xs ++ bs).getD i [] = xs.getD i [] := by simp [List.getD, List.getElem?_append_left (show i < xs.length by omega)]
  have h2 : (xs ++ bs).getD j [] = xs.getD j [] := by simp [List.getD, List.getElem?_append_left hj]
  rw [cfK, clamp_of (by simp; omega), clamp_of (by simp; omega), h1, h2]
  omega
theorem ahead_bb {xs bs : List (List Int)} {i j : Nat} (hj : j < bs.length) (hij : i < j) (h : cmpL (bs.getD i []) (bs.getD j []) ≤ 0) : ahead (xs ++ bs) (xs.length + i) (xs.length + j) = true := by
  rw [ahead_iff]
  have h1 : (xs ++ bs).getD (xs.length + i) [] = bs.getD i [] := by simp [List.getD, List.getElem?_append_right]
  have h2 : (xs ++ bs).getD (xs.length + j) [] = bs.getD j [] := by simp [List.getD, List.getElem?_append_right]
  rw [cfK, clamp_of (by simp; omega), clamp_of (by simp; omega), h1, h2]
  omega
theorem ahead_ab {xs bs : List (List Int)} {i j : Nat} (hi : i < xs.length) (hj : j < bs.length) (h : cmpL (xs.getD i []) (bs.getD j []) ≤ 0) : ahead (xs ++ bs) i (xs.length + j) = true := by
  rw [ahead_iff]
  have h1 : (xs ++ bs).getD i [] = xs.getD i [] := by simp [List.getD, List.getElem?_append_left hi]
  have h2 : (xs ++ bs).getD (xs.length + j) [] = bs.getD j [] := by simp [List.getD, List.getElem?_append_right]
  rw [cfK, clamp_of (by simp; omega), clamp_of (by simp; omega), h1, h2]
  omega
theorem ahead_ba {xs bs : List (List Int)} {i j : Nat} (hi : i < xs.length) (hj : j < bs.length) (h : 0 < cmpL (xs.getD i []) (bs.getD j [])) : ahead (xs ++ bs) (xs.length + j) i = true := by
  rw [ahead_iff]
  have h1 : (xs ++ bs).getD i [] = xs.getD i [] := by simp [List.getD, List.getElem?_append_left hi]
  have h2 : (xs ++ bs).getD (xs.length + j) [] = bs.getD j [] := by simp [List.getD, List.getElem?_append_right]
  rw [cfK, clamp_of (by simp; omega), clamp_of (by simp; omega), h1, h2]
  have := cmpL_swap (xs.getD i []) (bs.getD j [])
  omega

/-- What the merge keeps: i of the first list and k of the second are out. -/
structure MInv (xs bs : List (List Int)) (i k : Nat) (out : List Nat) : Prop where
  ia : i ≤ xs.length
  kb : k ≤ bs.length
  len : out.length = i + k
  sorted : out.Pairwise fun x y => ahead (xs ++ bs) x y = true
  mem : ∀ x, x ∈ out ↔ (x < i ∨ (xs.length ≤ x ∧ x < xs.length + k))
  fa : ∀ x ∈ out, ∀ y, i ≤ y → y < xs.length → ahead (xs ++ bs) x y = true
  fb : ∀ x ∈ out, ∀ y, k ≤ y → y < bs.length → ahead (xs ++ bs) x (xs.length + y) = true

theorem MInv.start (xs bs : List (List Int)) : MInv xs bs 0 0 [] :=
  ⟨Nat.zero_le _, Nat.zero_le _, rfl, List.Pairwise.nil, fun x => by first | (simp; done) | (simp; omega), fun x h => by simp at h, fun x h => by simp at h⟩

theorem MInv.takeA {xs bs : List (List Int)} {i k : Nat} {out : List Nat} (h : MInv xs bs i k out) (hra : riK xs false xs.length = true) (hrb : riK bs false bs.length = true) (hi : i < xs.length) (hc : k = bs.length ∨ cmpL (xs.getD i []) (bs.getD k []) ≤ 0) : MInv xs bs (i + 1) k (out ++ [i]) := by
  have f1 : ∀ y, i < y → y < xs.length → ahead (xs ++ bs) i y = true := fun y h1 h2 => ahead_aa h2 h1 (riK_le hra y i (by omega) h2)
  have f2 : ∀ y, k ≤ y → y < bs.length → ahead (xs ++ bs) i (xs.length + y) = true := fun y h1 h2 => by
    rcases hc with e | hc
    · omega
    · exact ahead_ab hi h2 (cmpL_le_tr hc (riK_le hrb y k h1 h2))
  refine ⟨hi, h.kb, by simp [h.len]; omega, ?_, fun x => ?_, fun x hx y h1 h2 => ?_, fun x hx y h1 h2 => ?_⟩
  · rw [List.pairwise_append]
    exact ⟨h.sorted, by simp, fun x hx y hy => by rw [List.mem_singleton.1 hy]; exact h.fa x hx i (Nat.le_refl _) hi⟩
  · rw [List.mem_append, h.mem, List.mem_singleton]; omega
  · rcases List.mem_append.1 hx with hx | hx
    · exact h.fa x hx y (by omega) h2
    · rw [List.mem_singleton.1 hx]; exact f1 y h1 h2
  · rcases List.mem_append.1 hx with hx | hx
    · exact h.fb x hx y h1 h2
    · rw [List.mem_singleton.1 hx]; exact f2 y h1 h2

theorem MInv.takeB {xs bs : List (List Int)} {i k : Nat} {out : List Nat} (h : MInv xs bs i k out) (hra : riK xs false xs.length = true) (hrb : riK bs false bs.length = true) (hk : k < bs.length) (hc : i = xs.length ∨ 0 < cmpL (xs.getD i []) (bs.getD k [])) : MInv xs bs i (k + 1) (out ++ [xs.length + k]) := by
  have f1 : ∀ y, k < y → y < bs.length → ahead (xs ++ bs) (xs.length + k) (xs.length + y) = true := fun y h1 h2 => ahead_bb h2 h1 (riK_le hrb y k (by omega) h2)
  have f2 : ∀ y, i ≤ y → y < xs.length → ahead (xs ++ bs) (xs.length + k) y = true := fun y h1 h2 => by
    rcases hc with e | hc
    · omega
    · refine ahead_ba h2 hk ?_
      have a1 := riK_le hra y i h1 h2
      rcases Int.lt_or_le 0 (cmpL (xs.getD y []) (bs.getD k [])) with h3 | h3
      · exact h3
      · have := cmpL_le_tr a1 h3; omega
  refine ⟨h.ia, hk, by simp [h.len]; omega, ?_, fun x => ?_, fun x hx y h1 h2 => ?_, fun x hx y h1 h2 => ?_⟩
  · rw [List.pairwise_append]
    exact ⟨h.sorted, by simp, fun x hx y hy => by rw [List.mem_singleton.1 hy]; exact h.fb x hx k (Nat.le_refl _) hk⟩
  · rw [List.mem_append, h.mem, List.mem_singleton]; omega
  · rcases List.mem_append.1 hx with hx | hx
    · exact h.fa x hx y h1 h2
    · rw [List.mem_singleton.1 hx]; exact f2 y h1 h2
  · rcases List.mem_append.1 hx with hx | hx
    · exact h.fb x hx y (by omega) h2
    · rw [List.mem_singleton.1 hx]; exact f1 y (by omega) h2

theorem MInv.done {xs bs : List (List Int)} {out : List Nat} (h : MInv xs bs xs.length bs.length out) : out = ordK (xs ++ bs) :=
  ordK_only h.sorted fun x => by rw [h.mem]; simp; omega

/-! ### Where runs of like keys begin -/
def newAt (keys : List (List Int)) (j : Nat) : Bool := j == 0 || !(cmpL (keys.getD (j - 1) []) (keys.getD j []) == 0)
def runsK (keys : List (List Int)) (k : Nat) : List Nat := (List.range k).filter (newAt keys)
theorem runsK_succ (keys : List (List Int)) (k : Nat) : runsK keys (k + 1) = runsK keys k ++ (if newAt keys k then [k] else []) := by
  unfold runsK
  rw [List.range_succ, List.filter_append]
  by_cases h : newAt keys k = true <;> simp [List.filter_cons, h]
theorem runsK_len (keys : List (List Int)) (k : Nat) : (runsK keys k).length ≤ k := by
  have := List.length_filter_le (newAt keys) (List.range k)
  simpa [runsK] using this
theorem runsK_lt {keys : List (List Int)} {k x : Nat} (h : x ∈ runsK keys k) : x < k := by
  have := (List.mem_filter.1 h).1
  simpa using this
theorem newAt_of {vs : List KeyV} {j : Nat} {f g : KeyV} (hf : vs[j]? = some f) (hg : vs[j + 1]? = some g) : newAt (keysOf vs) (j + 1) = !(cmpL f.k g.k == 0) := by
  unfold newAt
  rw [Nat.add_sub_cancel, keysOf_at hf, keysOf_at hg]
  simp
end Go.Proofs.Ytoohfbgbhjadgaa
