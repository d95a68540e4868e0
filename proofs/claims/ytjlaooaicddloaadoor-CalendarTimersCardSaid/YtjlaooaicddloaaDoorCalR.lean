import Derived.Test.YtjlaooaicddloaaDoorCalK
namespace Go.Proofs.YtjlaooaicddloaaDoor
open Go.RowKit

/-! ### The timers of a config that may be, in plain Lean -/
theorem dueX_miss {t : Int} {x : Cyc} (h : cntX t x = 0) (nk : Int × Int) : dueX t nk x = nk := by
  have hn : ¬ (x.cut = t ∨ x.fund = t ∨ x.buyin = t ∨ x.close = t) := fun e => by have := cntX_pos.2 e; omega
  simp only [not_or] at hn
  simp only [dueX, dueK, tickK, hit]
  rw [if_neg hn.1, if_neg hn.2.1, if_neg hn.2.2.1, if_neg hn.2.2.2]
theorem fold_miss {t : Int} {l : List Cyc} (h : cntL t l = 0) : ∀ nk, l.foldl (dueX t) nk = nk := by
  induction l with
  | nil => intro nk; rfl
  | cons x l ih =>
    intro nk
    have b1 := cntX_bd t x
    have b2 := cntL_bd t l
    rw [cntL] at h
    rw [List.foldl_cons, dueX_miss (by omega)]
    exact ih (by omega) nk
theorem hit_eq {t v : Int} (h : v = t) (nk : Int × Int) (kd : Int) : hit t nk v kd = (nk.1 + 1, kd) := if_pos h
theorem hit_ne {t v : Int} (h : ¬ v = t) (nk : Int × Int) (kd : Int) : hit t nk v kd = nk := if_neg h
theorem cyc_split {l : List Cyc} {j : Nat} {x : Cyc} (hx : l[j]? = some x) : l = l.take j ++ x :: l.drop (j + 1) := by
  obtain ⟨hk, e⟩ := List.getElem?_eq_some_iff.1 hx
  rw [← e, ← List.drop_eq_getElem_cons hk, List.take_append_drop]
theorem miss_pre {l : List Cyc} (ok : cycsFrom 0 l = true) {j : Nat} {x : Cyc} (hx : l[j]? = some x) {t : Int} (h1 : x.cut ≤ t) : cntL t (l.take j) = 0 := by
  have b := cntL_bd t (l.take j)
  by_cases hp : 0 < cntL t (l.take j)
  · obtain ⟨i, y, hy, hc⟩ := cntL_pos.1 hp
    have hij : i < j := by have := (List.getElem?_eq_some_iff.1 hy).1; simp at this; omega
    rw [List.getElem?_take_of_lt hij] at hy
    have a1 := cntX_pos.1 hc
    have a2 := cyc_at ok hy
    have a3 := cyc_at ok hx
    have a4 := close_le ok (show i + 1 ≤ j by omega)
    rw [close_succ hy] at a4
    omega
  · omega
theorem miss_post {l : List Cyc} (ok : cycsFrom 0 l = true) {j : Nat} {x : Cyc} (hx : l[j]? = some x) {t : Int} (h1 : t ≤ x.close) : cntL t (l.drop (j + 1)) = 0 := by
  have b := cntL_bd t (l.drop (j + 1))
  by_cases hp : 0 < cntL t (l.drop (j + 1))
  · obtain ⟨i, y, hy, hc⟩ := cntL_pos.1 hp
    rw [List.getElem?_drop] at hy
    have a1 := cntX_pos.1 hc
    have a2 := cyc_at ok hy
    have a4 := close_le ok (show j + 1 ≤ j + 1 + i by omega)
    rw [close_succ hx] at a4
    omega
  · omega
theorem dueL_at {l : List Cyc} (ok : cycsFrom 0 l = true) {j : Nat} {x : Cyc} (hx : l[j]? = some x) {t : Int} (h1 : x.cut ≤ t) (h2 : t ≤ x.close) : dueL t l = dueX t (0, 0) x := by
  have e := cyc_split hx
  rw [dueL, e, List.foldl_append, fold_miss (miss_pre ok hx h1), List.foldl_cons, fold_miss (miss_post ok hx h2)]

theorem timersOf_len (l : List Cyc) : (timersOf l).length = 4 * l.length := by
  induction l with
  | nil => rfl
  | cons x l ih => simp only [timersOf, List.flatMap_cons, List.length_append, List.length_cons] at ih ⊢; rw [ih]; simp [Cyc.timers]; omega
theorem timersOf_at (l : List Cyc) : ∀ (j r : Nat) (x : Cyc), l[j]? = some x → r < 4 → (timersOf l)[4 * j + r]? = x.timers[r]? := by
  induction l with
  | nil => intro j r x h; simp at h
  | cons y l ih =>
    intro j r x h hr
    have e : timersOf (y :: l) = y.timers ++ timersOf l := rfl
    have hl : y.timers.length = 4 := rfl
    cases j with
    | zero =>
      simp at h
      subst h
      rw [e, List.getElem?_append_left (by omega)]
      simp
    | succ j =>
      rw [e, List.getElem?_append_right (by omega), hl, show 4 * (j + 1) + r - 4 = 4 * j + r by omega]
      exact ih j r x (by simpa using h) hr
theorem tim_at {l : List Cyc} {i : Nat} {y : Timr} (h : (timersOf l)[i]? = some y) : ∃ (j r : Nat) (x : Cyc), i = 4 * j + r ∧ r < 4 ∧ l[j]? = some x ∧ x.timers[r]? = some y := by
  have hi := (List.getElem?_eq_some_iff.1 h).1
  rw [timersOf_len] at hi
  have hj : i / 4 < l.length := by omega
  have hx : l[i / 4]? = some l[i / 4] := List.getElem?_eq_getElem hj
  refine ⟨i / 4, i % 4, _, by omega, by omega, hx, ?_⟩
  rw [← timersOf_at l _ _ _ hx (by omega), show 4 * (i / 4) + i % 4 = i by omega]
  exact h
theorem timr_due {l : List Cyc} (ok : cycsFrom 0 l = true) {i : Nat} {y : Timr} (h : (timersOf l)[i]? = some y) : dueL y.due l = (1, y.kind) ∧ 0 < y.due := by
  obtain ⟨j, r, x, rfl, hr, hx, hy⟩ := tim_at h
  have c := cyc_at ok hx
  have c0 := close_nn ok j
  obtain rfl | rfl | rfl | rfl : r = 0 ∨ r = 1 ∨ r = 2 ∨ r = 3 := by omega
  all_goals
    simp [Cyc.timers] at hy
    subst hy
    simp only
    refine ⟨?_, by omega⟩
    rw [dueL_at ok hx (by omega) (by omega)]
    change hit _ (hit _ (hit _ (hit _ (0, 0) x.cut 1) x.fund 3) x.buyin 4) x.close 5 = _
  · rw [hit_eq (rfl : x.cut = x.cut), hit_ne (show ¬ x.fund = x.cut by omega), hit_ne (show ¬ x.buyin = x.cut by omega), hit_ne (show ¬ x.close = x.cut by omega)]; rfl
  · rw [hit_ne (show ¬ x.cut = x.fund by omega), hit_eq (rfl : x.fund = x.fund), hit_ne (show ¬ x.buyin = x.fund by omega), hit_ne (show ¬ x.close = x.fund by omega)]; rfl
  · rw [hit_ne (show ¬ x.cut = x.buyin by omega), hit_ne (show ¬ x.fund = x.buyin by omega), hit_eq (rfl : x.buyin = x.buyin), hit_ne (show ¬ x.close = x.buyin by omega)]; rfl
  · rw [hit_ne (show ¬ x.cut = x.close by omega), hit_ne (show ¬ x.fund = x.close by omega), hit_ne (show ¬ x.buyin = x.close by omega), hit_eq (rfl : x.close = x.close)]; rfl
theorem timr_rise {l : List Cyc} (ok : cycsFrom 0 l = true) {i : Nat} {y z : Timr} (hy : (timersOf l)[i]? = some y) (hz : (timersOf l)[i + 1]? = some z) : y.due < z.due := by
  obtain ⟨j, r, x, rfl, hr, hx, hxy⟩ := tim_at hy
  have c := cyc_at ok hx
  by_cases h3 : r = 3
  · subst h3
    obtain ⟨j', r', x', e, hr', hx', hxz⟩ := tim_at hz
    obtain rfl : j' = j + 1 := by omega
    obtain rfl : r' = 0 := by omega
    have c' := cyc_at ok hx'
    rw [close_succ hx] at c'
    simp [Cyc.timers] at hxy hxz
    subst hxy; subst hxz
    simp only
    omega
  · have e := timersOf_at l j (r + 1) x hx (by omega)
    rw [show 4 * j + (r + 1) = 4 * j + r + 1 by omega, hz] at e
    obtain rfl | rfl | rfl : r = 0 ∨ r = 1 ∨ r = 2 := by omega
    all_goals
      simp [Cyc.timers] at hxy e
      subst hxy; subst e
      simp only
      omega
theorem ticks_due (l : List Cyc) : ticksOf l = (timersOf l).map Timr.due := by
  induction l with
  | nil => rfl
  | cons x l ih =>
    have e : timersOf (x :: l) = x.timers ++ timersOf l := rfl
    have e2 : ticksOf (x :: l) = x.ticks ++ ticksOf l := rfl
    rw [e, e2, ih, List.map_append]
    rfl
theorem nextT_snoc (t x : Int) (l : List Int) : nextT t (l ++ [x]) = match nextT t l with | some v => some v | none => if t < x then some x else none := by
  induction l with
  | nil => rfl
  | cons y l ih =>
    rw [List.cons_append, nextT, nextT]
    by_cases c : t < y
    · rw [if_pos c, if_pos c]
    · rw [if_neg c, if_neg c, ih]
theorem nextT_mem (t v : Int) (l : List Int) (h : nextT t l = some v) : v ∈ l := by
  induction l with
  | nil => cases h
  | cons y l ih =>
    rw [nextT] at h
    by_cases c : t < y
    · rw [if_pos c] at h; cases h; simp
    · rw [if_neg c] at h; exact List.mem_cons_of_mem _ (ih h)

theorem atL_skip {l : List Cyc} (ok : cycsFrom 0 l = true) {t : Int} : ∀ c, c ≤ l.length → closeOf 0 (l.take c) ≤ t → atL l 0 t = atL (l.drop c) c t := by
  intro c
  induction c with
  | zero => intro _ _; rfl
  | succ c ih =>
    intro hc hle
    have hx : l[c]? = some l[c] := List.getElem?_eq_getElem (by omega)
    rw [close_succ hx] at hle
    have a := cyc_at ok hx
    rw [ih (by omega) (by omega), List.drop_eq_getElem_cons (by omega), atL, if_neg (by omega)]
theorem begin_at {l : List Cyc} (ok : cycsFrom 0 l = true) {c : Nat} (hc : c < l.length) : atL l 0 (closeOf 0 (l.take c)) = ((c : Int), 1) := by
  have hx : l[c]? = some l[c] := List.getElem?_eq_getElem hc
  have a := cyc_at ok hx
  rw [atL_skip ok c (by omega) (Int.le_refl _), List.drop_eq_getElem_cons hc, atL, if_pos (by omega), spanI, if_pos (by omega)]
theorem begin_before {l : List Cyc} (ok : cycsFrom 0 l = true) {c : Nat} (hc : c + 1 < l.length) : 0 < closeOf 0 (l.take (c + 1)) ∧ (atL l 0 (closeOf 0 (l.take (c + 1)) - 1)).1 = c := by
  have hx : l[c]? = some l[c] := List.getElem?_eq_getElem (by omega)
  have a := cyc_at ok hx
  have a0 := close_nn ok c
  rw [close_succ hx]
  refine ⟨by omega, ?_⟩
  rw [atL_skip ok c (by omega) (by omega), List.drop_eq_getElem_cons (by omega), atL, if_pos (by omega)]
end Go.Proofs.YtjlaooaicddloaaDoor
