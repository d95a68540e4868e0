import Derived.Test.YtjlaooaicddloaaDoorCalF
namespace Go.Proofs.YtjlaooaicddloaaDoor
open Go.RowKit

/-! ### What is due at a tick, in plain Lean -/
def hit (t : Int) (nk : Int × Int) (v kd : Int) : Int × Int := if v = t then (nk.1 + 1, kd) else nk
def tickK (x : Cyc) : Nat → Int
  | 0 => x.cut
  | 1 => x.fund
  | 2 => x.buyin
  | _ => x.close
def kindK : Nat → Int
  | 0 => 1
  | 1 => 3
  | 2 => 4
  | _ => 5
/-- What a cycle's first ticks add. -/
def dueK (t : Int) (x : Cyc) (nk : Int × Int) : Nat → Int × Int
  | 0 => nk
  | k + 1 => hit t (dueK t x nk k) (tickK x k) (kindK k)
def dueX (t : Int) (nk : Int × Int) (x : Cyc) : Int × Int := dueK t x nk 4
def dueL (t : Int) (l : List Cyc) : Int × Int := l.foldl (dueX t) (0, 0)
def one (t v : Int) : Int := if v = t then 1 else 0
def cntX (t : Int) (x : Cyc) : Int := one t x.cut + one t x.fund + one t x.buyin + one t x.close
def cntL (t : Int) : List Cyc → Int
  | [] => 0
  | x :: l => cntX t x + cntL t l
theorem hit_one (t : Int) (nk : Int × Int) (v kd : Int) : (hit t nk v kd).1 = nk.1 + one t v := by
  unfold hit one
  split
  · rfl
  · omega
theorem dueX_cnt (t : Int) (nk : Int × Int) (x : Cyc) : (dueX t nk x).1 = nk.1 + cntX t x := by
  simp only [dueX, dueK, hit_one, tickK, cntX]
  omega
theorem fold_cnt (t : Int) (l : List Cyc) : ∀ nk, (l.foldl (dueX t) nk).1 = nk.1 + cntL t l := by
  induction l with
  | nil => intro nk; simp [cntL]
  | cons x l ih => intro nk; rw [List.foldl_cons, ih, dueX_cnt, cntL]; omega
theorem dueL_cnt (t : Int) (l : List Cyc) : (dueL t l).1 = cntL t l := by rw [dueL, fold_cnt]; simp
theorem one_bd (t v : Int) : 0 ≤ one t v ∧ one t v ≤ 1 := by unfold one; split <;> omega
theorem one_eq {t v : Int} (h : v = t) : one t v = 1 := if_pos h
theorem one_ne {t v : Int} (h : ¬ v = t) : one t v = 0 := if_neg h
theorem cntX_bd (t : Int) (x : Cyc) : 0 ≤ cntX t x ∧ cntX t x ≤ 4 := by
  have a := one_bd t x.cut; have b := one_bd t x.fund; have c := one_bd t x.buyin; have d := one_bd t x.close
  unfold cntX; omega
theorem cntL_bd (t : Int) (l : List Cyc) : 0 ≤ cntL t l ∧ cntL t l ≤ 4 * l.length := by
  induction l with
  | nil => simp [cntL]
  | cons x l ih => have := cntX_bd t x; rw [cntL, List.length_cons]; omega
theorem cntX_pos {t : Int} {x : Cyc} : 0 < cntX t x ↔ (x.cut = t ∨ x.fund = t ∨ x.buyin = t ∨ x.close = t) := by
  have a := one_bd t x.cut; have b := one_bd t x.fund; have c := one_bd t x.buyin; have d := one_bd t x.close
  constructor
  · intro h
    by_cases h1 : x.cut = t
    · exact Or.inl h1
    by_cases h2 : x.fund = t
    · exact Or.inr (Or.inl h2)
    by_cases h3 : x.buyin = t
    · exact Or.inr (Or.inr (Or.inl h3))
    by_cases h4 : x.close = t
    · exact Or.inr (Or.inr (Or.inr h4))
    rw [cntX, one_ne h1, one_ne h2, one_ne h3, one_ne h4] at h
    omega
  · intro h
    rw [cntX]
    rcases h with h | h | h | h
    all_goals
      have := one_eq h
      omega
theorem cntL_pos {t : Int} {l : List Cyc} : 0 < cntL t l ↔ ∃ (j : Nat) (y : Cyc), l[j]? = some y ∧ 0 < cntX t y := by
  induction l with
  | nil => simp [cntL]
  | cons x l ih =>
    have b1 := cntX_bd t x
    have b2 := cntL_bd t l
    rw [cntL]
    constructor
    · intro h
      by_cases hx : 0 < cntX t x
      · exact ⟨0, x, rfl, hx⟩
      · obtain ⟨j, y, hy, hc⟩ := ih.1 (by omega)
        exact ⟨j + 1, y, by simpa using hy, hc⟩
    · rintro ⟨j, y, hy, hc⟩
      cases j with
      | zero =>
        simp at hy
        subst hy
        omega
      | succ j =>
        have := ih.2 ⟨j, y, by simpa using hy, hc⟩
        omega
theorem close_le {l : List Cyc} (h : cycsFrom 0 l = true) {i j : Nat} (hij : i ≤ j) : closeOf 0 (l.take i) ≤ closeOf 0 (l.take j) := by
  induction j with
  | zero => obtain rfl : i = 0 := by omega
            exact Int.le_refl _
  | succ j ih =>
    by_cases e : i = j + 1
    · subst e; exact Int.le_refl _
    · have := ih (by omega)
      cases hx : l[j]? with
      | none => rw [List.take_add_one (i := j), hx]; simpa using this
      | some x => rw [close_succ hx]; have := cyc_at h hx; omega
/-- A clock stands somewhere at each tick. -/
theorem stands {l : List Cyc} (h : cycsFrom 0 l = true) (hl : 1 ≤ l.length) (k : Nat) : ∃ (c : Nat) (p : Int), ∀ tick : Int, (k : Int) ≤ tick → Stand l tick (atL l 0 tick) k c p := by
  induction k with
  | zero => exact ⟨0, 1, fun tick _ => Stand.start h hl tick⟩
  | succ k ih =>
    obtain ⟨c, p, hS⟩ := ih
    by_cases hp : p < 5
    · have hc := (hS k (by omega)).cyc hp
      have hx : l[c]? = some l[c] := List.getElem?_eq_getElem hc
      by_cases e : (k + 1 : Int) = l[c].close
      · exact ⟨c + 1, _, fun tick ht => (hS tick (by omega)).next h hx e (by omega) rfl⟩
      · exact ⟨c, _, fun tick ht => (hS tick (by omega)).same hp hx e rfl⟩
    · refine ⟨c, p, fun tick ht => ?_⟩
      obtain ⟨h1, h2, h3⟩ := hS tick (by omega)
      exact ⟨h1, by omega, by rcases h3 with h3 | h3; (· omega); exact Or.inr h3⟩
/-- From one tick to the next. -/
theorem rises_nn {l : List Cyc} (h : cycsFrom 0 l = true) (hl : 1 ≤ l.length) (k : Nat) :
    ∃ (a b : Nat) (s u : Int), atL l 0 k = ((a : Int), s) ∧ atL l 0 ((k : Int) + 1) = ((b : Int), u) ∧ a ≤ l.length ∧ b ≤ l.length ∧
      ((a = b ∧ s ≤ u ∧ (s ≠ u ↔ 0 < cntL ((k : Int) + 1) l)) ∨ (b = a + 1 ∧ 0 < cntL ((k : Int) + 1) l)) := by
  obtain ⟨c, p, hS⟩ := stands h hl k
  have e1 := (hS k (by omega)).done
  have S2 := hS ((k + 1 : Nat) : Int) (by omega)
  by_cases hp : p < 5
  · have hc := S2.cyc hp
    have hx : l[c]? = some l[c] := List.getElem?_eq_getElem hc
    have hle := S2.le h hp hx
    have hcy := cyc_at h hx
    by_cases e : (k + 1 : Int) = l[c].close
    · have e2 := (S2.next h hx e (by omega) rfl).done
      refine ⟨c, c + 1, p, _, e1, e2, by omega, by omega, Or.inr ⟨rfl, ?_⟩⟩
      exact cntL_pos.2 ⟨c, _, hx, cntX_pos.2 (by omega)⟩
    · have e2 := (S2.same hp hx e rfl).done
      refine ⟨c, c, p, _, e1, e2, by omega, by omega, Or.inl ⟨rfl, ?_, ?_⟩⟩
      · rw [hle.2.2]
        unfold spanI
        repeat' split
        all_goals omega
      · rw [hle.2.2]
        constructor
        · intro hne
          refine cntL_pos.2 ⟨c, _, hx, cntX_pos.2 ?_⟩
          unfold spanI at hne
          revert hne
          repeat' split
          all_goals omega
        · intro hpos
          obtain ⟨j, y, hy, hcy2⟩ := cntL_pos.1 hpos
          have hty := cntX_pos.1 hcy2
          have hyy := cyc_at h hy
          have hS3 := S2.2.1
          by_cases hj : j = c
          · subst hj
            obtain rfl : l[j] = y := by rw [hx] at hy; exact Option.some.inj hy
            unfold spanI
            repeat' split
            all_goals omega
          · exfalso
            by_cases hjc : j < c
            · have := close_le h (show j + 1 ≤ c by omega)
              rw [close_succ hy] at this
              omega
            · have := close_le h (show c + 1 ≤ j by omega)
              rw [close_succ hx] at this
              omega
  · have e2 := S2.over hp
    refine ⟨c, c, p, p, e1, e2, ?_, ?_, Or.inl ⟨rfl, Int.le_refl _, ?_⟩⟩
    · rcases S2.2.2 with h3 | h3 <;> omega
    · rcases S2.2.2 with h3 | h3 <;> omega
    · constructor
      · intro hne; exact absurd rfl hne
      · intro hpos
        obtain ⟨j, y, hy, hcy2⟩ := cntL_pos.1 hpos
        have hty := cntX_pos.1 hcy2
        have hyy := cyc_at h hy
        have hS3 := S2.2.1
        obtain ⟨hjl, _⟩ := List.getElem?_eq_some_iff.1 hy
        have hcl : c = l.length := by rcases S2.2.2 with h3 | h3 <;> omega
        have := close_le h (show j + 1 ≤ c by omega)
        rw [close_succ hy] at this
        omega
end Go.Proofs.YtjlaooaicddloaaDoor
