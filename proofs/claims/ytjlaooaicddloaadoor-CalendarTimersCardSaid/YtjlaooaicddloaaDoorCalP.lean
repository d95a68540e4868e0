import Derived.Test.YtjlaooaicddloaaDoorCalB
namespace Go.Proofs.YtjlaooaicddloaaDoor
open Go.RowKit

/-! ### The calendar of a config that may be, in plain Lean -/
theorem cycs_of_ok {cf : Conf} (h : wrongK cf = 8) : cycsFrom 0 cf.cycles = true ∧ 1 ≤ cf.cycles.length ∧ cf.cycles.length ≤ 4 := by
  have h2 : badAt cf 2 = false := by
    unfold wrongK at h
    cases e : badAt cf 2
    · rfl
    · rw [e] at h; revert h; repeat' split
      all_goals simp_all
  rw [badAt, Bool.not_eq_false', cycsOk_eq, Bool.and_eq_true, inB_iff] at h2
  exact ⟨h2.2, by omega, by omega⟩
theorem badFrom_not {a : Int} {x : Cyc} (h : x.badFrom a = false) : a < x.cut ∧ x.cut < x.fund ∧ x.fund < x.buyin ∧ x.buyin < x.close ∧ x.close ≤ 1000 := by
  simp [Cyc.badFrom] at h
  omega
/-- A cycle lies behind those before it. -/
theorem cyc_at {l : List Cyc} (h : cycsFrom 0 l = true) {k : Nat} {x : Cyc} (hx : l[k]? = some x) :
    closeOf 0 (l.take k) < x.cut ∧ x.cut < x.fund ∧ x.fund < x.buyin ∧ x.buyin < x.close ∧ x.close ≤ 1000 := by
  have hd : l.drop k = x :: l.drop (k + 1) := by
    obtain ⟨hk, e⟩ := List.getElem?_eq_some_iff.1 hx
    rw [← e]; exact List.drop_eq_getElem_cons hk
  rw [← List.take_append_drop k l, cycsFrom_pre, hd, cycsFrom, Bool.and_eq_true, Bool.and_eq_true] at h
  exact badFrom_not (by simpa using h.2.1)
theorem close_succ {l : List Cyc} {k : Nat} {x : Cyc} (hx : l[k]? = some x) : closeOf 0 (l.take (k + 1)) = x.close := by
  rw [List.take_add_one, hx]
  exact closeOf_snoc _ _ _
theorem close_nn {l : List Cyc} (h : cycsFrom 0 l = true) (k : Nat) : 0 ≤ closeOf 0 (l.take k) := by
  induction k with
  | zero => simp [closeOf]
  | succ k ih =>
    cases hx : l[k]? with
    | none => rw [List.take_add_one, hx]; simpa using ih
    | some x => rw [close_succ hx]; have := cyc_at h hx; omega

/-- Where a clock that goes tick by tick stands. -/
def Stand (l : List Cyc) (tick : Int) (P : Int × Int) (k c : Nat) (p : Int) : Prop :=
  atL (l.drop c) c tick = P ∧ closeOf 0 (l.take c) ≤ k ∧ ((c < l.length ∧ 1 ≤ p ∧ p ≤ 4 ∧ ∀ x, l[c]? = some x → (k : Int) < x.close ∧ p = spanI x k) ∨ (c = l.length ∧ p = 5))
theorem spanI_bd (x : Cyc) (t : Int) : 1 ≤ spanI x t ∧ spanI x t ≤ 4 := by
  unfold spanI
  repeat' split
  all_goals omega
theorem Stand.start {l : List Cyc} (h : cycsFrom 0 l = true) (hl : 1 ≤ l.length) (tick : Int) : Stand l tick (atL l 0 tick) 0 0 1 := by
  refine ⟨rfl, by simp [closeOf], Or.inl ⟨by omega, by omega, by omega, ?_⟩⟩
  intro x hx
  have := cyc_at h hx
  rw [List.take_zero, closeOf] at this
  exact ⟨by omega, by rw [spanI, if_pos (by omega)]⟩
theorem Stand.cyc {l : List Cyc} {tick : Int} {P : Int × Int} {k c : Nat} {p : Int} (h : Stand l tick P k c p) (hp : p < 5) : c < l.length := by
  rcases h.2.2 with h | h <;> omega
/-- A tick at which nothing ends. -/
theorem Stand.same {l : List Cyc} {tick : Int} {P : Int × Int} {k c : Nat} {p q : Int} {x : Cyc} (h : Stand l tick P k c p) (hp : p < 5) (hx : l[c]? = some x) (hc : (k + 1 : Int) ≠ x.close) (hq : q = spanI x (k + 1)) : Stand l tick P (k + 1) c q := by
  obtain ⟨h1, h2, h3⟩ := h
  rcases h3 with ⟨h3, h4, h5, h6⟩ | h3
  · have b := spanI_bd x (k + 1)
    refine ⟨h1, by omega, Or.inl ⟨h3, by omega, by omega, ?_⟩⟩
    intro y hy
    obtain rfl : x = y := by rw [hx] at hy; exact Option.some.inj hy
    have := (h6 x hx).1
    exact ⟨by omega, by rw [hq]; rfl⟩
  · omega
/-- A cycle's last tick. -/
theorem Stand.next {l : List Cyc} {tick : Int} {P : Int × Int} {k c : Nat} {p q : Int} {x : Cyc} (ok : cycsFrom 0 l = true) (h : Stand l tick P k c p) (hx : l[c]? = some x) (hc : (k + 1 : Int) = x.close) (ht : (k + 1 : Int) ≤ tick)
    (hq : q = if c + 1 = l.length then 5 else 1) : Stand l tick P (k + 1) (c + 1) q := by
  obtain ⟨h1, h2, _⟩ := h
  obtain ⟨hk, e⟩ := List.getElem?_eq_some_iff.1 hx
  have hd : l.drop c = x :: l.drop (c + 1) := by rw [← e]; exact List.drop_eq_getElem_cons hk
  refine ⟨by rw [← h1, hd, atL, if_neg (by omega)], by rw [close_succ hx]; omega, ?_⟩
  by_cases hl : c + 1 = l.length
  · rw [if_pos hl] at hq
    exact Or.inr ⟨hl, hq⟩
  · rw [if_neg hl] at hq
    subst hq
    refine Or.inl ⟨by omega, by omega, by omega, ?_⟩
    intro y hy
    have := cyc_at ok hy
    rw [close_succ hx] at this
    exact ⟨by omega, by rw [spanI, if_pos (by omega)]⟩
theorem Stand.done {l : List Cyc} {P : Int × Int} {k c : Nat} {p : Int} (h : Stand l k P k c p) : P = ((c : Int), p) := by
  obtain ⟨h1, h2, h3⟩ := h
  rcases h3 with ⟨h3, _, _, h6⟩ | ⟨h3, h4⟩
  · have hx : l[c]? = some l[c] := List.getElem?_eq_getElem h3
    rw [← h1, List.drop_eq_getElem_cons h3, atL, if_pos (h6 _ hx).1, (h6 _ hx).2]
  · rw [← h1, h3, List.drop_length, atL, h4]
theorem Stand.over {l : List Cyc} {tick : Int} {P : Int × Int} {k c : Nat} {p : Int} (h : Stand l tick P k c p) (hp : ¬ p < 5) : P = ((c : Int), p) := by
  obtain ⟨h1, h2, h3⟩ := h
  rcases h3 with h3 | ⟨h3, h4⟩
  · omega
  · rw [← h1, h3, List.drop_length, atL, h4]
theorem Stand.le {l : List Cyc} {tick : Int} {P : Int × Int} {k c : Nat} {p : Int} {x : Cyc} (ok : cycsFrom 0 l = true) (h : Stand l tick P k c p) (hp : p < 5) (hx : l[c]? = some x) : (k : Int) < x.close ∧ x.close ≤ 1000 ∧ p = spanI x k := by
  have := cyc_at ok hx
  rcases h.2.2 with ⟨_, _, _, h6⟩ | h3
  · exact ⟨(h6 _ hx).1, by omega, (h6 _ hx).2⟩
  · omega
end Go.Proofs.YtjlaooaicddloaaDoor
