import Derived.Test.YtndhhnfhookeaaaTimD
namespace Go.Proofs.Ytndhhnfhookeaaa

/-! ### What calls of a wheel do to its timers in their order: the plain law -/
theorem eqT_comm (x y : Tim) : eqT x y = eqT y x := by
  cases h : eqT x y with
  | true => rw [eqT_iff.1 h, eqT_refl]
  | false =>
    cases h2 : eqT y x with
    | false => rfl
    | true => rw [eqT_iff.1 h2, eqT_refl] at h; cases h
theorem hasT_iff {l : List Tim} {t : Tim} : hasT l t = true ↔ t ∈ l := by
  simp only [hasT, List.any_eq_true]
  constructor
  · rintro ⟨x, hx, h⟩; rw [eqT_iff.1 h]; exact hx
  · intro h; exact ⟨t, h, eqT_refl t⟩
theorem hasT_perm {l m : List Tim} (h : l.Perm m) (t : Tim) : hasT l t = hasT m t := by
  rw [Bool.eq_iff_iff, hasT_iff, hasT_iff, h.mem_iff]
theorem hasT_sort (l : List Tim) (t : Tim) : hasT (sortT l) t = hasT l t := hasT_perm (sortT_perm l) t
theorem sortT_filter (l : List Tim) (p : Tim → Bool) : sortT (l.filter p) = (sortT l).filter p :=
  (sortT_only ((sortT_perm l).filter p) ((sortT_sorted l).filter p)).symm
theorem tLe_due {a b : Tim} (h : tLe a b) : a.due ≤ b.due := by
  have h1 : tB b a = false := by
    rw [tB_key]; simp
    have := cmpL_swap a.key b.key
    unfold tLe at h; omega
  unfold tB at h1
  by_cases e : b.due = a.due
  · omega
  · rw [if_pos e] at h1; simp at h1; exact h1
def dueP (now : Int) (f : Tim) : Bool := decide (f.due ≤ now)
theorem due_split (now : Int) : ∀ {m : List Tim}, m.Pairwise tLe → m.takeWhile (dueP now) = m.filter (dueP now) ∧ m.dropWhile (dueP now) = m.filter fun f => !dueP now f
  | [], _ => ⟨rfl, rfl⟩
  | x :: l, h => by
    obtain ⟨hx, hl⟩ := List.pairwise_cons.1 h
    obtain ⟨h1, h2⟩ := due_split now hl
    cases hd : dueP now x with
    | true => simp [hd, h1, h2]
    | false =>
      have hf : ∀ y ∈ l, dueP now y = false := fun y hy => by
        have := tLe_due (hx y hy)
        simp [dueP] at hd ⊢; omega
      have e1 : l.filter (dueP now) = [] := List.filter_eq_nil_iff.2 fun y hy => by rw [hf y hy]; simp
      have e2 : (l.filter fun f => !dueP now f) = l := List.filter_eq_self.2 fun y hy => by rw [hf y hy]; rfl
      simp [hd, e1, e2]
/-- How many, from the front on, are due. -/
def dueN (now : Int) (m : List Tim) : Nat := (m.takeWhile (dueP now)).length
theorem dueN_le (now : Int) : ∀ m : List Tim, dueN now m ≤ m.length
  | [] => Nat.le_refl _
  | x :: l => by
    unfold dueN; rw [List.takeWhile_cons]; split
    · exact Nat.succ_le_succ (dueN_le now l)
    · exact Nat.zero_le _
theorem dueN_take (now : Int) : ∀ m : List Tim, m.take (dueN now m) = m.takeWhile (dueP now) ∧ m.drop (dueN now m) = m.dropWhile (dueP now)
  | [] => ⟨rfl, rfl⟩
  | x :: l => by
    obtain ⟨h1, h2⟩ := dueN_take now l
    unfold dueN at h1 h2 ⊢
    rw [List.takeWhile_cons, List.dropWhile_cons]; split
    · exact ⟨by simp [h1], by simp [h2]⟩
    · exact ⟨rfl, rfl⟩
theorem fire_law (now : Int) (l : List Tim) : sortT (l.filter (dueP now)) = (sortT l).take (dueN now (sortT l)) ∧ sortT (l.filter fun f => !dueP now f) = (sortT l).drop (dueN now (sortT l)) := by
  rw [sortT_filter, sortT_filter, (dueN_take now (sortT l)).1, (dueN_take now (sortT l)).2, (due_split now (sortT_sorted l)).1, (due_split now (sortT_sorted l)).2]
  exact ⟨rfl, rfl⟩
/-- No timer twice. -/
def Once (l : List Tim) : Prop := l.Pairwise fun a b => a ≠ b
theorem once_perm {l m : List Tim} (h : l.Perm m) (hl : Once l) : Once m := h.pairwise hl fun e => e.symm
theorem once_filter {l : List Tim} (h : Once l) (p : Tim → Bool) : Once (l.filter p) := List.Pairwise.filter p h
theorem once_snoc {l : List Tim} {t : Tim} (h : Once l) (ht : hasT l t = false) : Once (l ++ [t]) := by
  refine List.pairwise_append.2 ⟨h, List.pairwise_singleton _ _, fun a ha b hb e => ?_⟩
  rw [List.mem_singleton] at hb
  rw [e, hb] at ha
  rw [hasT_iff.2 ha] at ht; cases ht
theorem first_law {l r : List Tim} {h : Tim} (ho : Once l) (hs : sortT l = h :: r) : sortT (l.filter fun f => !eqT f h) = r := by
  have ho2 := once_perm (sortT_perm l).symm ho
  rw [hs] at ho2
  rw [sortT_filter, hs, List.filter_cons, eqT_refl, if_neg (by simp)]
  refine List.filter_eq_self.2 fun y hy => ?_
  have hne := (List.pairwise_cons.1 ho2).1 y hy
  cases e : eqT y h with
  | false => rfl
  | true => exact absurd (eqT_iff.1 e).symm hne
theorem cancel_law (l : List Tim) (t : Tim) : (l.filter fun f => eqT f t).length = 0 ↔ hasT l t = false := by
  rw [List.length_eq_zero_iff, List.filter_eq_nil_iff]
  constructor
  · intro h
    cases e : hasT l t with
    | false => rfl
    | true => exact absurd (eqT_refl t) (h t (hasT_iff.1 e))
  · intro h y hy e
    rw [eqT_iff.1 e] at hy
    rw [hasT_iff.2 hy] at h; cases h
theorem part_len (p : Tim → Bool) : ∀ l : List Tim, (l.filter p).length + (l.filter fun f => !p f).length = l.length
  | [] => rfl
  | x :: l => by
    have := part_len p l
    rw [List.filter_cons, List.filter_cons]
    cases p x <;> simp <;> omega

/-! ### Timers set one behind the other, and turned -/
def setT (l : List Tim) (t : Tim) : List Tim := if hasT l t then l else l ++ [t]
theorem setT_once {l : List Tim} {t : Tim} (h : Once l) : Once (setT l t) := by
  unfold setT; split
  · exact h
  · rename_i ht; exact once_snoc h (by simpa using ht)
theorem setT_mem {l : List Tim} {t x : Tim} : x ∈ setT l t ↔ x ∈ l ∨ x = t := by
  unfold setT; split
  · rename_i ht
    constructor
    · exact .inl
    · rintro (h | rfl)
      · exact h
      · exact hasT_iff.1 ht
  · simp
def setAll (l : List Tim) : List Tim := l.foldl setT []
theorem setAll_aux : ∀ (l acc : List Tim), (Once acc → Once (l.foldl setT acc)) ∧ (∀ x, x ∈ l.foldl setT acc ↔ x ∈ acc ∨ x ∈ l) ∧ (l.foldl setT acc).length ≤ acc.length + l.length
  | [], acc => ⟨id, by simp, by simp⟩
  | t :: l, acc => by
    obtain ⟨h1, h2, h3⟩ := setAll_aux l (setT acc t)
    rw [List.foldl_cons]
    refine ⟨fun h => h1 (setT_once h), fun x => ?_, ?_⟩
    · rw [h2, setT_mem, List.mem_cons, or_assoc]
    · have : (setT acc t).length ≤ acc.length + 1 := by unfold setT; split <;> simp
      rw [List.length_cons]; omega
theorem setAll_once (l : List Tim) : Once (setAll l) := (setAll_aux l []).1 List.Pairwise.nil
theorem setAll_mem (l : List Tim) (x : Tim) : x ∈ setAll l ↔ x ∈ l := by rw [setAll, (setAll_aux l []).2.1]; simp
theorem setAll_len (l : List Tim) : (setAll l).length ≤ l.length := by
  have := (setAll_aux l []).2.2
  rw [List.length_nil, Nat.zero_add] at this
  exact this
theorem setAll_snoc (l : List Tim) (t : Tim) : setAll (l ++ [t]) = setT (setAll l) t := by simp [setAll]
theorem once_same : ∀ {l m : List Tim}, l.Pairwise tLe → m.Pairwise tLe → Once l → Once m → (∀ x, x ∈ l ↔ x ∈ m) → l = m
  | [], [], _, _, _, _, _ => rfl
  | [], y :: m, _, _, _, _, h => by have := (h y).2 (List.mem_cons_self ..); cases this
  | x :: l, [], _, _, _, _, h => by have := (h x).1 (List.mem_cons_self ..); cases this
  | x :: l, y :: m, h1, h2, o1, o2, h => by
    obtain ⟨a1, b1⟩ := List.pairwise_cons.1 h1
    obtain ⟨a2, b2⟩ := List.pairwise_cons.1 h2
    obtain ⟨c1, d1⟩ := List.pairwise_cons.1 o1
    obtain ⟨c2, d2⟩ := List.pairwise_cons.1 o2
    have hxy : x = y := by
      rcases List.mem_cons.1 ((h x).1 (List.mem_cons_self ..)) with e | e
      · exact e
      · rcases List.mem_cons.1 ((h y).2 (List.mem_cons_self ..)) with e2 | e2
        · exact e2.symm
        · exact tLe_anti (a1 y e2) (a2 x e)
    subst hxy
    congr 1
    refine once_same b1 b2 d1 d2 fun z => ?_
    have hz := h z
    rw [List.mem_cons, List.mem_cons] at hz
    constructor
    · intro hm
      rcases hz.1 (.inr hm) with e | e
      · exact absurd e.symm (c1 z hm)
      · exact e
    · intro hm
      rcases hz.2 (.inr hm) with e | e
      · exact absurd e.symm (c2 z hm)
      · exact e
/-- In whatever order timers are set, they stand in one order. -/
theorem sortT_set {l m : List Tim} (h : ∀ x, x ∈ l ↔ x ∈ m) : sortT (setAll l) = sortT (setAll m) := by
  refine once_same (sortT_sorted _) (sortT_sorted _) (once_perm (sortT_perm _).symm (setAll_once l)) (once_perm (sortT_perm _).symm (setAll_once m)) fun x => ?_
  rw [(sortT_perm _).mem_iff, (sortT_perm _).mem_iff, setAll_mem, setAll_mem, h]
theorem turn_mem (l : List Tim) (k : Nat) (x : Tim) : x ∈ l.drop k ++ l.take k ↔ x ∈ l := by
  rw [List.mem_append, or_comm, ← List.mem_append, List.take_append_drop]
/-- The one at place i of the turned list. -/
theorem turn_get (l : List Tim) (k i : Nat) (hk : k ≤ l.length) (hi : i < l.length) : (l.drop k ++ l.take k)[i]? = l[(i + k) % l.length]? := by
  by_cases h : i < l.length - k
  · rw [List.getElem?_append_left (by simp; omega), List.getElem?_drop, Nat.mod_eq_of_lt (by omega), Nat.add_comm]
  · have e : (i + k) % l.length = i + k - l.length := by
      rw [Nat.mod_eq_sub_mod (by omega), Nat.mod_eq_of_lt (by omega)]
    rw [List.getElem?_append_right (by simp; omega), List.length_drop, List.getElem?_take, if_pos (by omega), e]
    congr 1; omega
theorem turn_len (l : List Tim) (k : Nat) (hk : k ≤ l.length) : (l.drop k ++ l.take k).length = l.length := by simp; omega
end Go.Proofs.Ytndhhnfhookeaaa
