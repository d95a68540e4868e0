import Derived.Test.YtndhhnfhookeaaaRkR
namespace Go.Proofs.Ytndhhnfhookeaaa

/-! ### Timers, and their order: the plain law -/
structure Tim where
  due : Int
  kind : Int
  mem : Int
  lev : Int

def Tim.key (t : Tim) : List Int := [t.due, t.kind, t.mem, t.lev]
theorem Tim.key_inj {a b : Tim} (h : a.key = b.key) : a = b := by
  obtain ⟨a1, a2, a3, a4⟩ := a
  obtain ⟨b1, b2, b3, b4⟩ := b
  simp [Tim.key] at h
  simp [h]

/-- Does the one timer stand ahead of the other? -/
def tB (a b : Tim) : Bool :=
  if a.due ≠ b.due then decide (a.due < b.due) else if a.kind ≠ b.kind then decide (a.kind < b.kind) else if a.mem ≠ b.mem then decide (a.mem < b.mem) else decide (a.lev < b.lev)
theorem tB_key (a b : Tim) : tB a b = decide (cmpL a.key b.key < 0) := by
  unfold tB
  simp only [Tim.key, cmpL]
  repeat' split
  all_goals simp
  all_goals omega
def tLe (a b : Tim) : Prop := cmpL a.key b.key ≤ 0
theorem tLe_of {a b : Tim} (h : tB a b = true) : tLe a b := by rw [tB_key] at h; simp at h; unfold tLe; omega
theorem tLe_not {a b : Tim} (h : tB a b = false) : tLe b a := by
  rw [tB_key] at h; simp at h
  have := cmpL_swap a.key b.key
  unfold tLe; omega
theorem tLe_trans {a b c : Tim} (h1 : tLe a b) (h2 : tLe b c) : tLe a c := cmpL_le_tr h1 h2
theorem tLe_anti {a b : Tim} (h1 : tLe a b) (h2 : tLe b a) : a = b := by
  have := cmpL_swap a.key b.key
  unfold tLe at h1 h2
  exact Tim.key_inj (cmpL_eq (by omega))
theorem tB_le_tr {a b c : Tim} (h1 : tB a b = true) (h2 : tLe b c) : tB a c = true := by
  rw [tB_key] at h1 ⊢
  simp at h1 ⊢
  unfold tLe at h2
  by_cases e : cmpL b.key c.key = 0
  · rw [← cmpL_eq e]; exact h1
  · exact cmpL_tr h1 (by omega)

/-- A list in its order, with one more. -/
def putT : List Tim → Tim → List Tim
  | [], t => [t]
  | x :: l, t => if tB t x then t :: x :: l else x :: putT l t

theorem putT_none : ∀ {l : List Tim} {t : Tim}, l.any (tB t) = false → putT l t = l ++ [t]
  | [], t, _ => rfl
  | x :: l, t, h => by
    simp only [List.any_cons, Bool.or_eq_false_iff] at h
    rw [putT, if_neg (by rw [h.1]; simp), putT_none h.2]; rfl
theorem putT_here : ∀ {l : List Tim} {t f : Tim}, l.any (tB t) = false → tB t f = true → putT (l ++ [f]) t = l ++ [t, f]
  | [], t, f, _, hf => by simp [putT, hf]
  | x :: l, t, f, h, hf => by
    simp only [List.any_cons, Bool.or_eq_false_iff] at h
    rw [List.cons_append, putT, if_neg (by rw [h.1]; simp), putT_here h.2 hf]; rfl
theorem putT_past : ∀ {l : List Tim} {t f : Tim}, l.any (tB t) = true → putT (l ++ [f]) t = putT l t ++ [f]
  | [], t, f, h => by simp at h
  | x :: l, t, f, h => by
    rw [List.cons_append, putT, putT]
    by_cases hx : tB t x = true
    · rw [if_pos hx, if_pos hx]; rfl
    · rw [if_neg hx, if_neg hx]
      simp only [List.any_cons, Bool.or_eq_true] at h
      rw [putT_past (h.resolve_left hx)]; rfl
theorem putT_len : ∀ (l : List Tim) (t : Tim), (putT l t).length = l.length + 1
  | [], t => rfl
  | x :: l, t => by
    rw [putT]; split
    · rfl
    · simp [putT_len l t]
theorem putT_perm : ∀ (l : List Tim) (t : Tim), (putT l t).Perm (t :: l)
  | [], t => List.Perm.refl _
  | x :: l, t => by
    rw [putT]; split
    · exact List.Perm.refl _
    · exact ((putT_perm l t).cons x).trans (List.Perm.swap t x l)
theorem putT_sorted : ∀ {l : List Tim} {t : Tim}, l.Pairwise tLe → (putT l t).Pairwise tLe
  | [], t, _ => by simp [putT]
  | x :: l, t, h => by
    have hx := List.pairwise_cons.1 h
    rw [putT]; split
    · rename_i ht
      refine List.pairwise_cons.2 ⟨fun y hy => ?_, h⟩
      rcases List.mem_cons.1 hy with rfl | hy
      · exact tLe_of ht
      · exact tLe_trans (tLe_of ht) (hx.1 y hy)
    · rename_i ht
      refine List.pairwise_cons.2 ⟨fun y hy => ?_, putT_sorted hx.2⟩
      rcases List.mem_cons.1 ((putT_perm l t).mem_iff.1 hy) with rfl | hy
      · exact tLe_not (by simpa using ht)
      · exact hx.1 y hy

theorem tSorted_only {l m : List Tim} (hp : l.Perm m) (h1 : l.Pairwise tLe) (h2 : m.Pairwise tLe) : l = m :=
  List.Perm.eq_of_pairwise (fun _ _ _ _ => tLe_anti) h1 h2 hp

/-- Timers in their order. -/
def sortT (l : List Tim) : List Tim := l.foldl putT []
theorem foldl_putT : ∀ (l acc : List Tim), (l.foldl putT acc).Perm (acc ++ l) ∧ (acc.Pairwise tLe → (l.foldl putT acc).Pairwise tLe)
  | [], acc => ⟨by simp, fun h => h⟩
  | t :: l, acc => by
    obtain ⟨h1, h2⟩ := foldl_putT l (putT acc t)
    refine ⟨?_, fun h => h2 (putT_sorted h)⟩
    rw [List.foldl_cons]
    refine h1.trans ?_
    refine ((putT_perm acc t).append_right l).trans ?_
    exact List.perm_middle.symm
theorem sortT_perm (l : List Tim) : (sortT l).Perm l := (foldl_putT l []).1
theorem sortT_sorted (l : List Tim) : (sortT l).Pairwise tLe := (foldl_putT l []).2 List.Pairwise.nil
theorem sortT_len (l : List Tim) : (sortT l).length = l.length := (sortT_perm l).length_eq
theorem sortT_only {l m : List Tim} (hp : m.Perm l) (h : m.Pairwise tLe) : m = sortT l := tSorted_only (hp.trans (sortT_perm l).symm) h (sortT_sorted l)
theorem sortT_of_perm {l m : List Tim} (hp : l.Perm m) : sortT l = sortT m := sortT_only ((sortT_perm l).trans hp) (sortT_sorted l)
theorem sortT_snoc (l : List Tim) (t : Tim) : sortT (l ++ [t]) = putT (sortT l) t := by simp [sortT]

/-- What the order of the keys tells. -/
theorem order_sortT (l : List Tim) (d : Tim) : (ordK (l.map Tim.key)).map (fun i => l.getD i d) = sortT l := by
  refine sortT_only ?_ ?_
  · unfold ordK
    refine ((ordB_perm _ _).map _).trans ?_
    have : (List.range (l.map Tim.key).length).map (fun i => l.getD i d) = l := by
      apply List.ext_getElem?
      intro i
      by_cases hi : i < l.length
      · simp [hi, List.getD]
      · rw [List.getElem?_eq_none (by simp; omega), List.getElem?_eq_none (by omega)]
    rw [this]
  · rw [List.pairwise_iff_getElem]
    intro i j hi hj hij
    have hi' : i < (ordK (l.map Tim.key)).length := by simpa using hi
    have hj' : j < (ordK (l.map Tim.key)).length := by simpa using hj
    have h := ordK_keys (List.getElem?_eq_getElem hi') (List.getElem?_eq_getElem hj') hij
    have hk : ∀ x, x < l.length → (l.map Tim.key).getD x [] = (l.getD x d).key := fun x hx => by
      simp [List.getD, List.getElem?_eq_getElem hx]
    have m1 := ordK_mem.1 (List.getElem_mem hi')
    have m2 := ordK_mem.1 (List.getElem_mem hj')
    rw [List.length_map] at m1 m2
    rw [hk _ m1, hk _ m2] at h
    simpa [tLe] using h
end Go.Proofs.Ytndhhnfhookeaaa
