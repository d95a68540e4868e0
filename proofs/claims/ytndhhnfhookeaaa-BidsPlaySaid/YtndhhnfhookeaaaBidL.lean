import Derived.Test.YtndhhnfhookeaaaBidK
namespace Go.Proofs.Ytndhhnfhookeaaa

/-! ### The order of bids: the plain law -/
def putB : List BidV → BidV → List BidV
  | [], f => [f]
  | x :: l, f => if f.price < x.price then f :: x :: l else x :: putB l f
theorem putB_at : ∀ {out : List BidV} {f : BidV} {k : Nat}, (∀ x ∈ out.take k, ¬ f.price < x.price) → (∀ x ∈ out.drop k, f.price < x.price) → putB out f = out.take k ++ f :: out.drop k
  | [], f, k, _, _ => by simp [putB]
  | x :: l, f, 0, _, h => by
    have hx := h x (by simp)
    simp [putB, hx]
  | x :: l, f, k + 1, h1, h2 => by
    have hx := h1 x (by simp)
    rw [putB, if_neg hx, putB_at (out := l) (k := k) (fun y hy => h1 y (by simp [hy])) (fun y hy => h2 y (by simpa using hy))]
    simp
theorem putB_perm : ∀ (l : List BidV) (f : BidV), (putB l f).Perm (f :: l)
  | [], f => List.Perm.refl _
  | x :: l, f => by
    rw [putB]; split
    · exact List.Perm.refl _
    · exact ((putB_perm l f).cons x).trans (List.Perm.swap f x l)
def bLe (a b : BidV) : Prop := a.price < b.price ∨ (a.price = b.price ∧ a.seq ≤ b.seq)
theorem bLe_key (a b : BidV) : cmpL a.key b.key ≤ 0 ↔ bLe a b := by
  unfold bLe
  simp only [BidV.key, cmpL]
  repeat' split
  all_goals simp
  all_goals omega
theorem putB_sorted : ∀ {l : List BidV} {f : BidV}, l.Pairwise bLe → (∀ x ∈ l, x.seq < f.seq) → (putB l f).Pairwise bLe
  | [], f, _, _ => List.pairwise_singleton _ _
  | x :: l, f, h, hs => by
    obtain ⟨hx, hl⟩ := List.pairwise_cons.1 h
    rw [putB]; split
    · rename_i hlt
      refine List.pairwise_cons.2 ⟨fun y hy => ?_, h⟩
      rcases List.mem_cons.1 hy with rfl | hy
      · exact .inl hlt
      · have := hx y hy
        unfold bLe at this
        exact .inl (by omega)
    · rename_i hlt
      refine List.pairwise_cons.2 ⟨fun y hy => ?_, putB_sorted hl fun z hz => hs z (by simp [hz])⟩
      rcases List.mem_cons.1 ((putB_perm l f).mem_iff.1 hy) with rfl | hy
      · have := hs x (by simp)
        unfold bLe; omega
      · exact hx y hy
/-- The numbers rise. -/
def RiseB (l : List BidV) : Prop := l.Pairwise fun a b => a.seq < b.seq
theorem riseB_inj {l : List BidV} (h : RiseB l) {a b : BidV} (ha : a ∈ l) (hb : b ∈ l) (e : a.seq = b.seq) : a = b := by
  obtain ⟨i, hi, rfl⟩ := List.getElem_of_mem ha
  obtain ⟨j, hj, rfl⟩ := List.getElem_of_mem hb
  have h' := List.pairwise_iff_getElem.1 h
  rcases Nat.lt_trichotomy i j with hlt | rfl | hlt
  · have := h' i j hi hj hlt; omega
  · rfl
  · have := h' j i hj hi hlt; omega
theorem foldB : ∀ (l acc : List BidV), RiseB (acc ++ l) → acc.Pairwise bLe → ∀ out : List BidV, out.Perm acc → out.Pairwise bLe → (l.foldl putB out).Perm (acc ++ l) ∧ (l.foldl putB out).Pairwise bLe
  | [], acc, _, _, out, hp, ho => by simpa using ⟨hp, ho⟩
  | f :: l, acc, h, ha, out, hp, ho => by
    have hr : ∀ x ∈ acc, x.seq < f.seq := fun x hx => (List.pairwise_append.1 h).2.2 x hx f (by simp)
    have hs : ∀ x ∈ out, x.seq < f.seq := fun x hx => hr x (hp.mem_iff.1 hx)
    have hacc : (acc ++ [f]) ++ l = acc ++ f :: l := by simp
    have h1 := putB_sorted ho hs
    have hp1 : (putB out f).Perm (acc ++ [f]) := (putB_perm out f).trans ((hp.cons f).trans (List.perm_append_singleton f acc).symm)
    rw [List.foldl_cons]
    have key : ∀ (l acc out : List BidV), RiseB (acc ++ l) → out.Perm acc → out.Pairwise bLe → (l.foldl putB out).Perm (acc ++ l) ∧ (l.foldl putB out).Pairwise bLe := by
      intro l
      induction l with
      | nil => intro acc out _ hp ho; simpa using ⟨hp, ho⟩
      | cons f l ih =>
        intro acc out h hp ho
        have hr : ∀ x ∈ acc, x.seq < f.seq := fun x hx => (List.pairwise_append.1 h).2.2 x hx f (by simp)
        have hs : ∀ x ∈ out, x.seq < f.seq := fun x hx => hr x (hp.mem_iff.1 hx)
        have hacc : (acc ++ [f]) ++ l = acc ++ f :: l := by simp
        have h2 := ih (acc ++ [f]) (putB out f) (by rw [hacc]; exact h) ((putB_perm out f).trans ((hp.cons f).trans (List.perm_append_singleton f acc).symm)) (putB_sorted ho hs)
        rw [hacc] at h2
        exact h2
    have h2 := key l (acc ++ [f]) (putB out f) (by rw [hacc]; exact h) hp1 h1
    rw [hacc] at h2
    exact h2
theorem sortB_perm (l : List BidV) : (sortB l).Perm l := by
  unfold sortB ordK
  refine ((ordB_perm _ _).map _).trans ?_
  have : (List.range (l.map BidV.key).length).map (fun i => l.getD i dB) = l := by
    apply List.ext_getElem?
    intro i
    by_cases hi : i < l.length
    · simp [hi, List.getD]
    · rw [List.getElem?_eq_none (by simp; omega), List.getElem?_eq_none (by omega)]
  rw [this]
theorem sortB_sorted (l : List BidV) : (sortB l).Pairwise bLe := by
  unfold sortB
  rw [List.pairwise_iff_getElem]
  intro i j hi hj hij
  have hi' : i < (ordK (l.map BidV.key)).length := by simpa using hi
  have hj' : j < (ordK (l.map BidV.key)).length := by simpa using hj
  have h := ordK_keys (List.getElem?_eq_getElem hi') (List.getElem?_eq_getElem hj') hij
  have hk : ∀ x, x < l.length → (l.map BidV.key).getD x [] = (l.getD x dB).key := fun x hx => by
    simp [List.getD, List.getElem?_eq_getElem hx]
  have m1 := ordK_mem.1 (List.getElem_mem hi')
  have m2 := ordK_mem.1 (List.getElem_mem hj')
  rw [List.length_map] at m1 m2
  rw [hk _ m1, hk _ m2] at h
  rw [← bLe_key]
  simpa using h
/-- The document's order is the keys'. -/
theorem fold_sort {l : List BidV} (h : RiseB l) : l.foldl putB [] = sortB l := by
  obtain ⟨hp, hs⟩ := foldB l [] h List.Pairwise.nil [] (List.Perm.refl _) List.Pairwise.nil
  rw [List.nil_append] at hp
  refine List.Perm.eq_of_pairwise (le := bLe) (fun a b ha hb h1 h2 => ?_) hs (sortB_sorted l) (hp.trans (sortB_perm l).symm)
  refine riseB_inj h (hp.mem_iff.1 ha) ((sortB_perm l).mem_iff.1 hb) ?_
  unfold bLe at h1 h2
  omega
end Go.Proofs.Ytndhhnfhookeaaa
