import Derived.Test.YtelbolhckhdioaaTbRA
namespace Go.Proofs.Ytelbolhckhdioaa.TTbR
open Go.RowKit Go.Proofs.Ytelbolhckhdioaa

def notF (id : Int) (r : RowT) : Bool := !decide (r.id = id)
def dropTL (L : List RowT) (id : Int) : List RowT := L.filter (notF id)
def putTK (room : Int) (L : List RowT) (id : Int) : Int := if isT L id = true then 7 else if room ≤ (L.length : Nat) then 6 else 0
theorem ris_set {S : List RowT} (h : RisT S) {i : Nat} {f : RowT} (hf : S[i]? = some f) (s : Trad) : RisT (S.set i ⟨f.id, s⟩) := by
  have key : ∀ (j : Nat) (x : RowT), (S.set i ⟨f.id, s⟩)[j]? = some x → ∃ y, S[j]? = some y ∧ y.id = x.id := fun j x hx => by
    rw [List.getElem?_set] at hx
    split at hx
    · rename_i e
      subst e
      split at hx
      · cases hx; exact ⟨f, hf, rfl⟩
      · cases hx
    · exact ⟨x, hx, rfl⟩
  intro a b x y hab hx hy
  obtain ⟨x', hx', e1⟩ := key a x hx
  obtain ⟨y', hy', e2⟩ := key b y hy
  have := h a b x' y' hab hx' hy'
  omega
/-! ### Rows by rising numbers, and rows as they came: the plain law -/
theorem ris_pw {S : List RowT} : RisT S ↔ S.Pairwise fun a b => a.id < b.id := by
  rw [List.pairwise_iff_getElem]
  constructor
  · intro h i j hi hj hij
    exact h i j _ _ hij (List.getElem?_eq_getElem hi) (List.getElem?_eq_getElem hj)
  · intro h i j a b hij ha hb
    obtain ⟨hi, rfl⟩ := List.getElem?_eq_some_iff.1 ha
    obtain ⟨hj, rfl⟩ := List.getElem?_eq_some_iff.1 hb
    exact h i j hi hj hij
def DistT (L : List RowT) : Prop := L.Pairwise fun a b => a.id ≠ b.id
structure RelT (S L : List RowT) : Prop where
  ris : RisT S
  perm : S.Perm L
theorem RelT.dist {S L : List RowT} (h : RelT S L) : DistT L :=
  (h.perm.pairwise_iff (fun h => Ne.symm h)).1 ((ris_pw.1 h.ris).imp fun h => by omega)
theorem RelT.nil : RelT [] [] := ⟨fun i j a b _ e => by simp at e, List.Perm.refl _⟩
theorem RelT.is {S L : List RowT} (h : RelT S L) (id : Int) : isT S id = isT L id := h.perm.any_eq
theorem distT_inj {L : List RowT} (h : DistT L) {a b : RowT} (ha : a ∈ L) (hb : b ∈ L) (e : a.id = b.id) : a = b := by
  obtain ⟨i, hi, rfl⟩ := List.getElem_of_mem ha
  obtain ⟨j, hj, rfl⟩ := List.getElem_of_mem hb
  have h' := List.pairwise_iff_getElem.1 h
  rcases Nat.lt_trichotomy i j with hlt | rfl | hlt
  · exact absurd e (h' i j hi hj hlt)
  · rfl
  · exact absurd e.symm (h' j i hj hi hlt)
theorem splitT {L : List RowT} {k : Nat} {r : RowT} (h : L[k]? = some r) : L = L.take k ++ r :: L.drop (k + 1) := by
  obtain ⟨hk, rfl⟩ := List.getElem?_eq_some_iff.1 h
  rw [← List.drop_eq_getElem_cons hk, List.take_append_drop]
theorem setT_at {L : List RowT} {k : Nat} {r : RowT} (h : L[k]? = some r) (x : RowT) : L.set k x = L.take k ++ x :: L.drop (k + 1) := by
  obtain ⟨hk, _⟩ := List.getElem?_eq_some_iff.1 h
  rw [List.set_eq_take_append_cons_drop, if_pos hk]
theorem permT_out {S L : List RowT} {p k : Nat} {r : RowT} (hp : S.Perm L) (hs : S[p]? = some r) (hl : L[k]? = some r) : (S.take p ++ S.drop (p + 1)).Perm (L.take k ++ L.drop (k + 1)) := by
  have h1 : (S.take p ++ r :: S.drop (p + 1)).Perm (L.take k ++ r :: L.drop (k + 1)) := by rw [← splitT hs, ← splitT hl]; exact hp
  exact (List.perm_middle.symm.trans (h1.trans List.perm_middle)).cons_inv
theorem RelT.at_ {S L : List RowT} (h : RelT S L) {k : Nat} {r : RowT} (hl : L[k]? = some r) : S[posT S r.id]? = some r := by
  have hi : isT S r.id = true := List.any_eq_true.2 ⟨r, h.perm.mem_iff.2 (List.mem_of_getElem? hl), by simp⟩
  obtain ⟨q, hq, e⟩ := at_is h.ris hi
  rw [distT_inj h.dist (h.perm.mem_iff.1 (List.mem_of_getElem? hq)) (List.mem_of_getElem? hl) e] at hq
  exact hq
/-- Put. -/
def insT (S : List RowT) (x : RowT) : List RowT := S.take (posT S x.id) ++ x :: S.drop (posT S x.id)
theorem RelT.put {S L : List RowT} (h : RelT S L) {x : RowT} (hn : isT S x.id = false) : RelT (insT S x) (L ++ [x]) := by
  refine ⟨?_, ?_⟩
  · rw [ris_pw]
    have hb := bisT_pos h.ris x.id
    have hpw := ris_pw.1 h.ris
    rw [← List.take_append_drop (posT S x.id) S, List.pairwise_append] at hpw
    have hlo : ∀ r ∈ S.take (posT S x.id), r.id < x.id := fun r hr => by
      obtain ⟨t, ht, rfl⟩ := List.getElem_of_mem hr
      rw [List.length_take] at ht
      rw [List.getElem_take]
      exact hb.lo t _ (by omega) (List.getElem?_eq_getElem (by omega))
    have hhi : ∀ r ∈ S.drop (posT S x.id), x.id < r.id := fun r hr => by
      obtain ⟨t, ht, rfl⟩ := List.getElem_of_mem hr
      rw [List.length_drop] at ht
      have hlt : posT S x.id + t < S.length := by omega
      rw [List.getElem_drop]
      have h1 := hb.hi (posT S x.id + t) _ (Nat.le_add_right _ _) (List.getElem?_eq_getElem hlt)
      have h2 : S[posT S x.id + t].id ≠ x.id := fun e => by
        rw [isT, List.any_eq_false] at hn
        exact hn _ (List.getElem_mem hlt) (by simpa using e)
      omega
    refine List.pairwise_append.2 ⟨hpw.1, List.pairwise_cons.2 ⟨hhi, hpw.2.1⟩, fun a ha b hb' => ?_⟩
    rcases List.mem_cons.1 hb' with rfl | hb'
    · exact hlo a ha
    · have := hlo a ha; have := hhi b hb'; omega
  · unfold insT
    refine List.perm_middle.trans ?_
    rw [List.take_append_drop]
    exact (h.perm.cons x).trans (List.perm_append_singleton x L).symm
theorem RelT.len {S L : List RowT} (h : RelT S L) : S.length = L.length := h.perm.length_eq
/-- Set. -/
theorem RelT.set {S L : List RowT} (h : RelT S L) {k : Nat} {r : RowT} (hl : L[k]? = some r) (s : Trad) : RelT (S.set (posT S r.id) ⟨r.id, s⟩) (L.set k ⟨r.id, s⟩) := by
  have hs := h.at_ hl
  refine ⟨ris_set h.ris hs s, ?_⟩
  rw [setT_at hs, setT_at hl]
  exact List.perm_middle.trans (((permT_out h.perm hs hl).cons _).trans List.perm_middle.symm)
/-- Drop. -/
theorem dropT_at {L : List RowT} (hd : DistT L) {k : Nat} {r : RowT} (hl : L[k]? = some r) : dropTL L r.id = L.take k ++ L.drop (k + 1) := by
  have e := splitT hl
  have hd' := hd
  rw [e] at hd'
  unfold DistT at hd'
  rw [List.pairwise_append, List.pairwise_cons] at hd'
  obtain ⟨_, ⟨h1, _⟩, h2⟩ := hd'
  have ha : (L.take k).filter (notF r.id) = L.take k := List.filter_eq_self.2 fun a ha => by
    have := h2 a ha r (List.mem_cons_self ..)
    simp [notF, this]
  have hb : (L.drop (k + 1)).filter (notF r.id) = L.drop (k + 1) := List.filter_eq_self.2 fun b hb => by
    have := h1 b hb
    simp [notF, Ne.symm this]
  unfold dropTL
  conv => lhs; rw [e]
  rw [List.filter_append, List.filter_cons, if_neg (by simp [notF]), ha, hb]
theorem dropT_none {L : List RowT} {id : Int} (h : isT L id = false) : dropTL L id = L := by
  refine List.filter_eq_self.2 fun a ha => ?_
  rw [isT, List.any_eq_false] at h
  have := h a ha
  simp [notF]
  simpa using this
def outT (S : List RowT) (p : Nat) : List RowT := S.take p ++ S.drop (p + 1)
theorem RelT.drop {S L : List RowT} (h : RelT S L) {k : Nat} {r : RowT} (hl : L[k]? = some r) : RelT (outT S (posT S r.id)) (dropTL L r.id) := by
  refine ⟨?_, by rw [dropT_at h.dist hl]; exact permT_out h.perm (h.at_ hl) hl⟩
  rw [ris_pw]
  have hpw := ris_pw.1 h.ris
  rw [splitT (h.at_ hl), List.pairwise_append, List.pairwise_cons] at hpw
  exact List.pairwise_append.2 ⟨hpw.1, hpw.2.1.2, fun a ha b hb => hpw.2.2 a ha b (List.mem_cons_of_mem _ hb)⟩
/-- Rows: the document's list, sorted by insertion. -/
def putD : List RowT → RowT → List RowT
  | [], f => [f]
  | x :: l, f => if f.id < x.id then f :: x :: l else x :: putD l f
theorem putD_at : ∀ {out : List RowT} {f : RowT} {k : Nat}, (∀ x ∈ out.take k, ¬ f.id < x.id) → (∀ x ∈ out.drop k, f.id < x.id) → putD out f = out.take k ++ f :: out.drop k
  | [], f, k, _, _ => by simp [putD]
  | x :: l, f, 0, _, h => by
    have hx := h x (by simp)
    simp [putD, hx]
  | x :: l, f, k + 1, h1, h2 => by
    have hx := h1 x (by simp)
    rw [putD, if_neg hx, putD_at (out := l) (k := k) (fun y hy => h1 y (by simp [hy])) (fun y hy => h2 y (by simpa using hy))]
    simp
theorem putD_perm : ∀ (l : List RowT) (f : RowT), (putD l f).Perm (f :: l)
  | [], f => List.Perm.refl _
  | x :: l, f => by
    rw [putD]; split
    · exact List.Perm.refl _
    · exact ((putD_perm l f).cons x).trans (List.Perm.swap f x l)
theorem putD_sorted : ∀ {l : List RowT} {f : RowT}, l.Pairwise (fun a b => a.id ≤ b.id) → (putD l f).Pairwise (fun a b => a.id ≤ b.id)
  | [], f, _ => List.pairwise_singleton _ _
  | x :: l, f, h => by
    obtain ⟨hx, hl⟩ := List.pairwise_cons.1 h
    rw [putD]; split
    · rename_i hlt
      refine List.pairwise_cons.2 ⟨fun y hy => ?_, h⟩
      rcases List.mem_cons.1 hy with rfl | hy
      · omega
      · have := hx y hy
        omega
    · rename_i hlt
      refine List.pairwise_cons.2 ⟨fun y hy => ?_, putD_sorted hl⟩
      rcases List.mem_cons.1 ((putD_perm l f).mem_iff.1 hy) with rfl | hy
      · omega
      · exact hx y hy
def rowsD (L : List RowT) : List RowT := L.foldl putD []
theorem foldD : ∀ (l out : List RowT), out.Pairwise (fun a b => a.id ≤ b.id) → (l.foldl putD out).Perm (out ++ l) ∧ (l.foldl putD out).Pairwise (fun a b => a.id ≤ b.id)
  | [], out, h => by simpa using h
  | f :: l, out, h => by
    obtain ⟨h1, h2⟩ := foldD l (putD out f) (putD_sorted h)
    refine ⟨?_, h2⟩
    rw [List.foldl_cons]
    refine h1.trans (((putD_perm out f).append_right l).trans ?_)
    exact (List.perm_middle (l₁ := out) (l₂ := l) (a := f)).symm
theorem rowsD_perm (L : List RowT) : (rowsD L).Perm L := by
  have h := (foldD L [] List.Pairwise.nil).1
  rw [List.nil_append] at h
  exact h
theorem rowsD_sorted (L : List RowT) : (rowsD L).Pairwise (fun a b => a.id ≤ b.id) := (foldD L [] List.Pairwise.nil).2
theorem RelT.rows {S L : List RowT} (h : RelT S L) : rowsD L = S :=
  List.Perm.eq_of_pairwise (le := fun a b => a.id ≤ b.id) (fun a b ha hb h1 h2 => distT_inj h.dist ((rowsD_perm L).mem_iff.1 ha) (h.perm.mem_iff.1 hb) (by omega)) (rowsD_sorted L) ((ris_pw.1 h.ris).imp fun h => by omega) ((rowsD_perm L).trans h.perm.symm)
theorem putD_stop {cur : List RowT} {f y : RowT} {j : Nat} (hs : cur.Pairwise (fun a b => a.id ≤ b.id)) (hj : 0 < j) (hy : cur[j - 1]? = some y) (hle : ¬ f.id < y.id) (hd : ∀ x ∈ cur.drop j, f.id < x.id) : putD cur f = cur.take j ++ f :: cur.drop j := by
  refine putD_at (fun x hx => ?_) hd
  obtain ⟨i, hi, rfl⟩ := List.getElem_of_mem hx
  obtain ⟨hlt, e⟩ := List.getElem?_eq_some_iff.1 hy
  rw [List.length_take] at hi
  rw [List.getElem_take]
  rcases Nat.lt_or_ge i (j - 1) with h | h
  · have h2 := (List.pairwise_iff_getElem.1 hs) i (j - 1) (by omega) hlt h
    rw [e] at h2
    omega
  · have : i = j - 1 := by omega
    subst this
    rw [e]; exact hle
theorem putD_top {cur : List RowT} {f : RowT} (hd : ∀ x ∈ cur.drop 0, f.id < x.id) : putD cur f = f :: cur := by
  have := putD_at (out := cur) (f := f) (k := 0) (fun x hx => by simp at hx) hd
  simpa using this
/-- Near: the least number that is not below a number. -/
def NearP (L : List RowT) (id i : Int) : Prop := (i = -1 ∧ ∀ r ∈ L, r.id < id) ∨ ∃ (k : Nat) (r : RowT), i = (k : Nat) ∧ L[k]? = some r ∧ id ≤ r.id ∧ ∀ q ∈ L, id ≤ q.id → r.id ≤ q.id
theorem RelT.near_no {S L : List RowT} (h : RelT S L) {id : Int} (hn : ∀ r ∈ L, r.id < id) : posT S id = S.length := by
  unfold posT
  rw [List.countP_eq_length]
  intro r hr
  simpa using hn r (h.perm.mem_iff.1 hr)
theorem RelT.near_yes {S L : List RowT} (h : RelT S L) {id : Int} {k : Nat} {r : RowT} (hk : L[k]? = some r) (hr : id ≤ r.id) (hm : ∀ q ∈ L, id ≤ q.id → r.id ≤ q.id) : S[posT S id]? = some r := by
  have hb := bisT_pos h.ris id
  have hrs := h.perm.mem_iff.2 (List.mem_of_getElem? hk)
  obtain ⟨t, ht, e⟩ := List.getElem_of_mem hrs
  have hge : posT S id ≤ t := by
    rcases Nat.lt_or_ge t (posT S id) with h1 | h1
    · have := hb.lo t r h1 (by rw [List.getElem?_eq_getElem ht, e]); omega
    · exact h1
  have hlt : posT S id < S.length := by omega
  rw [List.getElem?_eq_getElem hlt]
  congr 1
  have h1 := hb.hi _ _ (Nat.le_refl _) (List.getElem?_eq_getElem hlt)
  have h2 := hm _ (h.perm.mem_iff.1 (List.getElem_mem hlt)) h1
  rcases Nat.lt_or_ge (posT S id) t with h3 | h3
  · have := (List.pairwise_iff_getElem.1 (ris_pw.1 h.ris)) _ _ hlt ht h3
    rw [e] at this; omega
  · have : posT S id = t := by omega
    simp only [this, e]
end Go.Proofs.Ytelbolhckhdioaa.TTbR
