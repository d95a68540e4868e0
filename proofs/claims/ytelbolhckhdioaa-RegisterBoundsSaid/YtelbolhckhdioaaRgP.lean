import Derived.Test.YtelbolhckhdioaaRgE
namespace Go.Proofs.Ytelbolhckhdioaa
open Go.RowKit

/-! ### Trades that were all accepted: in what order does not show (plain) -/
def rowsT (l : List Trad) : List TRow := l.map fun t => ⟨t.id, t⟩
theorem rowsT_app (a b : List Trad) : rowsT (a ++ b) = rowsT a ++ rowsT b := List.map_append ..
theorem sumV_app : ∀ a b : List TRow, sumV (a ++ b) = sumV a + sumV b
  | [], b => by simp [sumV]
  | x :: a, b => by rw [List.cons_append, sumV_cons, sumV_cons, sumV_app a b]; omega
theorem sumU_app (s : Int) : ∀ a b : List TRow, sumU s (a ++ b) = sumU s a + sumU s b
  | [], b => by simp [sumU]
  | x :: a, b => by rw [List.cons_append, sumU_cons, sumU_cons, sumU_app s a b]; omega
structure AllIn (cf : Conf) (n1 n2 n3 : Nat) (ts : List Trad) (ac : Int) (S : List TRow) (U : List URow) : Prop where
  reg : RegI cf n1 n2 n3 ac S U
  rel : TTbR.RelT S (rowsT ts)
  ac : ac = (ts.length : Nat)
  used : ∀ id, TTbI.isT U id = ts.any fun t => decide (t.id = id)
  ul : U.length = ts.length
  units : ∀ s, sumU s S ≤ 274877906944
theorem AllIn.start {cf : Conf} {n1 n2 n3 : Nat} (h1 : 1 ≤ cf.trades) : AllIn cf n1 n2 n3 [] 0 [] [] :=
  ⟨⟨by simp, by simp [sumV], by simp, by omega, by simp, by
    have : 0 ≤ cf.trades * (n3 : Int) := Int.mul_nonneg (by omega) (by omega)
    simpa using this⟩, TTbR.RelT.nil, rfl, fun _ => rfl, rfl, fun s => by simp [sumU]⟩
section
variable {cf : Conf} {n1 n2 n3 : Nat} {ts : List Trad} {ac : Int} {S : List TRow} {U : List URow} {t : Trad}
theorem AllIn.add (h : AllIn cf n1 n2 n3 ts ac S U) (hq : inI t.qty) (hp : inI t.price) (hk : addKS cf n1 n2 n3 ac S U t = 0) : AllIn cf n1 n2 n3 (ts ++ [t]) (addA 0 ac) (addS 0 S t) (addU 0 ac U t) := by
  have hr := h.reg.add hq hp (t := t)
  rw [hk] at hr
  obtain ⟨h1, h2, h3, h4, h5, h6⟩ := addKS_zero hk
  have hns : TTbR.isT S t.id = false := by
    rw [Bool.eq_false_iff]
    intro hh
    obtain ⟨r, hr, hrid⟩ := List.any_eq_true.1 hh
    have h1 := h.reg.used r hr
    have h2' : r.id = t.id := by simpa using hrid
    rw [h2', h2] at h1
    cases h1
  refine ⟨hr, ?_, ?_, fun id => ?_, ?_, fun s => ?_⟩
  · rw [rowsT_app]
    exact h.rel.put (x := ⟨t.id, t⟩) hns
  · simp [addA, h.ac]
  · have e : TTbI.isT (TTbI.insT U ⟨t.id, ac + 1⟩) id = TTbI.isT (⟨t.id, ac + 1⟩ :: U) id := (insTI_perm U ⟨t.id, ac + 1⟩).any_eq
    have e2 : addU 0 ac U t = TTbI.insT U ⟨t.id, ac + 1⟩ := rfl
    rw [e2, e, List.any_append, ← h.used id]
    unfold TTbI.isT
    simp [Bool.or_comm]
  · have e2 : addU 0 ac U t = TTbI.insT U ⟨t.id, ac + 1⟩ := rfl
    rw [e2, (insTI_perm U ⟨t.id, ac + 1⟩).length_eq, List.length_cons, h.ul, List.length_append]; rfl
  · have e2 : addS 0 S t = TTbR.insT S ⟨t.id, t⟩ := rfl
    rw [e2, sumU_perm s (insTR_perm S ⟨t.id, t⟩), sumU_cons]
    have hu := h.units s
    show unitOf s t + _ ≤ _
    unfold unitOf
    split
    · rename_i hs; subst hs; exact h6
    · omega
theorem AllIn.ids (h : AllIn cf n1 n2 n3 ts ac S U) : ts.Pairwise fun a b => a.id ≠ b.id := by
  have hd := h.rel.dist
  unfold TTbR.DistT rowsT at hd
  exact (List.pairwise_map (f := fun t : Trad => (⟨t.id, t⟩ : TRow))).1 hd
/-- The others, in another order, are accepted too. -/
theorem AllIn.next {l rot : List Trad} {acr : Int} {Sr : List TRow} {Ur : List URow} (H : AllIn cf n1 n2 n3 l acr Sr Ur) (hp : rot.Perm l) {j : Nat} (h : AllIn cf n1 n2 n3 (rot.take j) ac S U) (hj : j < rot.length) (ht : rot[j]? = some t) : addKS cf n1 n2 n3 ac S U t = 0 := by
  have hlen := hp.length_eq
  have hmem : t ∈ l := hp.mem_iff.1 (List.mem_of_getElem? ht)
  have hrow : (⟨t.id, t⟩ : TRow) ∈ Sr := H.rel.perm.mem_iff.2 (List.mem_map.2 ⟨t, hmem, rfl⟩)
  have hck := (H.reg.ok _ hrow).1
  have hids : rot.Pairwise fun a b => a.id ≠ b.id := (hp.pairwise_iff (fun h => h.symm)).2 H.ids
  have hT : rot.take (j + 1) = rot.take j ++ [t] := by rw [List.take_add_one, ht]; rfl
  have hsplit : rot = rot.take j ++ (t :: rot.drop (j + 1)) := by
    have e := List.take_append_drop (j + 1) rot
    rw [hT, List.append_assoc] at e
    exact e.symm
  have hnu : TTbI.isT U t.id = false := by
    rw [h.used, List.any_eq_false]
    intro x hx
    rw [hsplit] at hids
    have := (List.pairwise_append.1 hids).2.2 x hx t (by simp)
    simpa using this
  have htl : (rot.take j).length = j := by rw [List.length_take]; omega
  have hac : ac = (j : Nat) := by rw [h.ac, htl]
  have hUl : U.length = j := by rw [h.ul, htl]
  have hacr := H.ac
  have hac0 := H.reg.ac0
  have hulr := H.reg.ulen
  have hUr := H.ul
  have hfl : fullS cf n3 ac U = false := by
    unfold fullS
    rw [decide_eq_false (by omega), decide_eq_false (by omega)]; rfl
  have hpr : Sr.Perm (rowsT rot) := H.rel.perm.trans (hp.symm.map _)
  have hps : S.Perm (rowsT (rot.take j)) := h.rel.perm
  have hall : ∀ r ∈ rowsT rot, checkT n1 n2 r.v = 0 := fun r hr => (H.reg.ok r (hpr.mem_iff.2 hr)).1
  have hdr : ∀ r ∈ rowsT (rot.drop (j + 1)), checkT n1 n2 r.v = 0 := fun r hr => hall r (by
    rw [hsplit, rowsT_app]
    exact List.mem_append_right _ (List.mem_cons_of_mem _ hr))
  have hb := sum_bds t.sec hdr
  have hv : sumV Sr = sumV (rowsT (rot.take j)) + (valOf t + sumV (rowsT (rot.drop (j + 1)))) := by
    rw [sumV_perm hpr]
    conv => lhs; rw [hsplit]
    rw [rowsT_app, sumV_app]; rfl
  have hu : sumU t.sec Sr = sumU t.sec (rowsT (rot.take j)) + (unitOf t.sec t + sumU t.sec (rowsT (rot.drop (j + 1)))) := by
    rw [sumU_perm _ hpr]
    conv => lhs; rw [hsplit]
    rw [rowsT_app, sumU_app]; rfl
  have hut : unitOf t.sec t = t.qty := if_pos rfl
  have htop := H.reg.top
  have hun := H.units t.sec
  have hmu : muchS S t = false := by
    unfold muchS
    rw [sumV_perm hps, sumU_perm _ hps, decide_eq_false (by omega), decide_eq_false (by omega)]; rfl
  unfold addKS
  rw [if_pos hck, if_neg (by rw [hnu]; simp), if_neg (by rw [hfl]; simp), if_neg (by rw [hmu]; simp)]
theorem AllIn.same {l rot : List Trad} {acr ac' : Int} {Sr S' : List TRow} {Ur U' : List URow} (H : AllIn cf n1 n2 n3 l acr Sr Ur) (hp : rot.Perm l) (h : AllIn cf n1 n2 n3 rot ac' S' U') : S' = Sr := by
  have h1 := h.rel.rows
  have h2 : TTbR.RelT Sr (rowsT rot) := ⟨H.rel.ris, H.rel.perm.trans (hp.symm.map _)⟩
  rw [← h1]
  exact h2.rows
end
theorem rot_get {α : Type} {l : List α} {k j : Nat} (hk : k ≤ l.length) (hj : j < l.length) : (l.drop k ++ l.take k)[j]? = l[(j + k) % l.length]? := by
  by_cases h : j + k < l.length
  · rw [Nat.mod_eq_of_lt h, List.getElem?_append_left (by rw [List.length_drop]; omega), List.getElem?_drop, Nat.add_comm k j]
  · have e : (j + k) % l.length = j + k - l.length := by
      rw [Nat.mod_eq_sub_mod (by omega), Nat.mod_eq_of_lt (by omega)]
    rw [e, List.getElem?_append_right (by rw [List.length_drop]; omega), List.length_drop, List.getElem?_take, if_pos (by omega)]
    congr 1
    omega
theorem rot_perm {α : Type} (l : List α) (k : Nat) : (l.drop k ++ l.take k).Perm l := by
  have h := List.perm_append_comm (l₁ := l.drop k) (l₂ := l.take k)
  rwa [List.take_append_drop] at h
end Go.Proofs.Ytelbolhckhdioaa
