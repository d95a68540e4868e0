/-
  m[k] = append(m[k], x), where another row of the call's own stands beside the map: what the groups shun, they shun behind it.
-/
import Derived.Test.YtelbolhckhdioaaMapE
import Derived.Maps.GroupsBeside
namespace Go.Proofs.Ytelbolhckhdioaa
open Go.RowKit Go.ChangeMaps Go.MapKept Go.ChangeShapes
open Go.WideElems (Fit rd rg pl rd_val elemAt findIdx_born findIdx_arr modify_last set_self)
open Go.Maps (Keyed)

/-- What stands between the entry and its store: the way back; and what the groups shun. -/
def EntryBackS {H : Type} (w1 : World) (P : Program) (t k : TypeId) (base : Nat) (e : TypeId) (q : IntKind) (b n : Nat) (D : DataW H) (kl : Lit) (No : Nat → Prop) (v st : Value) : Prop :=
  ∀ (w2 : World) (v' : Value) (zs' : List Int), w1.grownBy w2 v.ownBlock → w2.ownsInts base e q v' zs' → zs'.length ≤ n + 1 → (v'.ownBlock = v.ownBlock ∨ ∃ g, v'.ownBlock = some g ∧ w1.heap.size ≤ g) → (∀ g, v'.ownBlock = some g → ¬ No g) →
    ∃ w3, (Instr.entryStore t (.map (some b)) st v').run P w2 = .ok () w3 ∧ w3.ownsGroups P k base e q b (n + 1) (D.put kl (rowDatum q v' zs')) ∧ w2.grownBy w3 (some b) ∧ w3.Shuns b No
theorem groups_entryS {H : Type} {w : World} {P : Program} {t k E e : TypeId} {base : Nat} {q : IntKind} {b n : Nat} {D : DataW H} {key : Value} {kl : Lit} {No : Nat → Prop} (h : w.ownsGroups P k base e q b n D) (hsh : w.Shuns b No) (K : Keyed P k) (ht : P.underlying t = some (.map k E)) (hz : ∀ u : World, (zeroValue E).run P u = .ok (.slice none 0 0) u) (hn : n < maxLen) (hkey : keyOf P k key = some kl) :
    ∃ v st zs w1, (Instr.mapEntry t (.map (some b)) key).run P w = .ok (.tuple #[v, st]) w1 ∧ D.atKey kl .nil = rowDatum q v zs ∧ w1.ownsInts base e q v zs ∧ zs.length ≤ n ∧ w.grownBy w1 (some b) ∧ w1.heap.size = w.heap.size ∧ (∀ g, v.ownBlock = some g → ¬ No g) ∧ EntryBackS w1 P t k base e q b n D kl No v st := by
  obtain ⟨v, zs, hlook, hat, hoi, hzl, hback⟩ := h.at K ht (hz w) hn hkey
  obtain ⟨es, clock, hb, F, hs, rfl, hbb, hlen, hap⟩ := h
  obtain ⟨v0, st, es1, clock1, hrun, hv0, hsto⟩ := entry_store (t := t) (e := E) K ht hz hb F hkey
  have hblt : b < w.heap.size := (Array.getElem?_eq_some_iff.1 hb).1
  have hv : v0 = v := by
    rcases Maps.fit_look false K ht (hz w) hb F hkey with ⟨hr, h2, _⟩ | ⟨e1, y, hm, h3, hr, _⟩
    · rw [hr] at hlook
      have hvz : (Value.slice none 0 0) = v := by simpa using hlook
      rcases hv0 with ⟨e0, hm0, hk0, _⟩ | ⟨_, h0⟩
      · exact absurd hk0 (h2 e0 hm0)
      · rw [h0, hvz]
    · rw [hr] at hlook
      have hvz : e1.val = v := by simpa using hlook
      rcases hv0 with ⟨e0, hm0, hk0, h0⟩ | ⟨h2, _⟩
      · have : e0 = e1 := by
          obtain ⟨_, _, s3⟩ := F.stamped
          obtain ⟨i, hi, he⟩ := List.mem_iff_getElem.1 hm0
          obtain ⟨j, hj, he'⟩ := List.mem_iff_getElem.1 hm
          have hn' : (es.toList.map (·.key))[i]'(by simpa using hi) = (es.toList.map (·.key))[j]'(by simpa using hj) := by
            simp only [List.getElem_map, he, he', h3, hk0]
          have hij := nodup_at s3 _ _ hn'
          subst hij
          rw [← he, ← he']
        rw [h0, this, hvz]
      · exact absurd h3 (h2 e1 hm)
  subst hv
  have hshv : ∀ g, v0.ownBlock = some g → ¬ No g := by
    rcases hv0 with ⟨e0, hm0, _, h0⟩ | ⟨_, h0⟩
    · intro g hg; rw [h0] at hg; exact hsh es clock hb e0 hm0 g hg
    · intro g hg; rw [h0] at hg; cases hg
  have hg1 : w.grownBy (setBlock w b (.map es1 clock1)) (some b) := ⟨rfl, rfl, rfl, by simp [setBlock], fun i _ hi => heap_setBlock_other hb _ (fun e1 => hi (by rw [e1]))⟩
  have hvb : v0.ownBlock ≠ some b := fun e1 => by have := (hoi.1.lt b e1).1; omega
  refine ⟨v0, goInt st, zs, setBlock w b (.map es1 clock1), hrun, hat, hoi.kept hg1 (.inr hvb), hzl, hg1, by simp [setBlock], hshv, ?_⟩
  intro w2 v' zs' hg2 hown' hl' hloc hno
  obtain ⟨es', clock', hst, hup⟩ := hsto v'
  have hb1 : (setBlock w b (.map es1 clock1)).heap[b]? = some (.map es1 clock1) := heap_setBlock_same hb _
  have hsz1 : (setBlock w b (.map es1 clock1)).heap.size = w.heap.size := by simp [setBlock]
  have hb2 : w2.heap[b]? = some (.map es1 clock1) := (hg2.block b (by rw [hsz1]; exact hblt) (fun e1 => hvb e1.symm)).trans hb1
  have hbu : (setBlock w2 b (.map es clock)).heap[b]? = some (.map es clock) := heap_setBlock_same hb2 _
  have hgu : w.grownBy (setBlock w2 b (.map es clock)) v0.ownBlock := by
    refine ⟨hg2.os, hg2.tape, hg2.output, ?_, fun i hi hne => ?_⟩
    · have := hg2.size; rw [hsz1] at this; simpa [setBlock] using this
    · by_cases e1 : i = b
      · subst e1; rw [hbu, hb]
      · rw [heap_setBlock_other hb2 _ e1, hg2.block i (by rw [hsz1]; exact hi) hne, heap_setBlock_other hb _ e1]
  have hgw : w2.grownBy (setBlock w2 b (.map es clock)) (some b) := ⟨rfl, rfl, rfl, by simp [setBlock], fun i _ hi => heap_setBlock_other hb2 _ (fun e1 => hi (by rw [e1]))⟩
  have hvb' : v'.ownBlock ≠ some b := fun e1 => by have := (hown'.1.lt b e1).1; omega
  obtain ⟨w3, hrun3, ho3, _⟩ := hback (setBlock w2 b (.map es clock)) v' zs' hgu (hown'.kept hgw (.inr hvb')) hl' (by rw [hsz1] at hloc; exact hloc)
  obtain ⟨es2, clock2, hes2, hwho⟩ := stored_who K ht hbu F (Nat.lt_of_le_of_lt hs hn) hkey hrun3
  rw [hup _ hbu] at hrun3
  have hw3 : setBlock w2 b (.map es' clock') = w3 := by
    have : setBlock (setBlock w2 b (.map es clock)) b (.map es' clock') = w3 := by simpa using hrun3
    rw [← this]
    simp [setBlock]
  refine ⟨w3, by rw [hst w2 hb2, hw3], ho3, ?_, ?_⟩
  · rw [← hw3]
    exact ⟨rfl, rfl, rfl, by simp [setBlock], fun i _ hi => heap_setBlock_other hb2 _ (fun e1 => hi (by rw [e1]))⟩
  · intro es3 clock3 hes3 y hy g hyg
    obtain ⟨rfl, rfl⟩ : es2 = es3 ∧ clock2 = clock3 := by rw [hes2] at hes3; simpa using hes3
    rcases hwho y hy with ⟨hy0, _⟩ | ⟨_, hval⟩
    · exact hsh es clock hb y hy0 g hyg
    · exact hno g (hval ▸ hyg)

/-- The entry, at its operation. -/
theorem wpList_mapEntry_groupsS {H : Type} {P : Program} (w : World) {ops : Array Oper} {rest : List Oper} {o : Oper} {a : Act} {Q : Exit → Act → World → Prop}
    (hg : o.guard = none) (m x : Operand) (t : TypeId) (hop : o.op = Op.mapEntry t m x)
    (k E e : TypeId) (q : IntKind) (K : Keyed P k) (ht : P.underlying t = some (.map k E)) (hz : ∀ u : World, (zeroValue E).run P u = .ok (.slice none 0 0) u) (base b n : Nat) (D : DataW H) (No : Nat → Prop)
    (hm : a.eval m = .map (some b)) (hown : w.ownsGroups P k base e q b n D) (hsh : w.Shuns b No) (hn : n < maxLen) (key : Value) (kl : Lit) (hx : a.eval x = key) (hkey : keyOf P k key = some kl)
    (hK : ∀ v st zs w1, D.atKey kl .nil = rowDatum q v zs → w1.ownsInts base e q v zs → zs.length ≤ n → w.grownBy w1 (some b) → w1.heap.size = w.heap.size → (∀ g, v.ownBlock = some g → ¬ No g) → EntryBackS w1 P t k base e q b n D kl No v st → wpList P ops Q rest (a.put o.dst (.tuple #[v, st])) w1) :
    wpList P ops Q (o :: rest) a w := by
  refine wpList_plain hg fun K' hK' => ?_
  obtain ⟨v, st, zs, w1, hrun, hat, hoi, hzl, hgr, hsz, hsv, hback⟩ := groups_entryS hown hsh K ht hz hn hkey
  unfold Oper.wp
  simp [execOp, hop, hm, hx, hrun, Result.andThen]
  exact hK' _ _ (hK v st zs w1 hat hoi hzl hgr hsz hsv hback)
/-- The store by the stamp, at its operation. -/
theorem wpList_entryStore_backS {H : Type} {P : Program} (w : World) {ops : Array Oper} {rest : List Oper} {o : Oper} {a : Act} {Q : Exit → Act → World → Prop}
    (hg : o.guard = none) (m x v : Operand) (t : TypeId) (hop : o.op = Op.entryStore t m x v)
    {w1 : World} {k : TypeId} {base : Nat} {e : TypeId} {q : IntKind} {b n : Nat} {D : DataW H} {kl : Lit} {No : Nat → Prop} {u v' st : Value} {zs' : List Int}
    (hback : EntryBackS w1 P t k base e q b n D kl No u st) (hm : a.eval m = .map (some b)) (hx : a.eval x = st) (hv : a.eval v = v')
    (hgr : w1.grownBy w u.ownBlock) (hown' : w.ownsInts base e q v' zs') (hl' : zs'.length ≤ n + 1) (hloc : v'.ownBlock = u.ownBlock ∨ ∃ g, v'.ownBlock = some g ∧ w1.heap.size ≤ g) (hno : ∀ g, v'.ownBlock = some g → ¬ No g)
    (hK : ∀ w2, w2.ownsGroups P k base e q b (n + 1) (D.put kl (rowDatum q v' zs')) → w.grownBy w2 (some b) → w2.Shuns b No → wpList P ops Q rest (a.put o.dst undef) w2) :
    wpList P ops Q (o :: rest) a w := by
  refine wpList_plain hg fun K' hK' => ?_
  obtain ⟨w2, hrun, r1, r2, r3⟩ := hback w v' zs' hgr hown' hl' hloc hno
  unfold Oper.wp
  simp [execOp, hop, hm, hx, hv, hrun, Result.andThen]
  exact hK' _ _ (hK w2 r1 r2 r3)
end Go.Proofs.Ytelbolhckhdioaa
