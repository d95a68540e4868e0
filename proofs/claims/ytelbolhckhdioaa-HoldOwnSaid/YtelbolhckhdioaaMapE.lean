/-
  m[k] = append(m[k], x) as the translation writes it: the entry first, then the append, then the store by the entry's stamp.
-/
import Derived.Test.YtelbolhckhdioaaBase
import Derived.Maps.OwnRows
import Derived.Maps.RangeWalk
import Derived.WideKeyEntry
namespace Go.Proofs.Ytelbolhckhdioaa
open Go.RowKit Go.ChangeMaps Go.MapKept Go.ChangeShapes
open Go.WideElems (Fit rd rg pl rd_val elemAt findIdx_born findIdx_arr modify_last set_self)
open Go.Maps (Keyed)

theorem nodup_at {l : List Value} (h : l.Nodup) {i j : Nat} (hi : i < l.length) (hj : j < l.length) (e : l[i] = l[j]) : i = j := by
  rcases Nat.lt_trichotomy i j with h1 | h1 | h1
  · exact absurd e (List.pairwise_iff_getElem.1 h i j hi hj h1)
  · exact h1
  · exact absurd e.symm (List.pairwise_iff_getElem.1 h j i hj hi h1)
theorem entry_store {H : Type} {P : Program} {w : World} {t k e : TypeId} {R : Value → Option (DataW H × List MemPlace)} {b : Nat} {es : Array MapEntry} {clock : Nat} (K : Keyed P k) (ht : P.underlying t = some (.map k e)) {z : Value} (hz : ∀ u : World, (zeroValue e).run P u = .ok z u) (hb : w.heap[b]? = some (.map es clock)) (F : Fit P k R es clock)
    {key : Value} {kl : Lit} (hkey : keyOf P k key = some kl) :
    ∃ (v0 : Value) (st : Nat) (es1 : Array MapEntry) (clock1 : Nat), (Instr.mapEntry t (.map (some b)) key).run P w = .ok (.tuple #[v0, goInt st]) (setBlock w b (.map es1 clock1)) ∧
      ((∃ e0 ∈ es.toList, e0.key = key ∧ v0 = e0.val) ∨ ((∀ x ∈ es.toList, x.key ≠ key) ∧ v0 = z)) ∧
      ∀ val : Value, ∃ es' clock', (∀ w2 : World, w2.heap[b]? = some (.map es1 clock1) → (Instr.entryStore t (.map (some b)) (goInt st) val).run P w2 = .ok () (setBlock w2 b (.map es' clock'))) ∧
        ∀ u : World, u.heap[b]? = some (.map es clock) → (Instr.mapUpdate t (.map (some b)) key val).run P u = .ok () (setBlock u b (.map es' clock')) := by
  obtain ⟨s1, s2, s3⟩ := F.stamped
  rcases K.find w hkey es.toList F.keys with ⟨h1, h2⟩ | ⟨j, e0, h1, h2, h3⟩
  · refine ⟨z, clock, es.push ⟨key, z, clock⟩, clock + 1, ?_, Or.inr ⟨h2, rfl⟩, fun val => ⟨es.push ⟨key, val, clock⟩, clock + 1, fun w2 hw2 => ?_, fun u hu => ?_⟩⟩
    · simp [Instr.mapEntry, run_underlying ht, MapKept.run_getObj_map hb, K.check w false hkey, h1, hz, MapKept.run_setObj_map _ hb, Result.andThen, setBlock]
    · have hidx : (es.push ⟨key, z, clock⟩).findIdx? (fun e => ((e.born : Nat) : Int) == ((clock : Nat) : Int)) = some es.size := by
        rw [findIdx_arr]
        have := findIdx_born (l := (es.push ⟨key, z, clock⟩).toList) (j := es.size) (e0 := ⟨key, z, clock⟩) (by
          simp only [Array.toList_push, List.map_append, List.map_cons, List.map_nil]
          refine List.nodup_append.2 ⟨s2, by simp, fun a ha c hc e1 => ?_⟩
          simp only [List.mem_singleton] at hc
          obtain ⟨x, hx, rfl⟩ := List.mem_map.1 ha
          have := s1 x hx
          omega) (by simp)
        exact this
      have hmod : (es.push ⟨key, z, clock⟩).modify es.size (fun e => { e with val := val }) = es.push ⟨key, val, clock⟩ := by
        apply Array.ext'
        rw [Array.toList_modify, Array.toList_push, Array.toList_push, ← Array.length_toList, modify_last]
      simp [Instr.entryStore, MapKept.run_getObj_map hw2, asInt, asIntOf, goInt, hidx, hmod, MapKept.run_setObj_map _ hw2, Result.andThen, setBlock]
    · rcases K.find u hkey es.toList F.keys with ⟨h1', _⟩ | ⟨j', e0', _, h2', h3'⟩
      · simp [Instr.mapUpdate, run_underlying ht, MapKept.run_getObj_map hu, K.check u false hkey, h1', MapKept.run_setObj_map _ hu, Result.andThen, setBlock]
      · exact absurd h3' (h2 e0' (List.mem_of_getElem? h2'))
  · have hj : es[j]? = some e0 := by simpa using h2
    have hsame : es.modify j (fun e => { e with key := key }) = es := by
      apply Array.ext'
      rw [Array.toList_modify, modify_eq_set _ _ _ _ h2]
      have : ({ e0 with key := key } : MapEntry) = e0 := by rw [← h3]
      rw [this]
      exact set_self _ _ _ h2
    refine ⟨e0.val, e0.born, es, clock, ?_, Or.inl ⟨e0, List.mem_of_getElem? h2, h3, rfl⟩, fun val => ⟨es.modify j (fun e' => { e' with key := key, val := val }), clock, fun w2 hw2 => ?_, fun u hu => ?_⟩⟩
    · simp [Instr.mapEntry, run_underlying ht, MapKept.run_getObj_map hb, K.check w false hkey, h1, hj, h3, K.stays w hkey, hsame, MapKept.run_setObj_map _ hb, Result.andThen, setBlock]
    · have hidx : es.findIdx? (fun e => ((e.born : Nat) : Int) == ((e0.born : Nat) : Int)) = some j := by
        rw [findIdx_arr]
        exact findIdx_born s2 h2
      have hmod : es.modify j (fun e => { e with val := val }) = es.modify j (fun e' => { e' with key := key, val := val }) := by
        apply Array.ext'
        rw [Array.toList_modify, Array.toList_modify, modify_eq_set _ _ _ _ h2, modify_eq_set _ _ _ _ h2, ← h3]
      simp [Instr.entryStore, MapKept.run_getObj_map hw2, asInt, asIntOf, goInt, hidx, hmod, MapKept.run_setObj_map _ hw2, Result.andThen, setBlock]
    · rcases K.find u hkey es.toList F.keys with ⟨_, h2'⟩ | ⟨j', e0', h1', h2', h3'⟩
      · exact absurd h3 (h2' e0 (List.mem_of_getElem? h2))
      · have hjj : j' = j := by
          obtain ⟨hl, he⟩ := List.getElem?_eq_some_iff.1 h2
          obtain ⟨hl', he'⟩ := List.getElem?_eq_some_iff.1 h2'
          have hn : (es.toList.map (·.key))[j']'(by simpa using hl') = (es.toList.map (·.key))[j]'(by simpa using hl) := by
            simp only [List.getElem_map, he, he', h3, h3']
          exact nodup_at s3 _ _ hn
        subst hjj
        have : e0' = e0 := by rw [h2'] at h2; exact Option.some.inj h2
        subst this
        simp [Instr.mapUpdate, run_underlying ht, MapKept.run_getObj_map hu, K.check u false hkey, h1', hj, h3, K.stays u hkey, MapKept.run_setObj_map _ hu, Result.andThen, setBlock]

/-- What stands between the entry and its store: the way back. -/
def EntryBack {H : Type} (w1 : World) (P : Program) (t k : TypeId) (base : Nat) (e : TypeId) (q : IntKind) (b n : Nat) (D : DataW H) (kl : Lit) (v st : Value) : Prop :=
  ∀ (w2 : World) (v' : Value) (zs' : List Int), w1.grownBy w2 v.ownBlock → w2.ownsInts base e q v' zs' → zs'.length ≤ n + 1 → (v'.ownBlock = v.ownBlock ∨ ∃ g, v'.ownBlock = some g ∧ w1.heap.size ≤ g) →
    ∃ w3, (Instr.entryStore t (.map (some b)) st v').run P w2 = .ok () w3 ∧ w3.ownsGroups P k base e q b (n + 1) (D.put kl (rowDatum q v' zs')) ∧ w2.grownBy w3 (some b)
theorem groups_entry {H : Type} {w : World} {P : Program} {t k E e : TypeId} {base : Nat} {q : IntKind} {b n : Nat} {D : DataW H} {key : Value} {kl : Lit} (h : w.ownsGroups P k base e q b n D) (K : Keyed P k) (ht : P.underlying t = some (.map k E)) (hz : ∀ u : World, (zeroValue E).run P u = .ok (.slice none 0 0) u) (hn : n < maxLen) (hkey : keyOf P k key = some kl) :
    ∃ v st zs w1, (Instr.mapEntry t (.map (some b)) key).run P w = .ok (.tuple #[v, st]) w1 ∧ D.atKey kl .nil = rowDatum q v zs ∧ w1.ownsInts base e q v zs ∧ zs.length ≤ n ∧ w.grownBy w1 (some b) ∧ w1.heap.size = w.heap.size ∧ EntryBack w1 P t k base e q b n D kl v st := by
  obtain ⟨v, zs, hlook, hat, hoi, hzl, hback⟩ := h.at K ht (hz w) hn hkey
  obtain ⟨es, clock, hb, F, hs, rfl, hbb, hlen, hap⟩ := h
  obtain ⟨v0, st, es1, clock1, hrun, hv0, hsto⟩ := entry_store (t := t) (e := E) K ht hz hb F hkey
  have hblt : b < w.heap.size := (Array.getElem?_eq_some_iff.1 hb).1
  have hv : v0 = v := by
    rcases Maps.fit_look false K ht (hz w) hb F hkey with ⟨hr, h2, _⟩ | ⟨e1, y, hm, h3, hr, _⟩
    · rw [hr] at hlook
      have hvz : (Value.slice none 0 0) = v := by simpa using hlook
      rcases hv0 with ⟨e0, hm0, hk0, _⟩ | ⟨_, h0⟩
      · exact absurd hk0 (h2 e0 hm0)
      · rw [h0, hvz]
    · rw [hr] at hlook
      have hvz : e1.val = v := by simpa using hlook
      rcases hv0 with ⟨e0, hm0, hk0, h0⟩ | ⟨h2, _⟩
      · have : e0 = e1 := by
          obtain ⟨_, _, s3⟩ := F.stamped
          obtain ⟨i, hi, he⟩ := List.mem_iff_getElem.1 hm0
          obtain ⟨j, hj, he'⟩ := List.mem_iff_getElem.1 hm
          have hn' : (es.toList.map (·.key))[i]'(by simpa using hi) = (es.toList.map (·.key))[j]'(by simpa using hj) := by
            simp only [List.getElem_map, he, he', h3, hk0]
          have hij := nodup_at s3 _ _ hn'
          subst hij
          rw [← he, ← he']
        rw [h0, this, hvz]
      · exact absurd h3 (h2 e1 hm)
  subst hv
  have hg1 : w.grownBy (setBlock w b (.map es1 clock1)) (some b) := ⟨rfl, rfl, rfl, by simp [setBlock], fun i _ hi => heap_setBlock_other hb _ (fun e1 => hi (by rw [e1]))⟩
  have hvb : v0.ownBlock ≠ some b := fun e1 => by have := (hoi.1.lt b e1).1; omega
  refine ⟨v0, goInt st, zs, setBlock w b (.map es1 clock1), hrun, hat, hoi.kept hg1 (.inr hvb), hzl, hg1, by simp [setBlock], ?_⟩
  intro w2 v' zs' hg2 hown' hl' hloc
  obtain ⟨es', clock', hst, hup⟩ := hsto v'
  have hb1 : (setBlock w b (.map es1 clock1)).heap[b]? = some (.map es1 clock1) := heap_setBlock_same hb _
  have hsz1 : (setBlock w b (.map es1 clock1)).heap.size = w.heap.size := by simp [setBlock]
  have hb2 : w2.heap[b]? = some (.map es1 clock1) := (hg2.block b (by rw [hsz1]; exact hblt) (fun e1 => hvb e1.symm)).trans hb1
  -- the world with the map as it was
  have hbu : (setBlock w2 b (.map es clock)).heap[b]? = some (.map es clock) := heap_setBlock_same hb2 _
  have hgu : w.grownBy (setBlock w2 b (.map es clock)) v0.ownBlock := by
    refine ⟨hg2.os, hg2.tape, hg2.output, ?_, fun i hi hne => ?_⟩
    · have := hg2.size; rw [hsz1] at this; simpa [setBlock] using this
    · by_cases e1 : i = b
      · subst e1; rw [hbu, hb]
      · rw [heap_setBlock_other hb2 _ e1, hg2.block i (by rw [hsz1]; exact hi) hne, heap_setBlock_other hb _ e1]
  have hgw : w2.grownBy (setBlock w2 b (.map es clock)) (some b) := ⟨rfl, rfl, rfl, by simp [setBlock], fun i _ hi => heap_setBlock_other hb2 _ (fun e1 => hi (by rw [e1]))⟩
  have hvb' : v'.ownBlock ≠ some b := fun e1 => by have := (hown'.1.lt b e1).1; omega
  obtain ⟨w3, hrun3, ho3, _⟩ := hback (setBlock w2 b (.map es clock)) v' zs' hgu (hown'.kept hgw (.inr hvb')) hl' (by rw [hsz1] at hloc; exact hloc)
  rw [hup _ hbu] at hrun3
  have hw3 : setBlock w2 b (.map es' clock') = w3 := by
    have : setBlock (setBlock w2 b (.map es clock)) b (.map es' clock') = w3 := by simpa using hrun3
    rw [← this]
    simp [setBlock]
  refine ⟨w3, by rw [hst w2 hb2, hw3], ho3, ?_⟩
  rw [← hw3]
  exact ⟨rfl, rfl, rfl, by simp [setBlock], fun i _ hi => heap_setBlock_other hb2 _ (fun e1 => hi (by rw [e1]))⟩

/-- The entry, at its operation. -/
theorem wpList_mapEntry_groups {H : Type} {P : Program} (w : World) {ops : Array Oper} {rest : List Oper} {o : Oper} {a : Act} {Q : Exit → Act → World → Prop}
    (hg : o.guard = none) (m x : Operand) (t : TypeId) (hop : o.op = Op.mapEntry t m x)
    (k E e : TypeId) (q : IntKind) (K : Keyed P k) (ht : P.underlying t = some (.map k E)) (hz : ∀ u : World, (zeroValue E).run P u = .ok (.slice none 0 0) u) (base b n : Nat) (D : DataW H)
    (hm : a.eval m = .map (some b)) (hown : w.ownsGroups P k base e q b n D) (hn : n < maxLen) (key : Value) (kl : Lit) (hx : a.eval x = key) (hkey : keyOf P k key = some kl)
    (hK : ∀ v st zs w1, D.atKey kl .nil = rowDatum q v zs → w1.ownsInts base e q v zs → zs.length ≤ n → w.grownBy w1 (some b) → w1.heap.size = w.heap.size → EntryBack w1 P t k base e q b n D kl v st → wpList P ops Q rest (a.put o.dst (.tuple #[v, st])) w1) :
    wpList P ops Q (o :: rest) a w := by
  refine wpList_plain hg fun K' hK' => ?_
  obtain ⟨v, st, zs, w1, hrun, hat, hoi, hzl, hgr, hsz, hback⟩ := groups_entry hown K ht hz hn hkey
  unfold Oper.wp
  simp [execOp, hop, hm, hx, hrun, Result.andThen]
  exact hK' _ _ (hK v st zs w1 hat hoi hzl hgr hsz hback)
/-- The store by the stamp, at its operation. -/
theorem wpList_entryStore_back {H : Type} {P : Program} (w : World) {ops : Array Oper} {rest : List Oper} {o : Oper} {a : Act} {Q : Exit → Act → World → Prop}
    (hg : o.guard = none) (m x v : Operand) (t : TypeId) (hop : o.op = Op.entryStore t m x v)
    {w1 : World} {k : TypeId} {base : Nat} {e : TypeId} {q : IntKind} {b n : Nat} {D : DataW H} {kl : Lit} {u v' st : Value} {zs' : List Int}
    (hback : EntryBack w1 P t k base e q b n D kl u st) (hm : a.eval m = .map (some b)) (hx : a.eval x = st) (hv : a.eval v = v')
    (hgr : w1.grownBy w u.ownBlock) (hown' : w.ownsInts base e q v' zs') (hl' : zs'.length ≤ n + 1) (hloc : v'.ownBlock = u.ownBlock ∨ ∃ g, v'.ownBlock = some g ∧ w1.heap.size ≤ g)
    (hK : ∀ w2, w2.ownsGroups P k base e q b (n + 1) (D.put kl (rowDatum q v' zs')) → w.grownBy w2 (some b) → wpList P ops Q rest (a.put o.dst undef) w2) :
    wpList P ops Q (o :: rest) a w := by
  refine wpList_plain hg fun K' hK' => ?_
  obtain ⟨w2, hrun, r1, r2⟩ := hback w v' zs' hgr hown' hl' hloc
  unfold Oper.wp
  simp [execOp, hop, hm, hx, hv, hrun, Result.andThen]
  exact hK' _ _ (hK w2 r1 r2)
end Go.Proofs.Ytelbolhckhdioaa
