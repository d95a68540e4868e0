import Derived.Test.YtfnhffcjhdeleaaNetC
namespace Go.Proofs.Ytfnhffcjhdeleaa
open Go.RowKit Go.ChangeShapes

/-! ### Which sides of the map are still to come -/
def LeftRel (D : DataW Unit) (left : Lit → Bool) (done : List Sid) : Prop :=
  (∀ kl, left kl = true → Maps.has D kl = true) ∧ (∀ s ∈ done, inI s.m ∧ inI s.a ∧ ∃ kl, keyOf Try.prog 160 (sdv s) = some kl ∧ Maps.has D kl = true ∧ left kl = false) ∧
  (∀ s kl, keyOf Try.prog 160 (sdv s) = some kl → Maps.has D kl = true → s ∉ done → left kl = true) ∧ done.Nodup
theorem LeftRel.start (D : DataW Unit) : LeftRel D (Maps.has D) [] :=
  ⟨fun _ h => h, ⟨fun s hs => absurd hs (by simp), fun s kl _ h _ => h, List.nodup_nil⟩⟩
theorem LeftRel.step {D : DataW Unit} {left : Lit → Bool} {done : List Sid} (h : LeftRel D left done) {s0 : Sid} {k0 : Lit} (hk : keyOf Try.prog 160 (sdv s0) = some k0) (hl : left k0 = true) (h1 : inI s0.m) (h2 : inI s0.a) : LeftRel D (fun z => left z && !z.sameKey k0) (done ++ [s0]) := by
  obtain ⟨a1, a2, a3, a4⟩ := h
  have hself : k0.sameKey k0 = true := WideAt.sameKey_self (sidLaw.key hk)
  refine ⟨fun kl h => a1 kl (by simp at h; exact h.1), fun s hs => ?_, fun s kl hkl hh hs => ?_, ?_⟩
  · rcases List.mem_append.1 hs with hs | hs
    · obtain ⟨b1, b2, kl, b3, b4, b5⟩ := a2 s hs
      exact ⟨b1, b2, kl, b3, b4, by simp [b5]⟩
    · rw [List.mem_singleton.1 hs]
      exact ⟨h1, h2, k0, hk, a1 k0 hl, by simp [hself]⟩
  · have hs1 : s ∉ done := fun e => hs (List.mem_append_left _ e)
    have hs2 : s ≠ s0 := fun e => hs (by rw [e]; simp)
    have hne : kl.sameKey k0 = false := by
      cases hc : kl.sameKey k0
      · rfl
      · have := WideAt.sameKey_eq hc
        subst this
        exact absurd (sdv_inj (sidLaw.inj hkl hk)) hs2
    simp [a3 s kl hkl hh hs1, hne]
  · refine List.nodup_append.2 ⟨a4, by simp, fun a ha b hb e => ?_⟩
    rw [List.mem_singleton.1 hb] at e
    subst e
    obtain ⟨_, _, kl, b3, _, b5⟩ := a2 a ha
    rw [hk] at b3
    cases b3
    rw [hl] at b5; cases b5
theorem LeftRel.all {D : DataW Unit} {left : Lit → Bool} {done : List Sid} (h : LeftRel D left done) (h0 : ∀ kl, left kl = false) {s : Sid} {kl : Lit} (hk : keyOf Try.prog 160 (sdv s) = some kl) (hh : Maps.has D kl = true) : s ∈ done := by
  apply Classical.byContradiction
  intro hs
  have := h.2.2.1 s kl hk hh hs
  rw [h0] at this; cases this

/-- The keys of sides, each in a block of its own. -/
def KBlkN (w : World) (base : Nat) (vs : List KeyV) : Prop := ∀ v ∈ vs, ∃ g, base ≤ g ∧ v.A = some ⟨g, 0, none⟩ ∧ Blk w g 2 (v.k.map (Value.int .i64)).toArray ∧ v.k.length ≤ 100
theorem KBlkN.keys {w : World} {base : Nat} {vs : List KeyV} (h : KBlkN w base vs) : KeysRd w w.heap.size vs := fun v hv => by
  obtain ⟨g, _, hA, hb, hl⟩ := h v hv
  refine ⟨⟨by rw [flat_len iC 1 iC_len, Nat.mul_one], fun _ => ⟨g, 0, hA, hb.lt, fun j u hu => ?_⟩⟩, by omega⟩
  have hj : j < v.k.length := by
    have := (List.getElem?_eq_some_iff.1 hu).1
    rw [flat_len iC 1 iC_len] at this
    omega
  have hg : v.k[j]? = some v.k[j] := List.getElem?_eq_getElem hj
  have h5 := flat_get iC 1 iC_len v.k j _ 0 hg (by omega)
  rw [Nat.mul_one, Nat.add_zero, hu] at h5
  rw [Nat.zero_add, hb.cell j, h5]
  simp [hg, iC]
theorem KBlkN.past {w w' : World} {base : Nat} {vs : List KeyV} (h : KBlkN w base vs) (hb : Below w.heap.size w w') : KBlkN w' base vs := fun v hv => by
  obtain ⟨g, h1, hA, hbk, hl⟩ := h v hv
  exact ⟨g, h1, hA, hbk.past hb, hl⟩
theorem KBlkN.grown {w w' : World} {base : Nat} {vs : List KeyV} {row : Option Nat} (h : KBlkN w base vs) (hg : w.grownBy w' row) (hr : ∀ g cs, Blk w g 2 cs → row ≠ some g) : KBlkN w' base vs := fun v hv => by
  obtain ⟨g, h1, hA, hbk, hl⟩ := h v hv
  exact ⟨g, h1, hA, hbk.grown hg (hr g _ hbk), hl⟩
structure OrdRel (w : World) (R : Value → Option (DataW Unit × List MemPlace)) (b n : Nat) (D : DataW Unit) (v3 v4 : Value) (done : List Sid) (kv : List KeyV) (wr : World) : Prop where
  rg : ∃ left cnt, wr.ranges Try.prog 160 R b w.heap.size n D left cnt ∧ cnt + done.length ≤ n ∧ LeftRel D left done
  len : kv.length = done.length
  keys : keysOf kv = done.map Sid.key
  blk : KBlkN wr (w.heap.size + 1) kv
  row : wr.ownsRow (w.heap.size + 1) 160 2 v3 done.length (done.flatMap Sid.cells)
  krow : wr.ownsRow (w.heap.size + 1) 35 1 v4 done.length (kv.flatMap KeyV.cells)
  below : Below w.heap.size w wr
  size : w.heap.size + 1 ≤ wr.heap.size
theorem ksInfoN : (Try.prog.info? 35).map (fun i => (i.zero, i.size, i.bytes)) = some (some (.slice none 0 0), 1, 24) := by kernel_rfl
theorem sidInfo : (Try.prog.info? 160).map (fun i => (i.zero, i.size, i.bytes)) = some (some (.agg #[.int .i64 0, .int .i64 0]), 2, 16) := by kernel_rfl
theorem range_grown {H : Type} {w w' : World} {P : Program} {k : TypeId} {R : Value → Option (DataW H × List MemPlace)} {b r n : Nat} {D : DataW H} {left : Lit → Bool} {cnt : Nat} (h : w.ranges P k R b r n D left cnt) {row : Option Nat} (hg : w.grownBy w' row) (hr : ∀ j, row = some j → b < j ∧ r < j) : w'.ranges P k R b r n D left cnt :=
  h.kept hg (fun e => by have := (hr b e.symm).1; omega) (fun e => by have := (hr r e.symm).2; omega)
def OrdNet (w : World) (f : Sid → List Int) (n : Nat) (e : Ending) (w' : World) : Prop :=
  ∃ v done, e = .returned v ∧ w'.ownsRow w.heap.size 160 2 v (done : List Sid).length ((sortS done).flatMap Sid.cells) ∧ done.length ≤ n ∧ done.Nodup ∧ (∀ s ∈ done, inI s.m ∧ inI s.a ∧ f s ≠ []) ∧ (∀ s : Sid, inI s.m → inI s.a → f s ≠ [] → s ∈ done) ∧ Below w.heap.size w w'
end Go.Proofs.Ytfnhffcjhdeleaa
