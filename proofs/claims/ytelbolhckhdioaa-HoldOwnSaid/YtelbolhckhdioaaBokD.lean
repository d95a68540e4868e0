import Derived.Test.YtelbolhckhdioaaBokC
namespace Go.Proofs.Ytelbolhckhdioaa
open Go.RowKit Go.ChangeShapes Go.ChangeMaps

/-! ### What gathered has made so far -/
def NoG (gm : Nat) (R : Nat → Value) (k : Nat) : Prop := k = gm ∨ NoR R k
structure GatSt (W : World) (g gm n : Nat) (D : DataW Unit) (f : Spt → List Int) (R : Nat → Value) (F : Nat → List Int) (u : Value) (S : List Spt) (w : World) : Prop where
  grp : w.ownsGroups Try.prog 174 (g + 1) 2 .i64 g n D
  is : GrpIsK D f
  sh : w.Shuns g (NoG gm R)
  mat : MatV w gm W.heap.size R F
  ord : w.ownsRow W.heap.size 174 3 u S.length (S.flatMap Spt.cells)
  below : Below W.heap.size W w
  hg : W.heap.size ≤ g
  hgm : W.heap.size ≤ gm
section
variable {W w w' : World} {g gm n : Nat} {D : DataW Unit} {f : Spt → List Int} {R : Nat → Value} {F : Nat → List Int} {u : Value} {S : List Spt}
theorem GatSt.gl (h : GatSt W g gm n D f R F u S w) : g < w.heap.size := groups_ltK h.grp
theorem GatSt.past (h : GatSt W g gm n D f R F u S w) (hb : Below w.heap.size w w') : GatSt W g gm n D f R F u S w' :=
  ⟨groups_pastK h.grp hb, h.is, shuns_past h.sh h.gl hb, h.mat.past hb, own_pastK h.ord hb, Below.past h.below hb h.below.size, h.hg, h.hgm⟩
theorem GatSt.ne (h : GatSt W g gm n D f R F u S w) : g ≠ gm := fun e => by
  obtain ⟨es, c, hm⟩ := groups_map h.grp
  have hb := h.mat.blk
  unfold Blk at hb
  rw [← e, hm] at hb; cases hb
theorem GatSt.rg (h : GatSt W g gm n D f R F u S w) : ∀ j, j < 9 → (R j).ownBlock ≠ some g := fun j hj => by
  obtain ⟨es, c, hm⟩ := groups_map h.grp
  exact own_map_ne (h.mat.row j hj) hm
theorem GatSt.ug (h : GatSt W g gm n D f R F u S w) : u.ownBlock ≠ some g := by
  obtain ⟨es, c, hm⟩ := groups_map h.grp
  exact own_map_ne h.ord hm
theorem GatSt.rgm (h : GatSt W g gm n D f R F u S w) : ∀ j, j < 9 → (R j).ownBlock ≠ some gm := fun j hj => own_blk_ne (h.mat.row j hj) h.mat.blk (by decide)
theorem GatSt.ugm (h : GatSt W g gm n D f R F u S w) : u.ownBlock ≠ some gm := own_blk_ne h.ord h.mat.blk (by decide)
theorem GatSt.ur (h : GatSt W g gm n D f R F u S w) : ∀ j, j < 9 → ∀ k, (R j).ownBlock = some k → u.ownBlock ≠ some k := fun j hj k e => own_neK h.ord (h.mat.row j hj) (by decide) k e
/-- One spot more. -/
theorem GatSt.ordGrown (h : GatSt W g gm n D f R F u S w) (hg : w.grownBy w' u.ownBlock) {u' : Value} {S' : List Spt} (ho : w'.ownsRow W.heap.size 174 3 u' S'.length (S'.flatMap Spt.cells)) : GatSt W g gm n D f R F u' S' w' := by
  have hgr : ∀ es clock, w.heap[g]? = some (.map es clock) → ∀ x ∈ es.toList, x.val.ownBlock = none ∨ x.val.ownBlock ≠ u.ownBlock := fun es clock hb x hx => by
    obtain ⟨es', clock', hb', F', _⟩ := h.grp
    obtain ⟨rfl, rfl⟩ : es' = es ∧ clock' = clock := by rw [hb'] at hb; simpa using hb
    cases hx' : x.val.ownBlock with
    | none => exact Or.inl rfl
    | some k =>
      refine Or.inr (fun e1 => ?_)
      obtain ⟨y, hy⟩ := F'.reads x hx
      obtain ⟨z, hz, _⟩ := WideElems.rd_val hy
      obtain ⟨zs, hoi, _⟩ := rowElem_inv hz
      exact own_neK h.ord hoi.1 (by decide) k hx' e1.symm
  refine ⟨h.grp.kept hg (fun e => h.ug e.symm) hgr, h.is, h.sh.kept hg h.gl (fun e => h.ug e.symm), h.mat.grownR hg h.ugm (fun k e j hj e2 => h.ur j hj k e2 e), ho, ?_, h.hg, h.hgm⟩
  exact h.below.grown hg h.below.size (fun k e => (h.ord.lt k e).1)
/-- An amount more at a spot. -/
theorem GatSt.entry (h : GatSt W g gm n D f R F u S w) {w5 w6 w7 : World} {v : Value} {zs : List Int} (h1 : w.grownBy w5 (some g)) (hv : w5.ownsInts (g + 1) 2 .i64 v zs) (hsv : ∀ k, v.ownBlock = some k → ¬ NoG gm R k) (h2 : w5.grownBy w6 v.ownBlock) (h3 : w6.grownBy w7 (some g)) {D' : DataW Unit} {f' : Spt → List Int} (hgr : w7.ownsGroups Try.prog 174 (g + 1) 2 .i64 g (n + 1) D') (his : GrpIsK D' f') (hsh : w7.Shuns g (NoG gm R)) : GatSt W g gm (n + 1) D' f' R F u S w7 := by
  have hne := h.ne; have hrg := h.rg; have hug := h.ug
  have ho5 := own_grownR h.ord h1 (fun k e => by cases e; exact hug)
  refine ⟨hgr, his, hsh, ?_, ?_, ?_, h.hg, h.hgm⟩
  · have m5 := h.mat.grownR h1 (fun e => hne (Option.some.inj e)) (fun k e j hj => by cases e; exact hrg j hj)
    have m6 := m5.grownR h2 (fun e => hsv gm e (.inl rfl)) (fun k e j hj e2 => hsv k e (.inr ⟨j, hj, e2⟩))
    exact m6.grownR h3 (fun e => hne (Option.some.inj e)) (fun k e j hj => by cases e; exact hrg j hj)
  · have ho6 := own_grownR ho5 h2 (fun k e => own_neK ho5 hv.1 (by decide) k e)
    exact own_grownR ho6 h3 (fun k e => by cases e; exact hug)
  · have b5 := h.below.grown h1 h.below.size (fun k e => by cases e; exact h.hg)
    have b6 := b5.grown h2 b5.size (fun k e => by have := (hv.1.lt k e).1; have := h.hg; omega)
    exact b6.grown h3 b6.size (fun k e => by cases e; exact h.hg)
theorem GatSt.noNew (h : GatSt W g gm n D f R F u S w) {k : Nat} (hk : w.heap.size ≤ k) : ¬ NoG gm R k := fun hn => by
  rcases hn with e | ⟨j, hj, e⟩
  · have := h.mat.blk.lt; omega
  · have := ((h.mat.row j hj).lt k e).2; omega
theorem grown_setCell (w : World) (p : Addr) (v : Value) : w.grownBy (w.setCell p v) (some p.block) :=
  ⟨rfl, rfl, rfl, by simp [World.setCell], fun i _ hi => Below.heap_setCell w p v i (fun e => hi (by rw [e]))⟩
/-- An amount more of an asset. -/
theorem GatSt.asset (h : GatSt W g gm n D f R F u S w) {j : Nat} (hj : j < 9) (hg : w.grownBy w' (R j).ownBlock) {v' : Value} {F' : Nat → List Int} (hv : w'.ownsRow W.heap.size 2 1 v' (F' j).length ((F' j).flatMap i64Cells)) (hF : ∀ i, i ≠ j → F' i = F i) (hd : v'.ownBlock = (R j).ownBlock ∨ ∃ k, v'.ownBlock = some k ∧ w.heap.size ≤ k) : GatSt W g gm n D f (setR R j v') F' u S (w'.setCell ⟨gm, j, none⟩ v') := by
  have hne := h.ne; have hrg := h.rg; have hug := h.ug; have hrgm := h.rgm; have hugm := h.ugm
  have hno' : ∀ k, NoG gm (setR R j v') k → NoG gm R k ∨ w.heap.size ≤ k := fun k hk => by
    rcases hk with hk | ⟨i, hi, hk⟩
    · exact .inl (.inl hk)
    · unfold setR at hk
      split at hk
      · rcases hd with hd | ⟨k', hd, hle⟩
        · exact .inl (.inr ⟨j, hj, by rw [← hd]; exact hk⟩)
        · rw [hd] at hk; cases hk; exact .inr hle
      · exact .inl (.inr ⟨i, hi, hk⟩)
  have hsh1 := h.sh.reno h.grp hno'
  have hrow : ∀ k, (R j).ownBlock = some k → NoG gm R k := fun k e => .inr ⟨j, hj, e⟩
  have hgr1 := h.grp.kept hg (fun e => hrg j hj e.symm) (h.sh.rowsOff hrow)
  have hsh2 := hsh1.kept hg h.gl (fun e => hrg j hj e.symm)
  have hs := grown_setCell w' ⟨gm, j, none⟩ v'
  have hgr2 := hgr1.kept hs (fun e => hne (Option.some.inj e)) (hsh2.rowsOff (fun k e => .inl (Option.some.inj e).symm))
  have hsh3 := hsh2.kept hs (Nat.lt_of_lt_of_le h.gl hg.size) (fun e => hne (Option.some.inj e))
  have hvgm : v'.ownBlock ≠ some gm := by
    rcases hd with hd | ⟨k, hd, hle⟩
    · rw [hd]; exact hrgm j hj
    · rw [hd]; intro e; have := h.mat.blk.lt; have := Option.some.inj e; omega
  have hmb := h.mat.blk.grown hg (hrgm j hj)
  refine ⟨hgr2, h.is, hsh3, ⟨?_, ?_, ?_⟩, ?_, ?_, h.hg, h.hgm⟩
  · have := hmb.put j v'
    rw [matC_set R j hj] at this
    exact this
  · intro i hi
    unfold setR
    by_cases e : i = j
    · subst e
      rw [if_pos rfl]
      exact own_grownR hv hs (fun k e => by cases e; exact hvgm)
    · rw [if_neg e, hF i e]
      have hri := own_grownR (h.mat.row i hi) hg (fun k e1 e2 => h.mat.ap i j hi hj e k e2 e1)
      exact own_grownR hri hs (fun k e => by cases e; exact hrgm i hi)
  · intro i i' hi hi' hii
    unfold setR
    have key : ∀ i, i < 9 → i ≠ j → ApartVN v' (R i) := fun i hi e k e1 e2 => by
      rcases hd with hd | ⟨k', hd, hle⟩
      · exact h.mat.ap j i hj hi (fun e' => e e'.symm) k (hd ▸ e1) e2
      · rw [hd] at e1; cases e1
        have := ((h.mat.row i hi).lt _ e2).2; omega
    by_cases e : i = j
    · subst e
      rw [if_pos rfl, if_neg (fun e' => hii e'.symm)]
      exact key i' hi' (fun e' => hii e'.symm)
    · by_cases e' : i' = j
      · subst e'
        rw [if_neg e, if_pos rfl]
        exact (key i hi e).symm
      · rw [if_neg e, if_neg e']; exact h.mat.ap i i' hi hi' hii
  · have := own_grownR h.ord hg (fun k e1 e2 => h.ur j hj k e1 e2)
    exact own_grownR this hs (fun k e => by cases e; exact hugm)
  · have b1 := h.below.grown hg h.below.size (fun k e => ((h.mat.row j hj).lt k e).1)
    exact b1.grown hs b1.size (fun k e => by cases e; exact h.hgm)
end
end Go.Proofs.Ytelbolhckhdioaa
