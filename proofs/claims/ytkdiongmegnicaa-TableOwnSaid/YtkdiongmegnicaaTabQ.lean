import Derived.Test.YtkdiongmegnicaaTabN
namespace Go.Proofs.Ytkdiongmegnicaa
open Go.RowKit

/-! ### A table beside the document's -/
theorem blk_neT {w : World} {g k : Nat} {t1 t2 : TypeId} {a1 a2 : Array Value} (h1 : Blk w g t1 a1) (h2 : Blk w k t2 a2) (ht : t1 ≠ t2) : g ≠ k := by
  rintro rfl
  unfold Blk at h1 h2
  rw [h1] at h2
  injection h2 with h2
  injection h2 with _ h3
  exact ht h3
theorem own_neT {w : World} {base base' : Nat} {e e' : TypeId} {size size' n n' : Nat} {v v' : Value} {xs xs' : List Value} (h : w.ownsRow base e size v n xs) (h' : w.ownsRow base' e' size' v' n' xs') (hne : e ≠ e') : ∀ k, v'.ownBlock = some k → v.ownBlock ≠ some k := fun k e1 e2 => by
  rcases h.2 with ⟨rfl, _⟩ | ⟨g, cap, cur, rfl, _, hh, _⟩
  · cases e2
  · rcases h'.2 with ⟨rfl, _⟩ | ⟨g', cap', cur', rfl, _, hh', _⟩
    · cases e1
    · have a1 : g = k := Option.some.inj e2
      have a2 : g' = k := Option.some.inj e1
      subst a1; subst a2
      rw [hh] at hh'
      injection hh' with hh'
      injection hh' with _ hh'
      exact hne hh'
theorem OnlyG.afterT {g : Nat} {v : Value} {a w w' : World} (hb : Below a.heap.size a w) (h : OnlyG g v w w') : OnlyG g v a w' :=
  ⟨h.os.trans hb.os, h.tape.trans hb.tape, h.output.trans hb.output, Nat.le_trans hb.size h.size, fun k hk h1 h2 => (h.block k (Nat.lt_of_lt_of_le hk hb.size) h1 h2).trans (hb.block k hk)⟩
theorem OnlyG.transT {g : Nat} {v : Value} {a w w' : World} (h1 : OnlyG g v a w) (h2 : OnlyG g v w w') : OnlyG g v a w' :=
  ⟨h2.os.trans h1.os, h2.tape.trans h1.tape, h2.output.trans h1.output, Nat.le_trans h1.size h2.size, fun k hk e1 e2 => (h2.block k (Nat.lt_of_lt_of_le hk h1.size) e1 e2).trans (h1.block k hk e1 e2)⟩
theorem OnlyG.drewT {g : Nat} {v : Value} {a w : World} (h : OnlyG g v a w) : OnlyG g v a w.drew := ⟨h.os, h.tape, h.output, h.size, h.block⟩
theorem OnlyG.blkT {g : Nat} {v : Value} {w w' : World} (h : OnlyG g v w w') {k : Nat} {t : TypeId} {arr : Array Value} (hb : Blk w k t arr) (hk : k ≠ g) (hv : v.ownBlock ≠ some k) : Blk w' k t arr := by
  have hlt := hb.lt
  unfold Blk at hb ⊢
  rw [h.block k hlt hk hv]; exact hb
theorem own_onlyT {g : Nat} {v u : Value} {w w' : World} (h : OnlyG g v w w') {base : Nat} {e : TypeId} {size n : Nat} {xs : List Value} (ho : w.ownsRow base e size u n xs) (h1 : u.ownBlock ≠ some g) (h2 : ∀ k, v.ownBlock = some k → u.ownBlock ≠ some k) : w'.ownsRow base e size u n xs := by
  refine ⟨ho.1, ?_⟩
  rcases ho.2 with h0 | ⟨k, cap, cur, rfl, hb, hh, h3⟩
  · exact .inl h0
  · refine .inr ⟨k, cap, cur, rfl, hb, ?_, h3⟩
    have hlt : k < w.heap.size := by
      rcases Nat.lt_or_ge k w.heap.size with hlt | hge
      · exact hlt
      · rw [Array.getElem?_eq_none hge] at hh; cases hh
    rw [h.block k hlt (fun e => h1 (by rw [← e]; rfl)) (fun e => h2 k e rfl)]; exact hh
/-- Over a call that grows or writes another row. -/
theorem own_farT {w : World} {base : Nat} {e : TypeId} {size n : Nat} {v : Value} {xs : List Value} (h : w.ownsRow base e size v n xs) {p : Addr} (hp : v.ownBlock ≠ some p.block) (u : Value) : (w.setCell p u).ownsRow base e size v n xs := own_far h hp u
theorem TabV.only {w w' : World} {g' base : Nat} {room : Int} {v' : Value} {S : List RowT} {g : Nat} {v : Value} (h : TabV w g' base room v' S) (ho : OnlyG g v w w') (h1 : g' ≠ g) (h2 : v.ownBlock ≠ some g') (h3 : v'.ownBlock ≠ some g) (h4 : ∀ k, v.ownBlock = some k → v'.ownBlock ≠ some k) : TabV w' g' base room v' S :=
  ⟨h.form, ho.blkT h.blk h1 h2, own_onlyT ho h.row h3 h4, h.ris, h.len, h.rm⟩
theorem QtbV.only {w w' : World} {g' base : Nat} {room : Int} {v' : Value} {L : List RowT} {g : Nat} {v : Value} (h : QtbV w g' base room v' L) (ho : OnlyG g v w w') (h1 : g' ≠ g) (h2 : v.ownBlock ≠ some g') (h3 : v'.ownBlock ≠ some g) (h4 : ∀ k, v.ownBlock = some k → v'.ownBlock ≠ some k) : QtbV w' g' base room v' L :=
  ⟨h.form, ho.blkT h.blk h1 h2, own_onlyT ho h.row h3 h4, h.len, h.rm⟩
structure TwoT (W : World) (g h : Nat) (room : Int) (v u : Value) (S L : List RowT) (w : World) : Prop where
  tab : TabV w g W.heap.size room v S
  doc : QtbV w h W.heap.size room u L
  rel : RelT S L
  below : Below W.heap.size W w
  hg : W.heap.size ≤ g
  hh : W.heap.size ≤ h
section
variable {W w w1 w2 : World} {g h : Nat} {room : Int} {v v' u u' : Value} {S S' L L' : List RowT}
theorem TwoT.past (H : TwoT W g h room v u S L w) (hb : Below w.heap.size w w1) : TwoT W g h room v u S L w1 :=
  ⟨H.tab.past hb, H.doc.past hb, H.rel, Below.past H.below hb H.below.size, H.hg, H.hh⟩
/-- Behind a call of the document's. -/
theorem TwoT.midD (H : TwoT W g h room v u S L w) (ho : OnlyG h u w w1) : TabV w1 g W.heap.size room v S ∧ Below W.heap.size W w1 :=
  ⟨H.tab.only ho (blk_neT H.tab.blk H.doc.blk (by decide)) (own_blk_ne H.doc.row H.tab.blk (by decide)) (own_blk_ne H.tab.row H.doc.blk (by decide)) (fun k e e' => own_neT H.tab.row H.doc.row (by decide) k e e'),
   Below.trans H.below (ho.frame H.hh H.below.size fun k e => (H.doc.row.lt k e).1)⟩
/-- Behind a call of the table's. -/
theorem TwoT.midT (H : TwoT W g h room v u S L w) (ho : OnlyG g v w w1) : QtbV w1 h W.heap.size room u L ∧ Below W.heap.size W w1 :=
  ⟨H.doc.only ho (Ne.symm (blk_neT H.tab.blk H.doc.blk (by decide))) (own_blk_ne H.tab.row H.doc.blk (by decide)) (own_blk_ne H.doc.row H.tab.blk (by decide)) (fun k e e' => own_neT H.doc.row H.tab.row (by decide) k e e'),
   Below.trans H.below (ho.frame H.hg H.below.size fun k e => (H.tab.row.lt k e).1)⟩
/-- The document's, and then the table's. -/
theorem TwoT.nextD (H : TwoT W g h room v u S L w) (hd : QtbV w1 h W.heap.size room u' L') (ho : OnlyG h u w w1) (ht : TabV w2 g W.heap.size room v' S') (ho2 : OnlyG g v w1 w2) (hr : RelT S' L') : TwoT W g h room v' u' S' L' w2 := by
  obtain ⟨hv, hbl⟩ := H.midD ho
  refine ⟨ht, hd.only ho2 (Ne.symm (blk_neT hv.blk hd.blk (by decide))) (own_blk_ne hv.row hd.blk (by decide)) (own_blk_ne hd.row hv.blk (by decide)) (fun k e e' => own_neT hd.row hv.row (by decide) k e e'), hr, ?_, H.hg, H.hh⟩
  exact Below.trans hbl (ho2.frame H.hg hbl.size fun k e => (hv.row.lt k e).1)
/-- The table's, and then the document's. -/
theorem TwoT.nextT (H : TwoT W g h room v u S L w) (ht : TabV w1 g W.heap.size room v' S') (ho : OnlyG g v w w1) (hd : QtbV w2 h W.heap.size room u' L') (ho2 : OnlyG h u w1 w2) (hr : RelT S' L') : TwoT W g h room v' u' S' L' w2 := by
  obtain ⟨hv, hbl⟩ := H.midT ho
  refine ⟨ht.only ho2 (blk_neT ht.blk hv.blk (by decide)) (own_blk_ne hv.row ht.blk (by decide)) (own_blk_ne ht.row hv.blk (by decide)) (fun k e e' => own_neT ht.row hv.row (by decide) k e e'), hd, hr, ?_, H.hg, H.hh⟩
  exact Below.trans hbl (ho2.frame H.hh hbl.size fun k e => (hv.row.lt k e).1)
end
end Go.Proofs.Ytkdiongmegnicaa
