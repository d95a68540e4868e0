import Derived.Test.YtkdiongmegnicaaBokQ
import Derived.Test.YtkdiongmegnicaaBokR
import Derived.Test.YtkdiongmegnicaaBokJ
import Derived.Test.YtkdiongmegnicaaBokK
namespace Go.Proofs.Ytkdiongmegnicaa
open Go.RowKit

/-! ### A book and the document's, side by side -/
theorem blk_neK {w : World} {g k : Nat} {t1 t2 : TypeId} {a1 a2 : Array Value} (h1 : Blk w g t1 a1) (h2 : Blk w k t2 a2) (ht : t1 ≠ t2) : g ≠ k := by
  rintro rfl
  unfold Blk at h1 h2
  rw [h1] at h2
  injection h2 with h2
  injection h2 with _ h3
  exact ht h3
theorem BookV.only {w w' : World} {g' base M A : Nat} {v' : Value} {bl : List Int} {p : Int} {g : Nat} {v : Value} (h : BookV w g' base M A v' bl p) (ho : OnlyG g v w w') (h1 : g' ≠ g) (h2 : v.ownBlock ≠ some g') (h3 : v'.ownBlock ≠ some g) (h4 : ∀ k, v.ownBlock = some k → v'.ownBlock ≠ some k) : BookV w' g' base M A v' bl p :=
  ⟨h.form, ho.blk h.blk h1 h2, own_onlyK ho h.row h3 h4, h.len, h.hM, h.hA⟩
theorem RbkV.only {w w' : World} {g' base M A : Nat} {v' : Value} {L : List Ent} {p : Int} {g : Nat} {v : Value} (h : RbkV w g' base M A v' L p) (ho : OnlyG g v w w') (h1 : g' ≠ g) (h2 : v.ownBlock ≠ some g') (h3 : v'.ownBlock ≠ some g) (h4 : ∀ k, v.ownBlock = some k → v'.ownBlock ≠ some k) : RbkV w' g' base M A v' L p :=
  ⟨h.form, ho.blk h.blk h1 h2, own_onlyK ho h.row h3 h4, h.ok, h.len⟩
structure TwoK (W : World) (g h M A : Nat) (v u : Value) (bl : List Int) (L : List Ent) (p : Int) (w : World) : Prop where
  book : BookV w g W.heap.size M A v bl p
  inv : Inv M A bl L
  doc : RbkV w h W.heap.size M A u L p
  below : Below W.heap.size W w
  hg : W.heap.size ≤ g
  hh : W.heap.size ≤ h
section
variable {W w w1 w2 : World} {g h M A : Nat} {v u u' : Value} {bl bl' : List Int} {L L' : List Ent} {p p' : Int}
theorem TwoK.past (H : TwoK W g h M A v u bl L p w) (hb : Below w.heap.size w w1) : TwoK W g h M A v u bl L p w1 :=
  ⟨H.book.past hb, H.inv, H.doc.past hb, Below.past H.below hb H.below.size, H.hg, H.hh⟩
theorem TwoK.mid (H : TwoK W g h M A v u bl L p w) (ho : OnlyG g v w w1) : RbkV w1 h W.heap.size M A u L p ∧ Below W.heap.size W w1 :=
  ⟨H.doc.only ho (Ne.symm (blk_neK H.book.blk H.doc.blk (by decide))) (own_blk_ne H.book.row H.doc.blk (by decide)) (own_blk_ne H.doc.row H.book.blk (by decide)) (fun k e e' => own_neK H.doc.row H.book.row (by decide) k e e'),
   Below.trans H.below (H.book.frame ho H.hg (Nat.le_refl _) H.below.size)⟩
theorem TwoK.next (H : TwoK W g h M A v u bl L p w) (hb : BookV w1 g W.heap.size M A v bl' p') (ho : OnlyG g v w w1) (hi : Inv M A bl' L') (hd : RbkV w2 h W.heap.size M A u' L' p') (ho2 : OnlyG h u w1 w2) : TwoK W g h M A v u' bl' L' p' w2 := by
  obtain ⟨hr, hbl⟩ := H.mid ho
  refine ⟨hb.only ho2 (blk_neK hb.blk hr.blk (by decide)) (own_blk_ne hr.row hb.blk (by decide)) (own_blk_ne hb.row hr.blk (by decide)) (fun k e e' => own_neK hb.row hr.row (by decide) k e e'), hi, hd, ?_, H.hg, H.hh⟩
  exact Below.trans hbl (ho2.frame H.hh hbl.size fun k e => (hr.row.lt k e).1)
end
theorem postLL_len {M A : Nat} {bl : List Int} {L l : List Ent} {k : Nat} (h1 : L.length ≤ 12 * k) (h2 : l.length ≤ 12) : (postLL M A bl L l).length ≤ 12 * (k + 1) := by
  unfold postLL; split
  · rw [List.length_append]; omega
  · omega
theorem PosRd.beside {W : World} {h : Nat} {u : Value} {f : PosV} (hr : PosRd W f) (hh : W.heap.size ≤ h) (hu : ∀ k, u.ownBlock = some k → W.heap.size ≤ k) : 0 < f.l.length → BesideK h u f.P := fun hn b off he => by
  obtain ⟨b', o', h1, h2, _⟩ := hr.rd.2 hn
  rw [h1] at he; cases he
  exact ⟨by omega, fun e => by have := hu _ e; omega⟩
end Go.Proofs.Ytkdiongmegnicaa
