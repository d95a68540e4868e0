/-
  What the walks of all tables need of rows and blocks (of no program).
-/
import Derived.Test.YtelbolhckhdioaaBas2
import Derived.Test.YtelbolhckhdioaaOnlyG
import Derived.Test.YtelbolhckhdioaaAppRd
import Derived.Test.YtelbolhckhdioaaTwoR
import Derived.Test.YtelbolhckhdioaaInsR
namespace Go.Proofs.Ytelbolhckhdioaa
open Go.RowKit
theorem own_pastZ {w w' : World} {base : Nat} {e : TypeId} {size : Nat} {v : Value} {n : Nat} {xs : List Value} (h : w.ownsRow base e size v n xs) (hb : Below w.heap.size w w') : w'.ownsRow base e size v n xs := by
  refine ⟨h.1, ?_⟩
  rcases h.2 with h0 | ⟨g, cap, cur, rfl, hg, hh, h1⟩
  · exact .inl h0
  · refine .inr ⟨g, cap, cur, rfl, hg, ?_, h1⟩
    have hlt : g < w.heap.size := by
      rcases Nat.lt_or_ge g w.heap.size with hlt | hge
      · exact hlt
      · rw [Array.getElem?_eq_none hge] at hh; cases hh
    rw [hb.block g hlt]; exact hh
theorem undrewZ {w w' : World} (h : Below w.drew.heap.size w.drew w') : Below w.heap.size w w' := ⟨h.os, h.tape, h.output, h.size, h.block⟩
theorem rd_none0Z {w : World} {B sz n : Nat} {xs : List Value} (h : Rd w B sz none n xs) : n = 0 := by
  rcases Nat.eq_zero_or_pos n with h0 | h0
  · exact h0
  · obtain ⟨_, _, he, _⟩ := h.2 h0
    cases he
theorem own_monoZ {w : World} {base base' : Nat} {e : TypeId} {size n : Nat} {v : Value} {xs : List Value} (h : w.ownsRow base e size v n xs) (hb : base' ≤ base) : w.ownsRow base' e size v n xs := by
  refine ⟨h.1, ?_⟩
  rcases h.2 with h0 | ⟨g, cap, cur, rfl, hb1, hh, h1⟩
  · exact .inl h0
  · exact .inr ⟨g, cap, cur, rfl, Nat.le_trans hb hb1, hh, h1⟩
theorem own_someZ {w : World} {base : Nat} {e : TypeId} {size n c : Nat} {A : Option Addr} {xs : List Value} (h : w.ownsRow base e size (.slice A n c) n xs) (hn : 0 < n) : ∃ g cs, A = some ⟨g, 0, none⟩ ∧ base ≤ g ∧ Blk w g e cs := by
  rcases h.2 with ⟨_, h0⟩ | ⟨gg, cap, cs, e, h1, h2, _⟩
  · omega
  · injection e with e1 e2 e3
    exact ⟨gg, cs, e1, h1, h2⟩
theorem own_setZ {w : World} {B g : Nat} {e : TypeId} {sz n c j : Nat} {xs : List Value} (h : w.ownsRow B e sz (.slice (some ⟨g, 0, none⟩) n c) n xs) (hj : j < n * sz) (u : Value) : (w.setCell ⟨g, j, none⟩ u).ownsRow B e sz (.slice (some ⟨g, 0, none⟩) n c) n (xs.set j u) := by
  refine ⟨by rw [List.length_set]; exact h.1, ?_⟩
  rcases h.2 with ⟨h0, _⟩ | ⟨g', cap, cur, hv, hb, hh, h1, h2, h3, h4⟩
  · cases h0
  · cases hv
    refine .inr ⟨g, c, cur.setIfInBounds j u, rfl, hb, Blk.put (show Blk w g e cur from hh) j u, h1, h2, by simpa using h3, ?_⟩
    rw [Array.toList_setIfInBounds, List.take_set, h4]
theorem OnlyG.setOwnZ {g : Nat} {v : Value} {a w : World} (h : OnlyG g v a w) (p : Addr) (hp : v.ownBlock = some p.block) (u : Value) : OnlyG g v a (w.setCell p u) :=
  ⟨h.os, h.tape, h.output, by have := h.size; simpa [World.setCell] using this, fun k hk h1 h2 => (Below.heap_setCell w p u k (fun e => h2 (by rw [hp, e]))).trans (h.block k hk h1 h2)⟩
theorem belowI_setRowZ {B g : Nat} {w0 w : World} (hb : Below B w0 w) (hBg : B ≤ g) (cs : Array Value) : Below B w0 (w.setRow g cs) :=
  hb.trans ⟨rfl, rfl, rfl, by simp [World.setRow], fun k hk => setRow_other w g k cs (by omega)⟩
theorem grown_of_belowIZ {w w' : World} (h : Below w.heap.size w w') (r : Option Nat) : w.grownBy w' r := ⟨h.os, h.tape, h.output, h.size, fun k hk _ => h.block k hk⟩
theorem zeroCells_sizeZ (z : Array Value) (n : Nat) : (Builtin.zeroCells z n).size = n * z.size := by simp [Builtin.zeroCells]
theorem blk_neZ {w : World} {g k : Nat} {t1 t2 : TypeId} {a1 a2 : Array Value} (h1 : Blk w g t1 a1) (h2 : Blk w k t2 a2) (ht : t1 ≠ t2) : g ≠ k := by
  rintro rfl
  unfold Blk at h1 h2
  rw [h1] at h2
  injection h2 with h2
  injection h2 with _ h3
  exact ht h3
theorem own_neZ {w : World} {base base' : Nat} {e e' : TypeId} {size size' n n' : Nat} {v v' : Value} {xs xs' : List Value} (h : w.ownsRow base e size v n xs) (h' : w.ownsRow base' e' size' v' n' xs') (hne : e ≠ e') : ∀ k, v'.ownBlock = some k → v.ownBlock ≠ some k := fun k e1 e2 => by
  rcases h.2 with ⟨rfl, _⟩ | ⟨g, cap, cur, rfl, _, hh, _⟩
  · cases e2
  · rcases h'.2 with ⟨rfl, _⟩ | ⟨g', cap', cur', rfl, _, hh', _⟩
    · cases e1
    · have a1 : g = k := Option.some.inj e2
      have a2 : g' = k := Option.some.inj e1
      subst a1; subst a2
      rw [hh] at hh'
      injection hh' with hh'
      injection hh' with _ hh'
      exact hne hh'
theorem OnlyG.afterZ {g : Nat} {v : Value} {a w w' : World} (hb : Below a.heap.size a w) (h : OnlyG g v w w') : OnlyG g v a w' :=
  ⟨h.os.trans hb.os, h.tape.trans hb.tape, h.output.trans hb.output, Nat.le_trans hb.size h.size, fun k hk h1 h2 => (h.block k (Nat.lt_of_lt_of_le hk hb.size) h1 h2).trans (hb.block k hk)⟩
theorem OnlyG.transZ {g : Nat} {v : Value} {a w w' : World} (h1 : OnlyG g v a w) (h2 : OnlyG g v w w') : OnlyG g v a w' :=
  ⟨h2.os.trans h1.os, h2.tape.trans h1.tape, h2.output.trans h1.output, Nat.le_trans h1.size h2.size, fun k hk e1 e2 => (h2.block k (Nat.lt_of_lt_of_le hk h1.size) e1 e2).trans (h1.block k hk e1 e2)⟩
theorem OnlyG.drewZ {g : Nat} {v : Value} {a w : World} (h : OnlyG g v a w) : OnlyG g v a w.drew := ⟨h.os, h.tape, h.output, h.size, h.block⟩
theorem OnlyG.blkZ {g : Nat} {v : Value} {w w' : World} (h : OnlyG g v w w') {k : Nat} {t : TypeId} {arr : Array Value} (hb : Blk w k t arr) (hk : k ≠ g) (hv : v.ownBlock ≠ some k) : Blk w' k t arr := by
  have hlt := hb.lt
  unfold Blk at hb ⊢
  rw [h.block k hlt hk hv]; exact hb
theorem own_onlyZ {g : Nat} {v u : Value} {w w' : World} (h : OnlyG g v w w') {base : Nat} {e : TypeId} {size n : Nat} {xs : List Value} (ho : w.ownsRow base e size u n xs) (h1 : u.ownBlock ≠ some g) (h2 : ∀ k, v.ownBlock = some k → u.ownBlock ≠ some k) : w'.ownsRow base e size u n xs := by
  refine ⟨ho.1, ?_⟩
  rcases ho.2 with h0 | ⟨k, cap, cur, rfl, hb, hh, h3⟩
  · exact .inl h0
  · refine .inr ⟨k, cap, cur, rfl, hb, ?_, h3⟩
    have hlt : k < w.heap.size := by
      rcases Nat.lt_or_ge k w.heap.size with hlt | hge
      · exact hlt
      · rw [Array.getElem?_eq_none hge] at hh; cases hh
    rw [h.block k hlt (fun e => h1 (by rw [← e]; rfl)) (fun e => h2 k e rfl)]; exact hh
theorem OnlyG.newZ {g : Nat} {v : Value} {a w : World} (h : OnlyG g v a w) {p : Addr} (hp : a.heap.size ≤ p.block) (u : Value) : OnlyG g v a (w.setCell p u) :=
  ⟨h.os, h.tape, h.output, by have := h.size; simpa [World.setCell] using this, fun k hk h1 h2 => (Below.heap_setCell w p u k (by omega)).trans (h.block k hk h1 h2)⟩
end Go.Proofs.Ytelbolhckhdioaa
