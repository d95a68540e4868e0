import Derived.Test.YtndhhnfhookeaaaTimW
namespace Go.Proofs.Ytndhhnfhookeaaa
open Go.RowKit

/-! ### The document's list beside the wheel -/
/-- The list lies in no block that the wheel writes. -/
def Beside (g : Nat) (v : Value) (A : Option Addr) (n : Nat) : Prop := 0 < n → ∀ p, A = some p → p.block ≠ g ∧ v.ownBlock ≠ some p.block
theorem own_cap {w : World} {base : Nat} {e : TypeId} {size n m c : Nat} {A : Option Addr} {xs : List Value} (h : w.ownsRow base e size (.slice A m c) n xs) : n ≤ c := by
  rcases h.2 with ⟨h1, h2⟩ | ⟨g, cap, cur, hv, _, _, hle, _⟩
  · omega
  · cases hv
    exact hle
theorem Rd.only {w w' : World} {g sz n : Nat} {v : Value} {A : Option Addr} {xs : List Value} (h : Rd w w.heap.size sz A n xs) (ho : Only g v w w') (hb : Beside g v A n) : Rd w' w'.heap.size sz A n xs := by
  refine ⟨h.1, fun hn => ?_⟩
  obtain ⟨b, off, rfl, hlt, hc⟩ := h.2 hn
  obtain ⟨h1, h2⟩ := hb hn _ rfl
  have hs := ho.size
  exact ⟨b, off, rfl, by omega, fun j u hu => (World.cell?_of_block (w := w) (ho.block b hlt h1 h2)).trans (hc j u hu)⟩
theorem Only.frame {g B : Nat} {v : Value} {w w' : World} (h : Only g v w w') (hg : B ≤ g) (hw : B ≤ w.heap.size) (hv : ∀ k, v.ownBlock = some k → B ≤ k) : Below B w w' :=
  h.past (Below.refl B w) hw hg hv
theorem Whv.own_le {w : World} {g : Nat} {room : Int} {base : Nat} {v : Value} {ts : List Tim} (h : Whv w g room base v ts) : ∀ k, v.ownBlock = some k → base ≤ k ∧ k < w.heap.size := by
  obtain ⟨A, c, rfl, _, h2⟩ := h
  intro k hk; exact h2.lt k hk
theorem Beside.own {w1 w2 : World} {g : Nat} {room : Int} {base : Nat} {v : Value} {ts : List Tim} (h : Whv w1 g room base v ts) {e : TypeId} {size n m c : Nat} {A : Option Addr} {xs : List Value} (ho : w2.ownsRow w1.heap.size e size (.slice A m c) n xs) (m' : Nat) : Beside g v A m' := by
  intro _ p hp
  have hg := h.wh.lt
  have hx := h.own_le
  subst hp
  rcases ho.2 with ⟨h1, _⟩ | ⟨b, cap, cur, hv, hb, _, _⟩
  · cases h1
  · cases hv
    exact ⟨by simp; omega, fun e => by have := (hx _ e).2; simp at this; omega⟩
theorem Beside.next {w : World} {g sz n : Nat} {v v' : Value} {A : Option Addr} {xs : List Value} (h : Beside g v A n) (hr : Rd w w.heap.size sz A n xs) (hd : v'.ownBlock = v.ownBlock ∨ ∃ k, v'.ownBlock = some k ∧ w.heap.size ≤ k) : Beside g v' A n := by
  intro hn p hp
  obtain ⟨h1, h2⟩ := h hn p hp
  refine ⟨h1, ?_⟩
  rcases hd with e | ⟨k, e, hk⟩
  · rw [e]; exact h2
  · rw [e]
    obtain ⟨b, off, rfl, hlt, _⟩ := hr.2 hn
    cases hp
    intro e2; cases e2; simp at hk; omega
/-- Behind a call that parts the wheel: its rows are new. -/
theorem Beside.parted {w : World} {g sz n : Nat} {v v' : Value} {A : Option Addr} {xs : List Value} {w' : World} {room : Int} {ts : List Tim} (h : Beside g v A n) (hr : Rd w w.heap.size sz A n xs) (hw : Whv w' g room w.heap.size v' ts) : Beside g v' A n := by
  intro hn p hp
  obtain ⟨h1, h2⟩ := h hn p hp
  refine ⟨h1, fun e => ?_⟩
  obtain ⟨b, off, rfl, hlt, _⟩ := hr.2 hn
  cases hp
  have := (hw.own_le _ e).1
  simp at this; omega
theorem Beside.nilrow {g : Nat} {v : Value} {A : Option Addr} {n : Nat} (h : Beside g v A n) : Beside g (.slice none 0 0) A n := fun hn p hp => ⟨(h hn p hp).1, by simp [Value.ownBlock]⟩
theorem Beside.less {g : Nat} {v : Value} {A : Option Addr} {n m : Nat} (h : Beside g v A n) (hm : 0 < m → 0 < n) : Beside g v A m := fun h0 => h (hm h0)
theorem Beside.cut {g : Nat} {v : Value} {A : Option Addr} {n m : Nat} (h : Beside g v A n) (hm : 0 < m → 0 < n) (c : Prop) [Decidable c] (j : Nat) : Beside g v (if c then A else A.map (·.add j)) m := by
  intro h0 p hp
  split at hp
  · exact h (hm h0) p hp
  · cases A with
    | none => simp at hp
    | some q =>
      simp at hp
      have h2 := h (hm h0) q rfl
      have hb : p.block = q.block := by rw [← hp]; unfold Addr.add; split <;> rfl
      rw [hb]; exact h2

/-- A wheel, and the document's list of it. -/
structure WQ (w : World) (B g : Nat) (room : Int) (A : Option Addr) (n c : Nat) (ts : List Tim) : Prop where
  wh : ∃ v, Whv w g room B v ts ∧ Beside g v A n
  rd : Rd w w.heap.size 4 A n ((sortT ts).flatMap Tim.cells)
  cap : n ≤ c
  once : Once ts
theorem WQ.len {w : World} {B g : Nat} {room : Int} {A : Option Addr} {n c : Nat} {ts : List Tim} (h : WQ w B g room A n c ts) : ts.length = n := by
  have := h.rd.len Tim.cells_len (by omega)
  rw [sortT_len] at this; exact this
theorem WQ.past {w w' : World} {B g : Nat} {room : Int} {A : Option Addr} {n c : Nat} {ts : List Tim} (h : WQ w B g room A n c ts) (hb : Below w.heap.size w w') : WQ w' B g room A n c ts := by
  obtain ⟨v, h1, h2⟩ := h.wh
  exact ⟨⟨v, h1.past hb, h2⟩, h.rd.past hb, h.cap, h.once⟩

/-- What a call on both leaves. -/
def DoesPost (B g : Nat) (room : Int) (w : World) (n : Nat) (e : Ending) (w' : World) : Prop :=
  ∃ A' n' c' ts', e = .returned (.tuple #[.slice A' n' c', .bool true]) ∧ WQ w' B g room A' n' c' ts' ∧ n' ≤ n + 1 ∧ Below B w w'
end Go.Proofs.Ytndhhnfhookeaaa
