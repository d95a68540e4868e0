import Derived.Test.YtelbolhckhdioaaBokP
import Derived.Test.YtelbolhckhdioaaBokI
namespace Go.Proofs.Ytelbolhckhdioaa
open Go.RowKit

/-! ### The document's Move; moves of less than nothing -/
set_option maxHeartbeats 2000000 in
set_option maxRecDepth 100000 in
theorem moveK_neg (g : Nat) (x y : Acc) (a z : Int) (w : World) (hz : z < 0) :
    Calls Try.prog 52 #[.pointer (some ⟨g, 0, none⟩), .agg #[.int .i64 x.kind, .int .i64 x.member], .agg #[.int .i64 y.kind, .int .i64 y.member], .int .i64 a, .int .i64 z] w fun e w' => e = .returned (.int .i64 1) ∧ Below w.heap.size w w' := by
  have hB0 := ((Below.refl w.heap.size w).alloc (Nat.le_refl _) (.cells #[.int .i64 x.kind, .int .i64 x.member] 52)).alloc (by simp) (.cells #[.int .i64 y.kind, .int .i64 y.member] 52)
  go_enter Try.func52, Try.ntmps52
  go_wp2_with fail
  go_ret
  exact ⟨rfl, hB0⟩
theorem moveE_ok {x y : Acc} {a z : Int} (hix : inI x.kind ∧ inI x.member) (hiy : inI y.kind ∧ inI y.member) (hia : inI a) (hiz : inI z) (hz : 0 ≤ z) : ∀ e ∈ moveE x y a z, EntOk e := fun e he => by
  unfold moveE at he
  simp only [List.mem_cons, List.not_mem_nil, or_false] at he
  rcases he with rfl | rfl
  · exact ⟨hix.1, hix.2, hia, by unfold inI at hiz ⊢; simp only; omega⟩
  · exact ⟨hiy.1, hiy.2, hia, hiz⟩
def mvK (M A : Nat) (bl : List Int) (x y : Acc) (a z : Int) : Int := if z < 0 then 1 else postK M A bl (moveE x y a z)
def mvB (M A : Nat) (bl : List Int) (x y : Acc) (a z : Int) : List Int := if z < 0 then bl else postB M A bl (moveE x y a z)
def mvP (M A : Nat) (bl : List Int) (x y : Acc) (a z p : Int) : Int := if z < 0 then p else postP M A bl (moveE x y a z) p
def mvL (M A : Nat) (bl : List Int) (L : List Ent) (x y : Acc) (a z : Int) : List Ent := if z < 0 then L else postLL M A bl L (moveE x y a z)
theorem mv_inv {M A : Nat} {bl : List Int} {L : List Ent} (hM : M ≤ 16) (h : Inv M A bl L) (x y : Acc) (a z : Int) : Inv M A (mvB M A bl x y a z) (mvL M A bl L x y a z) := by
  unfold mvB mvL
  split
  · exact h
  · exact h.post hM
def MoveKPost (g base M A : Nat) (v : Value) (bl : List Int) (p : Int) (x y : Acc) (a z : Int) (w : World) (e : Ending) (w' : World) : Prop :=
  e = .returned (.int .i64 (mvK M A bl x y a z)) ∧ BookV w' g base M A v (mvB M A bl x y a z) (mvP M A bl x y a z p) ∧ OnlyG g v w w'
theorem moveK_all (g base M A : Nat) (v : Value) (bl : List Int) (p : Int) (x y : Acc) (a z : Int) (w : World) (hx : BookV w g base M A v bl p) (hix : inI x.kind ∧ inI x.member) (hiy : inI y.kind ∧ inI y.member) (hia : inI a) (hiz : inI z) (hbl : ∀ z ∈ bl, inI z) (hp : 0 ≤ p ∧ p ≤ 1000000) :
    Calls Try.prog 52 #[.pointer (some ⟨g, 0, none⟩), .agg #[.int .i64 x.kind, .int .i64 x.member], .agg #[.int .i64 y.kind, .int .i64 y.member], .int .i64 a, .int .i64 z] w (MoveKPost g base M A v bl p x y a z w) := by
  by_cases hz : z < 0
  · refine (moveK_neg g x y a z w hz).mono ?_
    rintro e w' ⟨rfl, hb⟩
    exact ⟨by rw [mvK, if_pos hz], by rw [mvB, mvP, if_pos hz, if_pos hz]; exact hx.past hb, OnlyG.of_below hb⟩
  · refine (moveK_any g base M A v bl p x y a z w hx hix hiy hia hiz (by omega) hbl hp).mono ?_
    rintro e w' ⟨rfl, hb, ho⟩
    exact ⟨by rw [mvK, if_neg hz], by rw [mvB, mvP, if_neg hz, if_neg hz]; exact hb, ho⟩
def MoveRPost (g base M A : Nat) (v : Value) (bl : List Int) (L : List Ent) (p : Int) (x y : Acc) (a z : Int) (w : World) (e : Ending) (w' : World) : Prop :=
  e = .returned (.int .i64 (mvK M A bl x y a z)) ∧ ∃ v', RbkV w' g base M A v' (mvL M A bl L x y a z) (mvP M A bl x y a z p) ∧ OnlyG g v w w' ∧ (v'.ownBlock = v.ownBlock ∨ ∃ k, v'.ownBlock = some k ∧ w.heap.size ≤ k)
end Go.Proofs.Ytelbolhckhdioaa
