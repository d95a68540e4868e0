import Derived.Test.YtfnhffcjhdeleaaBokP
import Derived.Test.YtfnhffcjhdeleaaBokI
namespace Go.Proofs.Ytfnhffcjhdeleaa
open Go.RowKit

/-! ### The document's Move; moves of less than nothing -/
set_option maxHeartbeats 2000000 in
set_option maxRecDepth 100000 in
theorem moveK_neg (g : Nat) (x y : Acc) (a z : Int) (w : World) (hz : z < 0) :
    Calls Try.prog 32 #[.pointer (some ⟨g, 0, none⟩), .agg #[.int .i64 x.kind, .int .i64 x.member], .agg #[.int .i64 y.kind, .int .i64 y.member], .int .i64 a, .int .i64 z] w fun e w' => e = .returned (.int .i64 1) ∧ Below w.heap.size w w' := by
  have hB0 := ((Below.refl w.heap.size w).alloc (Nat.le_refl _) (.cells #[.int .i64 x.kind, .int .i64 x.member] 38)).alloc (by simp) (.cells #[.int .i64 y.kind, .int .i64 y.member] 38)
  go_enter Try.func32, Try.ntmps32
  go_wp2_with fail
  go_ret
  exact ⟨rfl, hB0⟩
set_option maxHeartbeats 2000000 in
set_option maxRecDepth 100000 in
theorem refMove_neg (g : Nat) (x y : Acc) (a z : Int) (w : World) (hz : z < 0) :
    Calls Try.prog 33 #[.pointer (some ⟨g, 0, none⟩), .agg #[.int .i64 x.kind, .int .i64 x.member], .agg #[.int .i64 y.kind, .int .i64 y.member], .int .i64 a, .int .i64 z] w fun e w' => e = .returned (.int .i64 1) ∧ Below w.heap.size w w' := by
  have hB0 := ((Below.refl w.heap.size w).alloc (Nat.le_refl _) (.cells #[.int .i64 x.kind, .int .i64 x.member] 38)).alloc (by simp) (.cells #[.int .i64 y.kind, .int .i64 y.member] 38)
  go_enter Try.func33, Try.ntmps33
  go_wp2_with fail
  go_ret
  exact ⟨rfl, hB0⟩
theorem moveE_ok {x y : Acc} {a z : Int} (hix : inI x.kind ∧ inI x.member) (hiy : inI y.kind ∧ inI y.member) (hia : inI a) (hiz : inI z) (hz : 0 ≤ z) : ∀ e ∈ moveE x y a z, EntOk e := fun e he => by
  unfold moveE at he
  simp only [List.mem_cons, List.not_mem_nil, or_false] at he
  rcases he with rfl | rfl
  · exact ⟨hix.1, hix.2, hia, by unfold inI at hiz ⊢; simp only; omega⟩
  · exact ⟨hiy.1, hiy.2, hia, hiz⟩
set_option maxHeartbeats 4000000 in
set_option maxRecDepth 100000 in
theorem refMove_any (g base M A : Nat) (v : Value) (bl : List Int) (L : List Ent) (p : Int) (x y : Acc) (a z : Int) (w : World) (hM : M ≤ 16) (hA : A ≤ 9) (hinv : Inv M A bl L) (hx : RbkV w g base M A v L p) (hix : inI x.kind ∧ inI x.member) (hiy : inI y.kind ∧ inI y.member) (hia : inI a) (hiz : inI z) (hz : 0 ≤ z) (hLn : L.length ≤ 900) (hp : 0 ≤ p ∧ p ≤ 1000000) (hbase : base ≤ w.heap.size) :
    Calls Try.prog 33 #[.pointer (some ⟨g, 0, none⟩), .agg #[.int .i64 x.kind, .int .i64 x.member], .agg #[.int .i64 y.kind, .int .i64 y.member], .int .i64 a, .int .i64 z] w (PostRPost g base M A v bl L p (moveE x y a z) w) := by
  have bx := Blk.new w 38 #[.int .i64 x.kind, .int .i64 x.member] w.heap.size rfl
  have by_ := Blk.new (w.alloc (.cells #[.int .i64 x.kind, .int .i64 x.member] 38)) 38 #[.int .i64 y.kind, .int .i64 y.member] (w.heap.size + 1) (by simp)
  have hB0 := ((Below.refl w.heap.size w).alloc (Nat.le_refl _) (.cells #[.int .i64 x.kind, .int .i64 x.member] 38)).alloc (by simp) (.cells #[.int .i64 y.kind, .int .i64 y.member] 38)
  have bx := bx.alloc (.cells #[.int .i64 y.kind, .int .i64 y.member] 38)
  obtain ⟨W, hW⟩ : ∃ W, Hid ((w.alloc (.cells #[.int .i64 x.kind, .int .i64 x.member] 38)).alloc (.cells #[.int .i64 y.kind, .int .i64 y.member] 38) = W) := ⟨_, Lib.hid rfl⟩
  rw [hW.out] at bx by_ hB0
  have hWs := hB0.size
  have hB1 := hB0.alloc hB0.size (.cells #[.int .i64 x.kind, .int .i64 x.member, .int .i64 a, .int .i64 (-z), .int .i64 y.kind, .int .i64 y.member, .int .i64 a, .int .i64 z] 51)
  have hrl : Rd _ _ 4 _ 2 ((moveE x y a z).flatMap Ent.cells) := Rd.lit (n := 2) (sz := 4) W #[.int .i64 x.kind, .int .i64 x.member, .int .i64 a, .int .i64 (-z), .int .i64 y.kind, .int .i64 y.member, .int .i64 a, .int .i64 z] 51 W.heap.size rfl rfl
  have hbs : BesideK g v (some ⟨W.heap.size, 0, none⟩) := fun b off he => by
    cases he
    have := hx.blk.lt
    exact ⟨by omega, fun e => by have := (hx.row.lt _ e).2; omega⟩
  have HPO := Lib.hid (refPost_any g base M A v bl L p (some ⟨W.heap.size, 0, none⟩) 2 2 (moveE x y a z) _ hM hA hinv (hx.past hB1) hrl (fun _ => hbs) (by omega) (by unfold moveE; simp; omega) (moveE_ok hix hiy hia hiz hz) hp (by have := hB1.size; omega))
  unfold PostRPost at HPO
  obtain ⟨K, hK⟩ : ∃ K, Hid (postK M A bl (moveE x y a z) = K) := ⟨_, Lib.hid rfl⟩
  rw [hK.out] at HPO
  have HB1 := Lib.hid hB1
  have q0 : ¬ z < 0 := by omega
  have hw1 : IntKind.i64.wrap (-z) = -z := IntWalk.i64_in _ (by unfold inI at hiz; omega)
  have s0 := (bx).cell 0
  have s1 := (bx).cell 1
  simp at s0 s1
  have t0 := (by_).cell 0
  have t1 := (by_).cell 1
  simp at t0 t1
  clear bx by_ hB0 hB1 hrl hx hbs hinv
  go_enter Try.func33, Try.ntmps33
  go_upto_region 1 with fail
  rw [hW.out]
  go_wp2_with fail
  refine HPO.out.mono ?_
  rintro e w2 ⟨rfl, v', hbk, hon, how⟩
  have HBK := Lib.hid hbk
  have HON := Lib.hid (OnlyG.after HB1.out hon)
  have HOW : Hid (v'.ownBlock = v.ownBlock ∨ ∃ k, v'.ownBlock = some k ∧ w.heap.size ≤ k) := Lib.hid (by
    rcases how with h | ⟨k, h1, h2⟩
    · exact .inl h
    · exact .inr ⟨k, h1, by have := HB1.out.size; omega⟩)
  clear hbk hon how
  go_wp2_with fail
  go_ret
  exact ⟨by rw [hK.out]; rfl, v', HBK.out, HON.out, HOW.out⟩

/-! ### Moves of any amount -/
def mvK (M A : Nat) (bl : List Int) (x y : Acc) (a z : Int) : Int := if z < 0 then 1 else postK M A bl (moveE x y a z)
def mvB (M A : Nat) (bl : List Int) (x y : Acc) (a z : Int) : List Int := if z < 0 then bl else postB M A bl (moveE x y a z)
def mvP (M A : Nat) (bl : List Int) (x y : Acc) (a z p : Int) : Int := if z < 0 then p else postP M A bl (moveE x y a z) p
def mvL (M A : Nat) (bl : List Int) (L : List Ent) (x y : Acc) (a z : Int) : List Ent := if z < 0 then L else postLL M A bl L (moveE x y a z)
theorem mv_inv {M A : Nat} {bl : List Int} {L : List Ent} (hM : M ≤ 16) (h : Inv M A bl L) (x y : Acc) (a z : Int) : Inv M A (mvB M A bl x y a z) (mvL M A bl L x y a z) := by
  unfold mvB mvL
  split
  · exact h
  · exact h.post hM
def MoveKPost (g base M A : Nat) (v : Value) (bl : List Int) (p : Int) (x y : Acc) (a z : Int) (w : World) (e : Ending) (w' : World) : Prop :=
  e = .returned (.int .i64 (mvK M A bl x y a z)) ∧ BookV w' g base M A v (mvB M A bl x y a z) (mvP M A bl x y a z p) ∧ OnlyG g v w w'
theorem moveK_all (g base M A : Nat) (v : Value) (bl : List Int) (p : Int) (x y : Acc) (a z : Int) (w : World) (hx : BookV w g base M A v bl p) (hix : inI x.kind ∧ inI x.member) (hiy : inI y.kind ∧ inI y.member) (hia : inI a) (hiz : inI z) (hbl : ∀ z ∈ bl, inI z) (hp : 0 ≤ p ∧ p ≤ 1000000) :
    Calls Try.prog 32 #[.pointer (some ⟨g, 0, none⟩), .agg #[.int .i64 x.kind, .int .i64 x.member], .agg #[.int .i64 y.kind, .int .i64 y.member], .int .i64 a, .int .i64 z] w (MoveKPost g base M A v bl p x y a z w) := by
  by_cases hz : z < 0
  · refine (moveK_neg g x y a z w hz).mono ?_
    rintro e w' ⟨rfl, hb⟩
    exact ⟨by rw [mvK, if_pos hz], by rw [mvB, mvP, if_pos hz, if_pos hz]; exact hx.past hb, OnlyG.of_below hb⟩
  · refine (moveK_any g base M A v bl p x y a z w hx hix hiy hia hiz (by omega) hbl hp).mono ?_
    rintro e w' ⟨rfl, hb, ho⟩
    exact ⟨by rw [mvK, if_neg hz], by rw [mvB, mvP, if_neg hz, if_neg hz]; exact hb, ho⟩
def MoveRPost (g base M A : Nat) (v : Value) (bl : List Int) (L : List Ent) (p : Int) (x y : Acc) (a z : Int) (w : World) (e : Ending) (w' : World) : Prop :=
  e = .returned (.int .i64 (mvK M A bl x y a z)) ∧ ∃ v', RbkV w' g base M A v' (mvL M A bl L x y a z) (mvP M A bl x y a z p) ∧ OnlyG g v w w' ∧ (v'.ownBlock = v.ownBlock ∨ ∃ k, v'.ownBlock = some k ∧ w.heap.size ≤ k)
theorem refMove_all (g base M A : Nat) (v : Value) (bl : List Int) (L : List Ent) (p : Int) (x y : Acc) (a z : Int) (w : World) (hM : M ≤ 16) (hA : A ≤ 9) (hinv : Inv M A bl L) (hx : RbkV w g base M A v L p) (hix : inI x.kind ∧ inI x.member) (hiy : inI y.kind ∧ inI y.member) (hia : inI a) (hiz : inI z) (hLn : L.length ≤ 900) (hp : 0 ≤ p ∧ p ≤ 1000000) (hbase : base ≤ w.heap.size) :
    Calls Try.prog 33 #[.pointer (some ⟨g, 0, none⟩), .agg #[.int .i64 x.kind, .int .i64 x.member], .agg #[.int .i64 y.kind, .int .i64 y.member], .int .i64 a, .int .i64 z] w (MoveRPost g base M A v bl L p x y a z w) := by
  by_cases hz : z < 0
  · refine (refMove_neg g x y a z w hz).mono ?_
    rintro e w' ⟨rfl, hb⟩
    exact ⟨by rw [mvK, if_pos hz], v, by rw [mvL, mvP, if_pos hz, if_pos hz]; exact hx.past hb, OnlyG.of_below hb, .inl rfl⟩
  · refine (refMove_any g base M A v bl L p x y a z w hM hA hinv hx hix hiy hia hiz (by omega) hLn hp hbase).mono ?_
    rintro e w' ⟨rfl, v', hb, ho, hw⟩
    exact ⟨by rw [mvK, if_neg hz], v', by rw [mvL, mvP, if_neg hz, if_neg hz]; exact hb, ho, hw⟩
end Go.Proofs.Ytfnhffcjhdeleaa
