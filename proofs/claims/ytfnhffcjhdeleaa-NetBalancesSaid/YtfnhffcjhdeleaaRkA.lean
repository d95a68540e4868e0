import Derived.Test.YtfnhffcjhdeleaaBase
import Derived.Test.YtfnhffcjhdeleaaRkR
import Derived.Shelf.SlSortCmp.Insertion
import Derived.Sort.WalkA
import Derived.Sort.WalkC
import Derived.Deep.LoopGhost
import Derived.Deep.QuietTactic
import Derived.BigQuiet
import Derived.BigRegion
import Derived.WalkKit
import Derived.Laws.BitsLemmas
namespace Go.Proofs.Ytfnhffcjhdeleaa
open Go.RowKit Go.Lib Go.Sort Go.Proofs

/-- What a call of the sort leaves: another row, that meets Q; the rest of the world as it was. -/
def SrtPost (enc : Nat → Value) (w : World) (blk off : Nat) (Q : Array Nat → Prop) (e : Ending) (w' : World) : Prop :=
  e = .returned (.tuple #[]) ∧ ∃ (d' : Array Nat) (m : Nat), Q d' ∧ w' = (putRow enc w blk off d').drewN m

set_option maxHeartbeats 4000000 in
set_option maxRecDepth 1000000 in
theorem swapRange_any (enc : Nat → Value) (hO : OneCell enc) (blk off cap a b n : Nat) (d : Array Nat) (f : Value) (w : World) (hH : Holds enc w blk off d) (hab : a + n ≤ b) (hb : b + n ≤ d.size) (hsz : d.size ≤ 1000000) :
    Calls Try.prog 165 #[.slice (some ⟨blk, off, none⟩) d.size cap, .int .i64 a, .int .i64 b, .int .i64 n, f] w (SrtPost enc w blk off (Sh (swpI a b n) d)) := by
  have hcl0 := hO.cells
  simp only [Value.cells] at hcl0
  have hst := hO.store Try.prog
  have HST : Hid (w = (putRow enc w blk off d).drewN 0) := (putRow_self enc w blk off d hH).symm
  have HH : Hid (Holds enc w blk off d) := hH
  clear hH
  go_enter Try.func165, Try.ntmps165
  go_wp2
  go_loopg [10] n (fun g1 vi wr => ∃ (i m : Nat) (di : Array Nat), vi = .int .i64 i ∧ i ≤ n ∧ n - i ≤ g1 ∧ di.size = d.size ∧ wr = (putRow enc w blk off di).drewN m ∧ Hid (Sh (swpI a b i) d di))
  case atStart => exact ⟨0, 0, d, rfl, by omega, by omega, rfl, HST.out, Sh.swpI_zero d a b⟩
  case round =>
    obtain ⟨i, m, di, rfl, hin, hg1, hsk, rfl, HS⟩ := hrel
    by_cases hlt : i < n
    · have hltz : (i : Int) < (n : Int) := by omega
      have hHi := holds_putRow enc w blk off d di HH.out hsk
      obtain ⟨x, hx⟩ : ∃ x, x = a + i := ⟨_, rfl⟩
      obtain ⟨y, hy⟩ : ∃ y, y = b + i := ⟨_, rfl⟩
      have X : Hid (x = a + i) := hx
      have Y : Hid (y = b + i) := hy
      have hxs : x < d.size := by omega
      have hys : y < d.size := by omega
      obtain ⟨xa, hxa⟩ : ∃ u, di[x]! = u := ⟨_, rfl⟩
      obtain ⟨xb, hxb⟩ : ∃ u, di[y]! = u := ⟨_, rfl⟩
      obtain ⟨ca, fa⟩ := hHi x (by omega)
      obtain ⟨cb, fb⟩ := hHi y (by omega)
      rw [hxa] at ca
      rw [hxb] at cb
      have XA : Hid (di[x]! = xa) := hxa
      have XB : Hid (di[y]! = xb) := hxb
      have w1 : IntKind.i64.wrap ((a : Int) + (i : Int)) = (x : Int) := by rw [IntKind.wrap_i64]; omega
      have w2 : IntKind.i64.wrap ((b : Int) + (i : Int)) = (y : Int) := by rw [IntKind.wrap_i64]; omega
      have z1 : (x : Int) < (d.size : Int) := by omega
      have z2 : (y : Int) < (d.size : Int) := by omega
      clear hHi hx hy hxa hxb
      have ca' : ((putRow enc w blk off di).drewN m).cell? ⟨blk, off + x, none⟩ = some (enc xa) := ca
      have cb' : ((putRow enc w blk off di).drewN m).cell? ⟨blk, off + y, none⟩ = some (enc xb) := cb
      have fa' : ((putRow enc w blk off di).drewN m).frozen? ⟨blk, off + x, none⟩ = false := fa
      have fb' : ((putRow enc w blk off di).drewN m).frozen? ⟨blk, off + y, none⟩ = false := fb
      clear ca cb fa fb
      obtain ⟨wq, hwq⟩ : ∃ wq, wq = (putRow enc w blk off di).drewN m := ⟨_, rfl⟩
      rw [← hwq] at ca' cb' fa' fb' ⊢
      have HW : Hid (wq = (putRow enc w blk off di).drewN m) := hwq
      clear hwq
      have cb2 : (wq.setCell ⟨blk, off + x, none⟩ (enc xb)).cell? ⟨blk, off + y, none⟩ = some (enc xb) :=
        (World.cell?_setCell_other _ _ _ _ (by have := X.out; have := Y.out; intro e'; simp only [Addr.mk.injEq] at e'; omega)).trans cb'
      go_wp2_with fail
      go_region
      all_goals go_wp2
      go_roundg (n - (i + 1))
      case measure => omega
      case rel =>
        refine ⟨i + 1, m + 1, swp di x y, by go_num, by omega, by omega, by rw [size_swp]; exact hsk, ?_, ?_⟩
        · rw [HW.out, ← XA.out, ← XB.out]
          exact swap_worldC enc w blk off di m x y (by omega) (by omega)
        · have := HS.out.swpI_step (by omega) (by omega)
          rw [← X.out, ← Y.out] at this
          exact this
    · have hltz : ¬ (i : Int) < (n : Int) := by omega
      go_wp2
      go_end0
      obtain rfl : i = n := by omega
      exact ⟨rfl, di, m, HS.out, rfl⟩
end Go.Proofs.Ytfnhffcjhdeleaa
