import Derived.Test.YtfnhffcjhdeleaaBidF
namespace Go.Proofs.Ytfnhffcjhdeleaa
open Go.RowKit

set_option maxHeartbeats 1000000 in
theorem bidP_any (q p : Int) (w : World) : Calls Try.prog 95 #[.int .i64 q, .int .i64 p] w fun e w' => e = .returned (.agg #[.int .i64 0, .int .i64 1, .int .i64 1, .int .i64 q, .int .i64 p]) ∧ Below w.heap.size w w' := by
  go_enter Try.func95, Try.ntmps95
  go_wp2_with fail
  refine bodyPost_ret (v := .agg #[.int .i64 0, .int .i64 1, .int .i64 1, .int .i64 q, .int .i64 p]) (by simp [results, Try.results95, go_sem]) rfl ⟨rfl, ?_⟩
  exact (Below.refl _ _).alloc (Nat.le_refl _) _

theorem page_b1 : checkB pageCf 2 1 ⟨0, 1, 1, 5, 12⟩ = 0 := by decide
theorem page_b2 : checkB pageCf 2 1 ⟨0, 1, 1, 6, 11⟩ = 0 := by decide
theorem page_b3 : checkB pageCf 2 1 ⟨0, 1, 1, 7, 12⟩ = 0 := by decide
theorem page_b4 : checkB pageCf 2 1 ⟨0, 1, 1, 7, 13⟩ = 15 := by decide
theorem page_ord : ordK [[12, 1], [11, 2], [12, 3]] = [1, 0, 2] :=
  (ordK_only (keys := [[12, 1], [11, 2], [12, 3]]) (l := [1, 0, 2]) (by decide) (by intro x; simp; omega)).symm
theorem page_sort : sortB ([⟨1, 1, 1, 5, 12⟩, ⟨2, 1, 1, 6, 11⟩, ⟨3, 1, 1, 7, 12⟩].filter (secF 1)) = [⟨2, 1, 1, 6, 11⟩, ⟨1, 1, 1, 5, 12⟩, ⟨3, 1, 1, 7, 12⟩] := by
  have h : [⟨1, 1, 1, 5, 12⟩, ⟨2, 1, 1, 6, 11⟩, ⟨3, 1, 1, 7, 12⟩].filter (secF 1) = ([⟨1, 1, 1, 5, 12⟩, ⟨2, 1, 1, 6, 11⟩, ⟨3, 1, 1, 7, 12⟩] : List BidV) := rfl
  rw [h, sortB]
  show (ordK [[12, 1], [11, 2], [12, 3]]).map _ = _
  rw [page_ord]; rfl
end Go.Proofs.Ytfnhffcjhdeleaa
