import Derived.Test.YtjkabmijkbpodaaTradN
namespace Go.Proofs.Ytjkabmijkbpodaa
open Go.RowKit

structure Comm where
  kind : Int
  id : Int
  member : Int
  other : Int
  sec : Int
  qty : Int
  price : Int

set_option maxHeartbeats 1000000 in
theorem of_yes (x : Comm) (w : World) (h : x.kind = 2) :
    Calls Try.prog 47 #[.agg #[.int .i64 x.kind, .int .i64 x.id, .int .i64 x.member, .int .i64 x.other, .int .i64 x.sec, .int .i64 x.qty, .int .i64 x.price]] w fun e w' =>
      e = .returned (.tuple #[.agg #[.int .i64 x.id, .int .i64 x.member, .int .i64 x.other, .int .i64 x.sec, .int .i64 x.qty, .int .i64 x.price], .int .i64 0]) ∧ Below w.heap.size w w' := by
  have q : (x.kind == 2) = true := by simpa using h
  clear h
  go_enter Try.func47, Try.ntmps47
  go_wp2_with fail
  refine bodyPost_ret (v := .tuple #[.agg #[.int .i64 x.id, .int .i64 x.member, .int .i64 x.other, .int .i64 x.sec, .int .i64 x.qty, .int .i64 x.price], .int .i64 0]) (by simp [results, Try.results47, go_sem]) rfl ⟨rfl, ?_⟩
  exact ((Below.refl _ _).alloc (Nat.le_refl _) _).alloc (by simp) _

set_option maxHeartbeats 1000000 in
theorem of_no (x : Comm) (w : World) (h : x.kind ≠ 2) :
    Calls Try.prog 47 #[.agg #[.int .i64 x.kind, .int .i64 x.id, .int .i64 x.member, .int .i64 x.other, .int .i64 x.sec, .int .i64 x.qty, .int .i64 x.price]] w fun e w' =>
      e = .returned (.tuple #[.agg #[.int .i64 0, .int .i64 0, .int .i64 0, .int .i64 0, .int .i64 0, .int .i64 0], .int .i64 3]) ∧ Below w.heap.size w w' := by
  have q : (x.kind == 2) = false := by simpa using h
  clear h
  go_enter Try.func47, Try.ntmps47
  go_wp2_with fail
  refine bodyPost_ret (v := .tuple #[.agg #[.int .i64 0, .int .i64 0, .int .i64 0, .int .i64 0, .int .i64 0, .int .i64 0], .int .i64 3]) (by simp [results, Try.results47, go_sem]) rfl ⟨rfl, ?_⟩
  exact ((Below.refl _ _).alloc (Nat.le_refl _) _).alloc (by simp) _
end Go.Proofs.Ytjkabmijkbpodaa
