import Derived.Test.YtfilpmmimpkfmaaMonE
namespace Go.Proofs.Ytfilpmmimpkfmaa
open Go.RowKit

theorem part_u64 (D : Nat → Int) (j : Nat) (hj : j < 8) (w : World) : (part 22 (arr8 D) (j * 1)).run Try.prog w = .ok (.int .u64 (D j)) w := by
  obtain rfl | rfl | rfl | rfl | rfl | rfl | rfl | rfl : j = 0 ∨ j = 1 ∨ j = 2 ∨ j = 3 ∨ j = 4 ∨ j = 5 ∨ j = 6 ∨ j = 7 := by omega
  all_goals kernel_rfl

theorem eq_one (D : Nat → Int) (j : Nat) (hj : j < 8) (w : World) : (Op.equalIn (9998 + 1) 22 (.int .u64 (D j)) (.int .u64 (D j))).run Try.prog w = .ok true w := by
  have := run_equalIn_int (P := Try.prog) w 9998 22 .u64 .u64 (D j) (D j) Try.underlying22
  rw [this]; simp

theorem eq_arr8 (D : Nat → Int) (w : World) : (Op.equalIn (9998 + 1 + 1) 25 (.agg (arr8 D)) (.agg (arr8 D))).run Try.prog w = .ok true w := by
  have hs : (sizeOf 22).run Try.prog w = .ok 1 w := by kernel_rfl
  have hp := fun j hj => part_u64 D j hj w
  have he := fun j hj => eq_one D j hj w
  have p0 := hp 0 (by omega); have p1 := hp 1 (by omega); have p2 := hp 2 (by omega); have p3 := hp 3 (by omega); have p4 := hp 4 (by omega); have p5 := hp 5 (by omega); have p6 := hp 6 (by omega); have p7 := hp 7 (by omega)
  have e0 := he 0 (by omega); have e1 := he 1 (by omega); have e2 := he 2 (by omega); have e3 := he 3 (by omega); have e4 := he 4 (by omega); have e5 := he 5 (by omega); have e6 := he 6 (by omega); have e7 := he 7 (by omega)
  clear hp he
  rw [Op.equalIn]
  simp only [Sem.run_bind, run_underlying Try.underlying25, Result.andThen_ok, hs]
  rw [show (forIn [:8] : (Option Bool × Unit) → _) = forIn (List.range' 0 8) from by funext; rw [Std.Legacy.Range.forIn_eq_forIn_range']; rfl]
  rw [show List.range' 0 8 = [0, 1, 2, 3, 4, 5, 6, 7] from rfl]
  simp only [List.forIn_cons, List.forIn_nil, Sem.run_bind, Result.andThen_ok, p0, p1, p2, p3, p4, p5, p6, p7, e0, e1, e2, e3, e4, e5, e6, e7, Bool.not_true, Bool.false_eq_true, if_false, Sem.run_pure]

theorem eql_arr8 (D : Nat → Int) (w : World) : (binOp .eql 25 (.agg (arr8 D)) (.agg (arr8 D))).run Try.prog w = .ok (.bool true) w := by
  rw [run_eql_struct]
  have := eq_arr8 D w
  rw [show (10000 : Nat) = 9998 + 1 + 1 from rfl, this]
  rfl
end Go.Proofs.Ytfilpmmimpkfmaa
