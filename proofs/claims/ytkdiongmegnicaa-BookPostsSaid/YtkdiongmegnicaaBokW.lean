import Derived.Test.YtkdiongmegnicaaBokI
namespace Go.Proofs.Ytkdiongmegnicaa
open Go.RowKit

/-! ### Right; the nil book -/
def right14B (m a : Int) : Bool := decide (0 ≤ m) && (decide (m ≤ 16) && (decide (1 ≤ a) && decide (a ≤ 9)))
set_option maxHeartbeats 2000000 in
theorem right14_any (m a : Int) (w : World) : Calls Try.prog 14 #[.int .i64 m, .int .i64 a] w fun e w' => e = .returned (.bool (right14B m a)) ∧ w = w' := by
  unfold right14B
  by_cases h1 : 0 ≤ m
  · by_cases h2 : m ≤ 16
    · by_cases h3 : 1 ≤ a
      · by_cases h4 : a ≤ 9
        · go_enter Try.func14, Try.ntmps14
          go_wp2_with fail
          go_ret
          exact ⟨by simp [h1, h2, h3, h4], rfl⟩
        · go_enter Try.func14, Try.ntmps14
          go_wp2_with fail
          go_ret
          exact ⟨by simp [h4], rfl⟩
      · go_enter Try.func14, Try.ntmps14
        go_wp2_with fail
        go_ret
        exact ⟨by simp; omega, rfl⟩
    · go_enter Try.func14, Try.ntmps14
      go_wp2_with fail
      go_ret
      exact ⟨by simp; omega, rfl⟩
  · go_enter Try.func14, Try.ntmps14
    go_wp2_with fail
    go_ret
    exact ⟨by simp; omega, rfl⟩
set_option maxHeartbeats 1000000 in
theorem post_nil (v : Value) (w : World) : Calls Try.prog 15 #[.pointer none, v] w fun e w' => e = .returned (.int .i64 8) ∧ w = w' := by
  go_enter Try.func15, Try.ntmps15
  go_wp2_with fail
  go_ret
  exact ⟨rfl, rfl⟩
set_option maxHeartbeats 1000000 in
theorem posted_nil (w : World) : Calls Try.prog 16 #[.pointer none] w fun e w' => e = .returned (.int .i64 0) ∧ w = w' := by
  go_enter Try.func16, Try.ntmps16
  go_wp2_with fail
  go_ret
  exact ⟨rfl, rfl⟩
end Go.Proofs.Ytkdiongmegnicaa
