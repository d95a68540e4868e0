import Derived.Test.YtndhhnfhookeaaaBidO
namespace Go.Proofs.Ytndhhnfhookeaaa
open Go.RowKit

set_option maxHeartbeats 2000000 in
set_option maxRecDepth 100000 in
theorem secB_nil (sec : Int) (w : World) : Calls Try.prog 49 #[.pointer none, .int .i64 sec] w fun e w' => e = .returned (.slice none 0 0) ∧ Below w.heap.size w w' := by
  have HO := Lib.hid (order_any none 0 0 [] w (Rd.nil _ _ _ _) (fun v hv => by cases hv) (by omega))
  go_enter Try.func49, Try.ntmps49
  go_wp2_with fail
  refine (allB_nil _).mono ?_
  rintro e w1 ⟨rfl, rfl⟩
  go_wp2_with fail
  go_loopw [5, 7, 9, 15] (fun v5 v7 _ i wr => v5 = .slice none 0 0 ∧ v7 = .slice none 0 0 ∧ i = .int .i64 0 ∧ wr = w) (fun _ _ _ _ _ => 0)
  case atStart => exact ⟨rfl, rfl, rfl, rfl⟩
  case round =>
    obtain ⟨rfl, rfl, rfl, rfl⟩ := hrel
    go_wp2_with fail
    refine HO.out.mono ?_
    rintro e w2 ⟨A2, c2, rfl, ho, hb2, _⟩
    go_wp2_with fail
    go_loopw [6, 11, 39] (fun v _ i wz => v = .slice none 0 0 ∧ i = .int .i64 0 ∧ wz = w2) (fun _ _ _ _ => 0)
    case atStart => exact ⟨rfl, rfl, rfl⟩
    case round =>
      obtain ⟨rfl, rfl, rfl⟩ := hrel
      go_wp2_with fail
      go_ret
      exact ⟨rfl, hb2⟩
end Go.Proofs.Ytndhhnfhookeaaa
