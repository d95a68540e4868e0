import Derived.Test.YtoohfbgbhjadgaaKeyE
namespace Go.Proofs.Ytoohfbgbhjadgaa
open Go.RowKit

set_option maxHeartbeats 1000000 in
theorem rankCompares_long (A1 : Option Addr) (n1 c1 : Nat) (A2 : Option Addr) (n2 c2 : Nat) (A3 : Option Addr) (n3 c3 : Nat) (w : World) (h : 20 < n1 ∨ 20 < n2 ∨ 20 < n3) :
    Calls Try.prog 3 #[.slice A1 n1 c1, .slice A2 n2 c2, .slice A3 n3 c3] w fun e w' => e = .returned (.bool true) ∧ Below w.heap.size w w' := by
  by_cases h1 : 20 < n1
  · have q1 : (20 : Int) < (n1 : Int) := by omega
    clear h
    go_enter Try.func3, Try.ntmps3
    go_wp2_with fail
    refine (awake5 _).mono ?_
    rintro e w1 ⟨rfl, hb⟩
    go_wp2_with fail
    go_ret
    exact ⟨rfl, hb⟩
  · have q1 : ¬ (20 : Int) < (n1 : Int) := by omega
    by_cases h2 : 20 < n2
    · have q2 : (20 : Int) < (n2 : Int) := by omega
      clear h
      go_enter Try.func3, Try.ntmps3
      go_wp2_with fail
      refine (awake5 _).mono ?_
      rintro e w1 ⟨rfl, hb⟩
      go_wp2_with fail
      go_ret
      exact ⟨rfl, hb⟩
    · have q2 : ¬ (20 : Int) < (n2 : Int) := by omega
      have q3 : (20 : Int) < (n3 : Int) := by omega
      clear h
      go_enter Try.func3, Try.ntmps3
      go_wp2_with fail
      refine (awake5 _).mono ?_
      rintro e w1 ⟨rfl, hb⟩
      go_wp2_with fail
      go_ret
      exact ⟨rfl, hb⟩

set_option maxHeartbeats 4000000 in
theorem rankCompares_few (A1 : Option Addr) (n1 c1 : Nat) (A2 : Option Addr) (n2 c2 : Nat) (A3 : Option Addr) (n3 c3 : Nat) (xs ys zs : List Int) (w : World) (hr1 : Rd w w.heap.size 1 A1 n1 (xs.flatMap iC)) (hr2 : Rd w w.heap.size 1 A2 n2 (ys.flatMap iC)) (hr3 : Rd w w.heap.size 1 A3 n3 (zs.flatMap iC)) (h1 : n1 ≤ 20) (h2 : n2 ≤ 20) (h3 : n3 ≤ 20) :
    Calls Try.prog 3 #[.slice A1 n1 c1, .slice A2 n2 c2, .slice A3 n3 c3] w fun e w' => e = .returned (.bool true) ∧ Below w.heap.size w w' := by
  have q1 : ¬ (20 : Int) < (n1 : Int) := by omega
  have q2 : ¬ (20 : Int) < (n2 : Int) := by omega
  have q3 : ¬ (20 : Int) < (n3 : Int) := by omega
  have k1 := Lib.hid (rankCmp_any A1 n1 c1 A2 n2 c2 xs ys _ _ w hr1 hr2 (by omega) (by omega))
  have k2 := Lib.hid (rankCmp_any A2 n2 c2 A3 n3 c3 ys zs _ _ w hr2 hr3 (by omega) (by omega))
  have k3 := Lib.hid (rankCmp_any A1 n1 c1 A3 n3 c3 xs zs _ _ w hr1 hr3 (by omega) (by omega))
  have k4 := Lib.hid (refCmp_any A1 n1 c1 A2 n2 c2 xs ys _ _ w hr1 hr2 (by omega) (by omega))
  have k5 := Lib.hid (fun w' (hd : Drawn w w') => rankCmp_any A2 n2 c2 A1 n1 c1 ys xs _ _ w' (hr2.keep fun p _ => hd.keep p) (hr1.keep fun p _ => hd.keep p) (by omega) (by omega))
  have k6 := Lib.hid (fun w' (hd : Drawn w w') => rankCmp_any A1 n1 c1 A1 n1 c1 xs xs _ _ w' (hr1.keep fun p _ => hd.keep p) (hr1.keep fun p _ => hd.keep p) (by omega) (by omega))
  have t1 := cmpL_bd xs ys
  have t2 := cmpL_bd ys zs
  have t3 := cmpL_bd xs zs
  have t4 := cmpL_swap xs ys
  have t5 := cmpL_refl xs
  have t6 : cmpL xs ys ≤ 0 → cmpL ys zs ≤ 0 → cmpL xs zs ≤ 0 := cmpL_le_tr
  have t7 : cmpL xs ys = 0 → cmpL xs zs = cmpL ys zs := fun h => by rw [cmpL_eq h]
  rw [t4] at k5
  rw [t5] at k6
  clear t4 t5 hr1 hr2 hr3
  generalize cmpL xs ys = X at *
  generalize cmpL ys zs = Y at *
  generalize cmpL xs zs = Z at *
  have hX : X = -1 ∨ X = 0 ∨ X = 1 := by omega
  have hY : Y = -1 ∨ Y = 0 ∨ Y = 1 := by omega
  have hZ : Z = -1 ∨ Z = 0 ∨ Z = 1 := by omega
  rcases hX with rfl | rfl | rfl <;> rcases hY with rfl | rfl | rfl <;> rcases hZ with rfl | rfl | rfl <;> first | (exfalso; omega) | skip
  all_goals
    clear t1 t2 t3 t6 t7
    go_enter Try.func3, Try.ntmps3
    go_wp2_with fail
    refine k1.out.mono ?_
    rintro e w' ⟨rfl, rfl⟩
    go_wp2_with fail
    refine k2.out.mono ?_
    rintro e w' ⟨rfl, rfl⟩
    go_wp2_with fail
    refine k3.out.mono ?_
    rintro e w' ⟨rfl, rfl⟩
    go_wp2_with fail
    refine k4.out.mono ?_
    rintro e w1 ⟨rfl, hd⟩
    have HD := Lib.hid hd
    clear hd
    go_wp2_with fail
    refine (k5.out w1 HD.out).mono ?_
    rintro e w' ⟨rfl, rfl⟩
    go_wp2_with fail
    refine (k6.out w1 HD.out).mono ?_
    rintro e w' ⟨rfl, rfl⟩
    go_wp2_with fail
    refine (awake5 w1).mono ?_
    rintro e w2 ⟨rfl, hb⟩
    go_wp2_with fail
    go_ret
    exact ⟨rfl, Below.next HD.out.bel hb⟩
end Go.Proofs.Ytoohfbgbhjadgaa
