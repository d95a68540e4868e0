import Derived.Test.YtfilpmmimpkfmabDoorChaC
import Derived.Deep.RegionHeld3
namespace Go.Proofs.YtfilpmmimpkfmabDoor
open Go.RowKit

theorem acc_neq (x y : Acc) (v : Bool) (hv : eqA x y = v) (w : World) : (binOp .neq 23 (.agg #[.int .i64 x.kind, .int .i64 x.member]) (.agg #[.int .i64 y.kind, .int .i64 y.member])).run Tryd.prog w = .ok (.bool (!v)) w := by
  have u3 := Tryd.underlying3
  have hS : Tryd.prog.underlying 23 = some (.struct (Tryd.prog.fieldsOf 23)) := by kernel_rfl
  have hp : Tryd.prog.stoodInHeld 23 = false := by kernel_rfl
  subst hv
  rw [run_neq_struct, show (10000 : Nat) = 9999 + 1 from rfl, run_equalIn_agg w 9999 23 _ _ hS hp]
  simp only [Program.fieldsOf, Tryd.underlying23]
  go_simp
  unfold eqA
  by_cases h1 : x.kind = y.kind <;> by_cases h2 : x.member = y.member <;> simp [h1, h2]
theorem eqA_refl (x : Acc) : eqA x x = true := by simp [eqA]
theorem free_at (a : Acc) (v : Bool) (h : (a.kind == 5 || a.kind == 6 || a.kind == 7) = v) (w : World) : Calls Tryd.prog 13 #[.agg #[.int .i64 a.kind, .int .i64 a.member]] w fun e w' => e = .returned (.bool v) ∧ Below w.heap.size w w' := by
  rw [← h]; exact free_any a w
theorem ChOk.drew {w : World} (h : ChOk w) : ChOk w.drew := h
theorem allA_nn (m : Int) (h : ¬ (m < 0 ∨ 16 < m)) : ∃ M : Nat, m = M ∧ M ≤ 16 := ⟨m.toNat, by omega, by omega⟩

set_option maxRecDepth 10000 in
set_option maxHeartbeats 8000000 in
theorem chartNumbers_not (m : Int) (a : Acc) (n : Int) (w : World) (hw : ChOk w) (h : m < 0 ∨ 16 < m) :
    Calls Tryd.prog 3 #[.int .i64 m, .agg #[.int .i64 a.kind, .int .i64 a.member], .int .i64 n] w fun e w' => e = .returned (.bool true) ∧ Below w.heap.size w w' := by
  obtain ⟨k, b⟩ := a
  dsimp only
  have hB0 := (Below.refl w.heap.size w).alloc (Nat.le_refl _) (.cells #[.int .i64 k, .int .i64 b] 23)
  have bx0 := Blk.new w 23 #[.int .i64 k, .int .i64 b] w.heap.size rfl
  have HN : Hid (numA m ⟨k, b⟩ = (0, 8)) := Lib.hid (by rw [numA, if_pos h])
  have Hh := Lib.hid h
  clear h
  have TA := Lib.hid (fun w (h : n < 0 ∨ 0 ≤ n) => acct_not m n 0 (count_not m Hh.out) h w)
  have hor : Hid (n < 0 ∨ 0 ≤ n) := Lib.hid (by omega)
  have hq := fun w => acc_neq ⟨0, 0⟩ ⟨0, 0⟩ true rfl w
  go_enter Tryd.func3, Tryd.ntmps3
  go_wp2_with fail
  refine (all_not m _ Hh.out).mono ?_
  rintro e w' ⟨rfl, rfl⟩
  go_wp2_with fail
  refine (count_not m Hh.out _).mono ?_
  rintro e w' ⟨rfl, rfl⟩
  go_wp2_with fail
  refine (num_any m ⟨k, b⟩ _).mono ?_
  rw [HN.out]
  rintro e w1 ⟨rfl, hb1⟩
  have hB1 := Below.past hB0 hb1 hB0.size
  have bx1 := bx0.past hb1
  have e0 := (bx1).cell 0
  have e1 := (bx1).cell 1
  simp at e0 e1
  go_wp2_with fail
  refine (place_not m ⟨k, b⟩ Hh.out _).mono ?_
  rintro e w2 ⟨rfl, hb2⟩
  have hB2 := Below.next hB1 hb2
  have bx2 := bx1.past hb2
  clear e0 e1
  have e0 := (bx2).cell 0
  have e1 := (bx2).cell 1
  simp at e0 e1
  go_wp2_with fail
  refine (TA.out _ hor.out).mono ?_
  rintro e w3 ⟨rfl, hb3⟩
  have hB3 := Below.next hB2 hb3
  have bx3 := bx2.past hb3
  clear e0 e1
  go_wp2_with fail
  all_goals
    obtain ⟨V, hV⟩ : ∃ V, Hid (w3.alloc (.cells #[.int .i64 0, .int .i64 0] 23) = V) := ⟨_, Lib.hid rfl⟩
    have hBv : Below w.heap.size w V := by rw [← hV.out]; exact hB3.alloc hB3.size _
    have bxv : Blk V w.heap.size 23 #[.int .i64 k, .int .i64 b] := by rw [← hV.out]; exact bx3.alloc _
    have hwv : ChOk V := hw.past hBv
    rw [hV.out]
    clear hV
    by_cases h5 : k = 5
    · subst h5
      have TF := Lib.hid (fun w => free_at ⟨5, b⟩ true (rfl) w)
      have bxd : Blk V.drew w.heap.size 23 #[.int .i64 5, .int .i64 b] := bxv
      have bxN : ∀ j, Blk (V.drewN j).drew w.heap.size 23 #[.int .i64 5, .int .i64 b] := fun j => bxv.past (Below.drew (below_drewN (Below.refl _ _) j))
      have hwd : ChOk V.drew := hwv.drew
      have hwN : ∀ j, ChOk (V.drewN j).drew := fun j => hwv.past (Below.drew (below_drewN (Below.refl _ _) j))
      have hBd : Below w.heap.size w V.drew := hBv.drew
      have hBN : ∀ j, Below w.heap.size w (V.drewN j).drew := fun j => Below.drew (below_drewN hBv j)
      have HxN := Lib.hid bxN
      have HwN := Lib.hid hwN
      have HBN := Lib.hid hBN
      clear bxN hwN hBN
      first
      | go_region_with (first
          | (go_at_call 12; first | refine (awake13 _ hwd).mono ?_ | refine (awake13 _ (HwN.out _)).mono ?_
             rintro e w5 ⟨rfl, hb5⟩
             have bx5 : Blk w5 w.heap.size 23 #[.int .i64 5, .int .i64 b] := by first | exact bxd.past hb5 | exact (HxN.out _).past hb5
             have hB5 : Below w.heap.size w w5 := by first | exact Below.next hBd hb5 | exact Below.next (HBN.out _) hb5
             have e0 := bx5.cell 0
             have e1 := bx5.cell 1
             simp at e0 e1)
          | (go_at_call 13; refine (TF.out _).mono ?_; rintro e w6 ⟨rfl, hb6⟩; have bx6 := bx5.past hb6; have hB6 := Below.next hB5 hb6; have f0 := bx6.cell 0; have f1 := bx6.cell 1; simp at f0 f1))
      | fail
      all_goals
        go_wp2_with fail
        go_ret
        exact ⟨by first | rfl | (simp [Act.put]), hB6⟩
    · have q5 := abf h5
      clear h5
      by_cases h6 : k = 6
      · subst h6
        have TF := Lib.hid (fun w => free_at ⟨6, b⟩ true (rfl) w)
        have bxd : Blk V.drew w.heap.size 23 #[.int .i64 6, .int .i64 b] := bxv
        have bxN : ∀ j, Blk (V.drewN j).drew w.heap.size 23 #[.int .i64 6, .int .i64 b] := fun j => bxv.past (Below.drew (below_drewN (Below.refl _ _) j))
        have hwd : ChOk V.drew := hwv.drew
        have hwN : ∀ j, ChOk (V.drewN j).drew := fun j => hwv.past (Below.drew (below_drewN (Below.refl _ _) j))
        have hBd : Below w.heap.size w V.drew := hBv.drew
        have hBN : ∀ j, Below w.heap.size w (V.drewN j).drew := fun j => Below.drew (below_drewN hBv j)
        have HxN := Lib.hid bxN
        have HwN := Lib.hid hwN
        have HBN := Lib.hid hBN
        clear bxN hwN hBN
        first
        | go_region_with (first
            | (go_at_call 12; first | refine (awake13 _ hwd).mono ?_ | refine (awake13 _ (HwN.out _)).mono ?_
               rintro e w5 ⟨rfl, hb5⟩
               have bx5 : Blk w5 w.heap.size 23 #[.int .i64 6, .int .i64 b] := by first | exact bxd.past hb5 | exact (HxN.out _).past hb5
               have hB5 : Below w.heap.size w w5 := by first | exact Below.next hBd hb5 | exact Below.next (HBN.out _) hb5
               have e0 := bx5.cell 0
               have e1 := bx5.cell 1
               simp at e0 e1)
            | (go_at_call 13; refine (TF.out _).mono ?_; rintro e w6 ⟨rfl, hb6⟩; have bx6 := bx5.past hb6; have hB6 := Below.next hB5 hb6; have f0 := bx6.cell 0; have f1 := bx6.cell 1; simp at f0 f1))
        | fail
        all_goals
          go_wp2_with fail
          go_ret
          exact ⟨by first | rfl | (simp [Act.put]), hB6⟩
      · have q6 := abf h6
        clear h6
        obtain ⟨x, hx⟩ : ∃ x, Hid ((k == 7) = x) := ⟨_, Lib.hid rfl⟩
        have q7 := hx.out
        have TF := Lib.hid (fun w => free_at ⟨k, b⟩ x (by simp only [q5, q6, q7]; rfl) w)
        have KP : ∀ w', Below V.heap.size V w' → (w'.cell? ⟨w.heap.size, 0, none⟩ = some (.int .i64 k) ∧ w'.cell? ⟨w.heap.size, 1, none⟩ = some (.int .i64 b) ∧ Below V.heap.size V w') := fun w' h => ⟨(bxv.past h).cell 0, (bxv.past h).cell 1, h⟩
        have hVV := Below.refl V.heap.size V
        obtain ⟨e0, e1, _⟩ := KP _ hVV
        have HKP := Lib.hid KP
        clear KP
        first
        | go_region_held3 (fun w' => w'.cell? ⟨w.heap.size, 0, none⟩ = some (.int .i64 k) ∧ w'.cell? ⟨w.heap.size, 1, none⟩ = some (.int .i64 b) ∧ Below V.heap.size V w') ((go_split_ands; refine HKP.out _ ?_; first | assumption | exact Below.drew (by assumption) | exact Below.next (by assumption) (by assumption) | exact below_drewN hVV _ | exact Below.drew (below_drewN hVV _) | exact below_drewN (Below.drew hVV) _)) (first
            | (go_at_call 12; go_split_ands; refine (awake13 _ (hwv.past (by assumption))).mono ?_; rintro e w4 ⟨rfl, hb4⟩)
            | (go_at_call 13; go_split_ands; refine (TF.out _).mono ?_; rintro e w4 ⟨rfl, hb4⟩))
        | fail
        all_goals
          go_split_ands
          have hW4 : Below V.heap.size V w4 := by assumption
          go_wp2_with fail
          go_ret
          exact ⟨by first | rfl | (simp [Act.put]), Below.next hBv hW4⟩
end Go.Proofs.YtfilpmmimpkfmabDoor
