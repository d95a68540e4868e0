import Derived.Test.YtfilpmmimpkfmabDoorChaD
namespace Go.Proofs.YtfilpmmimpkfmabDoor
open Go.RowKit

set_option maxRecDepth 10000 in
set_option maxHeartbeats 8000000 in
theorem chartNumbers_in (m : Nat) (a : Acc) (n : Nat) (w : World) (hw : ChOk w) (hm : m ≤ 16) (h : n < 6 + 3 * m) :
    Calls Tryd.prog 3 #[.int .i64 m, .agg #[.int .i64 a.kind, .int .i64 a.member], .int .i64 n] w fun e w' => e = .returned (.bool true) ∧ Below w.heap.size w w' := by
  obtain ⟨k, b⟩ := a
  dsimp only
  have hB0 := (Below.refl w.heap.size w).alloc (Nat.le_refl _) (.cells #[.int .i64 k, .int .i64 b] 23)
  have bx0 := Blk.new w 23 #[.int .i64 k, .int .i64 b] w.heap.size rfl
  have HNI := Lib.hid (num_idx m hm ⟨k, b⟩)
  have T1 := Lib.hid (fun w => all_yes m hm w)
  have T2 := Lib.hid (fun w => count_yes m hm w)
  have T3 := Lib.hid (fun w => num_any m ⟨k, b⟩ w)
  have T4 := Lib.hid (fun w => place_yes m hm ⟨k, b⟩ w)
  have HL := Lib.hid (accs_len m)
  have TA := Lib.hid (fun w => acct_yes m n hm h w)
  have HNF := Lib.hid (num_accN m n hm h)
  have HG := Lib.hid (accs_get m n h)
  obtain ⟨⟨fk, fm⟩, hfa⟩ : ∃ fa, Hid (accN n = fa) := ⟨_, Lib.hid rfl⟩
  rw [hfa.out] at TA HNF HG
  have TN := Lib.hid (fun w => num_any m ⟨fk, fm⟩ w)
  rw [HNF.out] at TN
  dsimp only at TA TN
  obtain ⟨C, hC⟩ : ∃ C : Nat, Hid (6 + 3 * m = C) := ⟨_, Lib.hid rfl⟩
  obtain ⟨I, hI⟩ : ∃ I, Hid (idxA 0 (accs m) ⟨k, b⟩ = I) := ⟨_, Lib.hid rfl⟩
  rw [hC.out] at T1 T2 h HL
  have hc16 : C ≤ 54 := by have := hC.out; omega
  rw [hI.out] at T4 HNI
  obtain ⟨l, hl⟩ : ∃ l, Hid (accs m = l) := ⟨_, Lib.hid rfl⟩
  rw [hl.out] at T1 HL HG
  obtain ⟨N, hN⟩ : ∃ N, Hid (numA m ⟨k, b⟩ = N) := ⟨_, Lib.hid rfl⟩
  rw [hN.out] at T3 HNI
  have qCC : ((C : Int) != C) = false := by simp
  by_cases hI0 : 0 ≤ I
  all_goals
    first
    | (have qI := adct hI0
       have qI2 : decide (I < 0) = false := adcf (by omega)
       have HN2 : Hid (N = (I, 0)) := Lib.hid (by rw [HNI.out, if_pos hI0]))
    | (have qI := adcf hI0
       have qI2 : decide (I < 0) = true := adct (by omega)
       have HN2 : Hid (N = (0, 8)) := Lib.hid (by rw [HNI.out, if_neg hI0]))
    rw [HN2.out] at T3
    clear HNI hN HN2 HNF hfa
    have hq : ∀ w, (binOp .neq 23 (.agg #[.int .i64 fk, .int .i64 fm]) (.agg #[.int .i64 fk, .int .i64 fm])).run Tryd.prog w = .ok (.bool false) w := fun w => acc_neq ⟨fk, fm⟩ ⟨fk, fm⟩ true (eqA_refl _) w
    have qn0 : decide ((0 : Int) ≤ (n : Int)) = true := adct (by omega)
    have qnC : decide ((n : Int) < (C : Int)) = true := adct (by omega)
    have qnC2 : decide (n < C) = true := adct h
    have qnn : ((n : Int) != n) = false := by simp
    go_enter Tryd.func3, Tryd.ntmps3
    go_wp2_with fail
    refine (T1.out _).mono ?_
    rintro e w9 ⟨v, rfl, hown, hb9⟩
    obtain ⟨A, cc, rfl⟩ := own_form hown
    have hrd := Rd.of_own hown
    have hB9 := Below.past hB0 hb9 hB0.size
    have bx9 := bx0.past hb9
    have e0 := (bx9).cell 0
    have e1 := (bx9).cell 1
    simp at e0 e1
    go_wp2_with fail
    refine (T2.out _).mono ?_
    rintro e w' ⟨rfl, rfl⟩
    go_wp2_with fail
    refine (T3.out _).mono ?_
    rintro e w1 ⟨rfl, hb1⟩
    have hB1 := Below.next hB9 hb1
    have bx1 := bx9.past hb1
    clear e0 e1
    have e0 := (bx1).cell 0
    have e1 := (bx1).cell 1
    simp at e0 e1
    go_wp2_with fail
    refine (T4.out _).mono ?_
    rintro e w2 ⟨rfl, hb2⟩
    have hB2 := Below.next hB1 hb2
    have bx2 := bx1.past hb2
    clear e0 e1
    have e0 := (bx2).cell 0
    have e1 := (bx2).cell 1
    simp at e0 e1
    go_wp2_with fail
    refine (TA.out _).mono ?_
    rintro e w3 ⟨rfl, hb3⟩
    have hB3 := Below.next hB2 hb3
    have bx3 := bx2.past hb3
    clear e0 e1
    have by0 := Blk.new w3 23 #[.int .i64 fk, .int .i64 fm] w3.heap.size rfl
    go_wp2_with fail
    refine (TN.out _).mono ?_
    rintro e V ⟨rfl, hb4⟩
    have hBv := Below.next (hB3.alloc hB3.size _) hb4
    have bxv := (bx3.alloc _).past hb4
    have hbA : Below w3.heap.size w3 (w3.alloc (.cells #[.int .i64 fk, .int .i64 fm] 23)) := (Below.refl _ _).alloc (Nat.le_refl _) _
    have hrdv := (((((hrd.past hb1).past hb2).past hb3).past hbA).past hb4)
    have by4 := by0.past hb4
    have hwv : ChOk V := hw.past hBv
    have y0 := (by4).cell 0
    have y1 := (by4).cell 1
    simp at y0 y1
    have hnl : n < C := h
    have hg_f : l[n]? = some (l[n]'(by have := HL.out; omega)) := List.getElem?_eq_getElem _
    obtain ⟨b_f, off_f, rfl, hbb_f, hc_f⟩ := (hrdv).elem Acc.cells_len hg_f hnl
    have HT_f := Lib.hid (show l.take (n + 1) = l.take n ++ [(l[n]'(by have := HL.out; omega))] from List.take_succ_eq_append_getElem (by have := HL.out; omega))
    have HM_f := Lib.hid (show (l[n]'(by have := HL.out; omega)) ∈ l from List.getElem_mem _)
    have HG_f := Lib.hid hg_f
    generalize (l[n]'(by have := HL.out; omega)) = f at *
    have c0 := hc_f 0 _ rfl
    have c1 := hc_f 1 _ rfl
    clear hc_f hg_f
    simp only [Nat.add_zero] at c0
    obtain rfl : f = ⟨fk, fm⟩ := by have := HG_f.out.symm.trans HG.out; simpa using this
    dsimp only at c0 c1
    have b1 : (0 : Int) ≤ (n : Int) := by omega
    have b2 : (n : Int) < (C : Int) := by omega
    go_wp2_with fail
    go_quiet (fail)
    clear b1 b2 y0 y1 c0 c1 hq qn0 qnC qnC2 qnn
    go_wp2_with fail
    by_cases h5 : k = 5
    · subst h5
      have TF := Lib.hid (fun w => free_at ⟨5, b⟩ true (rfl) w)
      have bxd : Blk V.drew w.heap.size 23 #[.int .i64 5, .int .i64 b] := bxv
      have bxN : ∀ j, Blk (V.drewN j).drew w.heap.size 23 #[.int .i64 5, .int .i64 b] := fun j => bxv.past (Below.drew (below_drewN (Below.refl _ _) j))
      have hwd : ChOk V.drew := hwv.drew
      have hwN : ∀ j, ChOk (V.drewN j).drew := fun j => hwv.past (Below.drew (below_drewN (Below.refl _ _) j))
      have hBd : Below w.heap.size w V.drew := hBv.drew
      have hBN : ∀ j, Below w.heap.size w (V.drewN j).drew := fun j => Below.drew (below_drewN hBv j)
      have HxN := Lib.hid bxN
      have HwN := Lib.hid hwN
      have HBN := Lib.hid hBN
      clear bxN hwN hBN
      first
      | go_region_with (first
          | (go_at_call 12; first | refine (awake13 _ hwd).mono ?_ | refine (awake13 _ (HwN.out _)).mono ?_
             rintro e w5 ⟨rfl, hb5⟩
             have bx5 : Blk w5 w.heap.size 23 #[.int .i64 5, .int .i64 b] := by first | exact bxd.past hb5 | exact (HxN.out _).past hb5
             have hB5 : Below w.heap.size w w5 := by first | exact Below.next hBd hb5 | exact Below.next (HBN.out _) hb5
             have e0 := bx5.cell 0
             have e1 := bx5.cell 1
             simp at e0 e1)
          | (go_at_call 13; refine (TF.out _).mono ?_; rintro e w6 ⟨rfl, hb6⟩; have bx6 := bx5.past hb6; have hB6 := Below.next hB5 hb6; have f0 := bx6.cell 0; have f1 := bx6.cell 1; simp at f0 f1))
      | fail
      all_goals
        go_wp2_with fail
        go_ret
        exact ⟨by first | rfl | (simp [Act.put]), hB6⟩
    · have q5 := abf h5
      clear h5
      by_cases h6 : k = 6
      · subst h6
        have TF := Lib.hid (fun w => free_at ⟨6, b⟩ true (rfl) w)
        have bxd : Blk V.drew w.heap.size 23 #[.int .i64 6, .int .i64 b] := bxv
        have bxN : ∀ j, Blk (V.drewN j).drew w.heap.size 23 #[.int .i64 6, .int .i64 b] := fun j => bxv.past (Below.drew (below_drewN (Below.refl _ _) j))
        have hwd : ChOk V.drew := hwv.drew
        have hwN : ∀ j, ChOk (V.drewN j).drew := fun j => hwv.past (Below.drew (below_drewN (Below.refl _ _) j))
        have hBd : Below w.heap.size w V.drew := hBv.drew
        have hBN : ∀ j, Below w.heap.size w (V.drewN j).drew := fun j => Below.drew (below_drewN hBv j)
        have HxN := Lib.hid bxN
        have HwN := Lib.hid hwN
        have HBN := Lib.hid hBN
        clear bxN hwN hBN
        first
        | go_region_with (first
            | (go_at_call 12; first | refine (awake13 _ hwd).mono ?_ | refine (awake13 _ (HwN.out _)).mono ?_
               rintro e w5 ⟨rfl, hb5⟩
               have bx5 : Blk w5 w.heap.size 23 #[.int .i64 6, .int .i64 b] := by first | exact bxd.past hb5 | exact (HxN.out _).past hb5
               have hB5 : Below w.heap.size w w5 := by first | exact Below.next hBd hb5 | exact Below.next (HBN.out _) hb5
               have e0 := bx5.cell 0
               have e1 := bx5.cell 1
               simp at e0 e1)
            | (go_at_call 13; refine (TF.out _).mono ?_; rintro e w6 ⟨rfl, hb6⟩; have bx6 := bx5.past hb6; have hB6 := Below.next hB5 hb6; have f0 := bx6.cell 0; have f1 := bx6.cell 1; simp at f0 f1))
        | fail
        all_goals
          go_wp2_with fail
          go_ret
          exact ⟨by first | rfl | (simp [Act.put]), hB6⟩
      · have q6 := abf h6
        clear h6
        obtain ⟨x, hx⟩ : ∃ x, Hid ((k == 7) = x) := ⟨_, Lib.hid rfl⟩
        have q7 := hx.out
        have TF := Lib.hid (fun w => free_at ⟨k, b⟩ x (by simp only [q5, q6, q7]; rfl) w)
        have KP : ∀ w', Below V.heap.size V w' → (w'.cell? ⟨w.heap.size, 0, none⟩ = some (.int .i64 k) ∧ w'.cell? ⟨w.heap.size, 1, none⟩ = some (.int .i64 b) ∧ Below V.heap.size V w') := fun w' h => ⟨(bxv.past h).cell 0, (bxv.past h).cell 1, h⟩
        have hVV := Below.refl V.heap.size V
        obtain ⟨e0, e1, _⟩ := KP _ hVV
        have HKP := Lib.hid KP
        clear KP
        first
        | go_region_held3 (fun w' => w'.cell? ⟨w.heap.size, 0, none⟩ = some (.int .i64 k) ∧ w'.cell? ⟨w.heap.size, 1, none⟩ = some (.int .i64 b) ∧ Below V.heap.size V w') ((go_split_ands; refine HKP.out _ ?_; first | assumption | exact Below.drew (by assumption) | exact Below.next (by assumption) (by assumption) | exact below_drewN hVV _ | exact Below.drew (below_drewN hVV _) | exact below_drewN (Below.drew hVV) _)) (first
            | (go_at_call 12; go_split_ands; refine (awake13 _ (hwv.past (by assumption))).mono ?_; rintro e w4 ⟨rfl, hb4⟩)
            | (go_at_call 13; go_split_ands; refine (TF.out _).mono ?_; rintro e w4 ⟨rfl, hb4⟩))
        | fail
        all_goals
          go_split_ands
          have hW4 : Below V.heap.size V w4 := by assumption
          go_wp2_with fail
          go_ret
          exact ⟨by first | rfl | (simp [Act.put]), Below.next hBv hW4⟩
end Go.Proofs.YtfilpmmimpkfmabDoor
