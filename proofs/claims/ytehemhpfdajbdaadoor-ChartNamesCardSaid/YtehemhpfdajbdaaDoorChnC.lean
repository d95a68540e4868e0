import Derived.Test.YtehemhpfdajbdaaDoorChnB
namespace Go.Proofs.YtehemhpfdajbdaaDoor
open Go.RowKit

/-! ### chart.Name -/
theorem bstr (x y : List UInt8) : (⟨x.toArray⟩ : ByteArray) ++ ⟨y.toArray⟩ = ⟨(x ++ y).toArray⟩ := by
  apply ByteArray.ext
  simp
theorem bstr3 (x d : List UInt8) : (⟨x.toArray⟩ : ByteArray) ++ ⟨#[58]⟩ ++ ⟨d.toArray⟩ = ⟨(x ++ 58 :: d).toArray⟩ := by
  rw [show (⟨#[58]⟩ : ByteArray) = ⟨[58].toArray⟩ from rfl, bstr, bstr, List.append_assoc]; rfl
theorem nine {k : Int} (h1 : 1 ≤ k) (h2 : k ≤ 9) : k = 1 ∨ k = 2 ∨ k = 3 ∨ k = 4 ∨ k = 5 ∨ k = 6 ∨ k = 7 ∨ k = 8 ∨ k = 9 := by omega
set_option maxRecDepth 100000 in
set_option maxHeartbeats 4000000 in
theorem name_at (kd mm : Int) (w : World) (hw : NaOk w) : Calls Tryd.prog 5 #[.agg #[.int .i64 kd, .int .i64 mm]] w fun e w' => e = .returned (.string ⟨(nameA ⟨kd, mm⟩).toArray⟩) ∧ Below w.heap.size w w' := by
  have hB0 := (Below.refl w.heap.size w).alloc (Nat.le_refl _) (.cells #[.int .i64 kd, .int .i64 mm] 23)
  have bx0 := Blk.new w 23 #[.int .i64 kd, .int .i64 mm] w.heap.size rfl
  obtain ⟨z, hz⟩ : ∃ z, Hid (numA 16 ⟨kd, mm⟩ = z) := ⟨_, Lib.hid rfl⟩
  have HOK : Hid (okA ⟨kd, mm⟩ = decide (z.2 = 0)) := Lib.hid (by unfold okA; rw [hz.out])
  obtain ⟨W, hW⟩ : ∃ W, Hid (w.alloc (.cells #[.int .i64 kd, .int .i64 mm] 23) = W) := ⟨_, Lib.hid rfl⟩
  rw [hW.out] at hB0 bx0
  have HN : Hid (Calls Tryd.prog 10 #[.int .i64 16, .agg #[.int .i64 kd, .int .i64 mm]] W fun e w' => e = .returned (.tuple #[.int .i64 z.1, .int .i64 z.2]) ∧ Below W.heap.size W w') := Lib.hid (by rw [← hz.out]; exact num_any 16 ⟨kd, mm⟩ W)
  have e0 := (bx0).cell 0
  have e1 := (bx0).cell 1
  simp at e0 e1
  have HX := Lib.hid bx0
  clear bx0
  go_enter Tryd.func5, Tryd.ntmps5
  go_upto_region 1 with fail
  rw [hW.out]
  go_wp2_with fail
  refine HN.out.mono ?_
  rintro e w1 ⟨rfl, hb1⟩
  have hB1 := Below.past hB0 hb1 hB0.size
  have hw1 := hw.past hB1
  have bx1 := HX.out.past hb1
  clear e0 e1 hb1
  by_cases hz0 : z.2 = 0
  · have hok : okA ⟨kd, mm⟩ = true := by rw [HOK.out]; exact decide_eq_true hz0
    have q0 : (z.2 != 0) = false := by rw [hz0]; rfl
    have hc := (okA_iff ⟨kd, mm⟩).1 hok
    simp only at hc
    have e0 := (bx1).cell 0
    have e1 := (bx1).cell 1
    simp at e0 e1
    clear HN HX bx1 hz0
    rcases hc with ⟨rfl, h1, h2⟩ | ⟨h1, h2, h3, h4⟩
    · have hN : Hid (nameA ⟨kd, 0⟩ = wdC kd.toNat) := Lib.hid (by unfold nameA; rw [if_pos hok]; rfl)
      rcases (show kd = 1 ∨ kd = 2 ∨ kd = 3 ∨ kd = 4 ∨ kd = 5 ∨ kd = 6 by omega) with rfl | rfl | rfl | rfl | rfl | rfl
      all_goals
        have k1 := hw1.1 1 (by omega)
        have k2 := hw1.1 2 (by omega)
        have k3 := hw1.1 3 (by omega)
        have k4 := hw1.1 4 (by omega)
        have k5 := hw1.1 5 (by omega)
        have k6 := hw1.1 6 (by omega)
        go_wp2_with fail
        go_ret
        exact ⟨by rw [hN.out]; rfl, hB1⟩
    · obtain ⟨m, rfl⟩ := Int.eq_ofNat_of_zero_le (show 0 ≤ mm by omega)
      have hm1 : 1 ≤ m := by omega
      have hm2 : m ≤ 16 := by omega
      have q1 : ((m : Int) == 0) = false := by
        have h : ¬ (m : Int) = 0 := by omega
        simpa using h
      have hN : Hid (nameA ⟨kd, (m : Nat)⟩ = wdC kd.toNat ++ 58 :: decS m) := Lib.hid (by unfold nameA; rw [if_pos hok, if_neg (by simp only; omega)]; rfl)
      have HI := Lib.hid (fun W => itoa16 m hm1 hm2 W)
      obtain ⟨dd, hdd⟩ : ∃ dd, Hid (decS m = dd) := ⟨_, Lib.hid rfl⟩
      have hdl : dd.length ≤ 2 := by rw [← hdd.out]; unfold decS; split <;> simp
      rw [hdd.out] at HI hN
      have g1 : ¬ 9223372036854775807 < 3 + 1 + dd.length := by omega
      have g2 : ¬ 9223372036854775807 < 4 + 1 + dd.length := by omega
      have g3 : ¬ 9223372036854775807 < 4 + dd.length := by omega
      have g4 : ¬ 9223372036854775807 < 5 + dd.length := by omega
      rcases (show kd = 7 ∨ kd = 8 ∨ kd = 9 by omega) with rfl | rfl | rfl
      · have k7 : w1.cell? ⟨0, 7, none⟩ = some (.string ⟨#[111, 119, 110]⟩) := hw1.1 7 (by omega)
        have k8 : w1.cell? ⟨0, 8, none⟩ = some (.string ⟨#[99, 111, 108, 108]⟩) := hw1.1 8 (by omega)
        have k9 : w1.cell? ⟨0, 9, none⟩ = some (.string ⟨#[102, 117, 110, 100]⟩) := hw1.1 9 (by omega)
        clear h1 h2 h3 h4 hm1 hm2
        go_upto_region 6 with fail
        have hS0 : w1.drew.cell? ⟨w.heap.size, 0, none⟩ = some (.int .i64 7) ∧ w1.drew.cell? ⟨w.heap.size, 1, none⟩ = some (.int .i64 (m : Nat)) ∧ w1.drew.cell? ⟨0, 7, none⟩ = some (.string ⟨#[111, 119, 110]⟩) := ⟨e0, e1, k7⟩
        refine wp_region_held_drew (S := fun w' => w'.cell? ⟨w.heap.size, 0, none⟩ = some (.int .i64 7) ∧ w'.cell? ⟨w.heap.size, 1, none⟩ = some (.int .i64 (m : Nat)) ∧ w'.cell? ⟨0, 7, none⟩ = some (.string ⟨#[111, 119, 110]⟩)) (by kernel_rfl) hS0 (fun hHeld => ?_)
        clear hS0
        refine wpAnyH_take (i := 0) (v := ?_) rfl (by kernel_rfl) (by kernel_rfl) (by kernel_rfl) (fun _ _ _ h => h) (Or.inl ⟨by rfl, ?_⟩) (by assumption) ?_
        rotate_left
        · (intro w' hSw; (try dsimp only at hSw); first | (go_simp; done) | (go_simp; with_reducible rfl))
        try simp only [Act.put, List.getElem_toArray, List.getElem_cons_zero, List.getElem_cons_succ, List.setIfInBounds_toArray, List.set_cons_zero, List.set_cons_succ]
        refine wpAnyH_take (i := 1) (v := ?_) rfl (by kernel_rfl) (by kernel_rfl) (by kernel_rfl) (fun _ _ _ h => h) (Or.inl ⟨by rfl, ?_⟩) (by assumption) ?_
        rotate_left
        · (intro w' hSw; (try dsimp only at hSw); first | (go_simp; done) | (go_simp; with_reducible rfl))
        try simp only [Act.put, List.getElem_toArray, List.getElem_cons_zero, List.getElem_cons_succ, List.setIfInBounds_toArray, List.set_cons_zero, List.set_cons_succ]
        refine wpAnyH_take (i := 2) (v := ?_) rfl (by kernel_rfl) (by kernel_rfl) (by kernel_rfl) (fun _ _ _ h => h) (Or.inl ⟨by rfl, ?_⟩) (by assumption) ?_
        rotate_left
        · (intro w' hSw; (try dsimp only at hSw); first | (go_simp; done) | (go_simp; with_reducible rfl))
        try simp only [Act.put, List.getElem_toArray, List.getElem_cons_zero, List.getElem_cons_succ, List.setIfInBounds_toArray, List.set_cons_zero, List.set_cons_succ]
        refine wpAnyH_take (i := 3) (v := ?_) rfl (by kernel_rfl) (by kernel_rfl) (by kernel_rfl) (fun _ _ _ h => h) (Or.inl ⟨by rfl, ?_⟩) (by assumption) ?_
        rotate_left
        · (intro w' hSw; (try dsimp only at hSw); first | (go_simp; done) | (go_simp; with_reducible rfl))
        try simp only [Act.put, List.getElem_toArray, List.getElem_cons_zero, List.getElem_cons_succ, List.setIfInBounds_toArray, List.set_cons_zero, List.set_cons_succ]
        refine wpAnyH_take (i := 4) (v := ?_) rfl (by kernel_rfl) (by kernel_rfl) (by kernel_rfl) (fun _ _ _ h => h) (Or.inl ⟨by rfl, ?_⟩) (by assumption) ?_
        rotate_left
        · (intro w' hSw; (try dsimp only at hSw); first | (go_simp; done) | (go_simp; with_reducible rfl))
        try simp only [Act.put, List.getElem_toArray, List.getElem_cons_zero, List.getElem_cons_succ, List.setIfInBounds_toArray, List.set_cons_zero, List.set_cons_succ]
        refine wpAnyH_take (i := 5) (v := ?_) rfl (by kernel_rfl) (by kernel_rfl) (by kernel_rfl) (fun _ _ _ h => h) (Or.inl ⟨by rfl, ?_⟩) (by assumption) ?_
        rotate_left
        · (intro w' hSw; (try dsimp only at hSw); first | (go_simp; done) | (go_simp; with_reducible rfl))
        try simp only [Act.put, List.getElem_toArray, List.getElem_cons_zero, List.getElem_cons_succ, List.setIfInBounds_toArray, List.set_cons_zero, List.set_cons_succ]
        refine wpAnyH_take (i := 6) (v := ?_) rfl (by kernel_rfl) (by kernel_rfl) (by kernel_rfl) (fun _ _ _ h => h) (Or.inl ⟨by rfl, ?_⟩) (by assumption) ?_
        rotate_left
        · (intro w' hSw; (try dsimp only at hSw); first | (go_simp; done) | (go_simp; with_reducible rfl))
        try simp only [Act.put, List.getElem_toArray, List.getElem_cons_zero, List.getElem_cons_succ, List.setIfInBounds_toArray, List.set_cons_zero, List.set_cons_succ]
        refine wpAnyH_ready (rs := [7]) (by kernel_rfl) (by simp) ?_
        refine AllReadyH.cons rfl (fun K hK => ?_) AllReadyH.nil
        go_simp
        go_at_call 12
        refine (HI.out _).mono ?_
        rintro e w2 ⟨rfl, rfl⟩
        clear hHeld
        refine hK.out _ _ (⟨e0, e1, k7⟩) (fun hHeld => ?_)
        try simp only [Act.put, List.getElem_toArray, List.getElem_cons_zero, List.getElem_cons_succ, List.setIfInBounds_toArray, List.set_cons_zero, List.set_cons_succ]
        refine wpAnyH_take (i := 8) (v := ?_) rfl (by kernel_rfl) (by kernel_rfl) (by kernel_rfl) (fun _ _ _ h => h) (Or.inl ⟨by rfl, ?_⟩) (by assumption) ?_
        rotate_left
        · (intro w' hSw; (try dsimp only at hSw); first | (go_simp; done) | (go_simp; with_reducible rfl))
        try simp only [Act.put, List.getElem_toArray, List.getElem_cons_zero, List.getElem_cons_succ, List.setIfInBounds_toArray, List.set_cons_zero, List.set_cons_succ]
        refine wpAnyH_take (i := 9) (v := ?_) rfl (by kernel_rfl) (by kernel_rfl) (by kernel_rfl) (fun _ _ _ h => h) (Or.inl ⟨by rfl, ?_⟩) (by assumption) ?_
        rotate_left
        · (intro w' hSw; (try dsimp only at hSw); first | (go_simp; done) | (go_simp; with_reducible rfl))
        try simp only [Act.put, List.getElem_toArray, List.getElem_cons_zero, List.getElem_cons_succ, List.setIfInBounds_toArray, List.set_cons_zero, List.set_cons_succ]
        refine wpAnyH_done (by kernel_rfl) ?_ _
        clear hHeld
        go_wp2_with fail
        go_ret
        refine ⟨?_, hB1.drew⟩
        rw [hN.out]
        exact congrArg (fun b => Ending.returned (.string b)) (bstr3 [111, 119, 110] dd)
      · have k7 : w1.cell? ⟨0, 7, none⟩ = some (.string ⟨#[111, 119, 110]⟩) := hw1.1 7 (by omega)
        have k8 : w1.cell? ⟨0, 8, none⟩ = some (.string ⟨#[99, 111, 108, 108]⟩) := hw1.1 8 (by omega)
        have k9 : w1.cell? ⟨0, 9, none⟩ = some (.string ⟨#[102, 117, 110, 100]⟩) := hw1.1 9 (by omega)
        clear h1 h2 h3 h4 hm1 hm2
        go_upto_region 6 with fail
        have hS0 : w1.drew.cell? ⟨w.heap.size, 0, none⟩ = some (.int .i64 8) ∧ w1.drew.cell? ⟨w.heap.size, 1, none⟩ = some (.int .i64 (m : Nat)) ∧ w1.drew.cell? ⟨0, 8, none⟩ = some (.string ⟨#[99, 111, 108, 108]⟩) := ⟨e0, e1, k8⟩
        refine wp_region_held_drew (S := fun w' => w'.cell? ⟨w.heap.size, 0, none⟩ = some (.int .i64 8) ∧ w'.cell? ⟨w.heap.size, 1, none⟩ = some (.int .i64 (m : Nat)) ∧ w'.cell? ⟨0, 8, none⟩ = some (.string ⟨#[99, 111, 108, 108]⟩)) (by kernel_rfl) hS0 (fun hHeld => ?_)
        clear hS0
        refine wpAnyH_take (i := 0) (v := ?_) rfl (by kernel_rfl) (by kernel_rfl) (by kernel_rfl) (fun _ _ _ h => h) (Or.inl ⟨by rfl, ?_⟩) (by assumption) ?_
        rotate_left
        · (intro w' hSw; (try dsimp only at hSw); first | (go_simp; done) | (go_simp; with_reducible rfl))
        try simp only [Act.put, List.getElem_toArray, List.getElem_cons_zero, List.getElem_cons_succ, List.setIfInBounds_toArray, List.set_cons_zero, List.set_cons_succ]
        refine wpAnyH_take (i := 1) (v := ?_) rfl (by kernel_rfl) (by kernel_rfl) (by kernel_rfl) (fun _ _ _ h => h) (Or.inl ⟨by rfl, ?_⟩) (by assumption) ?_
        rotate_left
        · (intro w' hSw; (try dsimp only at hSw); first | (go_simp; done) | (go_simp; with_reducible rfl))
        try simp only [Act.put, List.getElem_toArray, List.getElem_cons_zero, List.getElem_cons_succ, List.setIfInBounds_toArray, List.set_cons_zero, List.set_cons_succ]
        refine wpAnyH_take (i := 2) (v := ?_) rfl (by kernel_rfl) (by kernel_rfl) (by kernel_rfl) (fun _ _ _ h => h) (Or.inl ⟨by rfl, ?_⟩) (by assumption) ?_
        rotate_left
        · (intro w' hSw; (try dsimp only at hSw); first | (go_simp; done) | (go_simp; with_reducible rfl))
        try simp only [Act.put, List.getElem_toArray, List.getElem_cons_zero, List.getElem_cons_succ, List.setIfInBounds_toArray, List.set_cons_zero, List.set_cons_succ]
        refine wpAnyH_take (i := 3) (v := ?_) rfl (by kernel_rfl) (by kernel_rfl) (by kernel_rfl) (fun _ _ _ h => h) (Or.inl ⟨by rfl, ?_⟩) (by assumption) ?_
        rotate_left
        · (intro w' hSw; (try dsimp only at hSw); first | (go_simp; done) | (go_simp; with_reducible rfl))
        try simp only [Act.put, List.getElem_toArray, List.getElem_cons_zero, List.getElem_cons_succ, List.setIfInBounds_toArray, List.set_cons_zero, List.set_cons_succ]
        refine wpAnyH_take (i := 4) (v := ?_) rfl (by kernel_rfl) (by kernel_rfl) (by kernel_rfl) (fun _ _ _ h => h) (Or.inl ⟨by rfl, ?_⟩) (by assumption) ?_
        rotate_left
        · (intro w' hSw; (try dsimp only at hSw); first | (go_simp; done) | (go_simp; with_reducible rfl))
        try simp only [Act.put, List.getElem_toArray, List.getElem_cons_zero, List.getElem_cons_succ, List.setIfInBounds_toArray, List.set_cons_zero, List.set_cons_succ]
        refine wpAnyH_take (i := 5) (v := ?_) rfl (by kernel_rfl) (by kernel_rfl) (by kernel_rfl) (fun _ _ _ h => h) (Or.inl ⟨by rfl, ?_⟩) (by assumption) ?_
        rotate_left
        · (intro w' hSw; (try dsimp only at hSw); first | (go_simp; done) | (go_simp; with_reducible rfl))
        try simp only [Act.put, List.getElem_toArray, List.getElem_cons_zero, List.getElem_cons_succ, List.setIfInBounds_toArray, List.set_cons_zero, List.set_cons_succ]
        refine wpAnyH_take (i := 6) (v := ?_) rfl (by kernel_rfl) (by kernel_rfl) (by kernel_rfl) (fun _ _ _ h => h) (Or.inl ⟨by rfl, ?_⟩) (by assumption) ?_
        rotate_left
        · (intro w' hSw; (try dsimp only at hSw); first | (go_simp; done) | (go_simp; with_reducible rfl))
        try simp only [Act.put, List.getElem_toArray, List.getElem_cons_zero, List.getElem_cons_succ, List.setIfInBounds_toArray, List.set_cons_zero, List.set_cons_succ]
        refine wpAnyH_ready (rs := [7]) (by kernel_rfl) (by simp) ?_
        refine AllReadyH.cons rfl (fun K hK => ?_) AllReadyH.nil
        go_simp
        go_at_call 12
        refine (HI.out _).mono ?_
        rintro e w2 ⟨rfl, rfl⟩
        clear hHeld
        refine hK.out _ _ (⟨e0, e1, k8⟩) (fun hHeld => ?_)
        try simp only [Act.put, List.getElem_toArray, List.getElem_cons_zero, List.getElem_cons_succ, List.setIfInBounds_toArray, List.set_cons_zero, List.set_cons_succ]
        refine wpAnyH_take (i := 8) (v := ?_) rfl (by kernel_rfl) (by kernel_rfl) (by kernel_rfl) (fun _ _ _ h => h) (Or.inl ⟨by rfl, ?_⟩) (by assumption) ?_
        rotate_left
        · (intro w' hSw; (try dsimp only at hSw); first | (go_simp; done) | (go_simp; with_reducible rfl))
        try simp only [Act.put, List.getElem_toArray, List.getElem_cons_zero, List.getElem_cons_succ, List.setIfInBounds_toArray, List.set_cons_zero, List.set_cons_succ]
        refine wpAnyH_take (i := 9) (v := ?_) rfl (by kernel_rfl) (by kernel_rfl) (by kernel_rfl) (fun _ _ _ h => h) (Or.inl ⟨by rfl, ?_⟩) (by assumption) ?_
        rotate_left
        · (intro w' hSw; (try dsimp only at hSw); first | (go_simp; done) | (go_simp; with_reducible rfl))
        try simp only [Act.put, List.getElem_toArray, List.getElem_cons_zero, List.getElem_cons_succ, List.setIfInBounds_toArray, List.set_cons_zero, List.set_cons_succ]
        refine wpAnyH_done (by kernel_rfl) ?_ _
        clear hHeld
        go_wp2_with fail
        go_ret
        refine ⟨?_, hB1.drew⟩
        rw [hN.out]
        exact congrArg (fun b => Ending.returned (.string b)) (bstr3 [99, 111, 108, 108] dd)
      · have k7 : w1.cell? ⟨0, 7, none⟩ = some (.string ⟨#[111, 119, 110]⟩) := hw1.1 7 (by omega)
        have k8 : w1.cell? ⟨0, 8, none⟩ = some (.string ⟨#[99, 111, 108, 108]⟩) := hw1.1 8 (by omega)
        have k9 : w1.cell? ⟨0, 9, none⟩ = some (.string ⟨#[102, 117, 110, 100]⟩) := hw1.1 9 (by omega)
        clear h1 h2 h3 h4 hm1 hm2
        go_upto_region 6 with fail
        have hS0 : w1.drew.cell? ⟨w.heap.size, 0, none⟩ = some (.int .i64 9) ∧ w1.drew.cell? ⟨w.heap.size, 1, none⟩ = some (.int .i64 (m : Nat)) ∧ w1.drew.cell? ⟨0, 9, none⟩ = some (.string ⟨#[102, 117, 110, 100]⟩) := ⟨e0, e1, k9⟩
        refine wp_region_held_drew (S := fun w' => w'.cell? ⟨w.heap.size, 0, none⟩ = some (.int .i64 9) ∧ w'.cell? ⟨w.heap.size, 1, none⟩ = some (.int .i64 (m : Nat)) ∧ w'.cell? ⟨0, 9, none⟩ = some (.string ⟨#[102, 117, 110, 100]⟩)) (by kernel_rfl) hS0 (fun hHeld => ?_)
        clear hS0
        refine wpAnyH_take (i := 0) (v := ?_) rfl (by kernel_rfl) (by kernel_rfl) (by kernel_rfl) (fun _ _ _ h => h) (Or.inl ⟨by rfl, ?_⟩) (by assumption) ?_
        rotate_left
        · (intro w' hSw; (try dsimp only at hSw); first | (go_simp; done) | (go_simp; with_reducible rfl))
        try simp only [Act.put, List.getElem_toArray, List.getElem_cons_zero, List.getElem_cons_succ, List.setIfInBounds_toArray, List.set_cons_zero, List.set_cons_succ]
        refine wpAnyH_take (i := 1) (v := ?_) rfl (by kernel_rfl) (by kernel_rfl) (by kernel_rfl) (fun _ _ _ h => h) (Or.inl ⟨by rfl, ?_⟩) (by assumption) ?_
        rotate_left
        · (intro w' hSw; (try dsimp only at hSw); first | (go_simp; done) | (go_simp; with_reducible rfl))
        try simp only [Act.put, List.getElem_toArray, List.getElem_cons_zero, List.getElem_cons_succ, List.setIfInBounds_toArray, List.set_cons_zero, List.set_cons_succ]
        refine wpAnyH_take (i := 2) (v := ?_) rfl (by kernel_rfl) (by kernel_rfl) (by kernel_rfl) (fun _ _ _ h => h) (Or.inl ⟨by rfl, ?_⟩) (by assumption) ?_
        rotate_left
        · (intro w' hSw; (try dsimp only at hSw); first | (go_simp; done) | (go_simp; with_reducible rfl))
        try simp only [Act.put, List.getElem_toArray, List.getElem_cons_zero, List.getElem_cons_succ, List.setIfInBounds_toArray, List.set_cons_zero, List.set_cons_succ]
        refine wpAnyH_take (i := 3) (v := ?_) rfl (by kernel_rfl) (by kernel_rfl) (by kernel_rfl) (fun _ _ _ h => h) (Or.inl ⟨by rfl, ?_⟩) (by assumption) ?_
        rotate_left
        · (intro w' hSw; (try dsimp only at hSw); first | (go_simp; done) | (go_simp; with_reducible rfl))
        try simp only [Act.put, List.getElem_toArray, List.getElem_cons_zero, List.getElem_cons_succ, List.setIfInBounds_toArray, List.set_cons_zero, List.set_cons_succ]
        refine wpAnyH_take (i := 4) (v := ?_) rfl (by kernel_rfl) (by kernel_rfl) (by kernel_rfl) (fun _ _ _ h => h) (Or.inl ⟨by rfl, ?_⟩) (by assumption) ?_
        rotate_left
        · (intro w' hSw; (try dsimp only at hSw); first | (go_simp; done) | (go_simp; with_reducible rfl))
        try simp only [Act.put, List.getElem_toArray, List.getElem_cons_zero, List.getElem_cons_succ, List.setIfInBounds_toArray, List.set_cons_zero, List.set_cons_succ]
        refine wpAnyH_take (i := 5) (v := ?_) rfl (by kernel_rfl) (by kernel_rfl) (by kernel_rfl) (fun _ _ _ h => h) (Or.inl ⟨by rfl, ?_⟩) (by assumption) ?_
        rotate_left
        · (intro w' hSw; (try dsimp only at hSw); first | (go_simp; done) | (go_simp; with_reducible rfl))
        try simp only [Act.put, List.getElem_toArray, List.getElem_cons_zero, List.getElem_cons_succ, List.setIfInBounds_toArray, List.set_cons_zero, List.set_cons_succ]
        refine wpAnyH_take (i := 6) (v := ?_) rfl (by kernel_rfl) (by kernel_rfl) (by kernel_rfl) (fun _ _ _ h => h) (Or.inl ⟨by rfl, ?_⟩) (by assumption) ?_
        rotate_left
        · (intro w' hSw; (try dsimp only at hSw); first | (go_simp; done) | (go_simp; with_reducible rfl))
        try simp only [Act.put, List.getElem_toArray, List.getElem_cons_zero, List.getElem_cons_succ, List.setIfInBounds_toArray, List.set_cons_zero, List.set_cons_succ]
        refine wpAnyH_ready (rs := [7]) (by kernel_rfl) (by simp) ?_
        refine AllReadyH.cons rfl (fun K hK => ?_) AllReadyH.nil
        go_simp
        go_at_call 12
        refine (HI.out _).mono ?_
        rintro e w2 ⟨rfl, rfl⟩
        clear hHeld
        refine hK.out _ _ (⟨e0, e1, k9⟩) (fun hHeld => ?_)
        try simp only [Act.put, List.getElem_toArray, List.getElem_cons_zero, List.getElem_cons_succ, List.setIfInBounds_toArray, List.set_cons_zero, List.set_cons_succ]
        refine wpAnyH_take (i := 8) (v := ?_) rfl (by kernel_rfl) (by kernel_rfl) (by kernel_rfl) (fun _ _ _ h => h) (Or.inl ⟨by rfl, ?_⟩) (by assumption) ?_
        rotate_left
        · (intro w' hSw; (try dsimp only at hSw); first | (go_simp; done) | (go_simp; with_reducible rfl))
        try simp only [Act.put, List.getElem_toArray, List.getElem_cons_zero, List.getElem_cons_succ, List.setIfInBounds_toArray, List.set_cons_zero, List.set_cons_succ]
        refine wpAnyH_take (i := 9) (v := ?_) rfl (by kernel_rfl) (by kernel_rfl) (by kernel_rfl) (fun _ _ _ h => h) (Or.inl ⟨by rfl, ?_⟩) (by assumption) ?_
        rotate_left
        · (intro w' hSw; (try dsimp only at hSw); first | (go_simp; done) | (go_simp; with_reducible rfl))
        try simp only [Act.put, List.getElem_toArray, List.getElem_cons_zero, List.getElem_cons_succ, List.setIfInBounds_toArray, List.set_cons_zero, List.set_cons_succ]
        refine wpAnyH_done (by kernel_rfl) ?_ _
        clear hHeld
        go_wp2_with fail
        go_ret
        refine ⟨?_, hB1.drew⟩
        rw [hN.out]
        exact congrArg (fun b => Ending.returned (.string b)) (bstr3 [102, 117, 110, 100] dd)
  · have hok : okA ⟨kd, mm⟩ = false := by rw [HOK.out]; exact decide_eq_false hz0
    have q0 : (z.2 != 0) = true := by simpa using hz0
    have hN : Hid (nameA ⟨kd, mm⟩ = []) := Lib.hid (by unfold nameA; rw [if_neg (by rw [hok]; simp)])
    clear hz0
    go_wp2_with fail
    go_ret
    exact ⟨by rw [hN.out]; rfl, hB1⟩
theorem name_any (a : Acc) (w : World) (hw : NaOk w) : Calls Tryd.prog 5 #[.agg #[.int .i64 a.kind, .int .i64 a.member]] w fun e w' => e = .returned (.string ⟨(nameA a).toArray⟩) ∧ Below w.heap.size w w' := name_at a.kind a.member w hw
end Go.Proofs.YtehemhpfdajbdaaDoor
