import Derived.Test.YtfilpmmimpkfmabDoorPhaD
namespace Go.Proofs.YtfilpmmimpkfmabDoor
open Go.RowKit

/-! ### PhaseNext -/
set_option maxHeartbeats 2000000 in
theorem phaseNext_any (p t : Int) (s l : Bool) (hp : (Lit.int .i64 p).wf = true) (ht : (Lit.int .i64 t).wf = true) (w : World) (hw : WdOk w) :
    Calls Tryd.prog 4 #[.int .i64 p, .int .i64 t, .agg #[.bool s, .bool l]] w fun e w' => e = .returned (.bool true) ∧ Below w.heap.size w w' := by
  have hB0 := (Below.refl w.heap.size w).alloc (Nat.le_refl _) (.cells #[.bool s, .bool l] 36)
  have bx0 := Blk.new w 36 #[.bool s, .bool l] w.heap.size rfl
  have hw0 := hw.past hB0
  cases h : pn s l p t with
  | none =>
    have HR : Hid (rn s l p t = -1) := Lib.hid (by rw [rn, h]; rfl)
    have TN := Lib.hid (fun w => pnext_none p t s l h hp ht w)
    clear h hp ht
    go_enter Tryd.func4, Tryd.ntmps4
    go_wp2_with fail
    refine (TN.out _).mono ?_
    rintro e w1 ⟨rfl, hb1⟩
    have bx1 := bx0.past hb1
    have hB1 := Below.past hB0 hb1 hB0.size
    have e0 := (bx1).cell 0
    have e1 := (bx1).cell 1
    simp at e0 e1
    go_wp2_with fail
    refine (refNext_any p t s l _).mono ?_
    rw [HR.out]
    rintro e w' ⟨rfl, rfl⟩
    go_wp2_with fail
    refine (awake29 _ (hw.past hB1)).mono ?_
    rintro e w2 ⟨rfl, hb2⟩
    go_wp2_with fail
    go_ret
    exact ⟨rfl, Below.next hB1 hb2⟩
  | some c =>
    have HR : Hid (rn s l p t = c) := Lib.hid (by rw [rn, h]; rfl)
    have TN := Lib.hid (fun w hw => pnext_some p t s l c h hp ht w hw)
    have hc := (pn_phase h).2
    have q1 : decide (c < 0) = false := dcf (by omega)
    have q2 : (c == c) = true := by simp
    clear h hp ht hc
    go_enter Tryd.func4, Tryd.ntmps4
    go_wp2_with fail
    refine (TN.out _ hw0).mono ?_
    rintro e w1 ⟨rfl, hb1⟩
    have bx1 := bx0.past hb1
    have hB1 := Below.past hB0 hb1 hB0.size
    have e0 := (bx1).cell 0
    have e1 := (bx1).cell 1
    simp at e0 e1
    go_wp2_with fail
    refine (refNext_any p t s l _).mono ?_
    rw [HR.out]
    rintro e w' ⟨rfl, rfl⟩
    go_wp2_with fail
    refine (awake29 _ (hw.past hB1)).mono ?_
    rintro e w2 ⟨rfl, hb2⟩
    go_wp2_with fail
    go_ret
    exact ⟨rfl, Below.next hB1 hb2⟩

/-! ### PhasePaths -/
theorem day_mid (ss : List Bool) : ∀ x ∈ ss.flatMap dayL, 1 ≤ x ∧ x ≤ 4 := by
  intro x hx
  obtain ⟨s, _, h⟩ := List.mem_flatMap.1 hx
  cases s <;> simp [dayL] at h <;> omega
theorem path_at (ss : List Bool) (i : Nat) (x : Int) (h : (pathL ss ++ [5])[i]? = some x) : ((x == 5) = ((i : Int) == ((pathL ss).length + 1 : Nat) - 1)) ∧ ((x == 0) = ((i : Int) == 0)) := by
  by_cases hl : i < (pathL ss).length
  · rw [List.getElem?_append_left hl] at h
    have n1 : ¬ (i : Int) = ((pathL ss).length + 1 : Nat) - 1 := by omega
    match i, h with
    | 0, h =>
      simp [pathL] at h
      subst h
      refine ⟨?_, rfl⟩
      rw [Bool.eq_iff_iff]; simp at n1 ⊢; omega
    | i + 1, h =>
      have hm : x ∈ ss.flatMap dayL := List.mem_of_getElem? (by simpa [pathL] using h)
      have := day_mid ss x hm
      refine ⟨?_, ?_⟩ <;> rw [Bool.eq_iff_iff] <;> simp at n1 ⊢ <;> omega
  · rw [List.getElem?_append_right (by omega)] at h
    have hi : i - (pathL ss).length = 0 := by
      rcases Nat.eq_zero_or_pos (i - (pathL ss).length) with h0 | h0
      · exact h0
      · rw [List.getElem?_eq_none (by simp; omega)] at h; cases h
    rw [hi] at h
    simp at h
    subst h
    have hp : 0 < (pathL ss).length := by simp [pathL]
    refine ⟨?_, ?_⟩ <;> rw [Bool.eq_iff_iff] <;> simp <;> omega
theorem pn_closed (t : Int) : pn true false 5 t = none := by unfold pn tab; simp

set_option maxHeartbeats 1000000 in
theorem phasePaths_long (A : Option Addr) (n cp : Nat) (w : World) (hw : WdOk w) (hn : n ≤ 9223372036854775807) (h : ¬ n ≤ 40) :
    Calls Tryd.prog 5 #[.slice A n cp] w fun e w' => e = .returned (.bool true) ∧ Below w.heap.size w w' := by
  have q : decide ((40 : Int) < (n : Int)) = true := dct (by omega)
  go_enter Tryd.func5, Tryd.ntmps5
  go_wp2_with fail
  refine (awake29 _ hw).mono ?_
  rintro e w2 ⟨rfl, hb2⟩
  go_wp2_with fail
  go_ret
  exact ⟨rfl, hb2⟩

set_option maxHeartbeats 2000000 in
theorem phasePaths_any (A : Option Addr) (n cp : Nat) (ss : List Bool) (w : World) (hw : WdOk w) (hn : n ≤ 40) (hr : Rd w w.heap.size 1 A n (ss.flatMap boolC)) :
    Calls Tryd.prog 5 #[.slice A n cp] w fun e w' => e = .returned (.bool true) ∧ Below w.heap.size w w' := by
  have q : decide ((40 : Int) < (n : Int)) = false := dcf (by omega)
  have HL := Lib.hid (hr.len boolC_len (by omega))
  have hpl := pathL_len ss
  rw [HL.out] at hpl
  have T1 := Lib.hid (fun w hw h => path_any A n cp ss w hw (by omega) h)
  have T2 := Lib.hid (fun w h => refPath_any A n cp ss w (by omega) h)
  have HPA := Lib.hid (path_at ss)
  obtain ⟨N, HN⟩ : ∃ N, Hid ((pathL ss).length + 1 = N) := ⟨_, Lib.hid rfl⟩
  rw [HN.out] at T1 T2 HPA
  have hN : N ≤ 200 := by have := HN.out; omega
  have HXS : Hid ((pathL ss).flatMap intC ++ [.int .i64 5] = (pathL ss ++ [5]).flatMap intC) := Lib.hid (by simp [intC])
  rw [HXS.out] at T1 T2
  obtain ⟨P, HP⟩ : ∃ P, Hid (pathL ss ++ [5] = P) := ⟨_, Lib.hid rfl⟩
  rw [HP.out] at T1 T2 HPA
  have TN := Lib.hid (fun t ht w => pnext_none 5 t true false (pn_closed t) (by decide) ht w)
  clear hpl
  go_enter Tryd.func5, Tryd.ntmps5
  go_wp2_with fail
  refine (T1.out _ hw hr).mono ?_
  rintro e w1 ⟨v1, rfl, o1, hb1⟩
  obtain ⟨A1, c1, rfl⟩ := own_form o1
  have r1 := Rd.of_own o1
  go_wp2_with fail
  refine (T2.out _ (hr.past hb1)).mono ?_
  rintro e w2 ⟨v2, rfl, o2, hb2⟩
  obtain ⟨A2, c2, rfl⟩ := own_form o2
  have hB2 := Below.next hb1 hb2
  have r12 := r1.past hb2
  have TS := Lib.hid (same28_eq A1 A2 N c1 c2 P _ (by omega) r12 (Rd.of_own o2))
  go_wp2_with fail
  refine TS.out.mono ?_
  rintro e w3 ⟨rfl, hb3⟩
  have hB3 := Below.next hB2 hb3
  have r13 := r12.past hb3
  have HPL := Lib.hid (r13.len intC_len (by omega))
  clear o1 o2 r1 r12 TS T1 T2 hb1 hb2 hb3 hB2
  go_wp2_with fail
  go_loopw [4] (fun i wr => ∃ k : Nat, k ≤ N ∧ i = .int .i64 k ∧ wr = w3) (fun i _ => N - (intOf i).toNat)
  case atStart => exact ⟨0, Nat.zero_le _, rfl, rfl⟩
  case round =>
    obtain ⟨k, hk, rfl, rfl⟩ := hrel
    by_cases hlt : k < N
    · have q1 : decide ((k : Int) < (N : Int)) = true := dct (by omega)
      have hg_f : P[k]? = some (P[k]'(by have := HPL.out; omega)) := List.getElem?_eq_getElem _
      obtain ⟨b_f, off_f, rfl, hbb_f, hc_f⟩ := (r13).elem intC_len hg_f hlt
      have HT_f := Lib.hid (show P.take (k + 1) = P.take k ++ [(P[k]'(by have := HPL.out; omega))] from List.take_succ_eq_append_getElem (by have := HPL.out; omega))
      have HM_f := Lib.hid (show (P[k]'(by have := HPL.out; omega)) ∈ P from List.getElem_mem _)
      have HG_f := Lib.hid hg_f
      generalize (P[k]'(by have := HPL.out; omega)) = f at *
      have c0 := hc_f 0 _ rfl
      clear hc_f hg_f
      simp only [Nat.add_zero, Nat.mul_one] at c0
      obtain ⟨p1, p2⟩ := HPA.out k f HG_f.out
      obtain ⟨u, hu⟩ : ∃ u, Hid ((f == 5) = u) := ⟨_, Lib.hid rfl⟩
      obtain ⟨z, hz⟩ : ∃ z, Hid ((f == 0) = z) := ⟨_, Lib.hid rfl⟩
      rw [hu.out] at p1
      rw [hz.out] at p2
      have p3 := hu.out
      have p4 := hz.out
      have p5 := p1.symm
      have p6 := p2.symm
      clear p1 p2
      have p7 : (u != u) = false := by simp
      have p8 : (z != z) = false := by simp
      go_wp2_with fail
      go_roundw
      case rel => exact ⟨k + 1, by omega, by go_num, by first | trivial | rfl⟩
      case measure => simp [intOf]; omega
    · have q1 : decide ((k : Int) < (N : Int)) = false := dcf (by omega)
      clear r13 HPL
      go_wp2_with fail
      go_loopw [5] (fun i wr => ∃ k : Nat, k ≤ 7 ∧ i = .int .i64 k ∧ Below w.heap.size w wr) (fun i _ => 7 - (intOf i).toNat)
      case atStart => exact ⟨0, by omega, rfl, hB3⟩
      case round =>
        obtain ⟨m, hm, rfl, hb⟩ := hrel
        by_cases hm7 : m < 7
        · have q2 : decide ((m : Int) ≤ 6) = true := dct (by omega)
          have hwf : (Lit.int .i64 (m : Int)).wf = true := WalkArith.wf_i64 (by omega)
          go_wp2_with fail
          refine (TN.out _ hwf _).mono ?_
          rintro e w4 ⟨rfl, hb4⟩
          go_wp2_with fail
          go_roundw
          case rel => exact ⟨m + 1, by omega, by go_num, Below.next hb hb4⟩
          case measure => simp [intOf]; omega
        · have q2 : decide ((m : Int) ≤ 6) = false := dcf (by omega)
          go_wp2_with fail
          refine (awake29 _ (hw.past hb)).mono ?_
          rintro e w4 ⟨rfl, hb4⟩
          go_wp2_with fail
          go_ret
          exact ⟨rfl, Below.next hb hb4⟩

/-! ### PhaseMay -/
/-- The kinds that may come, up to m. -/
def wl (p : Int) : Nat → List Int
  | 0 => []
  | m + 1 => wl p m ++ (if mayI p ((m : Int) + 1) then [(m : Int) + 1] else [])
theorem wl_len (p : Int) (m : Nat) : (wl p m).length ≤ m := by
  induction m with
  | zero => simp [wl]
  | succ m ih => rw [wl, List.length_append]; split <;> simp <;> omega

set_option maxHeartbeats 1000000 in
theorem allowed_any (p : Int) (w : World) : Calls Tryd.prog 23 #[.int .i64 p] w fun e w' => ∃ v, e = .returned v ∧ w'.ownsRow w.heap.size 3 1 v (wl p 10).length ((wl p 10).flatMap intC) ∧ Below w.heap.size w w' := by
  obtain ⟨i0, hi0, hz0, hz1, hz2⟩ := info_parts int_info29
  go_enter Tryd.func23, Tryd.ntmps23
  go_wp2_with fail
  go_loopw [3, 4] (fun v i wr => ∃ m : Nat, m ≤ 10 ∧ i = .int .i64 ((m : Int) + 1) ∧ wr.ownsRow w.heap.size 3 1 v (wl p m).length ((wl p m).flatMap intC) ∧ Below w.heap.size w wr) (fun _ i _ => 11 - (intOf i).toNat)
  case atStart => exact ⟨0, by omega, rfl, World.ownsRow_nil _ _ _ _, Below.refl _ _⟩
  case round =>
    obtain ⟨m, hm, rfl, hown, hb⟩ := hrel
    have hl := wl_len p m
    by_cases hlt : m < 10
    · have q1 : decide ((m : Int) + 1 ≤ 10) = true := dct (by omega)
      obtain ⟨b, hbb⟩ : ∃ b, Hid (mayI p ((m : Int) + 1) = b) := ⟨_, Lib.hid rfl⟩
      have HS : Hid (wl p (m + 1) = wl p m ++ (if b then [(m : Int) + 1] else [])) := Lib.hid (by rw [wl, hbb.out])
      have T := Lib.hid (fun w => may_any p ((m : Int) + 1) w)
      rw [hbb.out] at T
      go_wp2_with fail
      refine (T.out _).mono ?_
      rintro e w3 ⟨rfl, rfl⟩
      cases b
      · go_wp2_with fail
        go_roundw
        case rel => exact ⟨m + 1, by omega, by go_num, by rw [HS.out]; simpa using hown, hb⟩
        case measure => simp [intOf]; omega
      · go_wp2_with (at_builtin; refine wpList_append_lit _ _ rfl (.tmp 12) (.tmp 14) 41 rfl w.heap.size 3 i0 _ 1 8 Tryd.underlying41 hi0 hz0 hz1 hz2 rfl (by decide) _ _ _ rfl hown _ 1 1 rfl (by simp) rfl (by simp [Value.oneCell']) (by omega) (by omega) hb.size ?_; intro v5 w5 o5 g5)
        go_roundw
        case rel => exact ⟨m + 1, by omega, by go_num, by rw [HS.out]; simpa [intC] using o5, below_own (hb.alloc hb.size _) g5 hown (Nat.le_trans hb.size (by simp)) (Nat.le_refl _)⟩
        case measure => simp [intOf]; omega
    · obtain rfl : 10 = m := by omega
      have q1 : decide (((10 : Nat) : Int) + 1 ≤ 10) = false := dcf (by omega)
      go_wp2_with fail
      go_ret
      exact ⟨_, rfl, hown, hb⟩

set_option maxHeartbeats 4000000 in
theorem phaseMay_any (p kd : Int) (w : World) (hw : WdOk w) : Calls Tryd.prog 6 #[.int .i64 p, .int .i64 kd] w fun e w' => e = .returned (.bool true) ∧ Below w.heap.size w w' := by
  obtain ⟨i0, hi0, hz0, hz1, hz2⟩ := info_parts int_info29
  have M1 := Lib.hid (fun w => may_any p kd w)
  have M2 := Lib.hid (fun w => refMay_any p kd w)
  have M3 := Lib.hid (fun w => open_any p w)
  obtain ⟨mk, hmk⟩ : ∃ b, Hid (mayI p kd = b) := ⟨_, Lib.hid rfl⟩
  rw [hmk.out] at M1 M2
  obtain ⟨ob, hob⟩ : ∃ b, Hid (openB p = b) := ⟨_, Lib.hid rfl⟩
  rw [hob.out] at M3
  have p1 : (mk == mk) = true := by simp
  have p2 : (ob == ob) = true := by simp
  go_enter Tryd.func6, Tryd.ntmps6
  go_wp2_with fail
  go_loopw [5, 6] (fun v i wr => ∃ m : Nat, m ≤ 10 ∧ i = .int .i64 ((m : Int) + 1) ∧ wr.ownsRow w.heap.size 3 1 v (wl p m).length ((wl p m).flatMap intC) ∧ Below w.heap.size w wr) (fun _ i _ => 11 - (intOf i).toNat)
  case atStart => exact ⟨0, by omega, rfl, World.ownsRow_nil _ _ _ _, Below.refl _ _⟩
  case round =>
    obtain ⟨m, hm, rfl, hown, hb⟩ := hrel
    have hl := wl_len p m
    by_cases hlt : m < 10
    · have q1 : decide ((m : Int) + 1 ≤ 10) = true := dct (by omega)
      obtain ⟨b, hbb⟩ : ∃ b, Hid (mayI p ((m : Int) + 1) = b) := ⟨_, Lib.hid rfl⟩
      have HS : Hid (wl p (m + 1) = wl p m ++ (if b then [(m : Int) + 1] else [])) := Lib.hid (by rw [wl, hbb.out])
      have T := Lib.hid (fun w => refMay_any p ((m : Int) + 1) w)
      rw [hbb.out] at T
      go_wp2_with fail
      refine (T.out _).mono ?_
      rintro e w3 ⟨rfl, hb3⟩
      have hown3 := own_past hown hb3
      have hb4 := Below.next hb hb3
      cases b
      · go_wp2_with fail
        go_roundw
        case rel => exact ⟨m + 1, by omega, by go_num, by rw [HS.out]; simpa using hown3, hb4⟩
        case measure => simp [intOf]; omega
      · go_wp2_with (at_builtin; refine wpList_append_lit _ _ rfl (.tmp 14) (.tmp 16) 41 rfl w.heap.size 3 i0 _ 1 8 Tryd.underlying41 hi0 hz0 hz1 hz2 rfl (by decide) _ _ _ rfl hown3 _ 1 1 rfl (by simp) rfl (by simp [Value.oneCell']) (by omega) (by omega) hb4.size ?_; intro v5 w5 o5 g5)
        go_roundw
        case rel => exact ⟨m + 1, by omega, by go_num, by rw [HS.out]; simpa [intC] using o5, below_own (hb4.alloc hb4.size _) g5 hown3 (Nat.le_trans hb4.size (by simp)) (Nat.le_refl _)⟩
        case measure => simp [intOf]; omega
    · obtain rfl : 10 = m := by omega
      have q1 : decide (((10 : Nat) : Int) + 1 ≤ 10) = false := dcf (by omega)
      obtain ⟨A, cc, rfl⟩ := own_form hown
      by_cases hp1 : 1 ≤ p
      · have q2 := dct hp1
        have q3 : decide (p ≤ 4) = ob := by have := hob.out; simpa [openB, q2] using this
        clear hp1
        go_wp2_with fail
        refine (awake29 _ (hw.past hb)).mono ?_
        rintro e w1 ⟨rfl, hb1⟩
        have hB1 := Below.next hb hb1
        have r1 := (Rd.of_own hown).past hb1
        go_wp2_with fail
        refine (M1.out _).mono ?_
        rintro e w2 ⟨rfl, rfl⟩
        go_wp2_with fail
        refine (M2.out _).mono ?_
        rintro e w2 ⟨rfl, hb2⟩
        have hB2 := Below.next hB1 hb2
        have r2 := r1.past hb2
        go_wp2_with fail
        refine (M3.out _).mono ?_
        rintro e w3 ⟨rfl, rfl⟩
        go_wp2_with fail
        refine (allowed_any p _).mono ?_
        rintro e w3 ⟨v3, rfl, o3, hb3⟩
        obtain ⟨A3, c3, rfl⟩ := own_form o3
        have hB3 := Below.next hB2 hb3
        have r3 := r2.past hb3
        have TS := Lib.hid (same28_eq A3 A (wl p 10).length c3 cc (wl p 10) _ (by omega) (Rd.of_own o3) r3)
        go_wp2_with fail
        refine TS.out.mono ?_
        rintro e w4 ⟨rfl, hb4⟩
        go_wp2_with fail
        go_ret
        exact ⟨rfl, Below.next hB3 hb4⟩
      · have q2 := dcf hp1
        obtain rfl : false = ob := by have := hob.out; rw [openB, q2] at this; simpa using this
        clear hp1
        go_wp2_with fail
        refine (awake29 _ (hw.past hb)).mono ?_
        rintro e w1 ⟨rfl, hb1⟩
        have hB1 := Below.next hb hb1
        have r1 := (Rd.of_own hown).past hb1
        go_wp2_with fail
        refine (M1.out _).mono ?_
        rintro e w2 ⟨rfl, rfl⟩
        go_wp2_with fail
        refine (M2.out _).mono ?_
        rintro e w2 ⟨rfl, hb2⟩
        have hB2 := Below.next hB1 hb2
        have r2 := r1.past hb2
        go_wp2_with fail
        refine (M3.out _).mono ?_
        rintro e w3 ⟨rfl, rfl⟩
        go_wp2_with fail
        refine (allowed_any p _).mono ?_
        rintro e w3 ⟨v3, rfl, o3, hb3⟩
        obtain ⟨A3, c3, rfl⟩ := own_form o3
        have hB3 := Below.next hB2 hb3
        have r3 := r2.past hb3
        have TS := Lib.hid (same28_eq A3 A (wl p 10).length c3 cc (wl p 10) _ (by omega) (Rd.of_own o3) r3)
        go_wp2_with fail
        refine TS.out.mono ?_
        rintro e w4 ⟨rfl, hb4⟩
        go_wp2_with fail
        go_ret
        exact ⟨rfl, Below.next hB3 hb4⟩
end Go.Proofs.YtfilpmmimpkfmabDoor
