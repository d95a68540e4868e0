import Derived.Test.YtfnhffcjhdeleaaNetR
namespace Go.Proofs.Ytfnhffcjhdeleaa
open Go.RowKit Go.ChangeShapes

set_option maxHeartbeats 2000000 in
set_option maxRecDepth 100000 in
theorem netSides_long (A : Option Addr) (n c : Nat) (x0 x1 : Int) (w : World) (hn : 60 < n) :
    Calls Try.prog 12 #[.slice A n c, .agg #[.int .i64 x0, .int .i64 x1]] w fun e w' => e = .returned (.bool true) ∧ Below w.heap.size w w' := by
  have HB0 := Lib.hid ((Below.refl w.heap.size w).alloc (Nat.le_refl _) (.cells #[.int .i64 x0, .int .i64 x1] 100))
  have q0 : (60 : Int) < (n : Int) := by omega
  go_enter Try.func12, Try.ntmps12
  go_wp2_with fail
  refine (awake18 _).mono ?_
  rintro e w3 ⟨rfl, hb3⟩
  have HB4 := Lib.hid (Below.past HB0.out hb3 HB0.out.size)
  clear hb3
  go_wp2_with fail
  go_ret
  exact ⟨rfl, HB4.out⟩

set_option maxHeartbeats 16000000 in
set_option maxRecDepth 100000 in
theorem netSides_few (A : Option Addr) (n c : Nat) (l : List Leg) (x0 x1 : Int) (w : World) (hr : Rd w w.heap.size 3 A n (l.flatMap Leg.cells)) (hn : n ≤ 60) (hg : ∀ x ∈ l, inI x.amount) :
    Calls Try.prog 12 #[.slice A n c, .agg #[.int .i64 x0, .int .i64 x1]] w fun e w' => e = .returned (.bool true) ∧ Below w.heap.size w w' := by
  have HL := Lib.hid (hr.len Leg.cells_len (by omega))
  obtain ⟨j0, hj0, jz0, jz1, jz2⟩ := info_parts legInfoN
  have HG := Lib.hid hg
  obtain ⟨W, hW⟩ : ∃ W, Hid (w.alloc (.cells #[.int .i64 x0, .int .i64 x1] 100) = W) := ⟨_, Lib.hid rfl⟩
  have hB0 : Below w.heap.size w W := by rw [← hW.out]; exact (Below.refl _ _).alloc (Nat.le_refl _) _
  have bx0 : Blk W w.heap.size 100 #[.int .i64 x0, .int .i64 x1] := by rw [← hW.out]; exact Blk.new w _ _ _ rfl
  have HX0 := Lib.hid bx0
  have HRL := Lib.hid (hr.past hB0)
  have hlt0 := bx0.lt
  have e1 := bx0.cell 1
  simp at e1
  have q0 : ¬ (60 : Int) < (n : Int) := by omega
  clear bx0 hr hg
  obtain ⟨D, hD⟩ : ∃ D, Hid (sdD l x1 = D) := ⟨_, Lib.hid rfl⟩
  obtain ⟨C, hC⟩ : ∃ C, Hid (sdC l x1 = C) := ⟨_, Lib.hid rfl⟩
  obtain ⟨E, hE⟩ : ∃ E, Hid (sdE l x1 = E) := ⟨_, Lib.hid rfl⟩
  have HS1 := Lib.hid ((netSides_any A n c l x1 W HRL.out (by omega) HG.out).mono fun e w' h => h.eq)
  rw [hD.out, hC.out, hE.out] at HS1
  go_enter Try.func12, Try.ntmps12
  go_upto_region 1 with fail
  rw [hW.out]
  go_wp2_with fail
  refine HS1.out.mono ?_
  rintro e w1 ⟨rfl, hb1⟩
  have HD1 := Lib.hid hb1
  have HS2 := Lib.hid ((refSides_any A n c l x1 w1 (HRL.out.past hb1) (by omega) HG.out).mono fun e w' h => h.eq)
  rw [hD.out, hC.out, hE.out] at HS2
  have f1 := (HX0.out.past hb1).cell 1
  simp at f1
  clear hb1 e1
  go_wp2_with fail
  refine HS2.out.mono ?_
  rintro e w2 ⟨rfl, hb2⟩
  have HD2 := Lib.hid (Below.next HD1.out hb2)
  have HR0 : Hid (LawRel W l x0 x1 0 (.slice none 0 0) (.slice none 0 0) 0 false false w2) := Lib.hid ⟨World.ownsRow_nil _ _ _ _, World.ownsRow_nil _ _ _ _, apart_nilN _, HD2.out, rfl, rfl, rfl⟩
  have p1 : (D != D) = false := by simp
  have p2 : (C != C) = false := by simp
  have p3 : (E != E) = false := by simp
  clear hb2 f1 HS1 HS2
  go_wp2_with fail
  clear p1 p2 p3 q0
  go_loopw [11, 12, 13, 14, 15, 16] (fun v11 v12 v13 v14 v15 i wr => ∃ (k : Nat) (F : Int) (b c : Bool), k ≤ n ∧ i = .int .i64 k ∧ v13 = .int .i64 F ∧ v14 = .bool b ∧ v15 = .bool c ∧ Hid (LawRel W l x0 x1 k v11 v12 F b c wr)) (fun _ _ _ _ _ i _ => n - (intOf i).toNat)
  case atStart => exact ⟨0, 0, false, false, Nat.zero_le _, rfl, rfl, rfl, rfl, HR0⟩
  case round =>
    obtain ⟨k, F, b, cc, hk, rfl, rfl, rfl, rfl, HR⟩ := hrel
    have HB := Lib.hid HR.out.below
    have hs := HB.out.size
    by_cases hlt : k < n
    · have hlz : (k : Int) < (n : Int) := by omega
      have hg_f : l[k]? = some (l[k]'(by have := HL.out; omega)) := List.getElem?_eq_getElem _
      obtain ⟨b_f, off_f, rfl, hbb_f, hc_f⟩ := (HRL.out.below HB.out).elem Leg.cells_len hg_f hlt
      have HT_f := Lib.hid (show l.take (k + 1) = l.take k ++ [(l[k]'(by have := HL.out; omega))] from List.take_succ_eq_append_getElem (by have := HL.out; omega))
      have HM_f := Lib.hid (show (l[k]'(by have := HL.out; omega)) ∈ l from List.getElem_mem _)
      generalize (l[k]'(by have := HL.out; omega)) = f at *
      have c0 := hc_f 0 _ rfl
      have c1 := hc_f 1 _ rfl
      have c2 := hc_f 2 _ rfl
      clear hc_f hg_f
      simp only [Nat.add_zero] at c0
      have hin := HG.out f HM_f.out
      have hbo := (Below.refl wr.heap.size wr).alloc (Nat.le_refl _) (.cells #[.int .i64 f.member, .int .i64 f.asset, .int .i64 f.amount] 97)
      have HB1 := Lib.hid (Below.past HB.out hbo hs)
      have H11 := Lib.hid (own_past' HR.out.r11 hbo)
      have H12 := Lib.hid (own_past' HR.out.r12 hbo)
      have HN11 : Hid (u11.ownBlock ≠ some wr.heap.size) := Lib.hid fun e => by have := (HR.out.r11.lt _ e).2; omega
      have HN12 : Hid (u12.ownBlock ≠ some wr.heap.size) := Lib.hid fun e => by have := (HR.out.r12.lt _ e).2; omega
      have l11 := filt_len l posB k 1000 (by omega)
      have l12 : (clsL (l.take k)).length ≤ 1000 := Nat.le_trans (clsL_len _) (by rw [List.length_take]; omega)
      obtain ⟨m11, hm11⟩ : ∃ m, Hid (((l.take k).filter posB).length = m) := ⟨_, Lib.hid rfl⟩
      obtain ⟨m12, hm12⟩ : ∃ m, Hid ((clsL (l.take k)).length = m) := ⟨_, Lib.hid rfl⟩
      rw [hm11.out] at H11 l11
      rw [hm12.out] at H12 l12
      have bX := Blk.new wr 97 #[.int .i64 f.member, .int .i64 f.asset, .int .i64 f.amount] wr.heap.size rfl
      obtain ⟨W1, hW1⟩ : ∃ W, Hid (wr.alloc (.cells #[.int .i64 f.member, .int .i64 f.asset, .int .i64 f.amount] 97) = W) := ⟨_, Lib.hid rfl⟩
      rw [hW1.out] at HB1 H11 H12 bX
      have HBX := Lib.hid bX
      have hs1 := HB1.out.size
      have hx1 := bX.lt
      have z := HX0.out.past HB1.out
      have z0 := z.cell 0
      have z1 := z.cell 1
      simp at z0 z1
      have cx0 := (bX).cell 0
      have cx1 := (bX).cell 1
      have cx2 := (bX).cell 2
      simp at cx0 cx1 cx2
      have HFS := first_step HT_f.out HR.out.first HR.out.found
      have hwn : ¬ f.amount = -9223372036854775808 → IntKind.i64.wrap (-f.amount) = -f.amount := fun h => IntWalk.i64_in _ (by unfold inI at hin; omega)
      have HWN := Lib.hid hwn
      clear bX hbo z hin hwn
      go_upto_region 13 with fail
      rw [hW1.out]
      rcases HFS with ⟨q1, ef, eb⟩ | ⟨q1, q2, ef, eb⟩ | ⟨q1, q2, rfl, ef, eb⟩ | ⟨q1, q2, rfl, ef, eb⟩
      all_goals
        have EF := Lib.hid ef
        have EB := Lib.hid eb
        clear ef eb
        by_cases hp : 0 < f.amount
        · have hq : ¬ f.amount < 0 := by omega
          have hlm : ¬ f.amount = -9223372036854775808 := by omega
          have q3 : (f.amount == -9223372036854775808) = false := by simpa using hlm
          have E11 := Lib.hid (filt_yes (p := posB) HT_f.out (decide_eq_true hp))
          have E12 := Lib.hid (clsL_no HT_f.out (show nlB f = false by unfold nlB negB; rw [decide_eq_false hq]; rfl))
          have EL := Lib.hid (least_step HT_f.out HR.out.least (decide_eq_false hlm))
          clear hlm
          go_wp2_with (at_builtin; refine wpList_append_lit_atN _ _ rfl (.tmp 84) (.tmp 86) 90 rfl W.heap.size 97 j0 _ 3 24 Try.underlying90 hj0 jz0 jz1 jz2 rfl (by decide) _ _ _ rfl H11.out _ 1 1 rfl (by first | rfl | simp) rfl (by simp [Value.oneCell']) (by omega) (by omega) (by omega) ?_; intro v' w' hown' hg' hd; have HOWN := Lib.hid hown'; have HGR := Lib.hid hg'; have HDD := Lib.hid hd; have HBX2 := Lib.hid ((HBX.out.alloc _).grown hg' HN11.out); have y2 := HBX2.out.cell 2; simp at y2; clear hown' hg' hd)
          have HREL : Hid (LawRel W l x0 x1 (k + 1) v' u12 _ _ cc w') := Lib.hid ⟨by rw [E11.out, List.length_append, hm11.out, List.flatMap_append]; exact HOWN.out, by rw [E12.out, hm12.out]; exact own_grownN (H12.out.alloc _) HGR.out HR.out.ap, apart_grownN HR.out.ap H12.out HDD.out, below_own (HB1.out.alloc hs1 _) HGR.out H11.out (by simp; omega) (Nat.le_refl _), EF.out, EB.out, EL.out⟩
          clear cx0 cx1 cx2 z0 z1
          go_wp2_with fail
          go_roundw
          case rel => exact ⟨k + 1, _, _, _, by omega, by go_num, rfl, rfl, rfl, HREL⟩
          case measure => simp [intOf]; omega
        · have E11 := Lib.hid (filt_no (p := posB) HT_f.out (decide_eq_false hp))
          by_cases hq : f.amount < 0
          · by_cases hlm : f.amount = -9223372036854775808
            · have q3 : (f.amount == -9223372036854775808) = true := by simpa using hlm
              have E12 := Lib.hid (clsL_no HT_f.out (show nlB f = false by unfold nlB leastB; rw [decide_eq_true hlm]; simp))
              have EL := Lib.hid (least_hit HT_f.out (decide_eq_true hlm))
              have HREL : Hid (LawRel W l x0 x1 (k + 1) u11 u12 _ _ true W1) := Lib.hid ⟨by rw [E11.out, hm11.out]; exact H11.out, by rw [E12.out, hm12.out]; exact H12.out, HR.out.ap, HB1.out, EF.out, EB.out, EL.out⟩
              clear hlm
              go_wp2_with fail
              go_roundw
              case rel => exact ⟨k + 1, _, _, _, by omega, by go_num, rfl, rfl, rfl, HREL⟩
              case measure => simp [intOf]; omega
            · have q3 : (f.amount == -9223372036854775808) = false := by simpa using hlm
              have hw := HWN.out hlm
              have E12 := Lib.hid (clsL_yes HT_f.out (show nlB f = true by unfold nlB negB leastB; rw [decide_eq_true hq, decide_eq_false hlm]; rfl))
              have EL := Lib.hid (least_step HT_f.out HR.out.least (decide_eq_false hlm))
              have xf := HBX.out.frozen 2
              have bY := HBX.out.put 2 (.int .i64 (-f.amount))
              have Y11 := Lib.hid (own_far (p := ⟨wr.heap.size, 2, none⟩) H11.out HN11.out (.int .i64 (-f.amount)))
              have Y12 := Lib.hid (own_far (p := ⟨wr.heap.size, 2, none⟩) H12.out HN12.out (.int .i64 (-f.amount)))
              have HBY := Lib.hid (HB1.out.setCell (p := ⟨wr.heap.size, 2, none⟩) hs (.int .i64 (-f.amount)))
              obtain ⟨W2, hW2⟩ : ∃ W, Hid (W1.setCell ⟨wr.heap.size, 2, none⟩ (.int .i64 (-f.amount)) = W) := ⟨_, Lib.hid rfl⟩
              rw [hW2.out] at bY Y11 Y12 HBY
              have hs2 := HBY.out.size
              clear hlm
              go_upto_region 21 with fail
              rw [hW2.out]
              clear cx0 cx1 cx2 xf z0 z1
              have cx0 := (bY).cell 0
              have cx1 := (bY).cell 1
              have cx2 := (bY).cell 2
              simp at cx0 cx1 cx2
              clear bY
              go_wp2_with (at_builtin; refine wpList_append_lit_atN _ _ rfl (.tmp 98) (.tmp 100) 90 rfl W.heap.size 97 j0 _ 3 24 Try.underlying90 hj0 jz0 jz1 jz2 rfl (by decide) _ _ _ rfl Y12.out _ 1 1 rfl (by first | rfl | simp) rfl (by simp [Value.oneCell']) (by omega) (by omega) (by omega) ?_; intro v' w' hown' hg' hd; have HOWN := Lib.hid hown'; have HGR := Lib.hid hg'; have HDD := Lib.hid hd; clear hown' hg' hd)
              have HREL : Hid (LawRel W l x0 x1 (k + 1) u11 v' _ _ cc w') := Lib.hid ⟨by rw [E11.out, hm11.out]; exact own_grownN (Y11.out.alloc _) HGR.out HR.out.ap.symm, by rw [E12.out, List.length_append, hm12.out, List.flatMap_append]; exact HOWN.out, (apart_grownN HR.out.ap.symm Y11.out HDD.out).symm, below_own (HBY.out.alloc hs2 _) HGR.out Y12.out (by simp; omega) (Nat.le_refl _), EF.out, EB.out, EL.out⟩
              clear hw cx0 cx1 cx2
              go_wp2_with fail
              go_roundw
              case rel => exact ⟨k + 1, _, _, _, by omega, by go_num, rfl, rfl, rfl, HREL⟩
              case measure => simp [intOf]; omega
          · have hlm : ¬ f.amount = -9223372036854775808 := by omega
            have q3 : (f.amount == -9223372036854775808) = false := by simpa using hlm
            have E12 := Lib.hid (clsL_no HT_f.out (show nlB f = false by unfold nlB negB; rw [decide_eq_false hq]; rfl))
            have EL := Lib.hid (least_step HT_f.out HR.out.least (decide_eq_false hlm))
            have HREL : Hid (LawRel W l x0 x1 (k + 1) u11 u12 _ _ cc W1) := Lib.hid ⟨by rw [E11.out, hm11.out]; exact H11.out, by rw [E12.out, hm12.out]; exact H12.out, HR.out.ap, HB1.out, EF.out, EB.out, EL.out⟩
            clear hlm
            go_wp2_with fail
            go_roundw
            case rel => exact ⟨k + 1, _, _, _, by omega, by go_num, rfl, rfl, rfl, HREL⟩
            case measure => simp [intOf]; omega
    · have hlz : ¬ (k : Int) < (n : Int) := by omega
      obtain rfl : n = k := by omega
      have hT : l.take n = l := List.take_of_length_le (by rw [HL.out]; exact Nat.le_refl _)
      obtain ⟨r11, r12, _, hb, hF, _, hle⟩ := HR.out
      rw [hT] at r11 r12 hF hle
      obtain ⟨A11, c11, rfl⟩ := own_form r11
      obtain ⟨A12, c12, rfl⟩ := own_form r12
      have H11 := Lib.hid (Rd.of_own r11)
      have H12 := Lib.hid (Rd.of_own r12)
      have HLE := Lib.hid hle
      have HF := Lib.hid hF
      have pF : (F == F) = true := by simp
      have l11 : (l.filter posB).length ≤ 100 := Nat.le_trans (List.length_filter_le _ _) (by rw [HL.out]; omega)
      have l12 : (clsL l).length ≤ 100 := Nat.le_trans (clsL_len _) (by rw [HL.out]; omega)
      obtain ⟨m11, hm11⟩ : ∃ m, Hid ((l.filter posB).length = m) := ⟨_, Lib.hid rfl⟩
      obtain ⟨m12, hm12⟩ : ∃ m, Hid ((clsL l).length = m) := ⟨_, Lib.hid rfl⟩
      have HCL := Lib.hid (netClaims_any A n c l wr (HRL.out.past hb) (by omega) HG.out)
      rw [hm11.out] at H11 l11
      rw [hm12.out] at H12 l12
      rw [hm11.out, hm12.out]
      clear HR hT r11 r12 hb hF hle
      cases cc with
      | true =>
        have HE : Hid (clmE l = 2 ∧ clmL l = []) := Lib.hid (by unfold clmE clmL; rw [HLE.out]; exact ⟨rfl, rfl⟩)
        rw [HE.out.1, HE.out.2] at HCL
        go_wp2_with fail
        refine HCL.out.mono ?_
        rintro e w3 ⟨v3, rfl, ho3, hb3⟩
        obtain ⟨A3, c3, rfl⟩ := own_form ho3
        have HD3 := Lib.hid (Below.next HB.out hb3)
        have H113 := Lib.hid (H11.out.past hb3)
        clear hb3 ho3
        go_wp2_with fail
        refine (awake18 _).mono ?_
        rintro e w4 ⟨rfl, hb4⟩
        have HD4 := Lib.hid (Below.next HD3.out hb4)
        have HDB := Lib.hid (netDebts_any A n c l w4 (HRL.out.past HD4.out) (by omega))
        have H114 := Lib.hid (H113.out.past hb4)
        rw [hm11.out] at HDB
        clear hb4
        go_wp2_with fail
        refine HDB.out.mono ?_
        rintro e w5 ⟨v5, rfl, ho5, hb5⟩
        obtain ⟨A5, c5, rfl⟩ := own_form ho5
        have HD5 := Lib.hid (Below.next HD4.out hb5)
        have HSM := Lib.hid (sameLegs A5 A11 m11 c5 c11 (l.filter posB) w5 (Rd.of_own ho5) (H114.out.past hb5) (by omega))
        clear hb5 ho5
        go_wp2_with fail
        refine HSM.out.mono ?_
        rintro e w6 ⟨rfl, hb6⟩
        have HD6 := Lib.hid (Below.next HD5.out hb6)
        have HOF := Lib.hid (netOf_any A n c l x0 x1 w6 (HRL.out.past HD6.out) (by omega))
        rw [HF.out] at HOF
        have z := HX0.out.past HD6.out
        have z0 := z.cell 0
        have z1 := z.cell 1
        simp at z0 z1
        clear hb6 z
        go_wp2_with fail
        refine HOF.out.mono ?_
        rintro e w7 ⟨rfl, hb7⟩
        have HD7 := Lib.hid (Below.next HD6.out hb7)
        clear hb7 z0 z1
        go_wp2_with fail
        go_ret
        exact ⟨rfl, Below.next' hB0 HD7.out (Nat.le_refl _)⟩
      | false =>
        have HE : Hid (clmE l = 0 ∧ clmL l = clsL l) := Lib.hid (by
          unfold clmE clmL; rw [HLE.out]; exact ⟨rfl, (clsL_claim HLE.out).symm⟩)
        rw [HE.out.1, HE.out.2] at HCL
        go_wp2_with fail
        refine HCL.out.mono ?_
        rintro e w3 ⟨v3, rfl, ho3, hb3⟩
        obtain ⟨A3, c3, rfl⟩ := own_form ho3
        rw [hm12.out] at ho3 ⊢
        have HD3 := Lib.hid (Below.next HB.out hb3)
        have H113 := Lib.hid (H11.out.past hb3)
        have HSC := Lib.hid (sameLegs A3 A12 m12 c3 c12 (clsL l) w3 (Rd.of_own ho3) (H12.out.past hb3) (by omega))
        clear hb3 ho3
        go_wp2_with fail
        refine HSC.out.mono ?_
        rintro e w33 ⟨rfl, hb33⟩
        have HD33 := Lib.hid (Below.next HD3.out hb33)
        have H1133 := Lib.hid (H113.out.past hb33)
        clear hb33
        go_wp2_with fail
        refine (awake18 _).mono ?_
        rintro e w4 ⟨rfl, hb4⟩
        have HD4 := Lib.hid (Below.next HD33.out hb4)
        have HDB := Lib.hid (netDebts_any A n c l w4 (HRL.out.past HD4.out) (by omega))
        have H114 := Lib.hid (H1133.out.past hb4)
        rw [hm11.out] at HDB
        clear hb4
        go_wp2_with fail
        refine HDB.out.mono ?_
        rintro e w5 ⟨v5, rfl, ho5, hb5⟩
        obtain ⟨A5, c5, rfl⟩ := own_form ho5
        have HD5 := Lib.hid (Below.next HD4.out hb5)
        have HSM := Lib.hid (sameLegs A5 A11 m11 c5 c11 (l.filter posB) w5 (Rd.of_own ho5) (H114.out.past hb5) (by omega))
        clear hb5 ho5
        go_wp2_with fail
        refine HSM.out.mono ?_
        rintro e w6 ⟨rfl, hb6⟩
        have HD6 := Lib.hid (Below.next HD5.out hb6)
        have HOF := Lib.hid (netOf_any A n c l x0 x1 w6 (HRL.out.past HD6.out) (by omega))
        rw [HF.out] at HOF
        have z := HX0.out.past HD6.out
        have z0 := z.cell 0
        have z1 := z.cell 1
        simp at z0 z1
        clear hb6 z
        go_wp2_with fail
        refine HOF.out.mono ?_
        rintro e w7 ⟨rfl, hb7⟩
        have HD7 := Lib.hid (Below.next HD6.out hb7)
        clear hb7 z0 z1
        go_wp2_with fail
        go_ret
        exact ⟨rfl, Below.next' hB0 HD7.out (Nat.le_refl _)⟩
end Go.Proofs.Ytfnhffcjhdeleaa
