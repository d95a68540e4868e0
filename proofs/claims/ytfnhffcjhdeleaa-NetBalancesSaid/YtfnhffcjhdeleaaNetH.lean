import Derived.Test.YtfnhffcjhdeleaaNetG
namespace Go.Proofs.Ytfnhffcjhdeleaa
open Go.RowKit Go.ChangeShapes

set_option maxHeartbeats 8000000 in
set_option maxRecDepth 100000 in
theorem refNets_any (A1 A2 A3 : Option Addr) (n1 n2 n3 cp1 cp2 cp3 : Nat) (cf : Conf) (A : Option Addr) (n c : Nat) (legs : List Leg) (w : World) (hr : CfRd w A1 n1 A2 n2 A3 n3 cf) (hrl : Rd w w.heap.size 3 A n (legs.flatMap Leg.cells)) (hn : n ≤ 1000) (hg : ∀ x ∈ legs, inI x.amount) (hn1 : n1 ≤ 20) (hn2 : n2 ≤ 20) :
    Calls Try.prog 52 #[.agg #[.slice A1 n1 cp1, .slice A2 n2 cp2, .slice A3 n3 cp3, .int .i64 cf.line, .int .i64 cf.capital, .int .i64 cf.lead, .int .i64 cf.trades, .int .i64 cf.bids], .slice A n c] w (NetsPost w (netK n1 n2 legs) (netR n1 n2 legs)) := by
  have HL := Lib.hid (hrl.len Leg.cells_len (by omega))
  have HG := Lib.hid hg
  obtain ⟨j0, hj0, jz0, jz1, jz2⟩ := info_parts legInfoN
  obtain ⟨W, hW⟩ : ∃ W, Hid (w.alloc (.cells #[.slice A1 n1 cp1, .slice A2 n2 cp2, .slice A3 n3 cp3, .int .i64 cf.line, .int .i64 cf.capital, .int .i64 cf.lead, .int .i64 cf.trades, .int .i64 cf.bids] 89) = W) := ⟨_, Lib.hid rfl⟩
  have hB0 : Below w.heap.size w W := by rw [← hW.out]; exact (Below.refl _ _).alloc (Nat.le_refl _) _
  have bc0 : Blk W w.heap.size 89 #[.slice A1 n1 cp1, .slice A2 n2 cp2, .slice A3 n3 cp3, .int .i64 cf.line, .int .i64 cf.capital, .int .i64 cf.lead, .int .i64 cf.trades, .int .i64 cf.bids] := by
    rw [← hW.out]; exact Blk.new w _ _ _ rfl
  have HC0 := Lib.hid bc0
  have HRL := Lib.hid (hrl.past hB0)
  have hwW := hB0.size
  have q0 : ¬ (1024 : Int) < (n : Int) := by omega
  clear bc0 hr hrl hg
  go_enter Try.func52, Try.ntmps52
  go_upto_region 1 with fail
  rw [hW.out]
  go_wp2_with fail
  go_loopw [6] (fun i wr => ∃ k : Nat, k ≤ n ∧ i = .int .i64 k ∧ Hid (firstK n1 n2 (legs.take k) = 0) ∧ Hid (Below W.heap.size W wr)) (fun i _ => n - (intOf i).toNat)
  case atStart => exact ⟨0, by omega, rfl, Lib.hid rfl, Lib.hid (Below.refl _ _)⟩
  case round =>
    obtain ⟨k, hk, rfl, HFK, HB⟩ := hrel
    by_cases hlt : k < n
    · have hlz : (k : Int) < (n : Int) := by omega
      have hg_f : legs[k]? = some (legs[k]'(by have := HL.out; omega)) := List.getElem?_eq_getElem _
      obtain ⟨b_f, off_f, rfl, hbb_f, hc_f⟩ := (HRL.out.below HB.out).elem Leg.cells_len hg_f hlt
      have HT_f := Lib.hid (show legs.take (k + 1) = legs.take k ++ [(legs[k]'(by have := HL.out; omega))] from List.take_succ_eq_append_getElem (by have := HL.out; omega))
      have HM_f := Lib.hid (show (legs[k]'(by have := HL.out; omega)) ∈ legs from List.getElem_mem _)
      generalize (legs[k]'(by have := HL.out; omega)) = f at *
      have c0 := hc_f 0 _ rfl
      have c1 := hc_f 1 _ rfl
      have c2 := hc_f 2 _ rfl
      clear hc_f hg_f
      simp only [Nat.add_zero] at c0
      have bc1 := HC0.out.past HB.out
      have e0 := bc1.cell 0
      have e1 := bc1.cell 1
      simp at e0 e1
      have HFS := Lib.hid (show firstK n1 n2 (legs.take (k + 1)) = legK n1 n2 f by rw [HT_f.out]; exact firstK_snoc HFK.out)
      have HE : Hid (legK n1 n2 f ≠ 0 → netK n1 n2 legs = legK n1 n2 f ∧ netR n1 n2 legs = []) := Lib.hid (fun hne => by
        have h1 : firstK n1 n2 legs = legK n1 n2 f := by
          have h2 := firstK_stop (M := n1) (S := n2) (l := legs.take (k + 1)) (l' := legs.drop (k + 1)) (by rw [HFS.out]; exact hne)
          rw [List.take_append_drop] at h2
          rw [h2, HFS.out]
        have h3 : firstK n1 n2 legs ≠ 0 := by rw [h1]; exact hne
        unfold netK netR
        rw [if_neg h3, if_neg h3]
        exact ⟨h1, rfl⟩)
      have hfin := HB.out.size
      clear bc1
      by_cases h1 : f.member < 1
      · have h1d : decide (f.member < 1) = true := decide_eq_true h1
        have hK := Lib.hid (legK_no (M := n1) (S := n2) (x := f) (.inl h1))
        go_wp2_with fail
        go_quiet (fail)
        go_wp2_with fail
        go_ret2
        obtain ⟨h3, h4⟩ := HE.out (by rw [hK.out]; decide)
        unfold NetsPost
        rw [h3, h4, hK.out]
        exact ⟨.slice none 0 0, rfl, World.ownsRow_nil _ _ _ _, below_drewN (Below.next' hB0 HB.out (Nat.le_refl _)) nq⟩
      · have h1d : decide (f.member < 1) = false := decide_eq_false h1
        by_cases h2 : (n1 : Int) < f.member
        · have h2d : decide ((n1 : Int) < f.member) = true := decide_eq_true h2
          have hK := Lib.hid (legK_no (M := n1) (S := n2) (x := f) (.inr h2))
          go_wp2_with fail
          go_quiet (fail)
          go_wp2_with fail
          go_ret2
          obtain ⟨h3, h4⟩ := HE.out (by rw [hK.out]; decide)
          unfold NetsPost
          rw [h3, h4, hK.out]
          exact ⟨.slice none 0 0, rfl, World.ownsRow_nil _ _ _ _, below_drewN (Below.next' hB0 HB.out (Nat.le_refl _)) nq⟩
        · have h2d : decide ((n1 : Int) < f.member) = false := decide_eq_false h2
          have hno : ¬ (f.member < 1 ∨ (n1 : Int) < f.member) := by omega
          by_cases h3 : f.asset < 0
          · have h3d : decide (f.asset < 0) = true := decide_eq_true h3
            have hK := Lib.hid (legK_sec (M := n1) (S := n2) (x := f) hno (.inl h3))
            clear hno
            go_wp2_with fail
            go_quiet (fail)
            have hnq := Lib.hid (below_drewN HB.out nq)
            go_wp2_with fail
            go_quiet (fail)
            go_wp2_with fail
            go_ret2
            obtain ⟨h3, h4⟩ := HE.out (by rw [hK.out]; decide)
            unfold NetsPost
            rw [h3, h4, hK.out]
            exact ⟨.slice none 0 0, rfl, World.ownsRow_nil _ _ _ _, Below.next' hB0 (by first | exact below_drewN (below_drewN HB.out _) _ | exact below_drewN HB.out _) (Nat.le_refl _)⟩
          · have h3d : decide (f.asset < 0) = false := decide_eq_false h3
            by_cases h4 : (n2 : Int) < f.asset
            · have h4d : decide ((n2 : Int) < f.asset) = true := decide_eq_true h4
              have hK := Lib.hid (legK_sec (M := n1) (S := n2) (x := f) hno (.inr h4))
              clear hno
              go_wp2_with fail
              go_quiet (fail)
              go_wp2_with fail
              go_quiet (fail)
              go_wp2_with fail
              go_ret2
              obtain ⟨h3, h4⟩ := HE.out (by rw [hK.out]; decide)
              unfold NetsPost
              rw [h3, h4, hK.out]
              exact ⟨.slice none 0 0, rfl, World.ownsRow_nil _ _ _ _, Below.next' hB0 (by first | exact below_drewN (below_drewN HB.out _) _ | exact below_drewN HB.out _) (Nat.le_refl _)⟩
            · have h4d : decide ((n2 : Int) < f.asset) = false := decide_eq_false h4
              have hK := Lib.hid (legK_yes (M := n1) (S := n2) (x := f) hno (by omega))
              have HF2 : Hid (firstK n1 n2 (legs.take (k + 1)) = 0) := Lib.hid (by rw [HFS.out, hK.out])
              clear hno
              go_wp2_with fail
              go_quiet (fail)
              go_wp2_with fail
              go_quiet (fail)
              go_wp2_with fail
              go_roundw
              case rel => exact ⟨k + 1, by omega, by go_num, HF2, Lib.hid (by first | exact below_drewN (below_drewN HB.out _) _ | exact below_drewN HB.out _)⟩
              case measure => simp [intOf]; omega
    · have hlz : ¬ (k : Int) < (n : Int) := by omega
      obtain rfl : n = k := by omega
      have hT : legs.take n = legs := List.take_of_length_le (by rw [HL.out]; exact Nat.le_refl _)
      have hfk := HFK.out
      rw [hT] at hfk
      have HFK' := Lib.hid hfk
      have HR0 : Hid (RefRel W W.heap.size legs (gridS 0 n2) (.slice none 0 0) wr) := Lib.hid ⟨rfl, World.ownsRow_nil _ _ _ _, HB.out⟩
      clear hfk hT HFK HB
      go_wp2_with fail
      go_loopw [7, 8] (fun v mi wr => ∃ i : Nat, i ≤ n1 ∧ mi = .int .i64 ((i : Int) + 1) ∧ Hid (RefRel W W.heap.size legs (gridS i n2) v wr)) (fun _ mi _ => n1 + 1 - (intOf mi).toNat)
      case atStart => exact ⟨0, by omega, rfl, HR0⟩
      case round =>
        obtain ⟨i, hi, rfl, HR⟩ := hrel
        have bc1 := HC0.out.past HR.out.below
        have e0 := bc1.cell 0
        simp at e0
        clear bc1
        by_cases hil : i < n1
        · have hz1 : (i : Int) + 1 ≤ (n1 : Int) := by omega
          have hz2 : (i : Int) < (n1 : Int) := by omega
          have HR1 : Hid (RefRel W W.heap.size legs (gridS i n2 ++ rowS i 0) u7 wr) := Lib.hid (by
            have : gridS i n2 ++ rowS i 0 = gridS i n2 := by simp [rowS]
            rw [this]; exact HR.out)
          clear HR
          go_wp2_with fail
          clear e0
          go_loopw [7, 9] (fun v aj wr => ∃ j : Nat, j ≤ n2 + 1 ∧ aj = .int .i64 (j : Int) ∧ Hid (RefRel W W.heap.size legs (gridS i n2 ++ rowS i j) v wr)) (fun _ aj _ => n2 + 1 - (intOf aj).toNat)
          case atStart => exact ⟨0, by omega, rfl, HR1⟩
          case round =>
            obtain ⟨j, hj, rfl, HQ⟩ := hrel
            have bc1 := HC0.out.past HQ.out.below
            have e1 := bc1.cell 1
            simp at e1
            clear bc1
            by_cases hjl : j < n2 + 1
            · have hz3 : (j : Int) ≤ (n2 : Int) := by omega
              have HOW := Lib.hid (refOwed_any A n c legs ((i : Int) + 1) (j : Int) wr (HRL.out.past HQ.out.below) hn HG.out)
              obtain ⟨S, hS⟩ : ∃ S, Hid (sumS legs ⟨(i : Int) + 1, (j : Int)⟩ = S) := ⟨_, Lib.hid rfl⟩
              have hS2 : (owedL legs ((i : Int) + 1) (j : Int)).sum = S := hS.out
              rw [hS2] at HOW
              clear hS2
              have hsw := HQ.out.below.size
              have hL400 : (outL legs (gridS i n2 ++ rowS i j)).length ≤ 1000 := by
                refine Nat.le_trans (outL_len _ _) ?_
                rw [List.length_append, gridS_len]
                have : i * (n2 + 1) ≤ 20 * 21 := Nat.mul_le_mul (by omega) (by omega)
                have : (rowS i j).length = j := by simp [rowS]
                omega
              by_cases hin : inI S
              · have HA := Lib.hid (amount_in hin)
                rw [HA.out.1, HA.out.2] at HOW
                have HI := Lib.hid hin
                clear hin
                by_cases hz : S = 0
                · have q1 : (S != 0) = false := by simpa using hz
                  have HZ := Lib.hid hz
                  clear hz
                  go_wp2_with fail
                  refine HOW.out.mono ?_
                  rintro e w4 ⟨rfl, hb4⟩
                  have HN : Hid (RefRel W W.heap.size legs (gridS i n2 ++ rowS i (j + 1)) u7 w4) := Lib.hid (by
                    rw [rowS_succ, ← List.append_assoc]
                    exact HQ.out.no (by rw [hS.out]; exact HI.out) (by rw [hS.out]; exact HZ.out) hb4 (Nat.le_refl _))
                  clear hb4 e1
                  go_wp2_with fail
                  go_roundw
                  case rel => exact ⟨j + 1, by omega, by go_num, HN⟩
                  case measure => simp [intOf]; omega
                · have q1 : (S != 0) = true := by simpa using hz
                  have HZ := Lib.hid hz
                  clear hz
                  go_wp2_with fail
                  refine HOW.out.mono ?_
                  rintro e w4 ⟨rfl, hb4⟩
                  have HB4 := Lib.hid (Below.next HQ.out.below hb4)
                  have HRO4 := Lib.hid (own_past' HQ.out.row hb4)
                  have hs4 := HB4.out.size
                  obtain ⟨p, hp⟩ : ∃ p, Hid ((outL legs (gridS i n2 ++ rowS i j)).length = p) := ⟨_, Lib.hid rfl⟩
                  rw [hp.out] at HRO4 hL400
                  clear hb4 e1
                  go_wp2_with (at_builtin; refine wpList_append_lit _ _ rfl (.tmp 81) (.tmp 86) 90 rfl W.heap.size 97 j0 _ 3 24 Try.underlying90 hj0 jz0 jz1 jz2 rfl (by decide) _ _ _ rfl HRO4.out _ 1 1 rfl (by first | rfl | simp) rfl (by simp [Value.oneCell']) (by omega) (by omega) (by omega) ?_; intro v' w' hown' hg'; have HOWN := Lib.hid hown'; have HGR := Lib.hid hg'; clear hown' hg')
                  have HN : Hid (RefRel W W.heap.size legs (gridS i n2 ++ rowS i (j + 1)) v' w') := Lib.hid (by
                    rw [rowS_succ, ← List.append_assoc]
                    refine ⟨by rw [List.all_append, HQ.out.ok]; simp [okS, hS.out, HI.out], ?_, ?_⟩
                    · rw [outL_yes (by rw [hS.out]; exact HZ.out), List.length_append, hp.out, List.flatMap_append, hS.out]; exact HOWN.out
                    · exact below_own (HB4.out.alloc hs4 _) HGR.out HRO4.out (by simp; omega) (Nat.le_refl _))
                  go_roundw
                  case rel => exact ⟨j + 1, by omega, by go_num, HN⟩
                  case measure => simp [intOf]; omega
              · have HA := Lib.hid (amount_outN hin)
                rw [HA.out.1, HA.out.2] at HOW
                have HE : Hid (netK n1 n2 legs = 2 ∧ netR n1 n2 legs = []) := Lib.hid (by
                  obtain ⟨R, hR⟩ := grid_split (n2 := n2) hil (show j ≤ n2 by omega)
                  exact refNets_bad HFK'.out hR (by rw [hS.out]; exact hin))
                clear hin
                go_wp2_with fail
                refine HOW.out.mono ?_
                rintro e w4 ⟨rfl, hb4⟩
                have HB4 := Lib.hid (Below.next' hB0 (Below.next HQ.out.below hb4) (Nat.le_refl _))
                clear hb4 e1
                go_wp2_with fail
                go_ret2
                unfold NetsPost
                rw [HE.out.1, HE.out.2]
                exact ⟨.slice none 0 0, rfl, World.ownsRow_nil _ _ _ _, HB4.out⟩
            · have hz3 : ¬ (j : Int) ≤ (n2 : Int) := by omega
              obtain rfl : j = n2 + 1 := by omega
              have HN : Hid (RefRel W W.heap.size legs (gridS (i + 1) n2) u7 wr) := Lib.hid (by rw [gridS_succ]; exact HQ.out)
              clear HQ
              go_wp2_with fail
              go_roundw
              case rel => exact ⟨i + 1, by omega, by go_num, HN⟩
              case measure => simp [intOf]; omega
        · have hz1 : ¬ (i : Int) + 1 ≤ (n1 : Int) := by omega
          have hz2 : ¬ (i : Int) < (n1 : Int) := by omega
          obtain rfl : n1 = i := by omega
          have HE := Lib.hid (refNets_good HFK'.out HR.out.ok)
          have HROW := Lib.hid (own_mono' HR.out.row hwW)
          have HBF := Lib.hid (Below.next' hB0 HR.out.below (Nat.le_refl _))
          clear HR
          go_wp2_with fail
          go_ret2
          unfold NetsPost
          rw [HE.out.1, HE.out.2]
          exact ⟨_, rfl, HROW.out, HBF.out⟩
end Go.Proofs.Ytfnhffcjhdeleaa
