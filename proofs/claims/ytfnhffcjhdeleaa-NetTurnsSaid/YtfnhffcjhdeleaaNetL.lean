import Derived.Test.YtfnhffcjhdeleaaNetK
namespace Go.Proofs.Ytfnhffcjhdeleaa
open Go.RowKit Go.ChangeShapes

set_option maxHeartbeats 2000000 in
set_option maxRecDepth 100000 in
theorem netTurns_many (A1 A2 A3 : Option Addr) (n1 n2 n3 cp1 cp2 cp3 : Nat) (cf : Conf) (A : Option Addr) (n c : Nat) (at_ : Int) (w : World) (hf : ¬ (fewB n1 n2 n3 = true ∧ n ≤ 60)) :
    Calls Try.prog 10 #[.agg #[.slice A1 n1 cp1, .slice A2 n2 cp2, .slice A3 n3 cp3, .int .i64 cf.line, .int .i64 cf.capital, .int .i64 cf.lead, .int .i64 cf.trades, .int .i64 cf.bids], .slice A n c, .int .u8 at_] w fun e w' => e = .returned (.bool true) ∧ Below w.heap.size w w' := by
  obtain ⟨W, hW⟩ : ∃ W, Hid (w.alloc (.cells #[.slice A1 n1 cp1, .slice A2 n2 cp2, .slice A3 n3 cp3, .int .i64 cf.line, .int .i64 cf.capital, .int .i64 cf.lead, .int .i64 cf.trades, .int .i64 cf.bids] 89) = W) := ⟨_, Lib.hid rfl⟩
  have hB0 : Below w.heap.size w W := by rw [← hW.out]; exact (Below.refl _ _).alloc (Nat.le_refl _) _
  have bc0 : Blk W w.heap.size 89 #[.slice A1 n1 cp1, .slice A2 n2 cp2, .slice A3 n3 cp3, .int .i64 cf.line, .int .i64 cf.capital, .int .i64 cf.lead, .int .i64 cf.trades, .int .i64 cf.bids] := by
    rw [← hW.out]; exact Blk.new w _ _ _ rfl
  have e0 := (bc0).cell 0
  have e1 := (bc0).cell 1
  have e2 := (bc0).cell 2
  have e3 := (bc0).cell 3
  have e4 := (bc0).cell 4
  have e5 := (bc0).cell 5
  have e6 := (bc0).cell 6
  have e7 := (bc0).cell 7
  simp at e0 e1 e2 e3 e4 e5 e6 e7
  clear bc0
  obtain ⟨v, hv⟩ : ∃ v, Hid (fewB n1 n2 n3 = v) := ⟨_, Lib.hid rfl⟩
  rw [hv.out] at hf
  have HF := Lib.hid hf
  clear hf
  go_enter Try.func10, Try.ntmps10
  go_upto_region 1 with fail
  rw [hW.out]
  go_wp2_with fail
  refine (few_any A1 A2 A3 n1 n2 n3 cp1 cp2 cp3 cf _).mono ?_
  rw [hv.out]
  rintro e w1 ⟨rfl, hb1⟩
  have HB2 := Lib.hid (Below.past hB0 hb1 hB0.size)
  clear hb1
  cases v with
  | false =>
    go_wp2_with fail
    refine (awake18 _).mono ?_
    rintro e w3 ⟨rfl, hb3⟩
    have HB4 := Lib.hid (Below.past HB2.out hb3 HB2.out.size)
    clear hb3
    go_wp2_with fail
    go_ret
    exact ⟨rfl, HB4.out⟩
  | true =>
    have q0 : (60 : Int) < (n : Int) := by
      have : ¬ n ≤ 60 := fun h => HF.out ⟨rfl, h⟩
      omega
    go_wp2_with fail
    refine (awake18 _).mono ?_
    rintro e w3 ⟨rfl, hb3⟩
    have HB4 := Lib.hid (Below.past HB2.out hb3 HB2.out.size)
    clear hb3
    go_wp2_with fail
    go_ret
    exact ⟨rfl, HB4.out⟩


set_option maxHeartbeats 8000000 in
set_option maxRecDepth 100000 in
theorem netTurns_few (A1 A2 A3 : Option Addr) (n1 n2 n3 cp1 cp2 cp3 : Nat) (cf : Conf) (A : Option Addr) (n c : Nat) (a : Nat) (legs : List Leg) (w : World) (hr : CfRd w A1 n1 A2 n2 A3 n3 cf) (hrl : Rd w w.heap.size 3 A n (legs.flatMap Leg.cells)) (hg : ∀ x ∈ legs, inI x.amount) (hf : fewB n1 n2 n3 = true) (hn : n ≤ 60) (h20 : n1 ≤ 20 ∧ n2 ≤ 20) (ha : a ≤ 255) :
    Calls Try.prog 10 #[.agg #[.slice A1 n1 cp1, .slice A2 n2 cp2, .slice A3 n3 cp3, .int .i64 cf.line, .int .i64 cf.capital, .int .i64 cf.lead, .int .i64 cf.trades, .int .i64 cf.bids], .slice A n c, .int .u8 (a : Int)] w fun e w' => e = .returned (.bool true) ∧ Below w.heap.size w w' := by
  obtain ⟨hm20, hs20⟩ := h20
  have HF := Lib.hid hf
  have HG := Lib.hid hg
  have HLn := Lib.hid (hrl.len Leg.cells_len (by omega))
  obtain ⟨j0, hj0, jz0, jz1, jz2⟩ := info_parts legInfoN
  clear hf hg
  obtain ⟨W, hW⟩ : ∃ W, Hid (w.alloc (.cells #[.slice A1 n1 cp1, .slice A2 n2 cp2, .slice A3 n3 cp3, .int .i64 cf.line, .int .i64 cf.capital, .int .i64 cf.lead, .int .i64 cf.trades, .int .i64 cf.bids] 89) = W) := ⟨_, Lib.hid rfl⟩
  have hB0 : Below w.heap.size w W := by rw [← hW.out]; exact (Below.refl _ _).alloc (Nat.le_refl _) _
  have bc0 : Blk W w.heap.size 89 #[.slice A1 n1 cp1, .slice A2 n2 cp2, .slice A3 n3 cp3, .int .i64 cf.line, .int .i64 cf.capital, .int .i64 cf.lead, .int .i64 cf.trades, .int .i64 cf.bids] := by
    rw [← hW.out]; exact Blk.new w _ _ _ rfl
  have HC0 := Lib.hid bc0
  have HR0 := Lib.hid (hr.past hB0)
  have HL0 := Lib.hid (hrl.past hB0)
  have e0 := (bc0).cell 0
  have e1 := (bc0).cell 1
  have e2 := (bc0).cell 2
  have e3 := (bc0).cell 3
  have e4 := (bc0).cell 4
  have e5 := (bc0).cell 5
  have e6 := (bc0).cell 6
  have e7 := (bc0).cell 7
  simp at e0 e1 e2 e3 e4 e5 e6 e7
  clear bc0 hr hrl
  have q0 : ¬ (60 : Int) < (n : Int) := by omega
  obtain ⟨k, hk⟩ : ∃ k, Hid (a % (n + 1) = k) := ⟨_, Lib.hid rfl⟩
  have hkn : k ≤ n := by rw [← hk.out]; have := Nat.mod_lt a (show 0 < n + 1 by omega); omega
  have hkz : ((a : Int) % ((n : Int) + 1)) = (k : Int) := by rw [← hk.out]; push_cast; rfl
  have hw1 : IntKind.i64.wrap (a : Int) = (a : Int) := IntWalk.i64_in _ (by omega)
  have hw2 : IntKind.i64.wrap ((n : Int) + 1) = (n : Int) + 1 := IntWalk.i64_in _ (by omega)
  have hw3 : IntKind.i64.wrap ((n : Int) - 1) = (n : Int) - 1 := IntWalk.i64_in _ (by omega)
  go_enter Try.func10, Try.ntmps10
  go_upto_region 1 with fail
  rw [hW.out]
  go_wp2_with fail
  refine (few_any A1 A2 A3 n1 n2 n3 cp1 cp2 cp3 cf _).mono ?_
  rw [HF.out]
  rintro e w1 ⟨rfl, hb1⟩
  have HD1 := Lib.hid hb1
  clear e0 e1 e2 e3 e4 e5 e6 e7 hb1
  go_wp2_with fail
  have HR1 : Hid (w1.ownsRow W.heap.size 97 3 (.slice none 0 0) ((legs.drop n).reverse).length (((legs.drop n).reverse).flatMap Leg.cells)) := Lib.hid (by
    rw [List.drop_of_length_le (by rw [HLn.out]; exact Nat.le_refl _)]
    exact World.ownsRow_nil _ _ _ _)
  rw [hkz]
  clear hkz hw1 hw2 hw3
  go_loopw [8, 9] (fun v i wr => ∃ (p : Nat) (z : Int), k ≤ p ∧ p ≤ n ∧ z = (p : Int) - 1 ∧ i = .int .i64 z ∧ Hid (wr.ownsRow W.heap.size 97 3 v ((legs.drop p).reverse).length (((legs.drop p).reverse).flatMap Leg.cells)) ∧ Hid (Below W.heap.size W wr)) (fun _ i _ => (intOf i + 1).toNat)
  case atStart => exact ⟨n, (n : Int) - 1, hkn, Nat.le_refl _, rfl, rfl, HR1, HD1⟩
  case round =>
    obtain ⟨p, z, hkp, hpn, hz, rfl, HR, HD⟩ := hrel
    by_cases hlt : k < p
    · obtain ⟨q, rfl⟩ : ∃ q, p = q + 1 := ⟨p - 1, by omega⟩
      obtain rfl : z = (q : Int) := by omega
      clear hz
      have hqn : q < n := by omega
      have hq1 : (k : Int) ≤ (q : Int) := by omega
      have hq2 : (q : Int) < (n : Int) := by omega
      have hg_f : legs[q]? = some (legs[q]'(by have := HLn.out; omega)) := List.getElem?_eq_getElem _
      obtain ⟨b_f, off_f, rfl, hbb_f, hc_f⟩ := (HL0.out.below HD.out).elem Leg.cells_len hg_f hqn
      have HT_f := Lib.hid (show legs.take (q + 1) = legs.take q ++ [(legs[q]'(by have := HLn.out; omega))] from List.take_succ_eq_append_getElem (by have := HLn.out; omega))
      have HD_f := Lib.hid (show legs.drop q = (legs[q]'(by have := HLn.out; omega)) :: legs.drop (q + 1) from List.drop_eq_getElem_cons (by have := HLn.out; omega))
      have HM_f := Lib.hid (show (legs[q]'(by have := HLn.out; omega)) ∈ legs from List.getElem_mem _)
      generalize (legs[q]'(by have := HLn.out; omega)) = f at *
      have c0 := hc_f 0 _ rfl
      have c1 := hc_f 1 _ rfl
      have c2 := hc_f 2 _ rfl
      clear hc_f hg_f
      simp only [Nat.add_zero] at c0
      have HX : Hid ((legs.drop q).reverse = (legs.drop (q + 1)).reverse ++ [f]) := Lib.hid (by rw [HD_f.out, List.reverse_cons])
      have hl : ((legs.drop (q + 1)).reverse).length ≤ 100 := by rw [List.length_reverse, List.length_drop, HLn.out]; omega
      obtain ⟨m, hm⟩ : ∃ m, Hid (((legs.drop (q + 1)).reverse).length = m) := ⟨_, Lib.hid rfl⟩
      have hrow := HR.out
      rw [hm.out] at hrow hl
      have HRW := Lib.hid hrow
      have hsD := HD.out.size
      have hw4 : IntKind.i64.wrap ((q : Int) - 1) = (q : Int) - 1 := IntWalk.i64_in _ (by omega)
      clear hrow HR
      go_wp2_with (at_builtin; refine wpList_append_lit _ _ rfl (.tmp 40) (.tmp 45) 90 rfl W.heap.size 97 j0 _ 3 24 Try.underlying90 hj0 jz0 jz1 jz2 rfl (by decide) _ _ _ rfl HRW.out _ 1 1 rfl (by first | rfl | simp) rfl (by simp [Value.oneCell']) (by omega) (by omega) (by omega) ?_; intro v' w' hown' hg'; have HOWN := Lib.hid hown'; have HBW := Lib.hid (below_own (HD.out.alloc hsD _) hg' HRW.out (by simp; omega) (Nat.le_refl _)); clear hown' hg')
      clear hw4
      go_roundw
      case rel => exact ⟨q, (q : Int) - 1, by omega, by omega, rfl, rfl, Lib.hid (by rw [HX.out, List.length_append, hm.out, List.flatMap_append]; exact HOWN.out), HBW⟩
      case measure => simp [intOf] <;> omega
    · obtain rfl : p = k := by omega
      have hq1 : ¬ (p : Int) ≤ z := by omega
      have hq5 : z < (p : Int) := by omega
      have hq6 : decide ((p : Int) ≤ z) = false := decide_eq_false hq1
      clear hz hlt hkp
      have HR2 : Hid (wr.ownsRow W.heap.size 97 3 u8 ((legs.drop p).reverse ++ legs.take 0).length (((legs.drop p).reverse ++ legs.take 0).flatMap Leg.cells)) := Lib.hid (by rw [List.take_zero, List.append_nil]; exact HR.out)
      clear HR
      go_wp2_with fail
      go_loopw [8, 10] (fun v i wr => ∃ j : Nat, j ≤ p ∧ i = .int .i64 (j : Int) ∧ Hid (wr.ownsRow W.heap.size 97 3 v ((legs.drop p).reverse ++ legs.take j).length (((legs.drop p).reverse ++ legs.take j).flatMap Leg.cells)) ∧ Hid (Below W.heap.size W wr)) (fun _ i _ => p - (intOf i).toNat)
      case atStart => exact ⟨0, Nat.zero_le _, rfl, HR2, HD⟩
      case round =>
        obtain ⟨j, hj, rfl, HR, HD⟩ := hrel
        by_cases hlt : j < p
        · have hjn : j < n := by omega
          have hq3 : (j : Int) < (p : Int) := by omega
          have hq2 : (j : Int) < (n : Int) := by omega
          have hg_f : legs[j]? = some (legs[j]'(by have := HLn.out; omega)) := List.getElem?_eq_getElem _
          obtain ⟨b_f, off_f, rfl, hbb_f, hc_f⟩ := (HL0.out.below HD.out).elem Leg.cells_len hg_f hjn
          have HT_f := Lib.hid (show legs.take (j + 1) = legs.take j ++ [(legs[j]'(by have := HLn.out; omega))] from List.take_succ_eq_append_getElem (by have := HLn.out; omega))
          have HM_f := Lib.hid (show (legs[j]'(by have := HLn.out; omega)) ∈ legs from List.getElem_mem _)
          generalize (legs[j]'(by have := HLn.out; omega)) = f at *
          have c0 := hc_f 0 _ rfl
          have c1 := hc_f 1 _ rfl
          have c2 := hc_f 2 _ rfl
          clear hc_f hg_f
          simp only [Nat.add_zero] at c0
          have HX : Hid ((legs.drop p).reverse ++ legs.take (j + 1) = ((legs.drop p).reverse ++ legs.take j) ++ [f]) := Lib.hid (by rw [HT_f.out, List.append_assoc])
          have hl : ((legs.drop p).reverse ++ legs.take j).length ≤ 200 := by rw [List.length_append, List.length_reverse, List.length_drop, HLn.out, List.length_take]; omega
          obtain ⟨m, hm⟩ : ∃ m, Hid (((legs.drop p).reverse ++ legs.take j).length = m) := ⟨_, Lib.hid rfl⟩
          have hrow := HR.out
          rw [hm.out] at hrow hl
          have HRW := Lib.hid hrow
          have hsD := HD.out.size
          clear hrow HR
          go_wp2_with (at_builtin; refine wpList_append_lit _ _ rfl (.tmp 52) (.tmp 57) 90 rfl W.heap.size 97 j0 _ 3 24 Try.underlying90 hj0 jz0 jz1 jz2 rfl (by decide) _ _ _ rfl HRW.out _ 1 1 rfl (by first | rfl | simp) rfl (by simp [Value.oneCell']) (by omega) (by omega) (by omega) ?_; intro v' w' hown' hg'; have HOWN := Lib.hid hown'; have HBW := Lib.hid (below_own (HD.out.alloc hsD _) hg' HRW.out (by simp; omega) (Nat.le_refl _)); clear hown' hg')
          go_roundw
          case rel => exact ⟨j + 1, by omega, by go_num, Lib.hid (by rw [HX.out, List.length_append, hm.out, List.flatMap_append]; exact HOWN.out), HBW⟩
          case measure => simp [intOf]; omega
        · have hq3 : ¬ (j : Int) < (p : Int) := by omega
          obtain rfl : j = p := by omega
          have HPM : Hid (legs.Perm (turnG legs j)) := Lib.hid (turnG_perm legs j).symm
          have hlt2 : (turnG legs j).length = n := by rw [← HLn.out]; exact (turnG_perm legs j).length_eq
          have hrow : wr.ownsRow W.heap.size 97 3 u8 (turnG legs j).length ((turnG legs j).flatMap Leg.cells) := HR.out
          rw [hlt2] at hrow
          obtain ⟨At, ct, rfl⟩ := own_form hrow
          have HTR := Lib.hid (Rd.of_own hrow)
          have HGT : Hid (∀ x ∈ turnG legs j, inI x.amount) := Lib.hid fun x hx => HG.out x ((turnG_perm legs j).mem_iff.1 hx)
          have HN1 := Lib.hid (nets_any A1 A2 A3 n1 n2 n3 cp1 cp2 cp3 cf A n c legs wr (HR0.out.past HD.out) (HL0.out.past HD.out) (by omega) HG.out)
          obtain ⟨K, hK⟩ : ∃ K, Hid (netK n1 n2 legs = K) := ⟨_, Lib.hid rfl⟩
          obtain ⟨K2, hK2⟩ : ∃ K, Hid (netK n1 n2 (turnG legs j) = K) := ⟨_, Lib.hid rfl⟩
          rw [hK.out] at HN1
          have bc1 := HC0.out.past HD.out
          have e0 := (bc1).cell 0
          have e1 := (bc1).cell 1
          have e2 := (bc1).cell 2
          have e3 := (bc1).cell 3
          have e4 := (bc1).cell 4
          have e5 := (bc1).cell 5
          have e6 := (bc1).cell 6
          have e7 := (bc1).cell 7
          simp at e0 e1 e2 e3 e4 e5 e6 e7
          clear bc1 hrow HR hlt hlt2 hj hq3 hkn
          go_wp2_with fail
          refine HN1.out.mono ?_
          rintro e w2 ⟨v2, rfl, ho2, hb2⟩
          obtain ⟨A2', c2, rfl⟩ := own_form ho2
          have HD2 := Lib.hid (Below.next HD.out hb2)
          have HO2 := Lib.hid (Rd.of_own ho2)
          have bc2 := HC0.out.past HD2.out
          have HN2 := Lib.hid (nets_any A1 A2 A3 n1 n2 n3 cp1 cp2 cp3 cf At n ct (turnG legs j) w2 (HR0.out.past HD2.out) (HTR.out.past hb2) (by omega) HGT.out)
          rw [hK2.out] at HN2
          clear e0 e1 e2 e3 e4 e5 e6 e7 hb2 ho2
          have e0 := (bc2).cell 0
          have e1 := (bc2).cell 1
          have e2 := (bc2).cell 2
          have e3 := (bc2).cell 3
          have e4 := (bc2).cell 4
          have e5 := (bc2).cell 5
          have e6 := (bc2).cell 6
          have e7 := (bc2).cell 7
          simp at e0 e1 e2 e3 e4 e5 e6 e7
          clear bc2
          go_wp2_with fail
          refine HN2.out.mono ?_
          rintro e w3 ⟨v3, rfl, ho3, hb3⟩
          obtain ⟨A3', c3, rfl⟩ := own_form ho3
          have HD3 := Lib.hid (Below.next HD2.out hb3)
          have HO3 := Lib.hid (Rd.of_own ho3)
          have HO23 := Lib.hid (HO2.out.past hb3)
          have bc3 := HC0.out.past HD3.out
          clear e0 e1 e2 e3 e4 e5 e6 e7 hb3 ho3
          have e0 := (bc3).cell 0
          have e1 := (bc3).cell 1
          have e2 := (bc3).cell 2
          have e3 := (bc3).cell 3
          have e4 := (bc3).cell 4
          have e5 := (bc3).cell 5
          have e6 := (bc3).cell 6
          have e7 := (bc3).cell 7
          simp at e0 e1 e2 e3 e4 e5 e6 e7
          clear bc3
          have hlen := netR_len n1 n2 legs hm20 hs20
          by_cases hz : K = 0
          · have hkk : netK n1 n2 legs = 0 := by rw [hK.out]; exact hz
            have ht := net_turn HPM.out hkk
            have hnn := net_net hkk
            have HOO := Lib.hid (out_ok hkk)
            have HK2 : Hid (K2 = 0) := Lib.hid (by rw [← hK2.out]; exact ht.1)
            have HO3' := HO3.out
            rw [ht.2] at HO3'
            have HO33 := Lib.hid HO3'
            have HN4 := Lib.hid (nets_any A1 A2 A3 n1 n2 n3 cp1 cp2 cp3 cf A2' _ c2 (netR n1 n2 legs) w3 (HR0.out.past HD3.out) HO23.out (by omega) HOO.out)
            rw [hnn.1, hnn.2] at HN4
            obtain rfl : K = 0 := hz
            obtain rfl : K2 = 0 := HK2.out
            rw [ht.2]
            clear HO3' ht hnn hkk HK2 HO3
            go_wp2_with fail
            refine HN4.out.mono ?_
            rintro e w4 ⟨v4, rfl, ho4, hb4⟩
            obtain ⟨A4', c4, rfl⟩ := own_form ho4
            have HD4 := Lib.hid (Below.next HD3.out hb4)
            have HO4 := Lib.hid (Rd.of_own ho4)
            have HO24 := Lib.hid (HO23.out.past hb4)
            have HO34 := Lib.hid (HO33.out.past hb4)
            clear e0 e1 e2 e3 e4 e5 e6 e7 hb4 ho4
            go_wp2_with fail
            refine (awake18 _).mono ?_
            rintro e w5 ⟨rfl, hb5⟩
            have HD5 := Lib.hid (Below.next HD4.out hb5)
            have HO25 := Lib.hid (HO24.out.past hb5)
            have HO45 := Lib.hid (HO4.out.past hb5)
            have HS1 := Lib.hid (sameLegs A2' A3' _ c2 c3 (netR n1 n2 legs) w5 HO25.out (HO34.out.past hb5) (by omega))
            clear hb5
            go_wp2_with fail
            refine HS1.out.mono ?_
            rintro e w6 ⟨rfl, hb6⟩
            have HD6 := Lib.hid (Below.next HD5.out hb6)
            have HS2 := Lib.hid (sameLegs A4' A2' _ c4 c2 (netR n1 n2 legs) w6 (HO45.out.past hb6) (HO25.out.past hb6) (by omega))
            clear hb6
            go_wp2_with fail
            refine HS2.out.mono ?_
            rintro e w7 ⟨rfl, hb7⟩
            have HD7 := Lib.hid (Below.next HD6.out hb7)
            clear hb7
            go_wp2_with fail
            go_ret
            exact ⟨rfl, Below.next' hB0 HD7.out (Nat.le_refl _)⟩
          · have hkk : netK n1 n2 legs ≠ 0 := by rw [hK.out]; exact hz
            have hk2 : K2 ≠ 0 := by rw [← hK2.out]; exact net_turn_no HPM.out hkk
            have hr0 := net_no hkk
            rw [hr0]
            have q1 : (K != 0) = true := by simpa using hz
            have q2 : (K2 != 0) = true := by simpa using hk2
            clear hkk hk2 hz hr0
            go_wp2_with fail
            refine (awake18 _).mono ?_
            rintro e w5 ⟨rfl, hb5⟩
            have HD5 := Lib.hid (Below.next HD3.out hb5)
            clear hb5
            go_wp2_with fail
            go_ret
            exact ⟨rfl, Below.next' hB0 HD5.out (Nat.le_refl _)⟩
end Go.Proofs.Ytfnhffcjhdeleaa
