import Derived.Test.YtelbolhckhdioaaRgL
namespace Go.Proofs.Ytelbolhckhdioaa
open Go.RowKit Go.ChangeShapes

set_option maxHeartbeats 32000000 in
set_option maxRecDepth 100000 in
theorem registerBounds_few (A1 A2 A3 : Option Addr) (n1 n2 n3 cp1 cp2 cp3 : Nat) (cf : Conf) (A : Option Addr) (n c : Nat) (z0 z1 : Int) (l : List Trad) (w : World) (hr : CfRd w A1 n1 A2 n2 A3 n3 cf) (hrl : Rd w w.heap.size 6 A n (l.flatMap trD)) (hg : ∀ t ∈ l, inI t.qty ∧ inI t.price) (hf : fewB n1 n2 n3 = true) (hn : n ≤ 40) (hk8 : wrongK cf = 8) :
    Calls Try.prog 8 #[.agg #[.slice A1 n1 cp1, .slice A2 n2 cp2, .slice A3 n3 cp3, .int .i64 cf.line, .int .i64 cf.capital, .int .i64 cf.lead, .int .i64 cf.trades, .int .i64 cf.bids], .slice A n c, .agg #[.int .i64 z0, .int .i64 z1]] w fun e w' => e = .returned (.bool true) ∧ Below w.heap.size w w' := by
  have HL := Lib.hid (hrl.len trD_len (by omega))
  have HF := Lib.hid hf
  have HHK := Lib.hid hk8
  have HG := Lib.hid hg
  have HN3 := Lib.hid (hr.c.len Cyc.cells_len (by omega))
  have h8 := wrong8 hk8
  clear hf hk8 hg
  obtain ⟨W, hW⟩ : ∃ W, Hid ((w.alloc (.cells #[.slice A1 n1 cp1, .slice A2 n2 cp2, .slice A3 n3 cp3, .int .i64 cf.line, .int .i64 cf.capital, .int .i64 cf.lead, .int .i64 cf.trades, .int .i64 cf.bids] 78)).alloc (.cells #[.int .i64 z0, .int .i64 z1] 95) = W) := ⟨_, Lib.hid rfl⟩
  have hB0 : Below w.heap.size w W := by rw [← hW.out]; exact ((Below.refl _ _).alloc (Nat.le_refl _) _).alloc (by simp) _
  have bc0 : Blk W w.heap.size 78 #[.slice A1 n1 cp1, .slice A2 n2 cp2, .slice A3 n3 cp3, .int .i64 cf.line, .int .i64 cf.capital, .int .i64 cf.lead, .int .i64 cf.trades, .int .i64 cf.bids] := by
    rw [← hW.out]; exact (Blk.new w _ _ _ rfl).alloc _
  have bz0 : Blk W (w.heap.size + 1) 95 #[.int .i64 z0, .int .i64 z1] := by
    rw [← hW.out]; exact Blk.new (w.alloc (.cells #[.slice A1 n1 cp1, .slice A2 n2 cp2, .slice A3 n3 cp3, .int .i64 cf.line, .int .i64 cf.capital, .int .i64 cf.lead, .int .i64 cf.trades, .int .i64 cf.bids] 78)) _ _ _ (by simp)
  obtain ⟨zb, hzb⟩ : ∃ zb, Hid (w.heap.size + 1 = zb) := ⟨_, Lib.hid rfl⟩
  rw [hzb.out] at bz0
  have HCB := Lib.hid bc0
  have HZB := Lib.hid bz0
  have HR0 := Lib.hid (hr.past hB0)
  have HRL := Lib.hid hrl
  have HB0 := Lib.hid hB0
  have q0 : ¬ (40 : Int) < (n : Int) := by omega
  have e0 := (bc0).cell 0
  have e1 := (bc0).cell 1
  have e2 := (bc0).cell 2
  have e3 := (bc0).cell 3
  have e4 := (bc0).cell 4
  have e5 := (bc0).cell 5
  have e6 := (bc0).cell 6
  have e7 := (bc0).cell 7
  simp at e0 e1 e2 e3 e4 e5 e6 e7
  clear bc0 bz0 hr hrl hB0
  go_enter Try.func8, Try.ntmps8
  go_upto_region 1 with fail
  rw [hW.out, hzb.out]
  go_wp2_with fail
  refine (few_any A1 A2 A3 n1 n2 n3 cp1 cp2 cp3 cf _).mono ?_
  rw [HF.out]
  rintro e w1 ⟨rfl, hb1⟩
  have bc1 := HCB.out.past hb1
  have HWr := Lib.hid (refWrong_any A1 A2 A3 n1 n2 n3 cp1 cp2 cp3 cf w1 (HR0.out.past hb1))
  rw [HHK.out] at HWr
  have HD1 := Lib.hid hb1
  clear e0 e1 e2 e3 e4 e5 e6 e7
  have e0 := (bc1).cell 0
  have e1 := (bc1).cell 1
  have e2 := (bc1).cell 2
  have e3 := (bc1).cell 3
  have e4 := (bc1).cell 4
  have e5 := (bc1).cell 5
  have e6 := (bc1).cell 6
  have e7 := (bc1).cell 7
  simp at e0 e1 e2 e3 e4 e5 e6 e7
  clear bc1 hb1
  go_wp2_with fail
  refine HWr.out.mono ?_
  rintro e w2 ⟨rfl, hb2⟩
  have HD2 := Lib.hid (Below.next HD1.out hb2)
  have hw1 : (word 8).toList = [] := by have h := word_empty 8; simpa using h
  have hw2 : (word 8) = ⟨#[]⟩ := rfl
  have bc2 := HCB.out.past HD2.out
  clear e0 e1 e2 e3 e4 e5 e6 e7 hb2 HWr
  have HNR := Lib.hid (newG_yes A1 A2 A3 n1 n2 n3 cp1 cp2 cp3 cf w2 (HR0.out.past HD2.out) HHK.out HN3.out)
  unfold NewGPost at HNR
  have e0 := (bc2).cell 0
  have e1 := (bc2).cell 1
  have e2 := (bc2).cell 2
  have e3 := (bc2).cell 3
  have e4 := (bc2).cell 4
  have e5 := (bc2).cell 5
  have e6 := (bc2).cell 6
  have e7 := (bc2).cell 7
  simp at e0 e1 e2 e3 e4 e5 e6 e7
  clear bc2
  go_wp2_with fail
  refine HNR.out.mono ?_
  rintro e w3 ⟨g, gt, gu, B1, d1, B2, d2, B3, d3, rfl, hx3, hb3⟩
  have hs23 := hb3.size
  have HB2 := Lib.hid (Below.past HB0.out HD2.out HB0.out.size)
  have HST0 : Hid (BdNx w2 n1 n2 n3 cf g gt gu w2.heap.size B1 d1 B2 d2 B3 d3 0 w3) := Lib.hid ⟨.slice none 0 0, .slice none 0 0, 0, [], [], ⟨hx3, (AllIn.start h8.1).reg, Nat.le_refl _, hb3⟩⟩
  clear e0 e1 e2 e3 e4 e5 e6 e7 hx3 hb3 HNR hw1 hw2
  go_wp2_with fail
  go_loopw [9] (fun i wr => ∃ k : Nat, k ≤ n ∧ i = .int .i64 (k : Nat) ∧ Hid (BdNx w2 n1 n2 n3 cf g gt gu w2.heap.size B1 d1 B2 d2 B3 d3 k wr)) (fun i _ => n - (intOf i).toNat)
  case atStart => exact ⟨0, by omega, rfl, HST0⟩
  case round =>
    clear HST0
    obtain ⟨k, hk, rfl, HS⟩ := hrel
    obtain ⟨vt, vu, ac, S, U, hst⟩ := HS.out
    have HST := Lib.hid hst
    have HBR := Lib.hid (Below.past HB2.out hst.below HB2.out.size)
    have hs2r := hst.below.size
    clear hst HS
    by_cases hlt : k < n
    · have hlz : (k : Int) < (n : Int) := by omega
      obtain ⟨f, hfk⟩ : ∃ f, l[k]? = some f := ⟨_, List.getElem?_eq_getElem (by have := HL.out; omega)⟩
      have hfm := List.mem_of_getElem? hfk
      have HFI := Lib.hid (HG.out f hfm)
      obtain ⟨b_f, o_f, rfl, hcf⟩ := trd_cells6 HRL.out hfk hlt
      obtain ⟨c0, c1, c2, c3, c4, c5⟩ := hcf wr HBR.out
      have hul := HST.out.ul
      have HAD := Lib.hid (addR_any f wr HST.out.reg HST.out.inv HFI.out.1 HFI.out.2 (by omega) h8.2.1 hs2r)
      clear hfk hfm hcf hul
      go_wp2_with fail
      refine HAD.out.mono ?_
      rintro e w5 hp
      obtain rfl := hp.1
      have HNX := Lib.hid (HST.out.next hp HFI.out.1 HFI.out.2 (Nat.le_refl _) hs2r)
      clear hp c0 c1 c2 c3 c4 c5 HAD
      go_wp2_with fail
      go_roundw
      case rel => exact ⟨k + 1, by omega, by go_num, HNX⟩
      case measure => simp [intOf]; omega
    · have hlz : ¬ (k : Int) < (n : Int) := by omega
      obtain rfl : n = k := by omega
      have HRI := Lib.hid HST.out.inv
      have HCK : Hid (∀ r ∈ S, checkT n1 n2 r.v = 0) := Lib.hid fun r hr => (HRI.out.ok r hr).1
      have HIN : Hid (∀ r ∈ S, TrdIn r.v ∧ legsIn r.v = true) := Lib.hid fun r hr => ⟨(HRI.out.ok r hr).2.2, legsIn_of (HRI.out.ok r hr).1⟩
      have hsb := sum_bds 0 HCK.out
      have htop := HRI.out.top
      have how := owed_all z0 z1 HCK.out
      have hln : S.length ≤ 64 := by have := HRI.out.len; have := HRI.out.ac0; omega
      have HSI : Hid (inI (sumV S) ∧ sumV S ≤ 288230376151711744) := Lib.hid ⟨by unfold inI; omega, htop⟩
      obtain ⟨ow, howe⟩ : ∃ z, Hid ((owedL (legsS S) z0 z1).sum = z) := ⟨_, Lib.hid rfl⟩
      rw [howe.out] at how
      have ho1 : ow ≤ 288230376151711744 := by omega
      have ho2 : -288230376151711744 ≤ ow := by omega
      have hoi : inI ow := by unfold inI; omega
      obtain ⟨m, hm⟩ : ∃ m, Hid (S.length = m) := ⟨_, Lib.hid rfl⟩
      rw [hm.out] at hln
      have hdr := Below.drew (Below.refl wr.heap.size wr)
      have HXd := Lib.hid (HST.out.reg.past hdr)
      have HBd := Lib.hid (HBR.out.drew)
      have HZd := Lib.hid (((HZB.out.past HD2.out).past HST.out.below).past hdr)
      have HLG := Lib.hid (legsG_any wr.drew HXd.out HIN.out)
      rw [hm.out] at HLG
      have hs2d := Nat.le_trans hs2r hdr.size
      clear hsb htop how hdr
      go_upto_region 10 with fail
      have hS0 : wr.drew.cell? ⟨zb, 0, none⟩ = some (.int .i64 z0) ∧ wr.drew.cell? ⟨zb, 1, none⟩ = some (.int .i64 z1) := ⟨by simpa using HZd.out.cell 0, by simpa using HZd.out.cell 1⟩
      refine wp_region_held_drew (S := fun w' => w'.cell? ⟨zb, 0, none⟩ = some (.int .i64 z0) ∧ w'.cell? ⟨zb, 1, none⟩ = some (.int .i64 z1)) (by kernel_rfl) hS0 (fun hHeld => ?_)
      clear hS0
      refine wpAnyH_take (i := 0) (v := ?_) rfl (by kernel_rfl) (by kernel_rfl) (by kernel_rfl) (fun _ _ _ h => h) (Or.inl ⟨by rfl, ?_⟩) (by assumption) ?_
      rotate_left
      · (intro w' hSw; (try dsimp only at hSw); first | (go_simp; done) | (go_simp; with_reducible rfl))
      try simp only [Act.put, List.getElem_toArray, List.getElem_cons_zero, List.getElem_cons_succ, List.setIfInBounds_toArray, List.set_cons_zero, List.set_cons_succ]
      refine wpAnyH_take (i := 2) (v := ?_) rfl (by kernel_rfl) (by kernel_rfl) (by kernel_rfl) (fun _ _ _ h => h) (Or.inl ⟨by rfl, ?_⟩) (by assumption) ?_
      rotate_left
      · (intro w' hSw; (try dsimp only at hSw); first | (go_simp; done) | (go_simp; with_reducible rfl))
      try simp only [Act.put, List.getElem_toArray, List.getElem_cons_zero, List.getElem_cons_succ, List.setIfInBounds_toArray, List.set_cons_zero, List.set_cons_succ]
      refine wpAnyH_take (i := 3) (v := ?_) rfl (by kernel_rfl) (by kernel_rfl) (by kernel_rfl) (fun _ _ _ h => h) (Or.inl ⟨by rfl, ?_⟩) (by assumption) ?_
      rotate_left
      · (intro w' hSw; (try dsimp only at hSw); first | (go_simp; done) | (go_simp; with_reducible rfl))
      try simp only [Act.put, List.getElem_toArray, List.getElem_cons_zero, List.getElem_cons_succ, List.setIfInBounds_toArray, List.set_cons_zero, List.set_cons_succ]
      refine wpAnyH_take (i := 4) (v := ?_) rfl (by kernel_rfl) (by kernel_rfl) (by kernel_rfl) (fun _ _ _ h => h) (Or.inl ⟨by rfl, ?_⟩) (by assumption) ?_
      rotate_left
      · (intro w' hSw; (try dsimp only at hSw); first | (go_simp; done) | (go_simp; with_reducible rfl))
      try simp only [Act.put, List.getElem_toArray, List.getElem_cons_zero, List.getElem_cons_succ, List.setIfInBounds_toArray, List.set_cons_zero, List.set_cons_succ]
      refine wpAnyH_take (i := 5) (v := ?_) rfl (by kernel_rfl) (by kernel_rfl) (by kernel_rfl) (fun _ _ _ h => h) (Or.inl ⟨by rfl, ?_⟩) (by assumption) ?_
      rotate_left
      · (intro w' hSw; (try dsimp only at hSw); first | (go_simp; done) | (go_simp; with_reducible rfl))
      try simp only [Act.put, List.getElem_toArray, List.getElem_cons_zero, List.getElem_cons_succ, List.setIfInBounds_toArray, List.set_cons_zero, List.set_cons_succ]
      refine wpAnyH_ready (rs := [1]) (by kernel_rfl) (by simp) ?_
      refine AllReadyH.cons rfl (fun K hK => ?_) AllReadyH.nil
      go_simp
      go_at_call 47
      refine HLG.out.mono ?_
      rintro e w6 ⟨v6, rfl, ho6, hb6⟩
      obtain ⟨A6, c6, rfl⟩ := own_form ho6
      have HX6 := Lib.hid (HXd.out.past hb6)
      have HB6 := Lib.hid (Below.past HBd.out hb6 HBd.out.size)
      have HZ6 := Lib.hid (HZd.out.past hb6)
      have HOW := Lib.hid (owed_any A6 (4 * m) c6 (legsS S) z0 z1 w6 (Rd.of_own ho6) (by omega) (legs_inS HCK.out))
      rw [howe.out, show amount ow = ow from if_pos hoi, show over ow = 0 from if_pos hoi] at HOW
      have hs26 := Nat.le_trans hs2d hb6.size
      clear hb6 ho6 HLG hHeld
      refine hK.out _ _ (⟨by simpa using HZ6.out.cell 0, by simpa using HZ6.out.cell 1⟩) (fun hHeld => ?_)
      try simp only [Act.put, List.getElem_toArray, List.getElem_cons_zero, List.getElem_cons_succ, List.setIfInBounds_toArray, List.set_cons_zero, List.set_cons_succ]
      refine wpAnyH_ready (rs := [6]) (by kernel_rfl) (by simp) ?_
      refine AllReadyH.cons rfl (fun K hK => ?_) AllReadyH.nil
      go_simp
      go_at_call 49
      refine HOW.out.mono ?_
      rintro e w7 ⟨rfl, hb7⟩
      have HX7 := Lib.hid (HX6.out.past hb7)
      have HB7 := Lib.hid (Below.past HB6.out hb7 HB6.out.size)
      have HZ7 := Lib.hid (HZ6.out.past hb7)
      have HTR := Lib.hid (tradesG_any w7 HX7.out)
      rw [hm.out] at HTR
      have hs27 := Nat.le_trans hs26 hb7.size
      clear hb7 HOW hHeld
      refine hK.out _ _ (⟨by simpa using HZ7.out.cell 0, by simpa using HZ7.out.cell 1⟩) (fun hHeld => ?_)
      try simp only [Act.put, List.getElem_toArray, List.getElem_cons_zero, List.getElem_cons_succ, List.setIfInBounds_toArray, List.set_cons_zero, List.set_cons_succ]
      refine wpAnyH_take (i := 7) (v := ?_) rfl (by kernel_rfl) (by kernel_rfl) (by kernel_rfl) (fun _ _ _ h => h) (Or.inl ⟨by rfl, ?_⟩) (by assumption) ?_
      rotate_left
      · (intro w' hSw; (try dsimp only at hSw); first | (go_simp; done) | (go_simp; with_reducible rfl))
      try simp only [Act.put, List.getElem_toArray, List.getElem_cons_zero, List.getElem_cons_succ, List.setIfInBounds_toArray, List.set_cons_zero, List.set_cons_succ]
      refine wpAnyH_take (i := 8) (v := ?_) rfl (by kernel_rfl) (by kernel_rfl) (by kernel_rfl) (fun _ _ _ h => h) (Or.inl ⟨by rfl, ?_⟩) (by assumption) ?_
      rotate_left
      · (intro w' hSw; (try dsimp only at hSw); first | (go_simp; done) | (go_simp; with_reducible rfl))
      try simp only [Act.put, List.getElem_toArray, List.getElem_cons_zero, List.getElem_cons_succ, List.setIfInBounds_toArray, List.set_cons_zero, List.set_cons_succ]
      refine wpAnyH_take (i := 9) (v := ?_) rfl (by kernel_rfl) (by kernel_rfl) (by kernel_rfl) (fun _ _ _ h => h) (Or.inl ⟨by rfl, ?_⟩) (by assumption) ?_
      rotate_left
      · (intro w' hSw; (try dsimp only at hSw); first | (go_simp; done) | (go_simp; with_reducible rfl))
      try simp only [Act.put, List.getElem_toArray, List.getElem_cons_zero, List.getElem_cons_succ, List.setIfInBounds_toArray, List.set_cons_zero, List.set_cons_succ]
      refine wpAnyH_take (i := 10) (v := ?_) rfl (by kernel_rfl) (by kernel_rfl) (by kernel_rfl) (fun _ _ _ h => h) (Or.inl ⟨by rfl, ?_⟩) (by assumption) ?_
      rotate_left
      · (intro w' hSw; (try dsimp only at hSw); first | (go_simp; done) | (go_simp; with_reducible rfl))
      try simp only [Act.put, List.getElem_toArray, List.getElem_cons_zero, List.getElem_cons_succ, List.setIfInBounds_toArray, List.set_cons_zero, List.set_cons_succ]
      refine wpAnyH_take (i := 11) (v := ?_) rfl (by kernel_rfl) (by kernel_rfl) (by kernel_rfl) (fun _ _ _ h => h) (Or.inl ⟨by rfl, ?_⟩) (by assumption) ?_
      rotate_left
      · (intro w' hSw; (try dsimp only at hSw); first | (go_simp; done) | (go_simp; with_reducible rfl))
      try simp only [Act.put, List.getElem_toArray, List.getElem_cons_zero, List.getElem_cons_succ, List.setIfInBounds_toArray, List.set_cons_zero, List.set_cons_succ]
      refine wpAnyH_done (by kernel_rfl) ?_ _
      clear hHeld
      go_wp2_with fail
      refine HTR.out.mono ?_
      rintro e w8 ⟨v8, rfl, ho8, hb8⟩
      obtain ⟨A8, c8, rfl⟩ := own_form ho8
      have HX8 := Lib.hid (HX7.out.past hb8)
      have HB8 := Lib.hid (Below.past HB7.out hb8 HB7.out.size)
      have HR8 := Lib.hid (Rd.of_own ho8)
      have hs28 := Nat.le_trans hs27 hb8.size
      have HCP := Lib.hid (copyR_any w8 HX8.out hs28)
      unfold CopyRPost at HCP
      clear hb8 ho8 HTR
      go_wp2_with fail
      refine HCP.out.mono ?_
      rintro e w9 ⟨h, ht, hu, vt9, vu9, rfl, hy9, hfar, hb9⟩
      have HCN0 : Hid (∃ vt', CanSt w8 n1 n2 n3 cf h ht hu w2.heap.size B1 d1 B2 d2 B3 d3 vu9 ac (S.drop 0) U w9 vt') := Lib.hid ⟨vt9, hy9, hb9, hfar⟩
      clear hy9 hfar hb9 HCP
      go_wp2_with fail
      go_loopw [14] (fun i wz => ∃ j : Nat, j ≤ m ∧ i = .int .i64 (j : Nat) ∧ Hid (∃ vt', CanSt w8 n1 n2 n3 cf h ht hu w2.heap.size B1 d1 B2 d2 B3 d3 vu9 ac (S.drop j) U wz vt')) (fun i _ => m - (intOf i).toNat)
      case atStart => exact ⟨0, by omega, rfl, HCN0⟩
      case round =>
        clear HCN0
        obtain ⟨j, hj, rfl, HS2⟩ := hrel
        obtain ⟨vt2, hst2⟩ := HS2.out
        have HST2 := Lib.hid hst2
        have HBZ := Lib.hid (Below.past HB8.out hst2.below HB8.out.size)
        clear hst2 HS2
        by_cases hjm : j < m
        · have hjz : (j : Int) < (m : Int) := by omega
          have hjS : j < S.length := by have := hm.out; omega
          obtain ⟨f, hfj⟩ : ∃ f, S[j]? = some f := ⟨_, List.getElem?_eq_getElem hjS⟩
          have hdd : S.drop j = f :: S.drop (j + 1) := by
            obtain ⟨_, e⟩ := List.getElem?_eq_some_iff.1 hfj
            rw [← e]; exact List.drop_eq_getElem_cons hjS
          have hid : f.id = f.v.id := (HRI.out.ok f (List.mem_of_getElem? hfj)).2.1
          have hris : TTbR.RisT (f :: S.drop (j + 1)) := by rw [← hdd]; exact ris_dropR HST.out.reg.tab.ris j
          have hreg := HST2.out.reg
          rw [hdd] at hreg
          have hpos := pos_headR hris
          have HCA := Lib.hid (cancelR_yes f.id f wr hreg (List.any_eq_true.2 ⟨f, by simp, by simp⟩) (by rw [hpos]; rfl))
          rw [hpos, show TTbR.outT (f :: S.drop (j + 1)) 0 = S.drop (j + 1) from rfl, hid] at HCA
          have hwj : (tradesS S)[j]? = some f.v := by unfold tradesS; rw [List.getElem?_map, hfj]; rfl
          obtain ⟨b_t, o_t, hbe, hct⟩ := trd_cells6 HR8.out hwj hjm
          subst hbe
          obtain ⟨c0, c1, c2, c3, c4, c5⟩ := hct wr HST2.out.below
          have HST2' : Hid (CanSt w8 n1 n2 n3 cf h ht hu w2.heap.size B1 d1 B2 d2 B3 d3 vu9 ac (f :: S.drop (j + 1)) U wr vt2) := Lib.hid (by rw [← hdd]; exact HST2.out)
          clear hfj hdd hid hris hreg hpos hwj hct hjS
          go_wp2_with fail
          refine HCA.out.mono ?_
          rintro e w10 hp
          obtain rfl := hp.1
          have HNX := Lib.hid (HST2'.out.next hp)
          clear hp c0 c1 c2 c3 c4 c5 HCA
          go_wp2_with fail
          go_roundw
          case rel => exact ⟨j + 1, by omega, by go_num, HNX⟩
          case measure => simp [intOf]; omega
        · have hjz : ¬ (j : Int) < (m : Int) := by omega
          obtain rfl : m = j := by omega
          have hT2 : S.drop m = [] := List.drop_of_length_le (by rw [hm.out]; exact Nat.le_refl _)
          rw [hT2] at HST2
          have HXz := Lib.hid (HX8.out.past HST2.out.below)
          clear hT2
          go_wp2_with fail
          refine (awake17 _).mono ?_
          rintro e w11 ⟨rfl, hb11⟩
          have HX11 := Lib.hid (HXz.out.past hb11)
          have HY11 := Lib.hid (HST2.out.reg.past hb11)
          have HB11 := Lib.hid (Below.past HBZ.out hb11 HBZ.out.size)
          have HR11 := Lib.hid ((HR8.out.past HST2.out.below).past hb11)
          have HGR := Lib.hid (grossG_any w11 HX11.out HRI.out.trd (by rw [hm.out]; omega) HSI.out.1)
          obtain ⟨sv, hsv⟩ : ∃ z, Hid (sumV S = z) := ⟨_, Lib.hid rfl⟩
          have hs58 := HSI.out.2
          rw [hsv.out] at HGR hs58
          clear hb11
          go_wp2_with fail
          refine HGR.out.mono ?_
          rintro e w12 ⟨rfl, hb12⟩
          have HX12 := Lib.hid (HX11.out.past hb12)
          have HY12 := Lib.hid (HY11.out.past hb12)
          have HB12 := Lib.hid (Below.past HB11.out hb12 HB11.out.size)
          have HR12 := Lib.hid (HR11.out.past hb12)
          have HTD := Lib.hid (tradesG_any w12 HY12.out)
          clear hb12 HGR
          go_wp2_with fail
          refine HTD.out.mono ?_
          rintro e w13 ⟨v13, rfl, ho13, hb13⟩
          obtain ⟨A13, c13, rfl⟩ := own_form ho13
          have HX13 := Lib.hid (HX12.out.past hb13)
          have HB13 := Lib.hid (Below.past HB12.out hb13 HB12.out.size)
          have HR13 := Lib.hid (HR12.out.past hb13)
          have HTR := Lib.hid (tradesG_any w13 HX13.out)
          rw [hm.out] at HTR
          clear hb13 ho13 HTD
          go_wp2_with fail
          refine HTR.out.mono ?_
          rintro e w14 ⟨v14, rfl, ho14, hb14⟩
          obtain ⟨A14, c14, rfl⟩ := own_form ho14
          have HB14 := Lib.hid (Below.past HB13.out hb14 HB13.out.size)
          have HSM := Lib.hid (sameT17_any A14 A8 m c14 c8 (tradesS S) w14 (Rd.of_own ho14) (HR13.out.past hb14) (by omega))
          clear hb14 ho14 HTR
          go_wp2_with fail
          refine HSM.out.mono ?_
          rintro e w15 ⟨rfl, hb15⟩
          have HB15 := Lib.hid (Below.past HB14.out hb15 HB14.out.size)
          clear hb15 HSM
          go_wp2_with fail
          go_ret
          exact ⟨rfl, HB15.out⟩
end Go.Proofs.Ytelbolhckhdioaa
