import Derived.Test.YtelbolhckhdioaaRgH
namespace Go.Proofs.Ytelbolhckhdioaa
open Go.RowKit Go.ChangeShapes

theorem AddSt.below {B : Nat} {W0 w : World} {n1 n2 n3 : Nat} {cf : Conf} {g gt gu base : Nat} {B1 : Option Addr} {d1 : Nat} {B2 : Option Addr} {d2 : Nat} {B3 : Option Addr} {d3 : Nat} {ts : List Trad} {vt vu : Value} {ac : Int} {S : List TRow} {U : List URow} (h : AddSt W0 n1 n2 n3 cf g gt gu base B1 d1 B2 d2 B3 d3 ts w vt vu ac S U) (hB : B ≤ W0.heap.size) (hb : B ≤ base) : Below B W0 w :=
  h.only.frame hB fun k _ hk => by
    rcases hk with e | e | e
    · subst e; exact Nat.le_trans hb h.reg.hg
    · subst e; exact Nat.le_trans hb h.reg.ht
    · subst e; exact Nat.le_trans hb h.reg.hu
set_option maxHeartbeats 32000000 in
set_option maxRecDepth 100000 in
theorem registerTurns_few (A1 A2 A3 : Option Addr) (n1 n2 n3 cp1 cp2 cp3 : Nat) (cf : Conf) (A : Option Addr) (n c : Nat) (a : Nat) (l : List Trad) (w : World) (hr : CfRd w A1 n1 A2 n2 A3 n3 cf) (hrl : Rd w w.heap.size 6 A n (l.flatMap trD)) (hg : ∀ t ∈ l, inI t.qty ∧ inI t.price) (hf : fewB n1 n2 n3 = true) (hn : n ≤ 30) (hk8 : wrongK cf = 8) (ha : a ≤ 255) :
    Calls Try.prog 7 #[.agg #[.slice A1 n1 cp1, .slice A2 n2 cp2, .slice A3 n3 cp3, .int .i64 cf.line, .int .i64 cf.capital, .int .i64 cf.lead, .int .i64 cf.trades, .int .i64 cf.bids], .slice A n c, .int .u8 (a : Nat)] w fun e w' => e = .returned (.bool true) ∧ Below w.heap.size w w' := by
  have HL := Lib.hid (hrl.len trD_len (by omega))
  have HF := Lib.hid hf
  have HHK := Lib.hid hk8
  have HG := Lib.hid hg
  have HN3 := Lib.hid (hr.c.len Cyc.cells_len (by omega))
  have h8 := wrong8 hk8
  obtain ⟨q, hqe⟩ : ∃ q : Nat, Hid (a % (n + 1) = q) := ⟨_, Lib.hid rfl⟩
  have hqn : q ≤ n := by have := Nat.mod_lt a (show 0 < n + 1 by omega); rw [hqe.out] at this; omega
  have e1 : (a : Int) % ((n : Int) + 1) = (q : Int) := by rw [← hqe.out]; simp
  have e2 : ((a : Int)).tmod ((n : Int) + 1) = (q : Int) := by rw [Int.tmod_eq_emod_of_nonneg (by omega)]; exact e1
  have hnn : (n : Int) + 1 ≠ 0 := by omega
  clear hf hk8 hg e1
  obtain ⟨W, hW⟩ : ∃ W, Hid (w.alloc (.cells #[.slice A1 n1 cp1, .slice A2 n2 cp2, .slice A3 n3 cp3, .int .i64 cf.line, .int .i64 cf.capital, .int .i64 cf.lead, .int .i64 cf.trades, .int .i64 cf.bids] 78) = W) := ⟨_, Lib.hid rfl⟩
  have hB0 : Below w.heap.size w W := by rw [← hW.out]; exact (Below.refl _ _).alloc (Nat.le_refl _) _
  have bc0 : Blk W w.heap.size 78 #[.slice A1 n1 cp1, .slice A2 n2 cp2, .slice A3 n3 cp3, .int .i64 cf.line, .int .i64 cf.capital, .int .i64 cf.lead, .int .i64 cf.trades, .int .i64 cf.bids] := by
    rw [← hW.out]; exact Blk.new w _ _ _ rfl
  have HCB := Lib.hid bc0
  have HR0 := Lib.hid (hr.past hB0)
  have HRL := Lib.hid hrl
  have HB0 := Lib.hid hB0
  have q0 : ¬ (30 : Int) < (n : Int) := by omega
  have e0 := (bc0).cell 0
  have e1 := (bc0).cell 1
  have e2 := (bc0).cell 2
  have e3 := (bc0).cell 3
  have e4 := (bc0).cell 4
  have e5 := (bc0).cell 5
  have e6 := (bc0).cell 6
  have e7 := (bc0).cell 7
  simp at e0 e1 e2 e3 e4 e5 e6 e7
  clear bc0 hr hrl hB0
  go_enter Try.func7, Try.ntmps7
  go_upto_region 1 with fail
  rw [hW.out]
  go_wp2_with fail
  refine (few_any A1 A2 A3 n1 n2 n3 cp1 cp2 cp3 cf _).mono ?_
  rw [HF.out]
  rintro e w1 ⟨rfl, hb1⟩
  have bc1 := HCB.out.past hb1
  have HWr := Lib.hid (refWrong_any A1 A2 A3 n1 n2 n3 cp1 cp2 cp3 cf w1 (HR0.out.past hb1))
  rw [HHK.out] at HWr
  have HD1 := Lib.hid hb1
  clear e0 e1 e2 e3 e4 e5 e6 e7
  have e0 := (bc1).cell 0
  have e1 := (bc1).cell 1
  have e2 := (bc1).cell 2
  have e3 := (bc1).cell 3
  have e4 := (bc1).cell 4
  have e5 := (bc1).cell 5
  have e6 := (bc1).cell 6
  have e7 := (bc1).cell 7
  simp at e0 e1 e2 e3 e4 e5 e6 e7
  clear bc1 hb1
  go_wp2_with fail
  refine HWr.out.mono ?_
  rintro e w2 ⟨rfl, hb2⟩
  have HD2 := Lib.hid (Below.next HD1.out hb2)
  have hw1 : (word 8).toList = [] := by have h := word_empty 8; simpa using h
  have hw2 : (word 8) = ⟨#[]⟩ := rfl
  have bc2 := HCB.out.past HD2.out
  clear e0 e1 e2 e3 e4 e5 e6 e7 hb2 HWr
  have HNR := Lib.hid (newG_yes A1 A2 A3 n1 n2 n3 cp1 cp2 cp3 cf w2 (HR0.out.past HD2.out) HHK.out HN3.out)
  unfold NewGPost at HNR
  have e0 := (bc2).cell 0
  have e1 := (bc2).cell 1
  have e2 := (bc2).cell 2
  have e3 := (bc2).cell 3
  have e4 := (bc2).cell 4
  have e5 := (bc2).cell 5
  have e6 := (bc2).cell 6
  have e7 := (bc2).cell 7
  simp at e0 e1 e2 e3 e4 e5 e6 e7
  clear bc2
  go_wp2_with fail
  refine HNR.out.mono ?_
  rintro e w3 ⟨g, gt, gu, B1, d1, B2, d2, B3, d3, rfl, hx3, hb3⟩
  have HD3 := Lib.hid (Below.next HD2.out hb3)
  have HX3 := Lib.hid hx3
  have bc3 := HCB.out.past HD3.out
  have HNS := Lib.hid (newG_yes A1 A2 A3 n1 n2 n3 cp1 cp2 cp3 cf w3 (HR0.out.past HD3.out) HHK.out HN3.out)
  unfold NewGPost at HNS
  have hs23 := hb3.size
  clear e0 e1 e2 e3 e4 e5 e6 e7 hx3 hb3 HNR hw1 hw2
  have e0 := (bc3).cell 0
  have e1 := (bc3).cell 1
  have e2 := (bc3).cell 2
  have e3 := (bc3).cell 3
  have e4 := (bc3).cell 4
  have e5 := (bc3).cell 5
  have e6 := (bc3).cell 6
  have e7 := (bc3).cell 7
  simp at e0 e1 e2 e3 e4 e5 e6 e7
  clear bc3
  go_wp2_with fail
  refine HNS.out.mono ?_
  rintro e w4 ⟨h, ht, hu, C1, k1, C2, k2, C3, k3, rfl, hy4, hb4⟩
  have HD4 := Lib.hid (Below.next HD3.out hb4)
  have HX4 := Lib.hid (HX3.out.past hb4)
  have HY4 := Lib.hid hy4
  have HB4 := Lib.hid (Below.past HB0.out HD4.out HB0.out.size)
  have hne1 : g ≠ h := by have := HX3.out.blk.lt; have := HY4.out.hg; omega
  have hne2 : gt ≠ ht := by have := HX3.out.tab.blk.lt; have := HY4.out.ht; omega
  have hne3 : gu ≠ hu := by have := HX3.out.use.blk.lt; have := HY4.out.hu; omega
  have HNE := Lib.hid (show g ≠ h ∧ gt ≠ ht ∧ gu ≠ hu from ⟨hne1, hne2, hne3⟩)
  have hws : w.heap.size ≤ w2.heap.size := Nat.le_trans HB0.out.size HD2.out.size
  have hws3 : w.heap.size ≤ w3.heap.size := Nat.le_trans HB0.out.size HD3.out.size
  have hws4 := HB4.out.size
  have hs34 := hb4.size
  have HST0 : Hid (AddNx w4 n1 n2 n3 cf g gt gu w2.heap.size B1 d1 B2 d2 B3 d3 (l.take 0) w4) := Lib.hid ⟨.slice none 0 0, .slice none 0 0, 0, [], [], ⟨HX4.out, AllIn.start h8.1, OnlyS.of_below (Below.refl _ _), (fun _ e => by cases e), (fun _ e => by cases e)⟩⟩
  clear e0 e1 e2 e3 e4 e5 e6 e7 hy4 hb4 HNS hne1 hne2 hne3
  go_wp2_with fail
  go_loopw [12] (fun i wr => ∃ k : Nat, k ≤ n ∧ i = .int .i64 (k : Nat) ∧ Hid (AddNx w4 n1 n2 n3 cf g gt gu w2.heap.size B1 d1 B2 d2 B3 d3 (l.take k) wr)) (fun i _ => n - (intOf i).toNat)
  case atStart => exact ⟨0, by omega, rfl, HST0⟩
  case round =>
    clear HST0
    obtain ⟨k, hk, rfl, HS⟩ := hrel
    obtain ⟨vt, vu, ac, S, U, hst⟩ := HS.out
    have HST := Lib.hid hst
    have HBR := Lib.hid (Below.trans HB4.out (hst.below hws4 hws))
    clear hst HS
    by_cases hlt : k < n
    · have hlz : (k : Int) < (n : Int) := by omega
      obtain ⟨f, hfk⟩ : ∃ f, l[k]? = some f := ⟨_, List.getElem?_eq_getElem (by have := HL.out; omega)⟩
      have hfm := List.mem_of_getElem? hfk
      have HFI := Lib.hid (HG.out f hfm)
      have HTk : Hid (l.take (k + 1) = l.take k ++ [f]) := Lib.hid (by rw [List.take_add_one, hfk]; rfl)
      obtain ⟨b_f, o_f, rfl, hcf⟩ := trd_cells6 HRL.out hfk hlt
      obtain ⟨c0, c1, c2, c3, c4, c5⟩ := hcf wr HBR.out
      have hul : U.length ≤ 900 := by rw [HST.out.all.ul, List.length_take]; omega
      have hs4r := HST.out.only.size
      have HAD := Lib.hid (addR_any f wr HST.out.reg HST.out.all.reg HFI.out.1 HFI.out.2 hul h8.2.1 (Nat.le_trans hs23 (Nat.le_trans hs34 hs4r)))
      unfold AddRPost at HAD
      obtain ⟨K, hK⟩ : ∃ K, Hid (addKS cf n1 n2 n3 ac S U f = K) := ⟨_, Lib.hid rfl⟩
      rw [hK.out] at HAD
      clear hfk hfm hcf hul
      go_wp2_with fail
      refine HAD.out.mono ?_
      rintro e w5 ⟨rfl, vt', vu', hp1, hp2, hp3, hp4⟩
      clear c0 c1 c2 c3 c4 c5 HAD
      by_cases hk0 : K = 0
      · subst hk0
        have HNX : Hid (AddNx w4 n1 n2 n3 cf g gt gu w2.heap.size B1 d1 B2 d2 B3 d3 (l.take (k + 1)) w5) := Lib.hid (by
          rw [HTk.out]
          exact HST.out.next (e := .returned (.int .i64 0)) ⟨by rw [hK.out], vt', vu', by rw [hK.out]; exact hp1, hp2, hp3, hp4⟩ HFI.out.1 HFI.out.2 hK.out)
        clear hp1 hp2 hp3 hp4
        go_wp2_with fail
        go_roundw
        case rel => exact ⟨k + 1, by omega, by go_num, HNX⟩
        case measure => simp [intOf]; omega
      · have hq1 : (K != 0) = true := by simpa using hk0
        have HBF := Lib.hid (Below.trans HBR.out ((HST.out.reg.frame hp2 (Nat.le_trans hs23 (Nat.le_trans hs34 hs4r))).mono hws))
        clear hp1 hp2 hp3 hp4 hk0
        go_wp2_with fail
        refine (awake17 _).mono ?_
        rintro e w6 ⟨rfl, hb6⟩
        have HBG := Lib.hid (Below.past HBF.out hb6 HBF.out.size)
        clear hb6
        go_wp2_with fail
        go_ret
        exact ⟨rfl, HBG.out⟩
    · have hlz : ¬ (k : Int) < (n : Int) := by omega
      obtain rfl : n = k := by omega
      have hT : l.take n = l := List.take_of_length_le (by rw [HL.out]; exact Nat.le_refl _)
      rw [hT] at HST
      have hs4r := HST.out.only.size
      have HYr := Lib.hid (HY4.out.over3 HX4.out HST.out.only (fun e => HNE.out.1 e.symm) (fun e => HNE.out.2.1 e.symm) (fun e => HNE.out.2.2 e.symm))
      have HROT : Hid ((l.drop q ++ l.take q).Perm l) := Lib.hid (rot_perm l q)
      obtain ⟨rot, hrot⟩ : ∃ rot, Hid (l.drop q ++ l.take q = rot) := ⟨_, Lib.hid rfl⟩
      rw [hrot.out] at HROT
      have HLR : Hid (rot.length = n) := Lib.hid (by rw [HROT.out.length_eq, HL.out])
      obtain ⟨wr2, hwr2⟩ : ∃ wr2, Hid (wr = wr2) := ⟨_, Lib.hid rfl⟩
      have HTT0 : Hid (AddNx wr n1 n2 n3 cf h ht hu w3.heap.size C1 k1 C2 k2 C3 k3 (rot.take 0) wr) := Lib.hid ⟨.slice none 0 0, .slice none 0 0, 0, [], [], ⟨HYr.out, AllIn.start h8.1, OnlyS.of_below (Below.refl _ _), (fun _ e => by cases e), (fun _ e => by cases e)⟩⟩
      rw [hwr2.out] at HTT0 HYr HST HBR hs4r
      clear hT
      go_wp2_with fail
      go_loopw [13] (fun i wz => ∃ j : Nat, j ≤ n ∧ i = .int .i64 (j : Nat) ∧ Hid (AddNx wr2 n1 n2 n3 cf h ht hu w3.heap.size C1 k1 C2 k2 C3 k3 (rot.take j) wz)) (fun i _ => n - (intOf i).toNat)
      case atStart => exact ⟨0, by omega, rfl, by rw [hwr2.out]; exact HTT0⟩
      case round =>
        clear HTT0
        obtain ⟨j, hj, rfl, HS2⟩ := hrel
        obtain ⟨vt2, vu2, ac2, S2, U2, hst2⟩ := HS2.out
        have HST2 := Lib.hid hst2
        have HBZ := Lib.hid (Below.trans HBR.out (hst2.below HBR.out.size hws3))
        have hsrz := hst2.only.size
        clear hst2 HS2
        by_cases hjt : j < n
        · have hjz : (j : Int) < (n : Int) := by omega
          obtain ⟨x, hx⟩ : ∃ x : Nat, Hid ((j + q) % n = x) := ⟨_, Lib.hid rfl⟩
          have hxn : x < n := by rw [← hx.out]; exact Nat.mod_lt _ (by omega)
          have e3 : ((j : Int) + (q : Int)) % (n : Int) = (x : Int) := by rw [← hx.out]; simp
          have e4 : ((j : Int) + (q : Int)).tmod (n : Int) = (x : Int) := by rw [Int.tmod_eq_emod_of_nonneg (by omega)]; exact e3
          have hxz : (x : Int) < (n : Int) := by omega
          have hnz : (n : Int) ≠ 0 := by omega
          obtain ⟨f, hfx⟩ : ∃ f, l[x]? = some f := ⟨_, List.getElem?_eq_getElem (by have := HL.out; omega)⟩
          have hfm := List.mem_of_getElem? hfx
          have HFI := Lib.hid (HG.out f hfm)
          have hrj : rot[j]? = some f := by
            rw [← hrot.out, rot_get (by rw [HL.out]; exact hqn) (by rw [HL.out]; exact hjt), HL.out, hx.out]; exact hfx
          have HTk : Hid (rot.take (j + 1) = rot.take j ++ [f]) := Lib.hid (by rw [List.take_add_one, hrj]; rfl)
          have HK0 := Lib.hid (HST.out.all.next HROT.out HST2.out.all (by rw [HLR.out]; exact hjt) hrj)
          obtain ⟨b_f, o_f, hbe, hcf⟩ := trd_cells6 HRL.out hfx hxn
          subst hbe
          obtain ⟨c0, c1, c2, c3, c4, c5⟩ := hcf wr HBZ.out
          have hul : U2.length ≤ 900 := by rw [HST2.out.all.ul, List.length_take]; omega
          have HAD := Lib.hid (addR_any f wr HST2.out.reg HST2.out.all.reg HFI.out.1 HFI.out.2 hul h8.2.1 (Nat.le_trans hs34 (Nat.le_trans hs4r hsrz)))
          unfold AddRPost at HAD
          rw [HK0.out] at HAD
          clear hfx hfm hcf hul e3 hrj
          go_wp2_with fail
          refine HAD.out.mono ?_
          rintro e w5 ⟨rfl, vt', vu', hp1, hp2, hp3, hp4⟩
          have HNX : Hid (AddNx wr2 n1 n2 n3 cf h ht hu w3.heap.size C1 k1 C2 k2 C3 k3 (rot.take (j + 1)) w5) := Lib.hid (by
            rw [HTk.out]
            exact HST2.out.next (e := .returned (.int .i64 0)) ⟨by rw [HK0.out], vt', vu', by rw [HK0.out]; exact hp1, hp2, hp3, hp4⟩ HFI.out.1 HFI.out.2 HK0.out)
          clear hp1 hp2 hp3 hp4 c0 c1 c2 c3 c4 c5 HAD
          go_wp2_with fail
          go_roundw
          case rel => exact ⟨j + 1, by omega, by go_num, HNX⟩
          case measure => simp [intOf]; omega
        · have hjz : ¬ (j : Int) < (n : Int) := by omega
          obtain rfl : n = j := by omega
          have hT2 : rot.take n = rot := List.take_of_length_le (by rw [HLR.out]; exact Nat.le_refl _)
          rw [hT2] at HST2
          have HSE : Hid (S2 = S) := Lib.hid (HST.out.all.same HROT.out HST2.out.all)
          have HXz := Lib.hid (HST.out.reg.over3 HYr.out HST2.out.only HNE.out.1 HNE.out.2.1 HNE.out.2.2)
          have HLS : Hid (S.length = n) := Lib.hid (by rw [HST.out.all.rel.len, rowsT, List.length_map, HL.out])
          have HYz := Lib.hid HST2.out.reg
          rw [HSE.out] at HYz
          have HRI := Lib.hid HST.out.all.reg
          have HIN : Hid (∀ r ∈ S, TrdIn r.v ∧ legsIn r.v = true) := Lib.hid fun r hr => ⟨(HRI.out.ok r hr).2.2, legsIn_of (HRI.out.ok r hr).1⟩
          have hsb := sum_bds 0 (fun r hr => (HRI.out.ok r hr).1)
          have htop := HRI.out.top
          have HSI : Hid (inI (sumV S)) := Lib.hid (by unfold inI; omega)
          clear hT2 hsb htop
          go_wp2_with fail
          refine (awake17 _).mono ?_
          rintro e w6 ⟨rfl, hb6⟩
          have HX6 := Lib.hid (HXz.out.past hb6)
          have HY6 := Lib.hid (HYz.out.past hb6)
          have HB6 := Lib.hid (Below.past HBZ.out hb6 HBZ.out.size)
          have HT6 := Lib.hid (tradesG_any w6 HX6.out)
          rw [HLS.out] at HT6
          clear hb6
          go_wp2_with fail
          refine HT6.out.mono ?_
          rintro e w7 ⟨v7, rfl, ho7, hb7⟩
          obtain ⟨A7, c7, rfl⟩ := own_form ho7
          have HX7 := Lib.hid (HX6.out.past hb7)
          have HY7 := Lib.hid (HY6.out.past hb7)
          have HB7 := Lib.hid (Below.past HB6.out hb7 HB6.out.size)
          have HO7 := Lib.hid (Rd.of_own ho7)
          have HT7 := Lib.hid (tradesG_any w7 HY7.out)
          rw [HLS.out] at HT7
          clear hb7 ho7 HT6
          go_wp2_with fail
          refine HT7.out.mono ?_
          rintro e w8 ⟨v8, rfl, ho8, hb8⟩
          obtain ⟨A8, c8, rfl⟩ := own_form ho8
          have HX8 := Lib.hid (HX7.out.past hb8)
          have HY8 := Lib.hid (HY7.out.past hb8)
          have HB8 := Lib.hid (Below.past HB7.out hb8 HB7.out.size)
          have HSM := Lib.hid (sameT17_any A7 A8 n c7 c8 (tradesS S) w8 (HO7.out.past hb8) (Rd.of_own ho8) (by omega))
          clear hb8 ho8 HT7
          go_wp2_with fail
          refine HSM.out.mono ?_
          rintro e w9 ⟨rfl, hb9⟩
          have HX9 := Lib.hid (HX8.out.past hb9)
          have HY9 := Lib.hid (HY8.out.past hb9)
          have HB9 := Lib.hid (Below.past HB8.out hb9 HB8.out.size)
          have HT9 := Lib.hid (tradesG_any w9 HX9.out)
          rw [HLS.out] at HT9
          clear hb9 HSM
          go_wp2_with fail
          refine HT9.out.mono ?_
          rintro e w10 ⟨v10, rfl, ho10, hb10⟩
          obtain ⟨A10, c10, rfl⟩ := own_form ho10
          have HX10 := Lib.hid (HX9.out.past hb10)
          have HY10 := Lib.hid (HY9.out.past hb10)
          have HB10 := Lib.hid (Below.past HB9.out hb10 HB9.out.size)
          have HL10 := Lib.hid (legsG_any w10 HX10.out HIN.out)
          rw [HLS.out] at HL10
          have hnq : ((n : Int) == (n : Int)) = true := by simp
          clear hb10 ho10 HT9
          go_wp2_with fail
          refine HL10.out.mono ?_
          rintro e w11 ⟨v11, rfl, ho11, hb11⟩
          obtain ⟨A11, c11, rfl⟩ := own_form ho11
          have HX11 := Lib.hid (HX10.out.past hb11)
          have HY11 := Lib.hid (HY10.out.past hb11)
          have HB11 := Lib.hid (Below.past HB10.out hb11 HB10.out.size)
          have HO11 := Lib.hid (Rd.of_own ho11)
          have HL11 := Lib.hid (legsG_any w11 HY11.out HIN.out)
          rw [HLS.out] at HL11
          clear hb11 ho11 HL10
          go_wp2_with fail
          refine HL11.out.mono ?_
          rintro e w12 ⟨v12, rfl, ho12, hb12⟩
          obtain ⟨A12, c12, rfl⟩ := own_form ho12
          have HX12 := Lib.hid (HX11.out.past hb12)
          have HY12 := Lib.hid (HY11.out.past hb12)
          have HB12 := Lib.hid (Below.past HB11.out hb12 HB11.out.size)
          have HSL := Lib.hid (sameLegs A11 A12 (4 * n) c11 c12 (legsS S) w12 (HO11.out.past hb12) (Rd.of_own ho12) (by omega))
          clear hb12 ho12 HL11
          go_wp2_with fail
          refine HSL.out.mono ?_
          rintro e w13 ⟨rfl, hb13⟩
          have HX13 := Lib.hid (HX12.out.past hb13)
          have HY13 := Lib.hid (HY12.out.past hb13)
          have HB13 := Lib.hid (Below.past HB12.out hb13 HB12.out.size)
          have HG13 := Lib.hid (grossG_any w13 HX13.out HRI.out.trd (by rw [HLS.out]; omega) HSI.out)
          clear hb13 HSL
          go_wp2_with fail
          refine HG13.out.mono ?_
          rintro e w14 ⟨rfl, hb14⟩
          have HB14 := Lib.hid (Below.past HB13.out hb14 HB13.out.size)
          have HG14 := Lib.hid (grossG_any w14 (HY13.out.past hb14) HRI.out.trd (by rw [HLS.out]; omega) HSI.out)
          obtain ⟨sv, hsv⟩ : ∃ z, Hid (sumV S = z) := ⟨_, Lib.hid rfl⟩
          rw [hsv.out] at HG14
          have hss : (sumV S == sumV S) = true := by simp
          have hs2 : (sv == sv) = true := by simp
          rw [hsv.out]
          clear hb14 HG13
          go_wp2_with fail
          refine HG14.out.mono ?_
          rintro e w15 ⟨rfl, hb15⟩
          have HB15 := Lib.hid (Below.past HB14.out hb15 HB14.out.size)
          clear hb15 HG14
          go_wp2_with fail
          go_ret
          exact ⟨rfl, HB15.out⟩
end Go.Proofs.Ytelbolhckhdioaa
