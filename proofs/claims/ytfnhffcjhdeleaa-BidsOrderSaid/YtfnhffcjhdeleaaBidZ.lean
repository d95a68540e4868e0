import Derived.Test.YtfnhffcjhdeleaaBidY
import Derived.Test.YtfnhffcjhdeleaaBidF
import Derived.Deep.RegionHeld3
import Derived.IntWalk
namespace Go.Proofs.Ytfnhffcjhdeleaa
open Go.RowKit

/-- Two boxes behind the first k. -/
def OrdB (W : World) (g g2 base : Nat) (B1 : Option Addr) (d1 : Nat) (B2 : Option Addr) (d2 : Nat) (B3 : Option Addr) (d3 : Nat) (E1 : Option Addr) (f1 : Nat) (E2 : Option Addr) (f2 : Nat) (E3 : Option Addr) (f3 : Nat) (n1 n2 n3 : Nat) (cf : Conf) (la lb : List BidV) (wr : World) : Prop :=
  ∃ v v2, PairB wr g g2 base B1 d1 B2 d2 B3 d3 E1 f1 E2 f2 E3 f3 n1 n2 n3 cf v v2 la lb ∧ Below W.heap.size W wr ∧ base ≤ wr.heap.size
/-- Two lists of bids, of which the first k were written. -/
structure WipeRel (W : World) (v u : Value) (m : Nat) (M N : List BidV) (k : Nat) (wr : World) : Prop where
  a : wr.ownsRow W.heap.size 103 5 v m ((wipedB M k).flatMap BidV.cells)
  b : wr.ownsRow W.heap.size 103 5 u m ((wipedB N k).flatMap BidV.cells)
  ap : ∀ j, v.ownBlock = some j → u.ownBlock ≠ some j
  below : Below W.heap.size W wr
theorem own_some {w : World} {base : Nat} {e : TypeId} {size n c : Nat} {A : Option Addr} {xs : List Value} (h : w.ownsRow base e size (.slice A n c) n xs) (hn : 0 < n) : ∃ g cs, A = some ⟨g, 0, none⟩ ∧ base ≤ g ∧ Blk w g e cs := by
  rcases h.2 with ⟨_, h0⟩ | ⟨gg, cap, cs, e, h1, h2, _⟩
  · omega
  · injection e with e1 e2 e3
    exact ⟨gg, cs, e1, h1, h2⟩

set_option maxHeartbeats 16000000 in
set_option maxRecDepth 100000 in
theorem bidsOrder_few (A1 A2 A3 : Option Addr) (n1 n2 n3 cp1 cp2 cp3 : Nat) (cf : Conf) (A : Option Addr) (n c : Nat) (l : List BidV) (x0 x1 : Int) (w : World) (hr : CfRd w A1 n1 A2 n2 A3 n3 cf) (hrl : Rd w w.heap.size 5 A n (l.flatMap BidV.cells)) (hf : fewB n1 n2 n3 = true) (hn : n ≤ 30) (hk8 : wrongK cf = 8) :
    Calls Try.prog 11 #[.agg #[.slice A1 n1 cp1, .slice A2 n2 cp2, .slice A3 n3 cp3, .int .i64 cf.line, .int .i64 cf.capital, .int .i64 cf.lead, .int .i64 cf.trades, .int .i64 cf.bids], .slice A n c, .agg #[.int .i64 x0, .int .i64 x1]] w fun e w' => e = .returned (.bool true) ∧ Below w.heap.size w w' := by
  have HCC : Hid (checkC cf = 0) := Lib.hid (by unfold checkC; rw [if_pos hk8])
  have HHK := Lib.hid hk8
  have HF := Lib.hid hf
  have HLn := Lib.hid (hrl.len BidV.cells_len (by omega))
  clear hf hk8
  obtain ⟨W, hW⟩ : ∃ W, Hid ((w.alloc (.cells #[.slice A1 n1 cp1, .slice A2 n2 cp2, .slice A3 n3 cp3, .int .i64 cf.line, .int .i64 cf.capital, .int .i64 cf.lead, .int .i64 cf.trades, .int .i64 cf.bids] 89)).alloc (.cells #[.int .i64 x0, .int .i64 x1] 100) = W) := ⟨_, Lib.hid rfl⟩
  have hB0 : Below w.heap.size w W := by rw [← hW.out]; exact ((Below.refl _ _).alloc (Nat.le_refl _) _).alloc (by simp) _
  have hWs : W.heap.size = w.heap.size + 2 := by rw [← hW.out]; simp
  have bc0 : Blk W w.heap.size 89 #[.slice A1 n1 cp1, .slice A2 n2 cp2, .slice A3 n3 cp3, .int .i64 cf.line, .int .i64 cf.capital, .int .i64 cf.lead, .int .i64 cf.trades, .int .i64 cf.bids] := by
    rw [← hW.out]; exact (Blk.new w _ _ _ rfl).alloc _
  have bx0 : Blk W (w.heap.size + 1) 100 #[.int .i64 x0, .int .i64 x1] := by
    rw [← hW.out]; exact Blk.new (w.alloc (.cells #[.slice A1 n1 cp1, .slice A2 n2 cp2, .slice A3 n3 cp3, .int .i64 cf.line, .int .i64 cf.capital, .int .i64 cf.lead, .int .i64 cf.trades, .int .i64 cf.bids] 89)) _ _ _ (by simp)
  have HR0 := Lib.hid (hr.past hB0)
  have HRL := Lib.hid (hrl.past hB0)
  have HX := Lib.hid bx0
  have HCB := Lib.hid bc0
  have q0 : ¬ (30 : Int) < (n : Int) := by omega
  have e0 := (bc0).cell 0
  have e1 := (bc0).cell 1
  have e2 := (bc0).cell 2
  have e3 := (bc0).cell 3
  have e4 := (bc0).cell 4
  have e5 := (bc0).cell 5
  have e6 := (bc0).cell 6
  have e7 := (bc0).cell 7
  simp at e0 e1 e2 e3 e4 e5 e6 e7
  clear bc0 bx0 hr hrl
  go_enter Try.func11, Try.ntmps11
  go_upto_region 1 with fail
  rw [hW.out]
  go_wp2_with fail
  refine (few_any A1 A2 A3 n1 n2 n3 cp1 cp2 cp3 cf _).mono ?_
  rw [HF.out]
  rintro e w1 ⟨rfl, hb1⟩
  have bc1 := HCB.out.past hb1
  have HWr := Lib.hid (refWrong_any A1 A2 A3 n1 n2 n3 cp1 cp2 cp3 cf w1 (HR0.out.past hb1))
  rw [HHK.out] at HWr
  have HD1 := Lib.hid hb1
  clear e0 e1 e2 e3 e4 e5 e6 e7
  have e0 := (bc1).cell 0
  have e1 := (bc1).cell 1
  have e2 := (bc1).cell 2
  have e3 := (bc1).cell 3
  have e4 := (bc1).cell 4
  have e5 := (bc1).cell 5
  have e6 := (bc1).cell 6
  have e7 := (bc1).cell 7
  simp at e0 e1 e2 e3 e4 e5 e6 e7
  clear bc1 hb1
  go_wp2_with fail
  refine HWr.out.mono ?_
  rintro e w2 ⟨rfl, hb2⟩
  have HD2 := Lib.hid (Below.next HD1.out hb2)
  have hw1 : (word 8).toList = [] := by have h := word_empty 8; simpa using h
  have hw2 : (word 8) = ⟨#[]⟩ := rfl
  clear e0 e1 e2 e3 e4 e5 e6 e7 hb2
  go_wp2_with fail
  clear q0 hw1 hw2
  go_loopw [7] (fun i wr => ∃ k : Nat, k ≤ n ∧ i = .int .i64 k ∧ Hid (UpTo l k 0) ∧ Hid (Below W.heap.size W wr)) (fun i _ => n - (intOf i).toNat)
  case atStart => exact ⟨0, Nat.zero_le _, rfl, Lib.hid (UpTo.zero l), HD2⟩
  case round =>
    obtain ⟨i, hi, rfl, HU, HD⟩ := hrel
    by_cases hil : i < n
    · have hiz : (i : Int) < (n : Int) := by omega
      obtain ⟨f, hgf⟩ : ∃ f, l[i]? = some f := ⟨_, List.getElem?_eq_getElem (by have := HLn.out; omega)⟩
      have HGF := Lib.hid hgf
      clear hgf
      go_wp2_with fail
      go_loopw [8] (fun j w2 => ∃ k : Nat, k ≤ i ∧ j = .int .i64 k ∧ Hid (UpTo l i k) ∧ Hid (Below W.heap.size W w2)) (fun j _ => i - (intOf j).toNat)
      case atStart => exact ⟨0, Nat.zero_le _, rfl, HU, HD⟩
      case round =>
        obtain ⟨k, hk, rfl, HV, HE⟩ := hrel
        by_cases hki : k < i
        · have hkz : (k : Int) < (i : Int) := by omega
          have hkn : k < n := by omega
          have hknz : (k : Int) < (n : Int) := by omega
          obtain ⟨y, hgy⟩ : ∃ y, l[k]? = some y := ⟨_, List.getElem?_eq_getElem (by have := HLn.out; omega)⟩
          have HGY := Lib.hid hgy
          obtain ⟨b1, o1, rfl, hb1, hc1⟩ := (HRL.out.below HE.out).elem BidV.cells_len HGF.out hil
          obtain ⟨b2, o2, he2, hb2, hc2⟩ := (HRL.out.below HE.out).elem BidV.cells_len hgy hkn
          cases he2
          have c4 := hc1 4 _ rfl
          have d4 := hc2 4 _ rfl
          have hes := HE.out.size
          clear hgy hc1 hc2
          by_cases hp : y.price = f.price
          · have p1 : (y.price == f.price) = true := by simpa using hp
            clear hp
            go_wp2_with fail
            go_quiet (fail)
            have HE2 := Lib.hid (below_drewN HE.out nq)
            clear c4 d4
            go_wp2_with fail
            refine (awake24 _).mono ?_
            rintro e w3 ⟨rfl, hb3⟩
            have hb4 := Below.next HE2.out hb3
            go_wp2_with fail
            go_ret
            exact ⟨rfl, Below.next' hB0 hb4 (Nat.le_refl _)⟩
          · have p1 : (y.price == f.price) = false := by simpa using hp
            have HV2 := Lib.hid (HV.out.step HGF.out HGY.out hp)
            clear hp
            go_wp2_with fail
            go_quiet (fail)
            have HE2 := Lib.hid (below_drewN HE.out nq)
            clear c4 d4
            go_wp2_with fail
            go_roundw
            case rel => exact ⟨k + 1, by omega, by go_num, HV2, HE2⟩
            case measure => simp [intOf]; omega
        · have hkz : ¬ (k : Int) < (i : Int) := by omega
          obtain rfl : i = k := by omega
          have HV2 := Lib.hid HV.out.next
          go_wp2_with fail
          go_roundw
          case rel => exact ⟨i + 1, by omega, by go_num, HV2, HE⟩
          case measure => simp [intOf]; omega
    · have hiz : ¬ (i : Int) < (n : Int) := by omega
      obtain rfl : n = i := by omega
      have HUN := Lib.hid (UpTo.unlike (by rw [HLn.out]; exact HU.out))
      have hn1 : n = 0 ∨ 0 < n := by omega
      have HNA := Lib.hid (newB_yes A1 A2 A3 n1 n2 n3 cp1 cp2 cp3 cf wr (HR0.out.past HD.out) HCC.out)
      have bcr := HCB.out.past HD.out
      have e0 := (bcr).cell 0
      have e1 := (bcr).cell 1
      have e2 := (bcr).cell 2
      have e3 := (bcr).cell 3
      have e4 := (bcr).cell 4
      have e5 := (bcr).cell 5
      have e6 := (bcr).cell 6
      have e7 := (bcr).cell 7
      simp at e0 e1 e2 e3 e4 e5 e6 e7
      clear bcr
      go_wp2_with fail
      refine HNA.out.mono ?_
      rintro e w3 ⟨g, B1, d1, B2, d2, B3, d3, rfl, hg, hbx, hb3⟩
      have HX3 := Lib.hid hbx
      have HD3 := Lib.hid (Below.next HD.out hb3)
      have hgs3 := hbx.blk.lt
      have bc3 := HCB.out.past HD3.out
      have HNB := Lib.hid (newB_yes A1 A2 A3 n1 n2 n3 cp1 cp2 cp3 cf w3 (HR0.out.past HD3.out) HCC.out)
      clear e0 e1 e2 e3 e4 e5 e6 e7
      have e0 := (bc3).cell 0
      have e1 := (bc3).cell 1
      have e2 := (bc3).cell 2
      have e3 := (bc3).cell 3
      have e4 := (bc3).cell 4
      have e5 := (bc3).cell 5
      have e6 := (bc3).cell 6
      have e7 := (bc3).cell 7
      simp at e0 e1 e2 e3 e4 e5 e6 e7
      have hb3s := hb3.size
      have hds := HD.out.size
      clear bc3 hb3 hbx HNA
      go_wp2_with fail
      refine HNB.out.mono ?_
      rintro e w4 ⟨g2, E1, f1, E2, f2, E3, f3, rfl, hg2, hby, hb4⟩
      have HY4 := Lib.hid hby
      have HX4 := Lib.hid (HX3.out.past hb4)
      have HD4 := Lib.hid (Below.next HD3.out hb4)
      have hb4s := hb4.size
      have bc4 := HCB.out.past HD4.out
      clear e0 e1 e2 e3 e4 e5 e6 e7
      have e0 := (bc4).cell 0
      have e1 := (bc4).cell 1
      have e2 := (bc4).cell 2
      have e3 := (bc4).cell 3
      have e4 := (bc4).cell 4
      have e5 := (bc4).cell 5
      have e6 := (bc4).cell 6
      have e7 := (bc4).cell 7
      simp at e0 e1 e2 e3 e4 e5 e6 e7
      clear bc4 hb4 hby HNB
      have HP4 : Hid (OrdB W g g2 wr.heap.size B1 d1 B2 d2 B3 d3 E1 f1 E2 f2 E3 f3 n1 n2 n3 cf [] [] w4) := Lib.hid ⟨_, _, ⟨HX4.out, HY4.out.mono hb3s, by omega, fun k e => by simp [Value.ownBlock] at e⟩, HD4.out, by omega⟩
      obtain ⟨base, hbase⟩ : ∃ base, Hid (wr.heap.size = base) := ⟨_, Lib.hid rfl⟩
      rw [hbase.out] at HP4 hg hds hb3s
      by_cases hroom : (n : Int) ≤ cf.bids
      · have q1 : ¬ cf.bids < (n : Int) := by omega
        obtain ⟨t, htn, ht0, htp⟩ : ∃ t : Nat, t ≤ n ∧ Hid (¬ (0 < n ∧ 0 < x0) → t = 0) ∧ Hid (0 < n ∧ 0 < x0 → x0.tmod (n : Int) = (t : Int)) := by
          by_cases h : 0 < n ∧ 0 < x0
          · refine ⟨x0.toNat % n, Nat.le_of_lt (Nat.mod_lt _ h.1), Lib.hid (fun h' => absurd h h'), Lib.hid fun _ => ?_⟩
            obtain ⟨a, ha⟩ := Int.eq_ofNat_of_zero_le (Int.le_of_lt h.2)
            rw [ha, Int.tmod_eq_emod_of_nonneg (by omega)]; simp
          · exact ⟨0, by omega, Lib.hid fun _ => rfl, Lib.hid fun h' => absurd h' h⟩
        have hroomH := Lib.hid hroom
        have bx4 := HX.out.past HD4.out
        have z0 := bx4.cell 0
        simp at z0
        clear bx4 hroom
        go_upto_region 15 with fail
        clear e0 e1 e2 e3 e4 e5 e6 e7 q1
        go_upto_region 16 with fail
        go_cut [94] from 87 to 94 (fun v w' => v = .bool (decide (0 < n ∧ 0 < x0)) ∧ w4 = w')
        case first =>
          by_cases h3 : 0 < n
          · have h3z : (0 : Int) < (n : Int) := by omega
            by_cases h4 : 0 < x0
            · have H5 := Lib.hid (decide_eq_true (show 0 < n ∧ 0 < x0 from ⟨h3, h4⟩))
              go_wp2_with fail
              go_meet
              exact ⟨by rw [H5.out], rfl⟩
            · have H5 := Lib.hid (decide_eq_false (show ¬ (0 < n ∧ 0 < x0) from fun h => h4 h.2))
              go_wp2_with fail
              go_meet
              exact ⟨by rw [H5.out], rfl⟩
          · have h3z : ¬ (0 : Int) < (n : Int) := by omega
            have H5 := Lib.hid (decide_eq_false (show ¬ (0 < n ∧ 0 < x0) from fun h => h3 h.1))
            go_wp2_with fail
            go_meet
            exact ⟨by rw [H5.out], rfl⟩
        case rest =>
        obtain ⟨rfl, rfl⟩ := hcut
        go_upto_if 94 with fail
        go_cut [13] from 94 to 99 (fun v w' => v = .int .i64 (t : Nat) ∧ w4 = w')
        case first =>
          by_cases h : 0 < n ∧ 0 < x0
          · have h5 : decide (0 < n ∧ 0 < x0) = true := decide_eq_true h
            rw [h5]
            have e2 := htp.out h
            have hnz : (n : Int) ≠ 0 := by omega
            clear h h5
            go_wp2_with fail
            go_meet
            exact ⟨rfl, rfl⟩
          · have h5 : decide (0 < n ∧ 0 < x0) = false := decide_eq_false h
            rw [h5]
            have e2 := ht0.out h
            subst e2
            clear h h5
            go_wp2_with fail
            go_meet
            exact ⟨rfl, rfl⟩
        case rest =>
        obtain ⟨rfl, rfl⟩ := hcut
        clear z0 ht0 htp
        have HP0 : Hid (OrdB W g g2 base B1 d1 B2 d2 B3 d3 E1 f1 E2 f2 E3 f3 n1 n2 n3 cf (addAll cf n1 n2 (l.take 0)) (addAll cf n1 n2 ((turnB l t).take 0)) w4) := by simpa [addAll] using HP4
        have hbW : W.heap.size ≤ base := hds
        have hb0g : base ≤ g := by omega
        have hb0g2 : base ≤ g2 := by omega
        clear HP4 HX4 HY4 HX3 HD3 hg hg2 hgs3 hb3s hb4s
        go_wp2_with fail
        go_loopw [14] (fun i w2 => ∃ k : Nat, k ≤ n ∧ i = .int .i64 k ∧ Hid (OrdB W g g2 base B1 d1 B2 d2 B3 d3 E1 f1 E2 f2 E3 f3 n1 n2 n3 cf (addAll cf n1 n2 (l.take k)) (addAll cf n1 n2 ((turnB l t).take k)) w2)) (fun i _ => n - (intOf i).toNat)
        case atStart => exact ⟨0, Nat.zero_le _, rfl, HP0⟩
        case round =>
          obtain ⟨k, hk, rfl, HP⟩ := hrel
          obtain ⟨v, v2, hp, hd, hbs⟩ := HP.out
          by_cases hlt : k < n
          · have hlz : (k : Int) < (n : Int) := by omega
            obtain ⟨x, hx⟩ : ∃ x : Nat, Hid ((k + t) % n = x) := ⟨_, Lib.hid rfl⟩
            have hxn : x < n := by rw [← hx.out]; exact Nat.mod_lt _ (by omega)
            have e2 : ((k : Int) + (t : Int)).tmod (n : Int) = (x : Int) := by rw [← hx.out, Int.tmod_eq_emod_of_nonneg (by omega)]; simp
            have hxz : (x : Int) < (n : Int) := by omega
            have hnz : (n : Int) ≠ 0 := by omega
            obtain ⟨f, hgf⟩ : ∃ f, l[k]? = some f := ⟨_, List.getElem?_eq_getElem (by rw [HLn.out]; exact hlt)⟩
            obtain ⟨y, hgy⟩ : ∃ y, l[x]? = some y := ⟨_, List.getElem?_eq_getElem (by rw [HLn.out]; exact hxn)⟩
            have HTA : Hid (addAll cf n1 n2 (l.take (k + 1)) = addL cf n1 n2 (addAll cf n1 n2 (l.take k)) f) := Lib.hid (by rw [List.take_add_one, hgf]; exact addAll_snoc _ _ _ _ _)
            have HTB : Hid (addAll cf n1 n2 ((turnB l t).take (k + 1)) = addL cf n1 n2 (addAll cf n1 n2 ((turnB l t).take k)) y) := Lib.hid (by rw [turnB_take (l := l) (k := t) (i := k) (x := y) (by rw [HLn.out]; exact htn) (by rw [HLn.out]; exact hlt) (by rw [HLn.out, hx.out]; exact hgy)]; exact addAll_snoc _ _ _ _ _)
            have hla : (addAll cf n1 n2 (l.take k)).length ≤ k := Nat.le_trans (addAll_len _ _ _ _) (by rw [List.length_take]; exact Nat.min_le_left _ _)
            have hlb : (addAll cf n1 n2 ((turnB l t).take k)).length ≤ k := Nat.le_trans (addAll_len _ _ _ _) (by rw [List.length_take]; exact Nat.min_le_left _ _)
            generalize addAll cf n1 n2 (l.take k) = la at hp HTA hla
            generalize addAll cf n1 n2 ((turnB l t).take k) = lb at hp HTB hlb
            have HGY := Lib.hid hgy
            obtain ⟨b1, o1, rfl, hb1, hc1⟩ := (HRL.out.below hd).elem BidV.cells_len hgf hlt
            have c0 := hc1 0 _ rfl
            have c1 := hc1 1 _ rfl
            have c2 := hc1 2 _ rfl
            have c3 := hc1 3 _ rfl
            have c4 := hc1 4 _ rfl
            simp only [Nat.add_zero] at c0
            have HA := Lib.hid (addX_any g base B1 n1 d1 B2 n2 d2 B3 n3 d3 cf v la f _ hp.x (by omega) hbs)
            unfold AddXPost at HA
            have HPP := Lib.hid hp
            have HD0 := Lib.hid hd
            clear hc1 hgf hgy hp hd HP hb1
            go_wp2_with fail
            refine HA.out.mono ?_
            rintro e w5 ⟨rfl, v', hx', ho, hdv⟩
            have hp5 := HPP.out.addX hx' ho hdv
            have hd5 := Below.trans HD0.out (HPP.out.frameX ho (by omega) hbW (by omega))
            obtain ⟨b2, o2, hA2, hb2, hc2⟩ := (HRL.out.below hd5).elem BidV.cells_len HGY.out hxn
            cases hA2
            have hs5 := ho.size
            have HA2 := Lib.hid (addX_any g2 base E1 n1 f1 E2 n2 f2 E3 n3 f3 cf v2 lb y _ hp5.y (by omega) (by omega))
            unfold AddXPost at HA2
            clear c0 c1 c2 c3 c4
            have c0 := hc2 0 _ rfl
            have c1 := hc2 1 _ rfl
            have c2 := hc2 2 _ rfl
            have c3 := hc2 3 _ rfl
            have c4 := hc2 4 _ rfl
            simp only [Nat.add_zero] at c0
            have HP5 := Lib.hid hp5
            have HD5 := Lib.hid hd5
            clear hc2 hx' ho hdv hp5 hd5 hb2 HA
            go_wp2_with fail
            refine HA2.out.mono ?_
            rintro e w6 ⟨rfl, v2', hy', hoy, hdy⟩
            have HP6 := Lib.hid (HP5.out.symm.addX hy' hoy hdy).symm
            have HD6 := Lib.hid (Below.trans HD5.out (HP5.out.symm.frameX hoy (by omega) hbW (by omega)))
            have hs6 := hoy.size
            rw [← HTA.out, ← HTB.out] at HP6
            clear hy' hoy hdy HA2 c0 c1 c2 c3 c4
            go_wp2_with fail
            go_roundw
            case rel => exact ⟨k + 1, by omega, by go_num, Lib.hid ⟨v', v2', HP6.out, HD6.out, by omega⟩⟩
            case measure => simp [intOf]; omega
          · have hlz : ¬ (k : Int) < (n : Int) := by omega
            obtain rfl : n = k := by omega
            rw [List.take_of_length_le (by rw [HLn.out]; exact Nat.le_refl _), List.take_of_length_le (by rw [turnB_len, HLn.out]; exact Nat.le_refl _)] at hp
            have HSEE := Lib.hid (order_law (cf := cf) (n1 := n1) (n2 := n2) (turnB_perm l t) HUN.out (by rw [HLn.out]; exact hroomH.out) x1)
            have HLA : Hid ((addAll cf n1 n2 l).length ≤ 1000) := Lib.hid (Nat.le_trans (addAll_len _ _ _ _) (by rw [HLn.out]; omega))
            have HLB : Hid ((addAll cf n1 n2 (turnB l t)).length ≤ 1000) := Lib.hid (Nat.le_trans (addAll_len _ _ _ _) (by rw [turnB_len, HLn.out]; omega))
            have HLE : Hid (((addAll cf n1 n2 l).filter (secF x1)).length = ((addAll cf n1 n2 (turnB l t)).filter (secF x1)).length) := Lib.hid (by rw [← see_len, ← see_len, HSEE.out])
            unfold seeB at HSEE
            have HMS : Hid ((sortB ((addAll cf n1 n2 l).filter (secF x1))).length = ((addAll cf n1 n2 l).filter (secF x1)).length) := Lib.hid (sortB_len _)
            have HNS : Hid ((sortB ((addAll cf n1 n2 (turnB l t)).filter (secF x1))).length = ((addAll cf n1 n2 (turnB l t)).filter (secF x1)).length) := Lib.hid (sortB_len _)
            generalize addAll cf n1 n2 l = la at hp HSEE HLA HLE HMS
            generalize addAll cf n1 n2 (turnB l t) = lb at hp HSEE HLB HLE HNS
            rw [← HLE.out] at HNS
            obtain ⟨m, hm⟩ : ∃ m, Hid ((la.filter (secF x1)).length = m) := ⟨_, Lib.hid rfl⟩
            have hm1 : m ≤ 1000 := by rw [← hm.out]; exact Nat.le_trans (List.length_filter_le _ _) HLA.out
            rw [hm.out] at HMS HNS HLE
            have HPP := Lib.hid hp
            have HD0 := Lib.hid hd
            have hds0 := hd.size
            clear hp hd HP htn
            go_upto_region 23 with fail
            have hdr := Below.drew (Below.refl wr.heap.size wr)
            refine wp_region_held_drew (S := fun w' => w'.cell? ⟨w.heap.size + 1, 1, none⟩ = some (.int .i64 x1)) (by kernel_rfl) ((HX.out.past (Below.past HD0.out hdr hds0)).cell 1) (fun hHeld => ?_)
            refine wpAnyH_take (i := 0) (v := ?_) rfl (by kernel_rfl) (by kernel_rfl) (by kernel_rfl) (fun _ _ _ h => h) (Or.inl ⟨by rfl, ?_⟩) (by assumption) ?_
            rotate_left
            · (intro w' hSw; (try dsimp only at hSw); first | (go_simp; done) | (go_simp; with_reducible rfl))
            try simp only [Act.put, List.getElem_toArray, List.getElem_cons_zero, List.getElem_cons_succ, List.setIfInBounds_toArray, List.set_cons_zero, List.set_cons_succ]
            refine wpAnyH_take (i := 1) (v := ?_) rfl (by kernel_rfl) (by kernel_rfl) (by kernel_rfl) (fun _ _ _ h => h) (Or.inl ⟨by rfl, ?_⟩) (by assumption) ?_
            rotate_left
            · (intro w' hSw; (try dsimp only at hSw); first | (go_simp; done) | (go_simp; with_reducible rfl))
            try simp only [Act.put, List.getElem_toArray, List.getElem_cons_zero, List.getElem_cons_succ, List.setIfInBounds_toArray, List.set_cons_zero, List.set_cons_succ]
            refine wpAnyH_take (i := 2) (v := ?_) rfl (by kernel_rfl) (by kernel_rfl) (by kernel_rfl) (fun _ _ _ h => h) (Or.inl ⟨by rfl, ?_⟩) (by assumption) ?_
            rotate_left
            · (intro w' hSw; (try dsimp only at hSw); first | (go_simp; done) | (go_simp; with_reducible rfl))
            try simp only [Act.put, List.getElem_toArray, List.getElem_cons_zero, List.getElem_cons_succ, List.setIfInBounds_toArray, List.set_cons_zero, List.set_cons_succ]
            refine wpAnyH_take (i := 4) (v := ?_) rfl (by kernel_rfl) (by kernel_rfl) (by kernel_rfl) (fun _ _ _ h => h) (Or.inl ⟨by rfl, ?_⟩) (by assumption) ?_
            rotate_left
            · (intro w' hSw; (try dsimp only at hSw); first | (go_simp; done) | (go_simp; with_reducible rfl))
            try simp only [Act.put, List.getElem_toArray, List.getElem_cons_zero, List.getElem_cons_succ, List.setIfInBounds_toArray, List.set_cons_zero, List.set_cons_succ]
            refine wpAnyH_take (i := 5) (v := ?_) rfl (by kernel_rfl) (by kernel_rfl) (by kernel_rfl) (fun _ _ _ h => h) (Or.inl ⟨by rfl, ?_⟩) (by assumption) ?_
            rotate_left
            · (intro w' hSw; (try dsimp only at hSw); first | (go_simp; done) | (go_simp; with_reducible rfl))
            try simp only [Act.put, List.getElem_toArray, List.getElem_cons_zero, List.getElem_cons_succ, List.setIfInBounds_toArray, List.set_cons_zero, List.set_cons_succ]
            refine wpAnyH_take (i := 6) (v := ?_) rfl (by kernel_rfl) (by kernel_rfl) (by kernel_rfl) (fun _ _ _ h => h) (Or.inl ⟨by rfl, ?_⟩) (by assumption) ?_
            rotate_left
            · (intro w' hSw; (try dsimp only at hSw); first | (go_simp; done) | (go_simp; with_reducible rfl))
            try simp only [Act.put, List.getElem_toArray, List.getElem_cons_zero, List.getElem_cons_succ, List.setIfInBounds_toArray, List.set_cons_zero, List.set_cons_succ]
            refine wpAnyH_ready (rs := [3]) (by kernel_rfl) (by simp) ?_
            refine AllReadyH.cons rfl (fun K hK => ?_) AllReadyH.nil
            go_simp
            go_at_call 58
            have HA7 := Lib.hid (secB_any g base B1 n1 d1 B2 n2 d2 B3 n3 d3 cf v la x1 _ (HPP.out.past hdr).x HLA.out)
            rw [hm.out] at HA7
            refine HA7.out.mono ?_
            rintro e w7 ⟨va7, rfl, hva7, hb7'⟩
            have hb7 : Below wr.heap.size wr w7 := undrew hb7'
            obtain ⟨A7, c7, rfl⟩ := own_form hva7
            have HP7 := Lib.hid (HPP.out.past hb7)
            have HD7 := Lib.hid (Below.past HD0.out hb7 hds0)
            have hs7 := hb7.size
            have HR7 := Lib.hid (show w7.ownsRow wr.heap.size _ _ _ _ _ from hva7)
            clear hb7' hb7 hva7 HA7 hHeld
            refine hK.out _ _ ((HX.out.past HD7.out).cell 1) (fun hHeld => ?_)
            try simp only [Act.put, List.getElem_toArray, List.getElem_cons_zero, List.getElem_cons_succ, List.setIfInBounds_toArray, List.set_cons_zero, List.set_cons_succ]
            refine wpAnyH_ready (rs := [7]) (by kernel_rfl) (by simp) ?_
            refine AllReadyH.cons rfl (fun K hK => ?_) AllReadyH.nil
            go_simp
            go_at_call 58
            have HA8 := Lib.hid (secB_any g2 base E1 n1 f1 E2 n2 f2 E3 n3 f3 cf v2 lb x1 _ HP7.out.y HLB.out)
            rw [← HLE.out] at HA8
            refine HA8.out.mono ?_
            rintro e w8 ⟨va8, rfl, hva8, hb8⟩
            obtain ⟨A8, c8, rfl⟩ := own_form hva8
            have HD8 := Lib.hid (Below.past HD7.out hb8 (by omega))
            have HR8 : Hid (WipeRel W (.slice A7 m c7) (.slice A8 m c8) m (sortB (la.filter (secF x1))) (sortB (lb.filter (secF x1))) 0 w8) := Lib.hid ⟨by rw [wipedB_zero]; exact own_mono' (own_past' HR7.out hb8) hds0, by rw [wipedB_zero]; exact own_mono' hva8 (by omega), fun j e1 e2 => by have := (HR7.out.lt _ e1).2; have := (hva8.lt _ e2).1; omega, HD8.out⟩
            clear hb8 hva8 HA8 hHeld HR7
            refine hK.out _ _ ((HX.out.past HD8.out).cell 1) (fun hHeld => ?_)
            try simp only [Act.put, List.getElem_toArray, List.getElem_cons_zero, List.getElem_cons_succ, List.setIfInBounds_toArray, List.set_cons_zero, List.set_cons_succ]
            refine wpAnyH_take (i := 8) (v := ?_) rfl (by kernel_rfl) (by kernel_rfl) (by kernel_rfl) (fun _ _ _ h => h) (Or.inl ⟨by rfl, ?_⟩) (by assumption) ?_
            rotate_left
            · (intro w' hSw; (try dsimp only at hSw); first | (go_simp; done) | (go_simp; with_reducible rfl))
            try simp only [Act.put, List.getElem_toArray, List.getElem_cons_zero, List.getElem_cons_succ, List.setIfInBounds_toArray, List.set_cons_zero, List.set_cons_succ]
            refine wpAnyH_take (i := 9) (v := ?_) rfl (by kernel_rfl) (by kernel_rfl) (by kernel_rfl) (fun _ _ _ h => h) (Or.inl ⟨by rfl, ?_⟩) (by assumption) ?_
            rotate_left
            · (intro w' hSw; (try dsimp only at hSw); first | (go_simp; done) | (go_simp; with_reducible rfl))
            try simp only [Act.put, List.getElem_toArray, List.getElem_cons_zero, List.getElem_cons_succ, List.setIfInBounds_toArray, List.set_cons_zero, List.set_cons_succ]
            refine wpAnyH_done (by kernel_rfl) ?_ _
            clear hHeld HPP HP7 HD0 HD7 HD8 HLA HLB HLE
            generalize sortB (la.filter (secF x1)) = M at HR8 HSEE HMS
            generalize sortB (lb.filter (secF x1)) = N at HR8 HSEE HNS
            have q2 : ((m : Int) != (m : Int)) = false := by simp
            go_wp2_with fail
            clear q2
            go_loopw [17] (fun i w9 => ∃ k : Nat, k ≤ m ∧ i = .int .i64 k ∧ Hid (WipeRel W (.slice A7 m c7) (.slice A8 m c8) m M N k w9)) (fun i _ => m - (intOf i).toNat)
            case atStart => exact ⟨0, Nat.zero_le _, rfl, HR8⟩
            case round =>
              obtain ⟨k, hk, rfl, HW⟩ := hrel
              by_cases hlt : k < m
              · have hlz : (k : Int) < (m : Int) := by omega
                obtain ⟨f, hgf⟩ : ∃ f, M[k]? = some f := ⟨_, List.getElem?_eq_getElem (by rw [HMS.out]; exact hlt)⟩
                obtain ⟨y, hgy⟩ : ∃ y, N[k]? = some y := ⟨_, List.getElem?_eq_getElem (by rw [HNS.out]; exact hlt)⟩
                have HEQ : Hid (stripB f = stripB y) := Lib.hid (by
                  have h := congrArg (fun z => z[k]?) HSEE.out
                  simpa [hgf, hgy] using h)
                obtain ⟨ga, ca, hA, hga, hBa⟩ := own_some HW.out.a (by omega)
                obtain ⟨gb, cb, hB, hgb, hBb⟩ := own_some HW.out.b (by omega)
                subst hA; subst hB
                have hne : ga ≠ gb := fun e => HW.out.ap ga rfl (by rw [e]; rfl)
                have hne2 : gb ≠ ga := fun e => hne e.symm
                obtain ⟨b3, o3, he3, _, hc3⟩ := (Rd.of_own HW.out.a).elem BidV.cells_len (wipedB_get hgf) hlt
                cases he3
                have xa := hc3 0 _ rfl
                obtain ⟨b4, o4, he4, _, hc4⟩ := (Rd.of_own HW.out.b).elem BidV.cells_len (wipedB_get hgy) hlt
                cases he4
                have xb := hc4 0 _ rfl
                simp only [Nat.add_zero, Nat.zero_add] at xa xb
                have HOA := Lib.hid (own_wipe HW.out.a hlt hgf)
                have HOB := Lib.hid (own_far (p := ⟨ga, k * 5, none⟩) HW.out.b (fun e => HW.out.ap ga rfl e) (.int .i64 0))
                have HOA2 := Lib.hid (own_far (p := ⟨gb, k * 5, none⟩) HOA.out (fun e => HW.out.ap gb e rfl) (.int .i64 0))
                have HOB2 := Lib.hid (own_wipe HOB.out hlt hgy)
                have HDW := Lib.hid ((HW.out.below.setCell (p := ⟨ga, k * 5, none⟩) hga (.int .i64 0)).setCell (p := ⟨gb, k * 5, none⟩) hgb (.int .i64 0))
                have ya := hBa.frozen (k * 5)
                have yb := hBb.frozen (k * 5)
                have HAP := Lib.hid HW.out.ap
                clear HW hBa hBb HOA HOB hc3 hc4
                go_upto_region 30 with fail
                obtain ⟨V, hV⟩ : ∃ V, Hid ((wr.setCell ⟨ga, k * 5, none⟩ (.int .i64 0)).setCell ⟨gb, k * 5, none⟩ (.int .i64 0) = V) := ⟨_, Lib.hid rfl⟩
                rw [hV.out] at HOA2 HOB2 HDW
                rw [hV.out]
                have hgf1 : (wipedB M (k + 1))[k]? = some (stripB f) := by rw [← wipedB_set hgf]; rw [List.getElem?_set_self (by rw [wipedB_len, HMS.out]; exact hlt)]
                have hgy1 : (wipedB N (k + 1))[k]? = some (stripB f) := by rw [← wipedB_set hgy, HEQ.out]; rw [List.getElem?_set_self (by rw [wipedB_len, HNS.out]; exact hlt)]
                obtain ⟨b1, o1, he1, hb1, hc1⟩ := (Rd.of_own HOA2.out).elem BidV.cells_len hgf1 hlt
                cases he1
                obtain ⟨b2, o2, he2, hb2, hc2⟩ := (Rd.of_own HOB2.out).elem BidV.cells_len hgy1 hlt
                cases he2
                obtain ⟨s, hs⟩ : ∃ s, Hid (stripB f = s) := ⟨_, Lib.hid rfl⟩
                rw [hs.out] at hc1 hc2
                have c0 := hc1 0 _ rfl
                have c1 := hc1 1 _ rfl
                have c2 := hc1 2 _ rfl
                have c3 := hc1 3 _ rfl
                have c4 := hc1 4 _ rfl
                have d0 := hc2 0 _ rfl
                have d1 := hc2 1 _ rfl
                have d2 := hc2 2 _ rfl
                have d3 := hc2 3 _ rfl
                have d4 := hc2 4 _ rfl
                simp only [Nat.add_zero, Nat.zero_add] at c0 d0 c1 c2 c3 c4 d1 d2 d3 d4
                clear hgf hgy hgf1 hgy1 hc1 hc2 ya yb xa xb
                go_wp2_with fail
                go_quiet (fail)
                have HWN : Hid (WipeRel W (.slice (some ⟨ga, 0, none⟩) m c7) (.slice (some ⟨gb, 0, none⟩) m c8) m M N (k + 1) (V.drewN nq)) := Lib.hid ⟨own_drewN HOA2.out nq, own_drewN HOB2.out nq, HAP.out, below_drewN HDW.out nq⟩
                clear c0 c1 c2 c3 c4 d0 d1 d2 d3 d4
                go_wp2_with fail
                go_roundw
                case rel => exact ⟨k + 1, by omega, by go_num, HWN⟩
                case measure => simp [intOf]; omega
              · have hlz : ¬ (k : Int) < (m : Int) := by omega
                have HDL := Lib.hid HW.out.below
                go_wp2_with fail
                refine (awake24 _).mono ?_
                rintro e w10 ⟨rfl, hb10⟩
                have hD10 := Below.next HDL.out hb10
                go_wp2_with fail
                go_ret
                exact ⟨rfl, Below.next' hB0 hD10 (Nat.le_refl _)⟩
      · have q1 : cf.bids < (n : Int) := by omega
        go_wp2_with fail
        refine (awake24 _).mono ?_
        rintro e w5 ⟨rfl, hb5⟩
        have hb6 := Below.next HD4.out hb5
        clear e0 e1 e2 e3 e4 e5 e6 e7
        go_wp2_with fail
        go_ret
        exact ⟨rfl, Below.next' hB0 hb6 (Nat.le_refl _)⟩
end Go.Proofs.Ytfnhffcjhdeleaa
