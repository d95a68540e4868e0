import Derived.Test.YtoohfbgbhjadgaaKeyG
namespace Go.Proofs.Ytoohfbgbhjadgaa
open Go.RowKit

set_option maxHeartbeats 1000000 in
theorem rankOrders_long (A : Option Addr) (n cp : Nat) (vs : List KeyV) (w : World) (hr : Rd w w.heap.size 1 A n (vs.flatMap KeyV.cells)) (hs : ¬ (n ≤ 30 ∧ vs.all shortK = true)) :
    Calls Try.prog 5 #[.slice A n cp] w fun e w' => e = .returned (.bool true) ∧ Below w.heap.size w w' := by
  have HC := Lib.hid (few5_no A n cp 30 vs w.heap.size w hr (by omega) hs)
  clear hs
  go_enter Try.func5, Try.ntmps5
  go_wp2_with fail
  refine (HC.out).mono ?_
  rintro e w1 ⟨rfl, rfl⟩
  go_wp2_with fail
  refine (awake5 _).mono ?_
  rintro e w1 ⟨rfl, hb⟩
  go_wp2_with fail
  go_ret
  exact ⟨rfl, hb⟩

/-- What holds at the head of each round of RankOrders. -/
def RoRel (w : World) (vs : List KeyV) (n : Nat) (v5 v6 v7 v8 : Value) (wr : World) : Prop :=
  ∃ (k : Nat) (ps : List KeyV) (R S : Bool), k ≤ n ∧ v8 = .int .i64 k ∧ v6 = .bool R ∧ v7 = .bool S ∧ Hid (riK (keysOf vs) false k = R) ∧ Hid (riK (keysOf vs) true k = S) ∧
    Hid (ps.length = k) ∧ Hid (keysOf ps = ((ordK (keysOf vs)).take k).map fun i => (keysOf vs).getD i []) ∧ Hid (∀ v ∈ ps, v ∈ vs) ∧
    wr.ownsRow w.heap.size 22 1 v5 ps.length (ps.flatMap KeyV.cells) ∧ Below w.heap.size w wr

theorem RoRel.step {keys : List (List Int)} {vs ps : List KeyV} {k x : Nat} {f : KeyV} (hl : ps.length = k) (hp : keysOf ps = ((ordK (keysOf vs)).take k).map fun i => (keysOf vs).getD i []) (hm : ∀ v ∈ ps, v ∈ vs) (hx : (ordK (keysOf vs))[k]? = some x) (hf : vs[x]? = some f) :
    (ps ++ [f]).length = k + 1 ∧ keysOf (ps ++ [f]) = ((ordK (keysOf vs)).take (k + 1)).map (fun i => (keysOf vs).getD i []) ∧ ∀ v ∈ ps ++ [f], v ∈ vs := by
  refine ⟨by simp [hl], ?_, fun v hv => ?_⟩
  · have ht : (ordK (keysOf vs)).take (k + 1) = (ordK (keysOf vs)).take k ++ [x] := by
      rw [List.take_add_one, hx]; rfl
    rw [ht, List.map_append, ← hp]
    simp [keysOf, keysOf_at hf]
    have := keysOf_at hf
    simpa [keysOf] using this.symm
  · rcases List.mem_append.1 hv with h | h
    · exact hm v h
    · rw [List.mem_singleton.1 h]; exact List.mem_of_getElem? hf

set_option maxHeartbeats 8000000 in
set_option maxRecDepth 100000 in
theorem rankOrders_few (A : Option Addr) (n cp : Nat) (vs : List KeyV) (w : World) (hr : Rd w w.heap.size 1 A n (vs.flatMap KeyV.cells)) (hks : KeysRd w w.heap.size vs) (hn : n ≤ 30) (hs : vs.all shortK = true) :
    Calls Try.prog 5 #[.slice A n cp] w fun e w' => e = .returned (.bool true) ∧ Below w.heap.size w w' := by
  have HL := Lib.hid (show vs.length = n from hr.len KeyV.cells_len (by omega))
  have HC := Lib.hid (few5_yes A n cp 30 vs w.heap.size w hr hn (by omega) hs)
  have HO1 := Lib.hid (order_any A n cp vs w hr hks (by omega))
  have HK := Lib.hid hks
  obtain ⟨i0, hi0, hz0, hz1, hz2⟩ := info_parts ksInfo
  clear hs hks
  go_enter Try.func5, Try.ntmps5
  go_wp2_with fail
  refine (HC.out).mono ?_
  rintro e w0 ⟨rfl, rfl⟩
  go_wp2_with fail
  refine HO1.out.mono ?_
  rintro e w1 ⟨A1, c1, rfl, ho1, hb1, _⟩
  have HP := Lib.hid (rankPlace_any A n cp vs w1 (hr.past hb1) (HK.out.past hb1) (by omega))
  go_wp2_with fail
  refine HP.out.mono ?_
  rintro e w2 ⟨A2, c2, rfl, hp2, hb2⟩
  have hb12 := Below.next hb1 hb2
  have ho2 := ho1.past hb2
  have HR := Lib.hid (refOrder_any A n cp vs w2 (hr.past hb12) (HK.out.past hb12) (by omega))
  clear HP ho1
  go_wp2_with fail
  refine HR.out.mono ?_
  rintro e w3 ⟨A3, c3, rfl, ho3, hb3, _⟩
  have hb13 := Below.next hb12 hb3
  have hp3 := hp2.past hb3
  have ho3' := ho2.past hb3
  have HSm := Lib.hid (same5_any A1 n c1 A3 c3 (ordK (keysOf vs)) _ _ w3 ho3' ho3 (by omega) (fun x hx => by have := ordK_mem.1 hx; rw [keysOf_len, HL.out] at this; omega))
  clear HR ho2 hp2 hb12
  go_wp2_with fail
  refine HSm.out.mono ?_
  rintro e w4 ⟨rfl, hd4⟩
  have hb4 := Below.next hb13 hd4.bel
  have hr4 := hr.past hb4
  have HK4 := Lib.hid (HK.out.past hb4)
  have ho4 := ho3'.past hd4.bel
  have hp4 := hp3.past hd4.bel
  have q1 : ((n : Int) != (n : Int)) = false := by simp
  clear HSm hp3 ho3 ho3' hb13 hb3 hb2 hb1 hd4 HC HO1 HK hr
  go_wp2_with fail
  go_loopw [5, 6, 7, 8] (RoRel w4 vs n) (fun _ _ _ i _ => n - (intOf i).toNat)
  case atStart => exact ⟨0, [], true, true, Nat.zero_le _, rfl, rfl, rfl, Lib.hid rfl, Lib.hid rfl, Lib.hid rfl, Lib.hid (by simp [keysOf]), Lib.hid (by simp), World.ownsRow_nil _ _ _ _, Below.refl _ _⟩
  case round =>
    obtain ⟨k, ps, R, S, hk, rfl, rfl, rfl, HRR, HSS, HPL, HPK, HPM, hown, hb⟩ := hrel
    have hpl : ps.length ≤ 30 := by rw [HPL.out]; omega
    have hs := hb.size
    by_cases hlt : k < n
    · as_aux_lemma =>
      have hlz : (k : Int) < (n : Int) := by omega
      -- the place of key k
      have hg2 : (placesK (keysOf vs))[k]? = some (placeK (keysOf vs) k) := placesK_at (by rw [keysOf_len, HL.out]; exact hlt)
      obtain ⟨b2, o2, rfl, hbb2, hc2⟩ := (hp4.below hb).elem nC_len hg2 hlt
      have HX1 := Lib.hid (fun q => (refPlace_any A n cp k vs w4.heap.size (wr.drewN q) ((hr4.below hb).keep fun _ _ => rfl) ((HK4.out.below hb (Nat.le_refl _)).keep fun _ _ => rfl) (by omega) hlt))
      generalize placeK (keysOf vs) k = pk at *
      have p0 := hc2 0 _ rfl
      simp only [Nat.mul_one, Nat.add_zero] at p0
      have b1 : ((pk : Int) != (pk : Int)) = false := by simp
      -- who stands at k
      obtain ⟨x, hxg⟩ : ∃ x, (ordK (keysOf vs))[k]? = some x := ⟨_, List.getElem?_eq_getElem (by rw [ordK_len, keysOf_len, HL.out]; exact hlt)⟩
      obtain ⟨b3, o3, rfl, hbb3, hc3⟩ := ho4.elem nC_len hxg hlt
      have hxn := ordK_mem.1 (List.mem_of_getElem? hxg)
      rw [keysOf_len, HL.out] at hxn
      have HXG := Lib.hid hxg
      have o0 := hc3 0 _ rfl
      simp only [Nat.mul_one, Nat.add_zero] at o0
      have o1 := (hb.cell (p := ⟨b3, o3 + k, none⟩) hbb3).trans o0
      have hxz : (x : Int) < (n : Int) := by omega
      have ox : x < n := hxn
      have hg_f : vs[x]? = some (vs[x]'(by have := HL.out; omega)) := List.getElem?_eq_getElem _
      obtain ⟨b_f, off_f, rfl, hbb_f, hc_f⟩ := (hr4).elem KeyV.cells_len hg_f hxn
      have HT_f := Lib.hid (show vs.take (x + 1) = vs.take x ++ [(vs[x]'(by have := HL.out; omega))] from List.take_succ_eq_append_getElem (by have := HL.out; omega))
      have HM_f := Lib.hid (show (vs[x]'(by have := HL.out; omega)) ∈ vs from List.getElem_mem _)
      have HG_f := Lib.hid hg_f
      generalize (vs[x]'(by have := HL.out; omega)) = f at *
      have c0 := hc_f 0 _ rfl
      clear hc_f hg_f
      simp only [Nat.add_zero, Nat.mul_one] at c0
      have f0 := (hb.cell (p := ⟨b_f, off_f + x, none⟩) hbb_f).trans c0
      have HST := Lib.hid (RoRel.step (keys := keysOf vs) HPL.out HPK.out HPM.out HXG.out HG_f.out)
      have hfv : f.val = .slice f.A f.k.length f.c := rfl
      rw [hfv] at f0 c0
      clear hc2 hc3 hxg hg2
      have hownV := fun q => own_drewN hown q
      by_cases hk0 : k = 0
      · have HK0 := Lib.hid hk0
        have bz : ¬ (0 : Int) < (k : Int) := by omega
        have HR1 := Lib.hid (show riK (keysOf vs) false (k + 1) = true by rw [HK0.out]; exact riK_one _ _)
        have HS1 := Lib.hid (show riK (keysOf vs) true (k + 1) = true by rw [HK0.out]; exact riK_one _ _)
        obtain rfl : R = true := by rw [← HRR.out, HK0.out]; rfl
        obtain rfl : S = true := by rw [← HSS.out, HK0.out]; rfl
        clear hk0
        go_wp2_with fail
        go_quiet ((go_at_call 23; exact Calls.quiet_of (HX1.out _)))
        have hbV := below_drewN hb nq
        have hoV := hownV nq
        have o1V : (wr.drewN nq).cell? ⟨b3, o3 + k, none⟩ = some (.int .i64 (x : Nat)) := o1
        have f0V : (wr.drewN nq).cell? ⟨b_f, off_f + x, none⟩ = some (.slice f.A f.k.length f.c) := f0
        clear hownV hown hb o1 f0 p0 hs HX1
        generalize wr.drewN nq = V at hbV hoV o1V f0V ⊢
        have hs := hbV.size
        go_wp2_with (at_builtin; refine wpList_append_lit _ _ rfl (.tmp 44) (.tmp 52) 26 rfl w4.heap.size 22 i0 _ 1 24 Try.underlying26 hi0 hz0 hz1 hz2 rfl (by decide) _ _ _ rfl hoV _ 1 1 rfl (by first | rfl | simp) rfl (by simp [Value.oneCell']) (by omega) (by omega) (by omega) ?_; intro v' w' hown' hg'; have hbw := below_own (hbV.alloc hs _) hg' hoV (by simp; omega) (Nat.le_refl _))
        go_roundw
        case rel => exact ⟨k + 1, ps ++ [f], true, true, by omega, by go_num, rfl, rfl, HR1, HS1, Lib.hid HST.out.1, Lib.hid HST.out.2.1, Lib.hid HST.out.2.2, by simpa [KeyV.cells, hfv] using hown', hbw⟩
        case measure => simp [intOf]; omega
      · obtain ⟨j, hj⟩ : ∃ j : Nat, Hid (k = j + 1) := ⟨k - 1, Lib.hid (by omega)⟩
        have bz : (0 : Int) < (k : Int) := by omega
        have hjn : j < n := by have := hj.out; omega
        have hjz : (j : Int) < (n : Int) := by omega
        have e1 : (k : Int) - 1 = (j : Int) := by have := hj.out; omega
        have e2 : IntKind.i64.wrap ((k : Int) - 1) = (j : Int) := by rw [e1, IntKind.wrap_i64]; omega
        have hg_g1 : vs[j]? = some (vs[j]'(by have := HL.out; omega)) := List.getElem?_eq_getElem _
        obtain ⟨b_g1, off_g1, hA_g1, hbb_g1, hc_g1⟩ := (hr4).elem KeyV.cells_len hg_g1 hjn
        have HT_g1 := Lib.hid (show vs.take (j + 1) = vs.take j ++ [(vs[j]'(by have := HL.out; omega))] from List.take_succ_eq_append_getElem (by have := HL.out; omega))
        have HM_g1 := Lib.hid (show (vs[j]'(by have := HL.out; omega)) ∈ vs from List.getElem_mem _)
        have HG_g1 := Lib.hid hg_g1
        generalize (vs[j]'(by have := HL.out; omega)) = g1 at *
        have x0 := hc_g1 0 _ rfl
        clear hc_g1 hg_g1
        simp only [Nat.add_zero, Nat.mul_one] at x0
        have hg_g2 : vs[k]? = some (vs[k]'(by have := HL.out; omega)) := List.getElem?_eq_getElem _
        obtain ⟨b_g2, off_g2, hA_g2, hbb_g2, hc_g2⟩ := (hr4).elem KeyV.cells_len hg_g2 hlt
        have HT_g2 := Lib.hid (show vs.take (k + 1) = vs.take k ++ [(vs[k]'(by have := HL.out; omega))] from List.take_succ_eq_append_getElem (by have := HL.out; omega))
        have HM_g2 := Lib.hid (show (vs[k]'(by have := HL.out; omega)) ∈ vs from List.getElem_mem _)
        have HG_g2 := Lib.hid hg_g2
        generalize (vs[k]'(by have := HL.out; omega)) = g2 at *
        have y0 := hc_g2 0 _ rfl
        clear hc_g2 hg_g2
        simp only [Nat.add_zero, Nat.mul_one] at y0
        obtain ⟨rfl, rfl⟩ : b_f = b_g1 ∧ off_f = off_g1 := by
          have := Option.some.inj hA_g1
          simp only [Addr.mk.injEq] at this
          exact ⟨this.1, this.2.1⟩
        obtain ⟨rfl, rfl⟩ : b_f = b_g2 ∧ off_f = off_g2 := by
          have := Option.some.inj hA_g2
          simp only [Addr.mk.injEq] at this
          exact ⟨this.1, this.2.1⟩
        clear hA_g1 hA_g2
        have HOKf := Lib.hid (okAt_of (s := false) HG_g1.out (by rw [← hj.out]; exact HG_g2.out))
        have HOKt := Lib.hid (okAt_of (s := true) HG_g1.out (by rw [← hj.out]; exact HG_g2.out))
        rw [← hj.out] at HOKf HOKt
        obtain ⟨k1, l1⟩ := HK4.out g1 HM_g1.out
        obtain ⟨k2, l2⟩ := HK4.out g2 HM_g2.out
        have hg1v : g1.val = .slice g1.A g1.k.length g1.c := rfl
        have hg2v : g2.val = .slice g2.A g2.k.length g2.c := rfl
        rw [hg1v] at x0
        rw [hg2v] at y0
        have HX2 := Lib.hid (fun W (hW : Below w4.heap.size w4 W) q => refCmp_any g1.A g1.k.length g1.c g2.A g2.k.length g2.c g1.k g2.k w4.heap.size w4.heap.size (W.drewN q) ((k1.below hW).keep fun _ _ => rfl) ((k2.below hW).keep fun _ _ => rfl) (by omega) (by omega))
        have hbd := cmpL_bd g1.k g2.k
        have HRf := Lib.hid (riK_succ (keysOf vs) false k)
        have HRt := Lib.hid (riK_succ (keysOf vs) true k)
        rw [HOKf.out, HRR.out] at HRf
        rw [HOKt.out, HSS.out] at HRt
        generalize cmpL g1.k g2.k = z at HX2 hbd HRf HRt
        clear k1 k2 HOKf HOKt hk0 e1
        have hz : z = -1 ∨ z = 0 ∨ z = 1 := by omega
        clear hbd
        rcases hz with rfl | rfl | rfl <;> cases R <;> cases S
        all_goals as_aux_lemma =>
          go_wp2_with fail
          go_quiet ((go_at_call 23; exact Calls.quiet_of (HX1.out _)))
          have hbV := below_drewN hb nq
          have hoV := hownV nq
          have o1V : (wr.drewN nq).cell? ⟨b3, o3 + k, none⟩ = some (.int .i64 (x : Nat)) := o1
          have f0V : (wr.drewN nq).cell? ⟨b_f, off_f + x, none⟩ = some (.slice f.A f.k.length f.c) := f0
          clear hownV hown hb o1 f0 p0 hs HX1
          generalize wr.drewN nq = V at hbV hoV o1V f0V ⊢
          have hs := hbV.size
          go_wp2_with (at_builtin; refine wpList_append_lit _ _ rfl (.tmp 44) (.tmp 52) 26 rfl w4.heap.size 22 i0 _ 1 24 Try.underlying26 hi0 hz0 hz1 hz2 rfl (by decide) _ _ _ rfl hoV _ 1 1 rfl (by first | rfl | simp) rfl (by simp [Value.oneCell']) (by omega) (by omega) (by omega) ?_; intro v' w' hown' hg'; have hbw := below_own (hbV.alloc hs _) hg' hoV (by simp; omega) (Nat.le_refl _); have x0w := (hbw.cell (p := ⟨b_f, off_f + j, none⟩) hbb_f).trans x0; have y0w := (hbw.cell (p := ⟨b_f, off_f + k, none⟩) hbb_f).trans y0)
          go_quiet ((go_at_call 17; exact Calls.quiet_of (HX2.out _ hbw _)))
          go_wp2_with fail
          go_roundw
          case rel => exact ⟨k + 1, ps ++ [f], _, _, by omega, by go_num, rfl, rfl, HRf, HRt, Lib.hid HST.out.1, Lib.hid HST.out.2.1, Lib.hid HST.out.2.2, own_drewN (by simpa [KeyV.cells, hfv] using hown') _, below_drewN hbw _⟩
          case measure => simp [intOf]; omega
    · as_aux_lemma =>
      have hlz : ¬ (k : Int) < (n : Int) := by omega
      obtain rfl : n = k := by omega
      obtain ⟨A', c', rfl⟩ := own_form hown
      have hrs := Rd.of_own hown
      have hkp : KeysRd wr wr.heap.size ps := fun v hv => (HK4.out.past hb) v (HPM.out v hv)
      have HW1 := Lib.hid (fun W (hW : Below wr.heap.size wr W) => rises_any A' ps.length c' false ps W.heap.size W (hrs.past hW) (hkp.past hW) (by omega))
      have HW2 := Lib.hid (fun W (hW : Below wr.heap.size wr W) => rises_any A n cp false vs W.heap.size W ((hr4.past hb).past hW) ((HK4.out.past hb).past hW) (by omega))
      have HW3 := Lib.hid (fun W (hW : Below wr.heap.size wr W) => rises_any A n cp true vs W.heap.size W ((hr4.past hb).past hW) ((HK4.out.past hb).past hW) (by omega))
      have hT : riK (keysOf ps) false ps.length = true := riK_sorted (keys := keysOf vs) (by rw [HPK.out, List.take_of_length_le (by rw [ordK_len, keysOf_len, HL.out]; exact Nat.le_refl _)]) _ (by rw [keysOf_len]; exact Nat.le_refl _)
      rw [hT] at HW1
      rw [HRR.out] at HW2
      rw [HSS.out] at HW3
      clear hT hkp hrs hown
      cases R <;> cases S
      all_goals
        go_wp2_with fail
        refine (awake5 _).mono ?_
        rintro e wa ⟨rfl, hba⟩
        go_wp2_with fail
        refine (HW1.out wa hba).mono ?_
        rintro e wb' ⟨rfl, hd1⟩
        have hbb1 := hd1.below hba
        clear hd1 hba
        go_wp2_with fail
        refine (HW2.out wb' hbb1).mono ?_
        rintro e wc' ⟨rfl, hd2⟩
        have hbb2 := hd2.below hbb1
        clear hd2 hbb1
        go_wp2_with fail
        refine (HW3.out wc' hbb2).mono ?_
        rintro e wd' ⟨rfl, hd3⟩
        have hbb3 := hd3.below hbb2
        clear hd3 hbb2
        go_wp2_with fail
        go_ret
        exact ⟨rfl, Below.next hb4 (Below.past hb hbb3 hb.size)⟩
end Go.Proofs.Ytoohfbgbhjadgaa
