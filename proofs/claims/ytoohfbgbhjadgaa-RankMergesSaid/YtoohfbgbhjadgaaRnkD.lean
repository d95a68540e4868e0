import Derived.Test.YtoohfbgbhjadgaaMrgE
namespace Go.Proofs.Ytoohfbgbhjadgaa
open Go.RowKit

set_option maxHeartbeats 1000000 in
theorem rankMerges_long (A1 : Option Addr) (n1 c1 : Nat) (A2 : Option Addr) (n2 c2 : Nat) (va : List KeyV) (w : World) (hr : Rd w w.heap.size 1 A1 n1 (va.flatMap KeyV.cells)) (hs : ¬ (n1 ≤ 20 ∧ va.all shortK = true)) :
    Calls Try.prog 6 #[.slice A1 n1 c1, .slice A2 n2 c2] w fun e w' => e = .returned (.bool true) ∧ Below w.heap.size w w' := by
  have HC := Lib.hid (few5_no A1 n1 c1 20 va w.heap.size w hr (by omega) hs)
  clear hs
  go_enter Try.func6, Try.ntmps6
  go_wp2_with fail
  refine (HC.out).mono ?_
  rintro e w1 ⟨rfl, rfl⟩
  go_wp2_with fail
  refine (awake5 _).mono ?_
  rintro e w1 ⟨rfl, hb⟩
  go_wp2_with fail
  go_ret
  exact ⟨rfl, hb⟩

set_option maxHeartbeats 1000000 in
theorem rankMerges_long2 (A1 : Option Addr) (n1 c1 : Nat) (A2 : Option Addr) (n2 c2 : Nat) (va vb : List KeyV) (w : World) (hr : Rd w w.heap.size 1 A1 n1 (va.flatMap KeyV.cells)) (hr2 : Rd w w.heap.size 1 A2 n2 (vb.flatMap KeyV.cells)) (h1 : n1 ≤ 20 ∧ va.all shortK = true) (hs : ¬ (n2 ≤ 20 ∧ vb.all shortK = true)) :
    Calls Try.prog 6 #[.slice A1 n1 c1, .slice A2 n2 c2] w fun e w' => e = .returned (.bool true) ∧ Below w.heap.size w w' := by
  have HC := Lib.hid (few5_yes A1 n1 c1 20 va w.heap.size w hr h1.1 (by omega) h1.2)
  have HC2 := Lib.hid (few5_no A2 n2 c2 20 vb w.heap.size w hr2 (by omega) hs)
  clear hs h1
  go_enter Try.func6, Try.ntmps6
  go_wp2_with fail
  refine (HC.out).mono ?_
  rintro e w1 ⟨rfl, rfl⟩
  go_wp2_with fail
  refine (HC2.out).mono ?_
  rintro e w1 ⟨rfl, rfl⟩
  go_wp2_with fail
  refine (awake5 _).mono ?_
  rintro e w1 ⟨rfl, hb⟩
  go_wp2_with fail
  go_ret
  exact ⟨rfl, hb⟩

theorem take_cells {vs : List KeyV} {k : Nat} {f : KeyV} (h : vs.take (k + 1) = vs.take k ++ [f]) : (vs.take (k + 1)).flatMap KeyV.cells = (vs.take k).flatMap KeyV.cells ++ [.slice f.A f.k.length f.c] := by
  rw [h, List.flatMap_append]; rfl

set_option maxHeartbeats 8000000 in
set_option maxRecDepth 100000 in
theorem rankMerges_few (A1 : Option Addr) (n1 c1 : Nat) (A2 : Option Addr) (n2 c2 : Nat) (va vb : List KeyV) (w : World) (hr1 : Rd w w.heap.size 1 A1 n1 (va.flatMap KeyV.cells)) (hr2 : Rd w w.heap.size 1 A2 n2 (vb.flatMap KeyV.cells)) (e1 : A1 = none → n1 = 0 ∧ c1 = 0) (e2 : A2 = none → n2 = 0 ∧ c2 = 0) (hk1 : KeysRd w w.heap.size va) (hk2 : KeysRd w w.heap.size vb) (h1 : n1 ≤ 20) (hs1 : va.all shortK = true) (h2 : n2 ≤ 20) (hs2 : vb.all shortK = true) :
    Calls Try.prog 6 #[.slice A1 n1 c1, .slice A2 n2 c2] w fun e w' => e = .returned (.bool true) ∧ Below w.heap.size w w' := by
  have HL := Lib.hid (show va.length = n1 from hr1.len KeyV.cells_len (by omega))
  have HM := Lib.hid (show vb.length = n2 from hr2.len KeyV.cells_len (by omega))
  have HC := Lib.hid (few5_yes A1 n1 c1 20 va w.heap.size w hr1 h1 (by omega) hs1)
  have HC2 := Lib.hid (few5_yes A2 n2 c2 20 vb w.heap.size w hr2 h2 (by omega) hs2)
  have HK1 := Lib.hid hk1
  have HK2 := Lib.hid hk2
  have HE1 := Lib.hid e1
  have HE2 := Lib.hid e2
  obtain ⟨i0, hi0, hz0, hz1, hz2⟩ := info_parts ksInfo
  obtain ⟨j0, hj0, jz0, jz1, jz2⟩ := info_parts intInfo
  clear hs1 hs2 hk1 hk2 e1 e2
  go_enter Try.func6, Try.ntmps6
  go_wp2_with fail
  refine (HC.out).mono ?_
  rintro e w1 ⟨rfl, rfl⟩
  go_wp2_with fail
  refine (HC2.out).mono ?_
  rintro e w1 ⟨rfl, rfl⟩
  go_wp2_with fail
  clear HC HC2
  go_loopw [5, 6] (fun v i wr => ∃ k : Nat, k ≤ n1 ∧ i = .int .i64 k ∧ wr.ownsRow w.heap.size 22 1 v k ((va.take k).flatMap KeyV.cells) ∧ Below w.heap.size w wr) (fun _ i _ => n1 - (intOf i).toNat)
  case atStart => exact ⟨0, Nat.zero_le _, rfl, World.ownsRow_nil _ _ _ _, Below.refl _ _⟩
  case round =>
    obtain ⟨k, hk, rfl, hown, hb⟩ := hrel
    have hs := hb.size
    by_cases hlt : k < n1
    · have hlz : (k : Int) < (n1 : Int) := by omega
      have hg_f : va[k]? = some (va[k]'(by have := HL.out; omega)) := List.getElem?_eq_getElem _
      obtain ⟨b_f, off_f, rfl, hbb_f, hc_f⟩ := (hr1.below hb).elem KeyV.cells_len hg_f hlt
      have HT_f := Lib.hid (show va.take (k + 1) = va.take k ++ [(va[k]'(by have := HL.out; omega))] from List.take_succ_eq_append_getElem (by have := HL.out; omega))
      have HM_f := Lib.hid (show (va[k]'(by have := HL.out; omega)) ∈ va from List.getElem_mem _)
      generalize (va[k]'(by have := HL.out; omega)) = f at *
      have c0 := hc_f 0 _ rfl
      clear hc_f hg_f
      simp only [Nat.add_zero, Nat.mul_one] at c0
      have HTC := Lib.hid (take_cells HT_f.out)
      have hfv : f.val = .slice f.A f.k.length f.c := rfl
      rw [hfv] at c0
      go_wp2_with (at_builtin; refine wpList_append_lit _ _ rfl (.tmp 25) (.tmp 30) 26 rfl w.heap.size 22 i0 _ 1 24 Try.underlying26 hi0 hz0 hz1 hz2 rfl (by decide) _ _ _ rfl hown _ 1 1 rfl (by first | rfl | simp) rfl (by simp [Value.oneCell']) (by omega) (by omega) (by omega) ?_; intro v' w' hown' hg'; have hbw := below_own (hb.alloc hs _) hg' hown (by simp; omega) (Nat.le_refl _))
      go_roundw
      case rel => exact ⟨k + 1, by omega, by go_num, by rw [HTC.out]; exact hown', hbw⟩
      case measure => simp [intOf]; omega
    · as_aux_lemma =>
      have hlz : ¬ (k : Int) < (n1 : Int) := by omega
      obtain rfl : n1 = k := by omega
      rw [List.take_of_length_le (by rw [HL.out]; exact Nat.le_refl _)] at hown
      go_wp2_with fail
      go_loopw [5, 7] (fun v i wr => ∃ k : Nat, k ≤ n2 ∧ i = .int .i64 k ∧ wr.ownsRow w.heap.size 22 1 v (n1 + k) (va.flatMap KeyV.cells ++ (vb.take k).flatMap KeyV.cells) ∧ Below w.heap.size w wr) (fun _ i _ => n2 - (intOf i).toNat)
      case atStart => exact ⟨0, Nat.zero_le _, rfl, by simpa using hown, hb⟩
      case round =>
        clear hown hb hs
        obtain ⟨k, hk, rfl, hown, hb⟩ := hrel
        have hs := hb.size
        by_cases hlt : k < n2
        · have hlz : (k : Int) < (n2 : Int) := by omega
          have hg_f : vb[k]? = some (vb[k]'(by have := HM.out; omega)) := List.getElem?_eq_getElem _
          obtain ⟨b_f, off_f, rfl, hbb_f, hc_f⟩ := (hr2.below hb).elem KeyV.cells_len hg_f hlt
          have HT_f := Lib.hid (show vb.take (k + 1) = vb.take k ++ [(vb[k]'(by have := HM.out; omega))] from List.take_succ_eq_append_getElem (by have := HM.out; omega))
          have HM_f := Lib.hid (show (vb[k]'(by have := HM.out; omega)) ∈ vb from List.getElem_mem _)
          generalize (vb[k]'(by have := HM.out; omega)) = f at *
          have c0 := hc_f 0 _ rfl
          clear hc_f hg_f
          simp only [Nat.add_zero, Nat.mul_one] at c0
          have HTC := Lib.hid (take_cells HT_f.out)
          have hfv : f.val = .slice f.A f.k.length f.c := rfl
          rw [hfv] at c0
          go_wp2_with (at_builtin; refine wpList_append_lit _ _ rfl (.tmp 38) (.tmp 43) 26 rfl w.heap.size 22 i0 _ 1 24 Try.underlying26 hi0 hz0 hz1 hz2 rfl (by decide) _ _ _ rfl hown _ 1 1 rfl (by first | rfl | simp) rfl (by simp [Value.oneCell']) (by omega) (by omega) (by omega) ?_; intro v' w' hown' hg'; have hbw := below_own (hb.alloc hs _) hg' hown (by simp; omega) (Nat.le_refl _))
          go_roundw
          case rel => exact ⟨k + 1, by omega, by go_num, by rw [HTC.out, ← List.append_assoc]; exact hown', hbw⟩
          case measure => simp [intOf]; omega
        · as_aux_lemma =>
          have hlz : ¬ (k : Int) < (n2 : Int) := by omega
          obtain rfl : n2 = k := by omega
          rw [List.take_of_length_le (by rw [HM.out]; exact Nat.le_refl _), ← List.flatMap_append] at hown
          obtain ⟨A', c', rfl⟩ := own_form hown
          have hrd := Rd.of_own hown
          have HLv := Lib.hid (show (va ++ vb).length = n1 + n2 by simp [HL.out, HM.out])
          have hks : KeysRd wr wr.heap.size (va ++ vb) := fun v hv => by
            rcases List.mem_append.1 hv with hv | hv
            · exact (HK1.out.past hb) v hv
            · exact (HK2.out.past hb) v hv
          have HKS := Lib.hid hks
          have HKA : Hid (keysOf (va ++ vb) = keysOf va ++ keysOf vb) := Lib.hid (by simp [keysOf])
          obtain ⟨vs, hvs⟩ : ∃ vs, Hid (va ++ vb = vs) := ⟨_, Lib.hid rfl⟩
          obtain ⟨n, hn⟩ : ∃ n, Hid (n1 + n2 = n) := ⟨_, Lib.hid rfl⟩
          rw [hvs.out] at hrd HLv HKS HKA
          rw [hn.out] at hrd HLv
          have hn40 : n ≤ 40 := by rw [← hn.out]; omega
          clear hown hks
          rw [hn.out]
          obtain ⟨w3, rfl⟩ : ∃ w3 : World, w3 = wr := ⟨_, rfl⟩
          have hb3 := hb
          clear hb hs
          go_wp2_with fail
          go_loopw [8, 9] (fun v i wz => ∃ k : Nat, k ≤ n ∧ i = .int .i64 k ∧ wz.ownsRow w3.heap.size 3 1 v (runsK (keysOf vs) k).length ((runsK (keysOf vs) k).flatMap nC) ∧ Below w3.heap.size w3 wz) (fun _ i _ => n - (intOf i).toNat)
          case atStart => exact ⟨0, Nat.zero_le _, rfl, World.ownsRow_nil _ _ _ _, Below.refl _ _⟩
          case round =>
            obtain ⟨k, hk, rfl, hown, hb⟩ := hrel
            have hrl := runsK_len (keysOf vs) k
            have HRS := Lib.hid (runsK_succ (keysOf vs) k)
            by_cases hlt : k < n
            · as_aux_lemma =>
              have hlz : (k : Int) < (n : Int) := by omega
              have hownV := fun q => own_drewN hown q
              by_cases hk0 : k = 0
              · have b0 : ((k : Int) == 0) = true := by simp [hk0]
                have HN := Lib.hid (show runsK (keysOf vs) (k + 1) = runsK (keysOf vs) k ++ [k] by rw [HRS.out, show newAt (keysOf vs) k = true by rw [hk0]; rfl, if_pos rfl])
                clear hk0
                go_wp2_with fail
                go_quiet (fail)
                have hbV := below_drewN hb nq
                have hoV := hownV nq
                clear hownV hown hb
                generalize wr.drewN nq = V at hbV hoV ⊢
                have hs := hbV.size
                go_wp2_with (at_builtin; refine wpList_append_lit _ _ rfl (.tmp 66) (.tmp 68) 28 rfl w3.heap.size 3 j0 _ 1 8 Try.underlying28 hj0 jz0 jz1 jz2 rfl (by decide) _ _ _ rfl hoV _ 1 1 rfl (by first | rfl | simp) rfl (by simp [Value.oneCell']) (by omega) (by omega) (by omega) ?_; intro v' w' hown' hg'; have hbw := below_own (hbV.alloc hs _) hg' hoV (by simp; omega) (Nat.le_refl _))
                go_roundw
                case rel => exact ⟨k + 1, by omega, by go_num, by rw [HN.out]; simpa [nC] using hown', hbw⟩
                case measure => simp [intOf]; omega
              · have b0 : ((k : Int) == 0) = false := by simp; omega
                obtain ⟨j, hj⟩ : ∃ j : Nat, Hid (k = j + 1) := ⟨k - 1, Lib.hid (by omega)⟩
                have hjn : j < n := by have := hj.out; omega
                have hjz : (j : Int) < (n : Int) := by omega
                have e1 : (k : Int) - 1 = (j : Int) := by have := hj.out; omega
                have e2 : IntKind.i64.wrap ((k : Int) - 1) = (j : Int) := by rw [e1, IntKind.wrap_i64]; omega
                have hrw := hrd.below hb
                have hg_f : vs[j]? = some (vs[j]'(by have := HLv.out; omega)) := List.getElem?_eq_getElem _
                obtain ⟨b_f, off_f, hA_f, hbb_f, hc_f⟩ := (hrw).elem KeyV.cells_len hg_f hjn
                have HT_f := Lib.hid (show vs.take (j + 1) = vs.take j ++ [(vs[j]'(by have := HLv.out; omega))] from List.take_succ_eq_append_getElem (by have := HLv.out; omega))
                have HM_f := Lib.hid (show (vs[j]'(by have := HLv.out; omega)) ∈ vs from List.getElem_mem _)
                have HG_f := Lib.hid hg_f
                generalize (vs[j]'(by have := HLv.out; omega)) = f at *
                have c0 := hc_f 0 _ rfl
                clear hc_f hg_f
                simp only [Nat.add_zero, Nat.mul_one] at c0
                have hg_g : vs[k]? = some (vs[k]'(by have := HLv.out; omega)) := List.getElem?_eq_getElem _
                obtain ⟨b_g, off_g, hA_g, hbb_g, hc_g⟩ := (hrw).elem KeyV.cells_len hg_g hlt
                have HT_g := Lib.hid (show vs.take (k + 1) = vs.take k ++ [(vs[k]'(by have := HLv.out; omega))] from List.take_succ_eq_append_getElem (by have := HLv.out; omega))
                have HM_g := Lib.hid (show (vs[k]'(by have := HLv.out; omega)) ∈ vs from List.getElem_mem _)
                have HG_g := Lib.hid hg_g
                generalize (vs[k]'(by have := HLv.out; omega)) = g at *
                have d0 := hc_g 0 _ rfl
                clear hc_g hg_g
                simp only [Nat.add_zero, Nat.mul_one] at d0
                obtain rfl := hA_f
                obtain ⟨rfl, rfl⟩ : b_f = b_g ∧ off_f = off_g := by
                  have := Option.some.inj hA_g
                  simp only [Addr.mk.injEq] at this
                  exact ⟨this.1, this.2.1⟩
                clear hA_g
                have HNA := Lib.hid (newAt_of HG_f.out (by rw [← hj.out]; exact HG_g.out))
                rw [← hj.out] at HNA
                obtain ⟨k1, l1⟩ := HKS.out f HM_f.out
                obtain ⟨k2, l2⟩ := HKS.out g HM_g.out
                obtain ⟨fA, fc, fk⟩ := f
                obtain ⟨gA, gc, gk⟩ := g
                simp only at k1 k2 l1 l2 HNA
                have HX := Lib.hid (fun q => refCmp_any fA fk.length fc gA gk.length gc fk gk w3.heap.size w3.heap.size (wr.drewN q) ((k1.below hb).keep fun _ _ => rfl) ((k2.below hb).keep fun _ _ => rfl) (by omega) (by omega))
                generalize cmpL fk gk = z at HX HNA
                simp only [KeyV.val] at c0 d0
                clear k1 k2 hrw hk0 e1
                by_cases hz : z = 0
                · subst hz
                  have HN := Lib.hid (show runsK (keysOf vs) (k + 1) = runsK (keysOf vs) k by rw [HRS.out, HNA.out]; simp)
                  go_wp2_with fail
                  go_quiet ((go_at_call 17; exact Calls.quiet_of (HX.out _)))
                  have hbV := below_drewN hb nq
                  have hoV := hownV nq
                  clear hownV hown hb
                  go_wp2_with fail
                  go_roundw
                  case rel => exact ⟨k + 1, by omega, by go_num, by rw [HN.out]; exact hoV, hbV⟩
                  case measure => simp [intOf]; omega
                · have bz : (z != 0) = true := by simp [hz]
                  have HN := Lib.hid (show runsK (keysOf vs) (k + 1) = runsK (keysOf vs) k ++ [k] by rw [HRS.out, HNA.out, if_pos (by simp [hz])])
                  clear hz
                  go_wp2_with fail
                  go_quiet ((go_at_call 17; exact Calls.quiet_of (HX.out _)))
                  have hbV := below_drewN hb nq
                  have hoV := hownV nq
                  clear hownV hown hb c0 d0
                  generalize wr.drewN nq = V at hbV hoV ⊢
                  have hs := hbV.size
                  go_wp2_with (at_builtin; refine wpList_append_lit _ _ rfl (.tmp 66) (.tmp 68) 28 rfl w3.heap.size 3 j0 _ 1 8 Try.underlying28 hj0 jz0 jz1 jz2 rfl (by decide) _ _ _ rfl hoV _ 1 1 rfl (by first | rfl | simp) rfl (by simp [Value.oneCell']) (by omega) (by omega) (by omega) ?_; intro v' w' hown' hg'; have hbw := below_own (hbV.alloc hs _) hg' hoV (by simp; omega) (Nat.le_refl _))
                  go_roundw
                  case rel => exact ⟨k + 1, by omega, by go_num, by rw [HN.out]; simpa [nC] using hown', hbw⟩
                  case measure => simp [intOf]; omega
            · as_aux_lemma =>
              have hlz : ¬ (k : Int) < (n : Int) := by omega
              obtain rfl : n = k := by omega
              obtain ⟨Ar, cr, rfl⟩ := own_form hown
              have hru := Rd.of_own hown
              have hb4 := Below.past hb3 hb hb3.size
              clear hown HRS
              go_wp2_with fail
              refine (awake5 _).mono ?_
              rintro e w5 ⟨rfl, hb5⟩
              have hb35 := Below.next hb hb5
              have hb45 := Below.past hb4 hb5 hb4.size
              have hru5 := hru.past hb5
              have HMg := Lib.hid (merge_any A1 n1 c1 A2 n2 c2 va vb w5 (hr1.past hb45) (hr2.past hb45) (HK1.out.past hb45) (HK2.out.past hb45) HE1.out HE2.out (by omega) (by omega))
              rw [hn.out] at HMg
              go_wp2_with fail
              refine HMg.out.mono ?_
              rintro e w6 ⟨Am, cm, rfl, hm6, hb6⟩
              have hb36 := Below.next hb35 hb6
              have HOr := Lib.hid (refOrder_any A' n c' vs w6 (hrd.past hb36) (HKS.out.past hb36) (by omega))
              go_wp2_with fail
              refine HOr.out.mono ?_
              rintro e w7 ⟨Ao, co, rfl, ho7, hb7, _⟩
              rw [HKA.out] at ho7
              have HSm := Lib.hid (same5_any Am n cm Ao co (ordK (keysOf va ++ keysOf vb)) _ _ w7 (hm6.past hb7) ho7 (by omega) (fun x hx => by
                have := ordK_mem.1 hx
                rw [← HKA.out, keysOf_len, HLv.out] at this
                omega))
              have hb37 := Below.next hb36 hb7
              have hru7 := (hru5.past hb6).past hb7
              clear HMg HOr hm6 ho7 hru hru5
              go_wp2_with fail
              refine HSm.out.mono ?_
              rintro e w8 ⟨rfl, hd8⟩
              have hb38 := hd8.below hb37
              have hru8 := hru7.past hd8.bel
              have HRn := Lib.hid (rankRuns_any A' n c' vs w8 (hrd.past hb38) (HKS.out.past hb38) (by omega))
              clear HSm hd8 hru7
              go_wp2_with fail
              refine HRn.out.mono ?_
              rintro e w9 ⟨An, cn, rfl, hn9, hb9⟩
              have HSr := Lib.hid (same5_any An _ cn Ar cr (runsK (keysOf vs) n) _ _ w9 hn9 (hru8.past hb9) (by have := runsK_len (keysOf vs) n; omega) (fun x hx => by have := runsK_lt hx; omega))
              have hb39 := Below.next hb38 hb9
              clear HRn hn9 hru8
              go_wp2_with fail
              refine HSr.out.mono ?_
              rintro e wa ⟨rfl, hda⟩
              have hb3a := hda.below hb39
              go_wp2_with fail
              go_ret
              exact ⟨rfl, Below.past hb3 hb3a hb3.size⟩
end Go.Proofs.Ytoohfbgbhjadgaa
