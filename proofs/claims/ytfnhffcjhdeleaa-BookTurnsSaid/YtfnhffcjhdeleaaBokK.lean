import Derived.Test.YtfnhffcjhdeleaaBokJ
namespace Go.Proofs.Ytfnhffcjhdeleaa
open Go.RowKit

theorem own_onlyK {g : Nat} {v u : Value} {w w' : World} (h : OnlyG g v w w') {base : Nat} {e : TypeId} {size n : Nat} {xs : List Value} (ho : w.ownsRow base e size u n xs) (h1 : u.ownBlock ≠ some g) (h2 : ∀ k, v.ownBlock = some k → u.ownBlock ≠ some k) : w'.ownsRow base e size u n xs := by
  refine ⟨ho.1, ?_⟩
  rcases ho.2 with h0 | ⟨k, cap, cur, rfl, hb, hh, h3⟩
  · exact .inl h0
  · refine .inr ⟨k, cap, cur, rfl, hb, ?_, h3⟩
    have hlt : k < w.heap.size := by
      rcases Nat.lt_or_ge k w.heap.size with hlt | hge
      · exact hlt
      · rw [Array.getElem?_eq_none hge] at hh; cases hh
    rw [h.block k hlt (fun e => h1 (by rw [← e]; rfl)) (fun e => h2 k e rfl)]; exact hh
/-- What holds at the head of each round. -/
structure BBSt (W : World) (g M : Nat) (v va : Value) (bl : List Int) (p : Int) (L : List Ent) (w : World) : Prop where
  book : BookV w g W.heap.size M 3 v bl p
  inv : Inv M 3 bl L
  acc : w.ownsRow W.heap.size 38 2 va (cnt M) ((accs M).flatMap Acc.cells)
  below : Below W.heap.size W w
  hg : W.heap.size ≤ g
theorem BBSt.past {W w w' : World} {g M : Nat} {v va : Value} {bl : List Int} {p : Int} {L : List Ent} (h : BBSt W g M v va bl p L w) (hb : Below w.heap.size w w') : BBSt W g M v va bl p L w' :=
  ⟨h.book.past hb, h.inv, own_pastK h.acc hb, Below.past h.below hb h.below.size, h.hg⟩
theorem BBSt.post {W w w' : World} {g M : Nat} {v va : Value} {bl : List Int} {p : Int} {L l : List Ent} (h : BBSt W g M v va bl p L w) (hb : BookV w' g W.heap.size M 3 v (postB M 3 bl l) (postP M 3 bl l p)) (ho : OnlyG g v w w') : BBSt W g M v va (postB M 3 bl l) (postP M 3 bl l p) (if postK M 3 bl l = 0 then L ++ l else L) w' :=
  ⟨hb, h.inv.post h.book.hM, own_onlyK ho h.acc (own_blk_ne h.acc h.book.blk (by decide)) (own_neK h.acc h.book.row (by decide)), Below.trans h.below (h.book.frame ho h.hg (Nat.le_refl _) h.below.size), h.hg⟩
theorem postP_le {M A : Nat} {bl : List Int} {l : List Ent} {p : Int} {k : Nat} (h : 0 ≤ p ∧ p ≤ k) : 0 ≤ postP M A bl l p ∧ postP M A bl l p ≤ ((k + 1 : Nat) : Int) := by
  unfold postP; split <;> omega
theorem acc_okP {M : Nat} {x : Acc} {k j : Nat} (hM : M ≤ 16) (h : (accs M)[k]? = some x) (hj : j < 3) : okP M 3 ⟨x.kind, x.member, (j : Int)⟩ = true := by
  have hk := (List.getElem?_eq_some_iff.1 h).1
  rw [accs_len] at hk
  have hg := accs_get M k hk
  rw [h] at hg
  have hx : x = accN k := Option.some.inj hg
  refine okP_iff.2 ⟨?_, by show (0 : Int) ≤ j; omega, by show (j : Int) < (3 : Nat); omega⟩
  show (numA M x).2 = 0
  rw [hx, num_accN M k hM hk]

set_option maxHeartbeats 4000000 in
set_option maxRecDepth 100000 in
theorem bookBalances_long (mm : Int) (A : Option Addr) (n c : Nat) (vs : List PosV) (w : World) (hr : Rd w w.heap.size 1 A n (vs.flatMap PosV.cells)) (hf : fewP 20 vs = false) :
    Calls Try.prog 3 #[.int .u8 mm, .slice A n c] w fun e w' => e = .returned (.bool true) ∧ Below w.heap.size w w' := by
  have HF := Lib.hid (few14_any A n c vs 20 (by omega) w hr)
  rw [hf] at HF
  clear hr hf
  go_enter Try.func3, Try.ntmps3
  go_wp2_with fail
  refine HF.out.mono ?_
  rintro e w1 ⟨rfl, rfl⟩
  go_wp2_with fail
  refine (awake14 _).mono ?_
  rintro e w2 ⟨rfl, hb2⟩
  go_wp2_with fail
  go_ret
  exact ⟨rfl, hb2⟩

set_option maxHeartbeats 8000000 in
set_option maxRecDepth 100000 in
theorem bookBalances_few (mm : Nat) (hmm : mm ≤ 255) (A : Option Addr) (n c : Nat) (vs : List PosV) (w : World) (hr : Rd w w.heap.size 1 A n (vs.flatMap PosV.cells)) (hps : ∀ v ∈ vs, PosRd w v) (hf : fewP 20 vs = true) :
    Calls Try.prog 3 #[.int .u8 (mm : Nat), .slice A n c] w fun e w' => e = .returned (.bool true) ∧ Below w.heap.size w w' := by
  have HL := Lib.hid (hr.len PosV.cells_len (by omega))
  obtain ⟨i0, hi0, hz0, hz1, hz2⟩ := info_parts int64Info
  have HR := Lib.hid hr
  have HPS := Lib.hid hps
  have HF := Lib.hid (few14_any A n c vs 20 (by omega) w hr)
  rw [hf] at HF
  obtain ⟨hf1, hf2⟩ : vs.length ≤ 20 ∧ vs.all shortP = true := by simpa [fewP] using hf
  have HSH : Hid (∀ v ∈ vs, v.l.length ≤ 12) := Lib.hid fun v hv => by
    have := List.all_eq_true.1 hf2 v hv
    simpa [shortP] using this
  rw [HL.out] at hf1
  obtain ⟨M, hMe⟩ : ∃ M : Nat, Hid (mm % 17 = M) := ⟨_, Lib.hid rfl⟩
  have hM : M ≤ 16 := by have := Nat.mod_lt mm (show 0 < 17 by omega); rw [hMe.out] at this; omega
  have e1 : ((mm : Int)).tmod 17 = (M : Int) := by rw [← hMe.out, Int.tmod_eq_emod_of_nonneg (by omega)]; simp
  clear hr hps hf hf2
  go_enter Try.func3, Try.ntmps3
  go_wp2_with fail
  refine HF.out.mono ?_
  rintro e w0 ⟨rfl, rfl⟩
  have HN := Lib.hid (newK_yes M 3 hM (by omega) (by omega) w)
  unfold NewKPost at HN
  go_wp2_with fail
  refine HN.out.mono ?_
  rintro e w1 ⟨g, v, rfl, hg, hbk, hb1⟩
  have HX1 := Lib.hid hbk
  have HB1 := Lib.hid hb1
  have hs1 := hb1.size
  have HAL := Lib.hid (all_yes M hM w1)
  clear hbk hb1 HN e1
  go_wp2_with fail
  refine HAL.out.mono ?_
  rintro e w2 ⟨va, rfl, hva, hb2⟩
  have HST2 : Hid (BBSt w g M v va (List.replicate (3 * cnt M) 0) 0 [] w2) := Lib.hid ⟨HX1.out.past hb2, Inv.start hM, own_monoK hva hs1, Below.past HB1.out hb2 hs1, hg⟩
  obtain ⟨Aa, ca, rfl⟩ := own_form hva
  obtain ⟨C, hC⟩ : ∃ C, Hid (cnt M = C) := ⟨_, Lib.hid rfl⟩
  have hCe : 6 + 3 * M = C := hC.out
  rw [hCe] at HST2 ⊢
  have hC54 : C ≤ 54 := by omega
  have HCA : Hid ((accs M).length = C) := Lib.hid (by rw [accs_len]; exact hCe)
  clear hva hb2 HAL HX1 HB1
  go_wp2_with fail
  go_loopw [9] (fun i wr => ∃ (k : Nat) (bl : List Int) (p : Int) (L : List Ent), k ≤ n ∧ i = .int .i64 (k : Nat) ∧ (0 ≤ p ∧ p ≤ (k : Nat)) ∧ Hid (BBSt w g M v (.slice Aa C ca) bl p L wr)) (fun i _ => n - (intOf i).toNat)
  case atStart => exact ⟨0, _, _, _, by omega, rfl, by omega, HST2⟩
  case round =>
    clear HST2
    obtain ⟨k, bl, p, L, hk, rfl, hp, HS⟩ := hrel
    by_cases hlt : k < n
    · have hlz : (k : Int) < (n : Int) := by omega
      have hg_f : vs[k]? = some (vs[k]'(by have := HL.out; omega)) := List.getElem?_eq_getElem _
      obtain ⟨b_f, off_f, rfl, hbb_f, hc_f⟩ := (HR.out.below HS.out.below).elem PosV.cells_len hg_f hlt
      have HT_f := Lib.hid (show vs.take (k + 1) = vs.take k ++ [(vs[k]'(by have := HL.out; omega))] from List.take_succ_eq_append_getElem (by have := HL.out; omega))
      have HM_f := Lib.hid (show (vs[k]'(by have := HL.out; omega)) ∈ vs from List.getElem_mem _)
      generalize (vs[k]'(by have := HL.out; omega)) = f at *
      have c0 := hc_f 0 _ rfl
      clear hc_f hg_f
      simp only [Nat.add_zero, Nat.mul_one] at c0
      have hf12 := HSH.out f HM_f.out
      have hpf := (HPS.out f HM_f.out).past HS.out.below
      have HPO := Lib.hid (postK_any g w.heap.size M 3 v bl p f.P f.l.length f.c f.l wr HS.out.book hpf.rd (by omega) hpf.ok HS.out.inv.inn (by omega))
      unfold PostPost at HPO
      have hp2 := postP_le (M := M) (A := 3) (bl := bl) (l := f.l) hp
      have HPN : Hid (∀ w', BookV w' g w.heap.size M 3 v (postB M 3 bl f.l) (postP M 3 bl f.l p) → OnlyG g v wr w' → BBSt w g M v (.slice Aa C ca) (postB M 3 bl f.l) (postP M 3 bl f.l p) (if postK M 3 bl f.l = 0 then L ++ f.l else L) w') := Lib.hid fun w' h1 h2 => HS.out.post h1 h2
      obtain ⟨K, hK⟩ : ∃ K, Hid (postK M 3 bl f.l = K) := ⟨_, Lib.hid rfl⟩
      generalize postB M 3 bl f.l = bl2 at HPO HPN
      generalize postP M 3 bl f.l p = p2 at HPO HPN hp2
      rw [hK.out] at HPO HPN
      generalize (if K = 0 then L ++ f.l else L) = L2 at HPN
      obtain ⟨fm, hfm⟩ : ∃ fm, Hid (f.l.length = fm) := ⟨_, Lib.hid rfl⟩
      rw [hfm.out] at HPO c0
      clear hpf hp hf12
      go_wp2_with fail
      refine HPO.out.mono ?_
      rintro e w3 ⟨rfl, hb3, ho3⟩
      have HS3 := Lib.hid (HPN.out w3 hb3 ho3)
      clear hb3 ho3 HPO HPN HS c0
      go_wp2_with fail
      go_loopw [10] (fun i wr => ∃ (j : Nat), j ≤ 3 ∧ i = .int .i64 (j : Nat) ∧ Hid (BBSt w g M v (.slice Aa C ca) bl2 p2 L2 wr)) (fun i _ => 3 - (intOf i).toNat)
      case atStart => exact ⟨0, by omega, rfl, HS3⟩
      case round =>
        clear HS3
        obtain ⟨j, hj, rfl, HS⟩ := hrel
        by_cases hj3 : j < 3
        · have hjz : (j : Int) < 3 := by omega
          have HTO := Lib.hid (totK_yes g w.heap.size M 3 v bl2 p2 j hj3 wr HS.out.book HS.out.inv.inn)
          rw [HS.out.inv.total hM (by omega) hj3, show amount 0 = 0 from rfl, show over 0 = 0 from rfl] at HTO
          go_wp2_with fail
          refine HTO.out.mono ?_
          rintro e w4 ⟨rfl, hb4⟩
          have HS4 := Lib.hid (HS.out.past hb4)
          clear hb4 HS HTO
          go_wp2_with fail
          obtain ⟨w5, hw5⟩ : ∃ w5, Hid (w4 = w5) := ⟨_, Lib.hid rfl⟩
          have HB45 : Hid (Below w5.heap.size w5 w4) := Lib.hid (by rw [hw5.out]; exact Below.refl _ _)
          rw [hw5.out] at HS4
          go_loopw [13, 14] (fun v13 i wz => ∃ (q : Nat), q ≤ C ∧ i = .int .i64 (q : Nat) ∧ Hid (wz.ownsRow w5.heap.size 2 1 v13 q ((((accs M).take q).map fun x => (atB L2 ⟨x.kind, x.member, (j : Int)⟩).sum).flatMap i64Cells)) ∧ Hid (Below w5.heap.size w5 wz)) (fun _ i _ => C - (intOf i).toNat)
          case atStart => exact ⟨0, by omega, rfl, Lib.hid (World.ownsRow_nil _ _ _ _), HB45⟩
          case round =>
            obtain ⟨q, hq, rfl, HOW, HE⟩ := hrel
            have hes := HE.out.size
            by_cases hqC : q < C
            · have hqz : (q : Int) < (C : Int) := by omega
              obtain ⟨AL, hAL⟩ : ∃ AL, Hid (accs M = AL) := ⟨_, Lib.hid rfl⟩
              have HAR : Hid (Rd w5 w5.heap.size 2 Aa C (AL.flatMap Acc.cells)) := Lib.hid (by rw [← hAL.out]; have h := HS4.out.acc; rw [hC.out] at h; exact Rd.of_own h)
              have HCB : Hid (AL.length = C) := Lib.hid (by rw [← hAL.out]; exact HCA.out)
              rw [hAL.out] at HOW
              have hg_x : AL[q]? = some (AL[q]'(by have := HCB.out; omega)) := List.getElem?_eq_getElem _
              obtain ⟨b_x, off_x, rfl, hbb_x, hc_x⟩ := (HAR.out.below HE.out).elem Acc.cells_len hg_x hqC
              have HT_x := Lib.hid (show AL.take (q + 1) = AL.take q ++ [(AL[q]'(by have := HCB.out; omega))] from List.take_succ_eq_append_getElem (by have := HCB.out; omega))
              have HM_x := Lib.hid (show (AL[q]'(by have := HCB.out; omega)) ∈ AL from List.getElem_mem _)
              have HG_x := Lib.hid hg_x
              generalize (AL[q]'(by have := HCB.out; omega)) = x at *
              have c0 := hc_x 0 _ rfl
              have c1 := hc_x 1 _ rfl
              clear hc_x hg_x
              simp only [Nat.add_zero] at c0
              have hokx : okP M 3 ⟨x.kind, x.member, (j : Int)⟩ = true := acc_okP hM (by rw [hAL.out]; exact HG_x.out) hj3
              have hse := HS4.out.past HE.out
              have HBA := Lib.hid (balK_any g w.heap.size M 3 v bl2 p2 ⟨x.kind, x.member, (j : Int)⟩ wr hse.book)
              obtain ⟨b, hb0⟩ : ∃ b, Hid ((atB L2 ⟨x.kind, x.member, (j : Int)⟩).sum = b) := ⟨_, Lib.hid rfl⟩
              have HBV : Hid (blK M 3 bl2 ⟨x.kind, x.member, (j : Int)⟩ = (b, 0)) := Lib.hid (by
                rw [blK_t hokx, List.getD_eq_getElem?_getD, hse.inv.bal _ hokx, ← hb0.out]; rfl)
              rw [HBV.out] at HBA
              have HPS2 : Hid (b < 0 → x.kind = 5 ∨ x.kind = 6 ∨ x.kind = 7) := Lib.hid fun hlt => by
                cases hfr : frB ⟨x.kind, x.member, (j : Int)⟩ with
                | true => simpa [frB, or_assoc] using hfr
                | false => have := hse.inv.pos _ hokx hfr; rw [hb0.out] at this; omega
              have HSX := Lib.hid hse.below
              clear hokx hse
              go_wp2_with fail
              refine HBA.out.mono ?_
              rintro e w6 ⟨rfl, hb6⟩
              have HE6 := Lib.hid (Below.past HE.out hb6 hes)
              have HOW6 := Lib.hid (own_pastK HOW.out hb6)
              have hs6 := HE6.out.size
              clear hb6 c0 c1 HBA HOW
              go_upto_region 24 with (at_builtin; refine wpList_append_lit _ _ rfl (.tmp 81) (.tmp 83) 35 rfl w5.heap.size 2 i0 _ 1 8 Try.underlying35 hi0 hz0 hz1 hz2 rfl (by decide) _ _ _ rfl HOW6.out _ 1 1 rfl (by first | rfl | simp) rfl (by simp [Value.oneCell']) (by omega) (by omega) (by omega) ?_; intro v' w' hown' hg'; have HOWN := Lib.hid hown'; have HBW := Lib.hid (below_own (HE6.out.alloc hs6 _) hg' HOW6.out (by simp; omega) (Nat.le_refl _)); clear hown' hg')
              have HTK : Hid ((AL.take (q + 1)).map (fun x => (atB L2 ⟨x.kind, x.member, (j : Int)⟩).sum) = (AL.take q).map (fun x => (atB L2 ⟨x.kind, x.member, (j : Int)⟩).sum) ++ [b]) := Lib.hid (by rw [HT_x.out, List.map_append, List.map_cons, List.map_nil, hb0.out])
              have HOW7 : Hid (w'.ownsRow w5.heap.size 2 1 v' (q + 1) (((AL.take (q + 1)).map fun x => (atB L2 ⟨x.kind, x.member, (j : Int)⟩).sum).flatMap i64Cells)) := Lib.hid (by rw [HTK.out, List.flatMap_append]; exact HOWN.out)
              obtain ⟨b4, o4, he4, _, hc4⟩ := (HAR.out.below HBW.out).elem Acc.cells_len HG_x.out hqC
              cases he4
              have d0 := hc4 0 _ rfl
              simp only [Nat.add_zero] at d0
              clear hc4 HOWN
              by_cases hbn : b < 0
              · have hkd := HPS2.out hbn
                have hk5 : ¬ x.kind < 5 := by omega
                have hk7 : ¬ 7 < x.kind := by omega
                clear hkd
                go_wp2_with fail
                go_roundw
                case rel => exact ⟨q + 1, by omega, by go_num, by rw [hAL.out]; exact HOW7, HBW⟩
                case measure => simp [intOf]; omega
              · go_wp2_with fail
                go_roundw
                case rel => exact ⟨q + 1, by omega, by go_num, by rw [hAL.out]; exact HOW7, HBW⟩
                case measure => simp [intOf]; omega
            · have hqz : ¬ (q : Int) < (C : Int) := by omega
              obtain rfl : C = q := by omega
              have hT : (accs M).take C = accs M := List.take_of_length_le (by rw [HCA.out]; exact Nat.le_refl _)
              rw [hT] at HOW
              have hse := HS4.out.past HE.out
              have htot := acc_total (A := 3) hM j L2 hse.inv.ok
              rw [hse.inv.zero j (by omega)] at htot
              unfold accSum at htot
              obtain ⟨A13, c13, hv13⟩ := own_form HOW.out
              rw [hv13] at HOW
              subst hv13
              have HSM := Lib.hid (refSum_any A13 C c13 _ wr (Rd.of_own HOW.out) (by omega) (fun z hz => by
                obtain ⟨x, hx, rfl⟩ := List.mem_map.1 hz
                obtain ⟨i, hi, hxi⟩ := List.mem_iff_getElem.1 hx
                have hok := acc_okP hM (show (accs M)[i]? = some x by rw [List.getElem?_eq_getElem hi, hxi]) hj3
                exact hse.inv.inn _ (List.mem_of_getElem? (hse.inv.bal _ hok))))
              rw [htot, show amount 0 = 0 from rfl, show over 0 = 0 from rfl] at HSM
              have HSE := Lib.hid hse
              clear hT htot hse HOW
              go_wp2_with fail
              refine HSM.out.mono ?_
              rintro e w6 ⟨rfl, rfl⟩
              clear HSM
              go_wp2_with fail
              go_roundw
              case rel => exact ⟨j + 1, by omega, by go_num, HSE⟩
              case measure => simp [intOf]; omega
        · have hjz : ¬ (j : Int) < 3 := by omega
          go_wp2_with fail
          go_roundw
          case rel => exact ⟨k + 1, bl2, p2, L2, by omega, by go_num, hp2, HS⟩
          case measure => simp [intOf]; omega
    · have hlz : ¬ (k : Int) < (n : Int) := by omega
      have HTN := Lib.hid (totK_no g w.heap.size M 3 v bl p 3 (by omega) wr HS.out.book)
      have HBF := Lib.hid HS.out.below
      clear HS
      go_wp2_with fail
      refine HTN.out.mono ?_
      rintro e w4 ⟨rfl, rfl⟩
      go_wp2_with fail
      refine (awake14 _).mono ?_
      rintro e w5 ⟨rfl, hb5⟩
      have HB5 := Lib.hid (Below.past HBF.out hb5 HBF.out.size)
      clear hb5
      go_wp2_with fail
      go_ret
      exact ⟨rfl, HB5.out⟩
end Go.Proofs.Ytfnhffcjhdeleaa
