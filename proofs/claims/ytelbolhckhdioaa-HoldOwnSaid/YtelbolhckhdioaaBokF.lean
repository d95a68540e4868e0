import Derived.Test.YtelbolhckhdioaaBokE
namespace Go.Proofs.Ytelbolhckhdioaa
open Go.RowKit Go.ChangeShapes Go.ChangeMaps

set_option maxHeartbeats 400000 in
theorem addK_any (a b : Int) (ha : inI a) (hb : inI b) (w : World) :
    Calls Try.prog 111 #[.int .i64 a, .int .i64 b] w fun e w' => e = .returned (.tuple #[.int .i64 (amount (a + b)), .int .i64 (over (a + b))]) ∧ w = w' := by
  obtain ⟨a1, a2⟩ := ha
  obtain ⟨b1, b2⟩ := hb
  by_cases hi : inI (a + b)
  · have HA := Lib.hid (amount_in hi)
    obtain ⟨s1, s2⟩ := hi
    by_cases h1 : a < 0 <;> by_cases h2 : b < 0
    all_goals
      first | have qa := dec_t h1 | have qa := dec_f h1
      first | have qb := dec_t h2 | have qb := dec_f h2
      first | have qs := dec_t (show a + b < 0 by omega) | have qs := dec_f (show ¬ a + b < 0 by omega) | skip
      go_enter Try.func111, Try.ntmps111
      go_wp2
      go_ret2
      exact ⟨ret2 HA.out.1.symm HA.out.2.symm, rfl⟩
  · have HA := Lib.hid (amount_out hi)
    unfold inI at hi
    by_cases h1 : a < 0
    · have qa := dec_t h1
      have qb := dec_t (show b < 0 by omega)
      have qs := dec_f (show ¬ wrap64 (a + b) < 0 by unfold wrap64; omega)
      clear hi
      go_enter Try.func111, Try.ntmps111
      go_wp2
      go_ret2
      exact ⟨ret2 HA.out.1.symm HA.out.2.symm, rfl⟩
    · have qa := dec_f h1
      have qb := dec_f (show ¬ b < 0 by omega)
      have qs := dec_t (show wrap64 (a + b) < 0 by unfold wrap64; omega)
      clear hi
      go_enter Try.func111, Try.ntmps111
      go_wp2
      go_ret2
      exact ⟨ret2 HA.out.1.symm HA.out.2.symm, rfl⟩

theorem own_monoK {w : World} {base base' : Nat} {e : TypeId} {size n : Nat} {v : Value} {xs : List Value} (h : w.ownsRow base e size v n xs) (hb : base' ≤ base) : w.ownsRow base' e size v n xs := by
  refine ⟨h.1, ?_⟩
  rcases h.2 with h0 | ⟨g, cap, cur, rfl, hb1, hh, h1⟩
  · exact .inl h0
  · exact .inr ⟨g, cap, cur, rfl, Nat.le_trans hb hb1, hh, h1⟩

/-! ### What a posting comes to -/
structure Chg where
  pl : Nat
  fr : Bool
  zb : Int
  nw : Int
def Chg.cells (c : Chg) : List Value := [.int .i64 (c.pl : Nat), .bool c.fr, .int .i64 c.zb, .int .i64 c.nw]
theorem Chg.cells_len (c : Chg) : c.cells.length = 4 := rfl
def frB (s : Spt) : Bool := s.k == 5 || s.k == 6 || s.k == 7
def nowB (M : Nat) (bl : List Int) (l : List Ent) (s : Spt) : Int := bl.getD (ixS M s) 0 + (atB l s).sum
def chgOf (M : Nat) (bl : List Int) (l : List Ent) (s : Spt) : Chg := ⟨ixS M s, frB s, (atB l s).sum, nowB M bl l s⟩
def ovS (M : Nat) (bl : List Int) (l : List Ent) (s : Spt) : Bool := !(decide (inI (atB l s).sum) && decide (inI (nowB M bl l s)))
def badJ (l : List Ent) (j : Nat) : Bool := decide ((ofK l j).sum ≠ 0)
def chgK (M A : Nat) (bl : List Int) (l : List Ent) : Int :=
  if (l.all fun e => okP M A e.spt) = true then (if (List.range 9).any (badJ l) = true then 17 else if (sptsOf l).any (ovS M bl l) = true then 2 else 0) else 8
def chgL (M A : Nat) (bl : List Int) (l : List Ent) : List Chg := if chgK M A bl l = 0 then (sptsOf l).map (chgOf M bl l) else []
def ChgPost (M A : Nat) (bl : List Int) (l : List Ent) (w : World) (e : Ending) (w' : World) : Prop :=
  ∃ v, e = .returned (.tuple #[v, .int .i64 (chgK M A bl l)]) ∧ w'.ownsRow w.heap.size 108 4 v (chgL M A bl l).length ((chgL M A bl l).flatMap Chg.cells) ∧ Below w.heap.size w w'
theorem chg_no {M A : Nat} {bl : List Int} {l : List Ent} {w w' : World} {K : Int} (hk : chgK M A bl l = K) (h0 : K ≠ 0) (hb : Below w.heap.size w w') : ChgPost M A bl l w (.returned (.tuple #[.slice none 0 0, .int .i64 K])) w' := by
  refine ⟨_, by rw [hk], ?_, hb⟩
  rw [chgL, hk, if_neg h0]; exact World.ownsRow_nil _ _ _ _
theorem chgInfo : (Try.prog.info? 108).map (fun i => (i.zero, i.size, i.bytes)) = some (some (.agg #[.int .i64 0, .bool false, .int .i64 0, .int .i64 0]), 4, 32) := by kernel_rfl
theorem ints_flatK (l : List Int) : l.map (Value.int .i64) = l.flatMap i64Cells := by
  induction l with
  | nil => rfl
  | cons x l ih => rw [List.map_cons, List.flatMap_cons, ih]; rfl
theorem atB_in {l : List Ent} (h : ∀ e ∈ l, EntOk e) (s : Spt) : ∀ z ∈ atB l s, inI z := fun z hz => by
  obtain ⟨e, he, rfl⟩ := List.mem_map.1 hz
  exact (h e (List.mem_filter.1 he).1).z
theorem ofK_in {l : List Ent} (h : ∀ e ∈ l, EntOk e) (j : Nat) : ∀ z ∈ ofK l j, inI z := fun z hz => by
  obtain ⟨e, he, rfl⟩ := List.mem_map.1 hz
  exact (h e (List.mem_filter.1 he).1).z
theorem atB_len (l : List Ent) (s : Spt) : (atB l s).length ≤ l.length := by unfold atB; rw [List.length_map]; exact List.length_filter_le _ _
theorem ofK_len (l : List Ent) (j : Nat) : (ofK l j).length ≤ l.length := by unfold ofK; rw [List.length_map]; exact List.length_filter_le _ _
theorem amount_inK {z : Int} (h : inI z) : amount z = z ∧ over z = 0 := ⟨if_pos h, if_pos h⟩
theorem amount_outK {z : Int} (h : ¬ inI z) : amount z = 0 ∧ over z = 2 := ⟨if_neg h, if_neg h⟩
theorem bl_get {A M : Nat} {bl : List Int} {s : Spt} (hl : bl.length = A * cnt M) (hM : M ≤ 16) (h : okP M A s = true) : bl[ixS M s]? = some (bl.getD (ixS M s) 0) := by
  have := (ixS_lt hM h).1
  rw [List.getD_eq_getElem?_getD, List.getElem?_eq_getElem (by omega)]; rfl

set_option maxHeartbeats 8000000 in
set_option maxRecDepth 100000 in
theorem changes_any (g base M A : Nat) (v : Value) (bl : List Int) (p : Int) (P : Option Addr) (n c : Nat) (l : List Ent) (w : World) (hx : BookV w g base M A v bl p) (hrl : Rd w w.heap.size 4 P n (l.flatMap Ent.cells)) (hn : n ≤ 1000) (hok : ∀ e ∈ l, EntOk e) (hbl : ∀ z ∈ bl, inI z) :
    Calls Try.prog 56 #[.pointer (some ⟨g, 0, none⟩), .slice P n c] w (ChgPost M A bl l w) := by
  have HL := Lib.hid (hrl.len Ent.cells_len (by omega))
  have HG := Lib.hid hok
  have HBI := Lib.hid hbl
  have HRL := Lib.hid hrl
  have HX := Lib.hid hx
  obtain ⟨X, cX, hv⟩ := hx.form
  subst hv
  have HBR := Lib.hid (Rd.of_own hx.row)
  obtain ⟨j0, hj0, jz0, jz1, jz2⟩ := info_parts chgInfo
  have hM := hx.hM
  have hA9 := hx.hA
  have HBLN := Lib.hid hx.len
  have hNs := hx.small
  obtain ⟨N, hN⟩ : ∃ N, Hid (A * cnt M = N) := ⟨_, Lib.hid rfl⟩
  have HBLK := Lib.hid hx.blk
  rw [hN.out] at HBR HBLN hNs HBLK
  have q0 : ¬ (1024 : Int) < (n : Int) := by omega
  clear hx hrl hok hbl
  go_enter Try.func56, Try.ntmps56
  go_wp2_with fail
  clear q0
  go_loopw [30] (fun i wr => ∃ k : Nat, k ≤ n ∧ i = .int .i64 (k : Nat) ∧ Hid (∀ e ∈ l.take k, okP M A e.spt = true) ∧ Hid (Below w.heap.size w wr)) (fun i _ => n - (intOf i).toNat)
  case atStart => exact ⟨0, by omega, rfl, Lib.hid (fun e he => absurd he (by simp)), Lib.hid (Below.refl _ _)⟩
  case round =>
    obtain ⟨k, hk, rfl, HOK, HB⟩ := hrel
    have hs := HB.out.size
    by_cases hlt : k < n
    · have hlz : (k : Int) < (n : Int) := by omega
      have hg_f : l[k]? = some (l[k]'(by have := HL.out; omega)) := List.getElem?_eq_getElem _
      obtain ⟨b_f, off_f, rfl, hbb_f, hc_f⟩ := (HRL.out.below HB.out).elem Ent.cells_len hg_f hlt
      have HT_f := Lib.hid (show l.take (k + 1) = l.take k ++ [(l[k]'(by have := HL.out; omega))] from List.take_succ_eq_append_getElem (by have := HL.out; omega))
      have HM_f := Lib.hid (show (l[k]'(by have := HL.out; omega)) ∈ l from List.getElem_mem _)
      generalize (l[k]'(by have := HL.out; omega)) = f at *
      have c0 := hc_f 0 _ rfl
      have c1 := hc_f 1 _ rfl
      have c2 := hc_f 2 _ rfl
      have c3 := hc_f 3 _ rfl
      clear hc_f hg_f
      simp only [Nat.add_zero] at c0
      have bX := Blk.new wr 110 #[.int .i64 f.k, .int .i64 f.m, .int .i64 f.a, .int .i64 f.z] wr.heap.size rfl
      have hb1 := (Below.refl wr.heap.size wr).alloc (Nat.le_refl _) (.cells #[.int .i64 f.k, .int .i64 f.m, .int .i64 f.a, .int .i64 f.z] 110)
      obtain ⟨W1, hW1⟩ : ∃ W, Hid (wr.alloc (.cells #[.int .i64 f.k, .int .i64 f.m, .int .i64 f.a, .int .i64 f.z] 110) = W) := ⟨_, Lib.hid rfl⟩
      rw [hW1.out] at bX hb1
      have HB1 := Lib.hid (Below.past HB.out hb1 hs)
      have hs1 := HB1.out.size
      have HPL := Lib.hid (placeK_any g base M A _ bl p f.spt W1 (HX.out.past HB1.out))
      have x0 := (bX).cell 0
      have x1 := (bX).cell 1
      have x2 := (bX).cell 2
      have x3 := (bX).cell 3
      simp at x0 x1 x2 x3
      clear bX hb1
      go_upto_region 6 with fail
      rw [hW1.out]
      clear c0 c1 c2 c3
      cases hf : okP M A f.spt with
      | true =>
        rw [plK_t hf] at HPL
        have HOK2 : Hid (∀ e ∈ l.take (k + 1), okP M A e.spt = true) := Lib.hid fun e he => by
          rw [HT_f.out] at he
          rcases List.mem_append.1 he with he | he
          · exact HOK.out e he
          · simp at he; rw [he]; exact hf
        go_wp2_with fail
        refine HPL.out.mono ?_
        rintro e w2 ⟨rfl, hb2⟩
        have HB2 := Lib.hid (Below.past HB1.out hb2 hs1)
        clear hb2 x0 x1 x2 x3
        go_wp2_with fail
        go_roundw
        case rel => exact ⟨k + 1, by omega, by go_num, HOK2, HB2⟩
        case measure => simp [intOf]; omega
      | false =>
        rw [plK_f hf] at HPL
        have HK : Hid (chgK M A bl l = 8) := Lib.hid (by
          unfold chgK
          rw [if_neg (fun h => by have := List.all_eq_true.1 h f HM_f.out; rw [hf] at this; cases this)])
        go_wp2_with fail
        refine HPL.out.mono ?_
        rintro e w2 ⟨rfl, hb2⟩
        have HB2 := Lib.hid (Below.past HB1.out hb2 hs1)
        clear hb2 x0 x1 x2 x3
        go_wp2_with fail
        refine bodyPost_ret (v := .tuple #[.slice none 0 0, .int .i64 8]) (by simp [results, Try.results56, go_sem]) rfl (chg_no HK.out (by decide) HB2.out)
    · have hlz : ¬ (k : Int) < (n : Int) := by omega
      obtain rfl : n = k := by omega
      have hT : l.take n = l := List.take_of_length_le (by rw [HL.out]; exact Nat.le_refl _)
      have HOKA : Hid (∀ e ∈ l, okP M A e.spt = true) := Lib.hid (by have := HOK.out; rwa [hT] at this)
      have HALL : Hid ((l.all fun e => okP M A e.spt) = true) := Lib.hid (List.all_eq_true.2 HOKA.out)
      have HGA := Lib.hid (gathered_any P n c l wr (HRL.out.past HB.out) hn (fun e he => ⟨HG.out e he, by
        have := okP_iff.1 (HOKA.out e he)
        have h1 : e.spt.a = e.a := rfl
        rw [h1] at this; omega⟩))
      unfold GatPost at HGA
      clear hT HOK
      go_wp2_with fail
      refine HGA.out.mono ?_
      rintro e w2 ⟨gg, gm, u, D, R, rfl, hgg, hgm, hgrp, his, hmat, hord, hb2⟩
      have HB2 := Lib.hid (Below.past HB.out hb2 hs)
      have HGRP := Lib.hid hgrp
      have HIS := Lib.hid his
      have HMAT := Lib.hid hmat
      have HORD := Lib.hid hord
      have hs2 := HB2.out.size
      clear hgrp his hmat hord hb2 HGA
      go_wp2_with fail
      go_loopw [55] (fun i wz => ∃ j : Nat, j ≤ 9 ∧ i = .int .i64 (j : Nat) ∧ Hid (∀ i, i < j → (ofK l i).sum = 0) ∧ Hid (Below w2.heap.size w2 wz)) (fun i _ => 9 - (intOf i).toNat)
      case atStart => exact ⟨0, by omega, rfl, Lib.hid (fun i hi => by omega), Lib.hid (Below.refl _ _)⟩
      case round =>
        obtain ⟨j, hj, rfl, HZ, HC⟩ := hrel
        by_cases hj9 : j < 9
        · have hjz : (j : Int) < 9 := by omega
          have hmm := HMAT.out.past HC.out
          have cM := (hmm.blk.cell j).trans (matC_get R j hj9)
          have hrow := hmm.row j hj9
          obtain ⟨Aj, cj, hRj⟩ := own_form hrow
          rw [hRj] at cM hrow
          have HSM := Lib.hid (sum_any Aj (ofK l j).length cj (ofK l j) wr (Rd.of_own hrow) (Nat.le_trans (ofK_len l j) (by rw [HL.out]; omega)) (ofK_in HG.out j))
          obtain ⟨S, hS⟩ : ∃ S, Hid ((ofK l j).sum = S) := ⟨_, Lib.hid rfl⟩
          obtain ⟨mj, hmj⟩ : ∃ S, Hid ((ofK l j).length = S) := ⟨_, Lib.hid rfl⟩
          rw [hS.out, hmj.out] at HSM
          rw [hmj.out] at cM
          have hcs := HC.out.size
          clear hmm hrow hRj
          by_cases hz : S = 0
          · subst hz
            rw [(amount_inK (show inI 0 by decide)).1, (amount_inK (show inI 0 by decide)).2] at HSM
            have HZ2 : Hid (∀ i, i < j + 1 → (ofK l i).sum = 0) := Lib.hid fun i hi => by
              rcases Nat.lt_or_ge i j with h | h
              · exact HZ.out i h
              · obtain rfl : i = j := by omega
                exact hS.out
            go_wp2_with fail
            refine HSM.out.mono ?_
            rintro e w4 ⟨rfl, hb4⟩
            have HC4 := Lib.hid (Below.past HC.out hb4 hcs)
            clear hb4 cM
            go_wp2_with fail
            go_roundw
            case rel => exact ⟨j + 1, by omega, by go_num, HZ2, HC4⟩
            case measure => simp [intOf]; omega
          · have HK : Hid (chgK M A bl l = 17) := Lib.hid (by
              unfold chgK
              rw [if_pos HALL.out, if_pos (List.any_eq_true.2 ⟨j, List.mem_range.2 hj9, by unfold badJ; rw [hS.out]; exact decide_eq_true hz⟩)])
            by_cases hin : inI S
            · rw [(amount_inK hin).1, (amount_inK hin).2] at HSM
              have q1 : (S != 0) = true := by simpa using hz
              go_wp2_with fail
              refine HSM.out.mono ?_
              rintro e w4 ⟨rfl, hb4⟩
              have HC4 := Lib.hid (Below.past HB2.out (Below.past HC.out hb4 hcs) hs2)
              clear hb4 cM
              go_wp2_with fail
              refine bodyPost_ret (v := .tuple #[.slice none 0 0, .int .i64 17]) (by simp [results, Try.results56, go_sem]) rfl (chg_no HK.out (by decide) HC4.out)
            · rw [(amount_outK hin).1, (amount_outK hin).2] at HSM
              go_wp2_with fail
              refine HSM.out.mono ?_
              rintro e w4 ⟨rfl, hb4⟩
              have HC4 := Lib.hid (Below.past HB2.out (Below.past HC.out hb4 hcs) hs2)
              clear hb4 cM
              go_wp2_with fail
              refine bodyPost_ret (v := .tuple #[.slice none 0 0, .int .i64 17]) (by simp [results, Try.results56, go_sem]) rfl (chg_no HK.out (by decide) HC4.out)
        · have hjz : ¬ (j : Int) < 9 := by omega
          obtain rfl : j = 9 := by omega
          have HNB : Hid (¬ (List.range 9).any (badJ l) = true) := Lib.hid fun h => by
            obtain ⟨i, hi, hb⟩ := List.any_eq_true.1 h
            have := HZ.out i (List.mem_range.1 hi)
            unfold badJ at hb
            rw [this] at hb; simp at hb
          have HB3 := Lib.hid (Below.past HB2.out HC.out hs2)
          have HGR3 := Lib.hid (groups_pastK HGRP.out HC.out)
          have HOR3 := Lib.hid (own_pastK HORD.out HC.out)
          have hml := spts_len l
          obtain ⟨Au, cu, hu⟩ := own_form HOR3.out
          obtain ⟨m, hm⟩ : ∃ m, Hid ((sptsOf l).length = m) := ⟨_, Lib.hid rfl⟩
          rw [hu, hm.out] at HOR3
          rw [hm.out] at hml hu
          rw [HL.out] at hml
          subst hu
          have HRS := Lib.hid (Rd.of_own HOR3.out)
          have hs3 := HB3.out.size
          clear HOR3 HORD HMAT HGRP
          go_wp2_with fail
          obtain ⟨w3, hw3⟩ : ∃ w3, Hid (wr = w3) := ⟨_, Lib.hid rfl⟩
          rw [hw3.out] at HB3 HGR3 HRS hs3
          go_loopw [17, 73] (fun v17 i wz => ∃ k : Nat, k ≤ m ∧ i = .int .i64 (k : Nat) ∧ Hid (∀ s ∈ (sptsOf l).take k, ovS M bl l s = false) ∧ Hid (wz.ownsRow w3.heap.size 108 4 v17 (((sptsOf l).take k).map (chgOf M bl l)).length ((((sptsOf l).take k).map (chgOf M bl l)).flatMap Chg.cells)) ∧ Hid (Below w3.heap.size w3 wz)) (fun _ i _ => m - (intOf i).toNat)
          case atStart => exact ⟨0, by omega, rfl, Lib.hid (fun e he => absurd he (by simp)), Lib.hid (World.ownsRow_nil _ _ _ _), Lib.hid (by rw [hw3.out]; exact Below.refl _ _)⟩
          case round =>
            obtain ⟨k, hk, rfl, HOV, HOW, HE⟩ := hrel
            have hes := HE.out.size
            by_cases hlt : k < m
            · have hlz2 : (k : Int) < (m : Int) := by omega
              obtain ⟨SL, hSL⟩ : ∃ SL, Hid (sptsOf l = SL) := ⟨_, Lib.hid rfl⟩
              rw [hSL.out] at hm HRS HOV HOW
              have hg_s : SL[k]? = some (SL[k]'(by have := hm.out; omega)) := List.getElem?_eq_getElem _
              obtain ⟨b_s, off_s, rfl, hbb_s, hc_s⟩ := (HRS.out.below HE.out).elem Spt.cells_len hg_s hlt
              have HT_s := Lib.hid (show SL.take (k + 1) = SL.take k ++ [(SL[k]'(by have := hm.out; omega))] from List.take_succ_eq_append_getElem (by have := hm.out; omega))
              have HM_s := Lib.hid (show (SL[k]'(by have := hm.out; omega)) ∈ SL from List.getElem_mem _)
              generalize (SL[k]'(by have := hm.out; omega)) = s at *
              have c0 := hc_s 0 _ rfl
              have c1 := hc_s 1 _ rfl
              have c2 := hc_s 2 _ rfl
              clear hc_s hg_s
              simp only [Nat.add_zero] at c0
              obtain ⟨e0, he0, hes0⟩ := spts_mem.1 (hSL.out.symm ▸ HM_s.out)
              have hsP : okP M A s = true := by rw [← hes0]; exact HOKA.out e0 he0
              have hsE := HG.out e0 he0
              obtain ⟨kl, hkl⟩ := spt_key s (by rw [← hes0]; exact hsE.k) (by rw [← hes0]; exact hsE.m) (by rw [← hes0]; exact hsE.a)
              have HKL := Lib.hid hkl
              have HSP := Lib.hid hsP
              have bX := Blk.new wr 174 #[.int .i64 s.k, .int .i64 s.m, .int .i64 s.a] wr.heap.size rfl
              have hb1 := (Below.refl wr.heap.size wr).alloc (Nat.le_refl _) (.cells #[.int .i64 s.k, .int .i64 s.m, .int .i64 s.a] 174)
              have HOW1 := Lib.hid (own_pastK HOW.out hb1)
              obtain ⟨W1, hW1⟩ : ∃ W, Hid (wr.alloc (.cells #[.int .i64 s.k, .int .i64 s.m, .int .i64 s.a] 174) = W) := ⟨_, Lib.hid rfl⟩
              rw [hW1.out] at bX hb1 HOW1
              have HE1 := Lib.hid (Below.past HE.out hb1 hes)
              have hs1 := HE1.out.size
              have HPL := Lib.hid (placeK_any g base M A _ bl p s W1 (HX.out.past (Below.past HB3.out HE1.out hs3)))
              rw [plK_t hsP] at HPL
              have HX1 := Lib.hid bX
              obtain ⟨hi1, hi2⟩ := ixS_lt hM hsP
              obtain ⟨I, hI⟩ : ∃ I, Hid (ixS M s = I) := ⟨_, Lib.hid rfl⟩
              rw [hI.out] at HPL hi1
              rw [hN.out] at hi1
              have hbg := bl_get (M := M) (A := A) (bl := bl) (s := s) (by rw [HBLN.out, hN.out]) hM hsP
              rw [hI.out] at hbg
              obtain ⟨b, hb0⟩ : ∃ b, Hid (bl.getD I 0 = b) := ⟨_, Lib.hid rfl⟩
              rw [hb0.out] at hbg
              have HBG := Lib.hid hbg
              have hIz : (I : Int) < (N : Int) := by omega
              have x0 := (bX).cell 0
              have x1 := (bX).cell 1
              have x2 := (bX).cell 2
              simp at x0 x1 x2
              clear hkl hsP hsE hi2 hbg bX hb1 HOW
              go_upto_region 22 with fail
              rw [hW1.out]
              clear c0 c1 c2
              go_wp2_with fail
              refine HPL.out.mono ?_
              rintro e w4 ⟨rfl, hb4⟩
              have HE4 := Lib.hid (Below.past HE1.out hb4 hs1)
              have HX4 := Lib.hid (HX1.out.past hb4)
              have HOW4 := Lib.hid (own_pastK HOW1.out hb4)
              have HGR4 := Lib.hid (groups_pastK HGR3.out HE4.out)
              have bx4 := HX4.out
              have hs4 := HE4.out.size
              clear hb4 x0 x1 x2 HX1 HOW1 HPL
              have x0 := (bx4).cell 0
              have x1 := (bx4).cell 1
              have x2 := (bx4).cell 2
              simp at x0 x1 x2
              clear bx4
              go_wp2_with (at_lookup; refine wpList_lookup_groups _ rfl _ _ 168 rfl 174 71 2 .i64 spLaw Try.underlying168 (zeroIs _) (gg + 1) gg n D rfl HGR4.out (by unfold maxLen; omega) _ kl rfl HKL.out ?_; intro v zs hat hoi hzl hback; clear hback; obtain ⟨Az, cz, rfl⟩ := own_form hoi.1; have HZS := Lib.hid (show zs = atB l s from grp_rowK hoi ((HIS.out.2 _ kl HKL.out).2.symm.trans hat)); have HOI := Lib.hid hoi; clear hat hoi)
              have HSM := Lib.hid (sum_any Az zs.length cz zs w4 (by rw [← ints_flatK]; exact Rd.of_own HOI.out.1) (by rw [HZS.out]; exact Nat.le_trans (atB_len l s) (by rw [HL.out]; omega)) (by rw [HZS.out]; exact atB_in HG.out s))
              have hsum : Hid (zs.sum = (atB l s).sum) := Lib.hid (by rw [HZS.out])
              rw [hsum.out] at HSM
              obtain ⟨S, hS⟩ : ∃ S, Hid ((atB l s).sum = S) := ⟨_, Lib.hid rfl⟩
              rw [hS.out] at HSM
              have HNW : Hid (nowB M bl l s = b + S) := Lib.hid (by unfold nowB; rw [hI.out, hb0.out, hS.out])
              have HK2 : Hid (ovS M bl l s = true → chgK M A bl l = 2) := Lib.hid (fun h => by
                unfold chgK
                rw [if_pos HALL.out, if_neg HNB.out, if_pos (List.any_eq_true.2 ⟨s, by rw [hSL.out]; exact HM_s.out, h⟩)])
              by_cases hin : inI S
              · rw [(amount_inK hin).1, (amount_inK hin).2] at HSM
                refine HSM.out.mono ?_
                rintro e w5 ⟨rfl, hb5⟩
                have HE5 := Lib.hid (Below.past HE4.out hb5 hs4)
                have HX5 := Lib.hid (HX4.out.past hb5)
                have HOW5 := Lib.hid (own_pastK HOW4.out hb5)
                have hs5 := HE5.out.size
                have HB5 := Lib.hid (Below.past HB3.out HE5.out hs3)
                have bk := HBLK.out.past HB5.out
                have p2 := bk.cell 2
                simp at p2
                obtain ⟨b1, o1, rfl, hbb1, hc1⟩ := (HBR.out.past HB5.out).elem i64Cells_len HBG.out hi1
                have d0 := hc1 0 _ rfl
                simp only [Nat.add_zero, Nat.mul_one] at d0
                have HAD := Lib.hid (addK_any b S (HBI.out b (List.mem_of_getElem? HBG.out)) hin w5)
                clear hb5 x0 x1 x2 bk hc1 HX4 HOW4 HSM
                by_cases hin2 : inI (b + S)
                · rw [(amount_inK hin2).1, (amount_inK hin2).2] at HAD
                  go_wp2_with fail
                  refine HAD.out.mono ?_
                  rintro e w6 ⟨rfl, rfl⟩
                  have bx5 := HX5.out
                  have x0 := (bx5).cell 0
                  have x1 := (bx5).cell 1
                  have x2 := (bx5).cell 2
                  simp at x0 x1 x2
                  have HFR := Lib.hid (free_any s.acc w5)
                  obtain ⟨F, hF⟩ : ∃ F, Hid (frB s = F) := ⟨_, Lib.hid rfl⟩
                  rw [show (s.acc.kind == 5 || s.acc.kind == 6 || s.acc.kind == 7) = F from hF.out] at HFR
                  clear p2 d0 bx5
                  go_wp2_with fail
                  refine HFR.out.mono ?_
                  rintro e w7 ⟨rfl, hb7⟩
                  have HE7 := Lib.hid (Below.past HE5.out hb7 hs5)
                  have HOW7 := Lib.hid (own_pastK HOW5.out hb7)
                  have hs7 := HE7.out.size
                  have hlk : ((SL.take k).map (chgOf M bl l)).length ≤ 1000 := by rw [List.length_map, List.length_take]; omega
                  obtain ⟨q, hq⟩ : ∃ q, Hid (((SL.take k).map (chgOf M bl l)).length = q) := ⟨_, Lib.hid rfl⟩
                  rw [hq.out] at HOW7 hlk
                  clear hb7 x0 x1 x2 HX5 HOW5 HFR HAD
                  go_wp2_with (at_builtin; refine wpList_append_lit _ _ rfl (.tmp 111) (.tmp 119) 104 rfl w3.heap.size 108 j0 _ 4 32 Try.underlying104 hj0 jz0 jz1 jz2 rfl (by decide) _ _ _ rfl HOW7.out _ 1 1 rfl (by first | rfl | simp) rfl (by simp [Value.oneCell']) (by omega) (by omega) (by omega) ?_; intro v' w' hown' hg'; have HOWN := Lib.hid hown'; have HBW := Lib.hid (below_own (HE7.out.alloc hs7 _) hg' HOW7.out (by simp; omega) (Nat.le_refl _)); clear hown' hg')
                  have HTL : Hid ((SL.take (k + 1)).map (chgOf M bl l) = (SL.take k).map (chgOf M bl l) ++ [⟨I, F, S, b + S⟩]) := Lib.hid (by
                    rw [HT_s.out, List.map_append]
                    congr 1
                    unfold chgOf
                    rw [List.map_cons, List.map_nil, hI.out, hF.out, hS.out, HNW.out])
                  have HOV2 : Hid (∀ s' ∈ SL.take (k + 1), ovS M bl l s' = false) := Lib.hid fun s' hs' => by
                    rw [HT_s.out] at hs'
                    rcases List.mem_append.1 hs' with hs' | hs'
                    · exact HOV.out s' hs'
                    · simp at hs'; subst hs'
                      unfold ovS; rw [hS.out, HNW.out, decide_eq_true hin, decide_eq_true hin2]; rfl
                  go_roundw
                  case rel => exact ⟨k + 1, by omega, by go_num, by rw [hSL.out]; exact HOV2, Lib.hid (by rw [hSL.out, HTL.out, List.length_append, hq.out, List.flatMap_append]; exact HOWN.out), HBW⟩
                  case measure => simp [intOf]; omega
                · rw [(amount_outK hin2).1, (amount_outK hin2).2] at HAD
                  have HK := Lib.hid (HK2.out (by unfold ovS; rw [HNW.out, decide_eq_false hin2]; simp))
                  go_wp2_with fail
                  refine HAD.out.mono ?_
                  rintro e w6 ⟨rfl, rfl⟩
                  clear p2 d0
                  go_wp2_with fail
                  refine bodyPost_ret (v := .tuple #[.slice none 0 0, .int .i64 2]) (by simp [results, Try.results56, go_sem]) rfl (chg_no HK.out (by decide) HB5.out)
              · rw [(amount_outK hin).1, (amount_outK hin).2] at HSM
                have HK := Lib.hid (HK2.out (by unfold ovS; rw [hS.out, decide_eq_false hin]; simp))
                refine HSM.out.mono ?_
                rintro e w5 ⟨rfl, hb5⟩
                have HB5 := Lib.hid (Below.past HB3.out (Below.past HE4.out hb5 hs4) hs3)
                clear hb5 x0 x1 x2
                go_wp2_with fail
                refine bodyPost_ret (v := .tuple #[.slice none 0 0, .int .i64 2]) (by simp [results, Try.results56, go_sem]) rfl (chg_no HK.out (by decide) HB5.out)
            · have hlz2 : ¬ (k : Int) < (m : Int) := by omega
              obtain rfl : m = k := by omega
              have hT : (sptsOf l).take m = sptsOf l := List.take_of_length_le (by rw [hm.out]; exact Nat.le_refl _)
              have HK : Hid (chgK M A bl l = 0) := Lib.hid (by
                have h := HOV.out
                rw [hT] at h
                unfold chgK
                rw [if_pos HALL.out, if_neg HNB.out, if_neg (fun h' => by
                  obtain ⟨s, hs, hb⟩ := List.any_eq_true.1 h'
                  rw [h s hs] at hb; cases hb)])
              have HLK : Hid (chgL M A bl l = (sptsOf l).map (chgOf M bl l)) := Lib.hid (by rw [chgL, if_pos HK.out])
              have hro := HOW.out
              rw [hT] at hro
              have HRO := Lib.hid hro
              have HBF := Lib.hid (Below.past HB3.out HE.out hs3)
              clear hT hro HOW
              go_wp2_with fail
              refine bodyPost_ret (v := .tuple #[u17, .int .i64 0]) (by simp [results, Try.results56, go_sem]) rfl ⟨u17, by rw [HK.out], by rw [HLK.out]; exact own_monoK HRO.out hs3, HBF.out⟩
end Go.Proofs.Ytelbolhckhdioaa
