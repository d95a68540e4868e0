import Derived.Test.YtelbolhckhdioaaBokN
namespace Go.Proofs.Ytelbolhckhdioaa
open Go.RowKit

set_option maxHeartbeats 8000000 in
set_option maxRecDepth 100000 in
theorem refWrong14_any (g base M A : Nat) (v : Value) (L : List Ent) (p : Int) (bl : List Int) (P : Option Addr) (n c : Nat) (l : List Ent) (w : World) (hM : M ≤ 16) (hA : A ≤ 9) (hinv : Inv M A bl L) (hx : RbkV w g base M A v L p) (hr : Rd w w.heap.size 4 P n (l.flatMap Ent.cells)) (hn : n ≤ 1000) (hok : ∀ e ∈ l, EntOk e) :
    Calls Try.prog 16 #[.pointer (some ⟨g, 0, none⟩), .slice P n c] w fun e w' => e = .returned (.int .i64 (chgK M A bl l)) ∧ Below w.heap.size w w' := by
  have HL := Lib.hid (hr.len Ent.cells_len (by omega))
  have HR := Lib.hid hr
  have HX := Lib.hid hx
  have HG := Lib.hid hok
  have HI := Lib.hid hinv
  have HBK := Lib.hid hx.blk
  have q0 : ¬ (1024 : Int) < (n : Int) := by omega
  obtain ⟨RK, hRK⟩ : ∃ R, Hid (chgK M A bl l = R) := ⟨_, Lib.hid rfl⟩
  rw [hRK.out]
  clear hx hr hok hinv
  go_enter Try.func16, Try.ntmps16
  go_wp2_with fail
  clear q0
  go_loopw [5] (fun i wr => ∃ k : Nat, k ≤ n ∧ i = .int .i64 (k : Nat) ∧ Hid (∀ e ∈ l.take k, okP M A e.spt = true) ∧ Hid (Below w.heap.size w wr)) (fun i _ => n - (intOf i).toNat)
  case atStart => exact ⟨0, by omega, rfl, Lib.hid (fun e he => absurd he (by simp)), Lib.hid (Below.refl _ _)⟩
  case round =>
    obtain ⟨k, hk, rfl, HOK, HB⟩ := hrel
    have hs := HB.out.size
    by_cases hlt : k < n
    · have hlz : (k : Int) < (n : Int) := by omega
      obtain ⟨f, hgf⟩ : ∃ f, l[k]? = some f := ⟨_, List.getElem?_eq_getElem (by rw [HL.out]; exact hlt)⟩
      have HT_f : Hid (l.take (k + 1) = l.take k ++ [f]) := Lib.hid (by rw [List.take_add_one, hgf]; rfl)
      have HM_f := Lib.hid (List.mem_of_getElem? hgf)
      obtain ⟨b_f, off_f, hPe, hcell⟩ := ent_cells HR.out hgf hlt
      subst hPe
      have HCE := Lib.hid hcell
      clear hcell hgf
      go_upto_region 6 with fail
      have hdr := Below.drew (Below.refl wr.heap.size wr)
      have hS0 : wr.drew.cell? ⟨b_f, off_f + k * 4, none⟩ = some (.int .i64 f.k) ∧ wr.drew.cell? ⟨b_f, off_f + k * 4 + 1, none⟩ = some (.int .i64 f.m) ∧ wr.drew.cell? ⟨b_f, off_f + k * 4 + 2, none⟩ = some (.int .i64 f.a) := HCE.out _ (Below.past HB.out hdr hs)
      refine wp_region_held_drew (S := fun w' => w'.cell? ⟨b_f, off_f + k * 4, none⟩ = some (.int .i64 f.k) ∧ w'.cell? ⟨b_f, off_f + k * 4 + 1, none⟩ = some (.int .i64 f.m) ∧ w'.cell? ⟨b_f, off_f + k * 4 + 2, none⟩ = some (.int .i64 f.a)) (by kernel_rfl) hS0 (fun hHeld => ?_)
      clear hS0
      refine wpAnyH_take (i := 0) (v := ?_) rfl (by kernel_rfl) (by kernel_rfl) (by kernel_rfl) (fun _ _ _ h => h) (Or.inl ⟨by rfl, ?_⟩) (by assumption) ?_
      rotate_left
      · (intro w' hSw; (try dsimp only at hSw); first | (go_simp; done) | (go_simp; with_reducible rfl))
      try simp only [Act.put, List.getElem_toArray, List.getElem_cons_zero, List.getElem_cons_succ, List.setIfInBounds_toArray, List.set_cons_zero, List.set_cons_succ]
      refine wpAnyH_take (i := 1) (v := ?_) rfl (by kernel_rfl) (by kernel_rfl) (by kernel_rfl) (fun _ _ _ h => h) (Or.inl ⟨by rfl, ?_⟩) (by assumption) ?_
      rotate_left
      · (intro w' hSw; (try dsimp only at hSw); first | (go_simp; done) | (go_simp; with_reducible rfl))
      try simp only [Act.put, List.getElem_toArray, List.getElem_cons_zero, List.getElem_cons_succ, List.setIfInBounds_toArray, List.set_cons_zero, List.set_cons_succ]
      refine wpAnyH_take (i := 2) (v := ?_) rfl (by kernel_rfl) (by kernel_rfl) (by kernel_rfl) (fun _ _ _ h => h) (Or.inl ⟨by rfl, ?_⟩) (by assumption) ?_
      rotate_left
      · (intro w' hSw; (try dsimp only at hSw); first | (go_simp; done) | (go_simp; with_reducible rfl))
      try simp only [Act.put, List.getElem_toArray, List.getElem_cons_zero, List.getElem_cons_succ, List.setIfInBounds_toArray, List.set_cons_zero, List.set_cons_succ]
      refine wpAnyH_take (i := 3) (v := ?_) rfl (by kernel_rfl) (by kernel_rfl) (by kernel_rfl) (fun _ _ _ h => h) (Or.inl ⟨by rfl, ?_⟩) (by assumption) ?_
      rotate_left
      · (intro w' hSw; (try dsimp only at hSw); first | (go_simp; done) | (go_simp; with_reducible rfl))
      try simp only [Act.put, List.getElem_toArray, List.getElem_cons_zero, List.getElem_cons_succ, List.setIfInBounds_toArray, List.set_cons_zero, List.set_cons_succ]
      refine wpAnyH_take (i := 4) (v := ?_) rfl (by kernel_rfl) (by kernel_rfl) (by kernel_rfl) (fun _ _ _ h => h) (Or.inl ⟨by rfl, ?_⟩) (by assumption) ?_
      rotate_left
      · (intro w' hSw; (try dsimp only at hSw); first | (go_simp; done) | (go_simp; with_reducible rfl))
      try simp only [Act.put, List.getElem_toArray, List.getElem_cons_zero, List.getElem_cons_succ, List.setIfInBounds_toArray, List.set_cons_zero, List.set_cons_succ]
      refine wpAnyH_take (i := 5) (v := ?_) rfl (by kernel_rfl) (by kernel_rfl) (by kernel_rfl) (fun _ _ _ h => h) (Or.inl ⟨by rfl, ?_⟩) (by assumption) ?_
      rotate_left
      · (intro w' hSw; (try dsimp only at hSw); first | (go_simp; done) | (go_simp; with_reducible rfl))
      try simp only [Act.put, List.getElem_toArray, List.getElem_cons_zero, List.getElem_cons_succ, List.setIfInBounds_toArray, List.set_cons_zero, List.set_cons_succ]
      refine wpAnyH_take (i := 6) (v := ?_) rfl (by kernel_rfl) (by kernel_rfl) (by kernel_rfl) (fun _ _ _ h => h) (Or.inl ⟨by rfl, ?_⟩) (by assumption) ?_
      rotate_left
      · (intro w' hSw; (try dsimp only at hSw); first | (go_simp; done) | (go_simp; with_reducible rfl))
      try simp only [Act.put, List.getElem_toArray, List.getElem_cons_zero, List.getElem_cons_succ, List.setIfInBounds_toArray, List.set_cons_zero, List.set_cons_succ]
      refine wpAnyH_take (i := 7) (v := ?_) rfl (by kernel_rfl) (by kernel_rfl) (by kernel_rfl) (fun _ _ _ h => h) (Or.inl ⟨by rfl, ?_⟩) (by assumption) ?_
      rotate_left
      · (intro w' hSw; (try dsimp only at hSw); first | (go_simp; done) | (go_simp; with_reducible rfl))
      try simp only [Act.put, List.getElem_toArray, List.getElem_cons_zero, List.getElem_cons_succ, List.setIfInBounds_toArray, List.set_cons_zero, List.set_cons_succ]
      refine wpAnyH_take (i := 8) (v := ?_) rfl (by kernel_rfl) (by kernel_rfl) (by kernel_rfl) (fun _ _ _ h => h) (Or.inl ⟨by rfl, ?_⟩) (by assumption) ?_
      rotate_left
      · (intro w' hSw; (try dsimp only at hSw); first | (go_simp; done) | (go_simp; with_reducible rfl))
      try simp only [Act.put, List.getElem_toArray, List.getElem_cons_zero, List.getElem_cons_succ, List.setIfInBounds_toArray, List.set_cons_zero, List.set_cons_succ]
      refine wpAnyH_take (i := 9) (v := ?_) rfl (by kernel_rfl) (by kernel_rfl) (by kernel_rfl) (fun _ _ _ h => h) (Or.inl ⟨by rfl, ?_⟩) (by assumption) ?_
      rotate_left
      · (intro w' hSw; (try dsimp only at hSw); first | (go_simp; done) | (go_simp; with_reducible rfl))
      try simp only [Act.put, List.getElem_toArray, List.getElem_cons_zero, List.getElem_cons_succ, List.setIfInBounds_toArray, List.set_cons_zero, List.set_cons_succ]
      refine wpAnyH_take (i := 10) (v := ?_) rfl (by kernel_rfl) (by kernel_rfl) (by kernel_rfl) (fun _ _ _ h => h) (Or.inl ⟨by rfl, ?_⟩) (by assumption) ?_
      rotate_left
      · (intro w' hSw; (try dsimp only at hSw); first | (go_simp; done) | (go_simp; with_reducible rfl))
      try simp only [Act.put, List.getElem_toArray, List.getElem_cons_zero, List.getElem_cons_succ, List.setIfInBounds_toArray, List.set_cons_zero, List.set_cons_succ]
      refine wpAnyH_ready (rs := [11]) (by kernel_rfl) (by simp) ?_
      refine AllReadyH.cons rfl (fun K hK => ?_) AllReadyH.nil
      go_simp
      go_at_call 57
      have HHA := Lib.hid (refHas_any14 g base M A v L p f.spt _ hM (HX.out.past (Below.past HB.out hdr hs)))
      obtain ⟨O, hO⟩ : ∃ O, Hid (okP M A f.spt = O) := ⟨_, Lib.hid rfl⟩
      rw [hO.out] at HHA
      refine HHA.out.mono ?_
      rintro e w3 ⟨rfl, hb3'⟩
      have hb3 : Below wr.heap.size wr w3 := undrewK hb3'
      have HB3 := Lib.hid (Below.past HB.out hb3 hs)
      clear hb3' hb3 HHA hHeld
      refine hK.out _ _ (HCE.out _ HB3.out) (fun hHeld => ?_)
      try simp only [Act.put, List.getElem_toArray, List.getElem_cons_zero, List.getElem_cons_succ, List.setIfInBounds_toArray, List.set_cons_zero, List.set_cons_succ]
      cases O with
      | true =>
        have HOK2 : Hid (∀ e ∈ l.take (k + 1), okP M A e.spt = true) := Lib.hid fun e he => by
          rw [HT_f.out] at he
          rcases List.mem_append.1 he with he | he
          · exact HOK.out e he
          · simp at he; rw [he]; exact hO.out
        refine wpAnyH_take (i := 12) (v := ?_) rfl (by kernel_rfl) (by kernel_rfl) (by kernel_rfl) (fun _ _ _ h => h) (Or.inl ⟨by rfl, ?_⟩) (by assumption) ?_
        rotate_left
        · (intro w' hSw; (try dsimp only at hSw); first | (go_simp; done) | (go_simp; with_reducible rfl))
        try simp only [Act.put, List.getElem_toArray, List.getElem_cons_zero, List.getElem_cons_succ, List.setIfInBounds_toArray, List.set_cons_zero, List.set_cons_succ]
        refine wpAnyH_done (by kernel_rfl) ?_ _
        clear hHeld
        go_wp2_with fail
        go_roundw
        case rel => exact ⟨k + 1, by omega, by go_num, HOK2, HB3⟩
        case measure => simp [intOf]; omega
      | false =>
        have HK : Hid (RK = 8) := Lib.hid (by
          rw [← hRK.out]; unfold chgK
          rw [if_neg (fun h => by have := List.all_eq_true.1 h f HM_f.out; rw [hO.out] at this; cases this)])
        refine wpAnyH_take (i := 12) (v := ?_) rfl (by kernel_rfl) (by kernel_rfl) (by kernel_rfl) (fun _ _ _ h => h) (Or.inl ⟨by rfl, ?_⟩) (by assumption) ?_
        rotate_left
        · (intro w' hSw; (try dsimp only at hSw); first | (go_simp; done) | (go_simp; with_reducible rfl))
        try simp only [Act.put, List.getElem_toArray, List.getElem_cons_zero, List.getElem_cons_succ, List.setIfInBounds_toArray, List.set_cons_zero, List.set_cons_succ]
        refine wpAnyH_done (by kernel_rfl) ?_ _
        clear hHeld
        go_wp2_with fail
        go_ret
        exact ⟨by rw [HK.out]; rfl, HB3.out⟩
    · have hlz : ¬ (k : Int) < (n : Int) := by omega
      obtain rfl : n = k := by omega
      have hT : l.take n = l := List.take_of_length_le (by rw [HL.out]; exact Nat.le_refl _)
      have HOKA : Hid (∀ e ∈ l, okP M A e.spt = true) := Lib.hid (by have := HOK.out; rwa [hT] at this)
      have HALL : Hid ((l.all fun e => okP M A e.spt) = true) := Lib.hid (List.all_eq_true.2 HOKA.out)
      clear hT HOK
      go_wp2_with fail
      obtain ⟨w2, hw2⟩ : ∃ w2, Hid (wr = w2) := ⟨_, Lib.hid rfl⟩
      have HB20 : Hid (Below w.heap.size w wr) := HB
      go_loopw [6] (fun i wz => ∃ j : Nat, j ≤ A ∧ i = .int .i64 (j : Nat) ∧ Hid (∀ i, i < j → (ofK l i).sum = 0) ∧ Hid (Below w.heap.size w wz)) (fun i _ => A - (intOf i).toNat)
      case atStart => exact ⟨0, by omega, rfl, Lib.hid (fun i hi => by omega), HB20⟩
      case round =>
        obtain ⟨j, hj, rfl, HZ, HC⟩ := hrel
        have hcs := HC.out.size
        have bk := HBK.out.past HC.out
        have p1 := bk.cell 1
        simp at p1
        clear bk
        by_cases hjA : j < A
        · have hjz : (j : Int) < (A : Int) := by omega
          have HOF := Lib.hid (refOf14_any P n c l j wr (HR.out.past HC.out) hn)
          unfold IntsPost at HOF
          obtain ⟨S, hS⟩ : ∃ S, Hid ((ofK l j).sum = S) := ⟨_, Lib.hid rfl⟩
          have HLJ := Lib.hid (Nat.le_trans (ofK_len l j) (by rw [HL.out]; exact hn) : (ofK l j).length ≤ 1000)
          go_wp2_with fail
          refine HOF.out.mono ?_
          rintro e w4 ⟨u, rfl, hu, hb4⟩
          obtain ⟨Au, cu, rfl⟩ := own_form hu
          have HC4 := Lib.hid (Below.past HC.out hb4 hcs)
          have HSM := Lib.hid (refSum_any Au _ cu _ w4 (Rd.of_own hu) HLJ.out (ofK_in HG.out j))
          rw [hS.out] at HSM
          clear hb4 hu p1
          by_cases hz : S = 0
          · subst hz
            rw [show amount 0 = 0 from rfl, show over 0 = 0 from rfl] at HSM
            have HZ2 : Hid (∀ i, i < j + 1 → (ofK l i).sum = 0) := Lib.hid fun i hi => by
              rcases Nat.lt_or_ge i j with h | h
              · exact HZ.out i h
              · obtain rfl : i = j := by omega
                exact hS.out
            go_wp2_with fail
            refine HSM.out.mono ?_
            rintro e w5 ⟨rfl, rfl⟩
            go_wp2_with fail
            go_roundw
            case rel => exact ⟨j + 1, by omega, by go_num, HZ2, HC4⟩
            case measure => simp [intOf]; omega
          · have HK : Hid (RK = 17) := Lib.hid (by
              rw [← hRK.out]; unfold chgK
              rw [if_pos HALL.out, if_pos (List.any_eq_true.2 ⟨j, List.mem_range.2 (by omega), by unfold badJ; rw [hS.out]; exact decide_eq_true hz⟩)])
            by_cases hin : inI S
            · rw [(amount_inK hin).1, (amount_inK hin).2] at HSM
              have q1 : (S != 0) = true := by simpa using hz
              go_wp2_with fail
              refine HSM.out.mono ?_
              rintro e w5 ⟨rfl, rfl⟩
              go_wp2_with fail
              go_ret
              exact ⟨by rw [HK.out]; rfl, HC4.out⟩
            · rw [(amount_outK hin).1, (amount_outK hin).2] at HSM
              go_wp2_with fail
              refine HSM.out.mono ?_
              rintro e w5 ⟨rfl, rfl⟩
              go_wp2_with fail
              go_ret
              exact ⟨by rw [HK.out]; rfl, HC4.out⟩
        · have hjz : ¬ (j : Int) < (A : Int) := by omega
          obtain rfl : A = j := by omega
          have HNB : Hid (¬ (List.range 9).any (badJ l) = true) := Lib.hid fun h => by
            obtain ⟨i, hi, hb⟩ := List.any_eq_true.1 h
            unfold badJ at hb
            have h0 : (ofK l i).sum = 0 := by
              rcases Nat.lt_or_ge i A with h' | h'
              · exact HZ.out i h'
              · have : ofK l i = [] := by
                  unfold ofK
                  rw [List.filter_eq_nil_iff.2 fun e he hc => ?_]; rfl
                  have h1 := (okP_iff.1 (HOKA.out e he)).2.2
                  have h2 : e.spt.a = e.a := rfl
                  simp at hc
                  omega
                rw [this]; rfl
            rw [h0] at hb; simp at hb
          clear HZ
          go_wp2_with fail
          clear p1
          go_loopw [9] (fun i wz => ∃ k : Nat, k ≤ n ∧ i = .int .i64 (k : Nat) ∧ Hid (∀ e ∈ l.take k, ovS M bl l e.spt = false) ∧ Hid (Below w.heap.size w wz)) (fun i _ => n - (intOf i).toNat)
          case atStart => exact ⟨0, by omega, rfl, Lib.hid (fun e he => absurd he (by simp)), HC⟩
          case round =>
            obtain ⟨k, hk, rfl, HOV, HD⟩ := hrel
            have hds := HD.out.size
            by_cases hlt : k < n
            · have hlz : (k : Int) < (n : Int) := by omega
              obtain ⟨f, hgf⟩ : ∃ f, l[k]? = some f := ⟨_, List.getElem?_eq_getElem (by rw [HL.out]; exact hlt)⟩
              have HT_f : Hid (l.take (k + 1) = l.take k ++ [f]) := Lib.hid (by rw [List.take_add_one, hgf]; rfl)
              have HM_f := Lib.hid (List.mem_of_getElem? hgf)
              obtain ⟨b_f, off_f, hPe, hcell⟩ := ent_cells HR.out hgf hlt
              subst hPe
              have HCE := Lib.hid hcell
              have HSP := Lib.hid (HOKA.out f HM_f.out)
              have HMS : Hid (f.spt ∈ sptsOf l) := Lib.hid (spts_mem.2 ⟨f, HM_f.out, rfl⟩)
              obtain ⟨S, hS⟩ : ∃ S, Hid ((atB l f.spt).sum = S) := ⟨_, Lib.hid rfl⟩
              obtain ⟨b, hb0⟩ : ∃ S, Hid ((atB L f.spt).sum = S) := ⟨_, Lib.hid rfl⟩
              have HIB : Hid (inI b) := Lib.hid (by rw [← hb0.out]; exact HI.out.inn _ (List.mem_of_getElem? (HI.out.bal _ HSP.out)))
              have HNW : Hid (nowB M bl l f.spt = b + S) := Lib.hid (by
                unfold nowB; rw [List.getD_eq_getElem?_getD, HI.out.bal _ HSP.out, hb0.out, hS.out]; rfl)
              have HK2 : Hid (ovS M bl l f.spt = true → RK = 2) := Lib.hid (fun h => by
                rw [← hRK.out]; unfold chgK
                rw [if_pos HALL.out, if_neg HNB.out, if_pos (List.any_eq_true.2 ⟨f.spt, HMS.out, h⟩)])
              have HAT := Lib.hid (fun w' (hb : Below w.heap.size w w') => refAt_any (some ⟨b_f, off_f, none⟩) n c l f.spt w' (HR.out.past hb) hn)
              unfold IntsPost at HAT
              have HLE := Lib.hid (Nat.le_trans (atB_len l f.spt) (by rw [HL.out]; exact hn) : (atB l f.spt).length ≤ 1000)
              clear hcell hgf
              go_upto_region 17 with fail
              have hdr := Below.drew (Below.refl wr.heap.size wr)
              have hS0 : wr.drew.cell? ⟨b_f, off_f + k * 4, none⟩ = some (.int .i64 f.k) ∧ wr.drew.cell? ⟨b_f, off_f + k * 4 + 1, none⟩ = some (.int .i64 f.m) ∧ wr.drew.cell? ⟨b_f, off_f + k * 4 + 2, none⟩ = some (.int .i64 f.a) := HCE.out _ (Below.past HD.out hdr hds)
              refine wp_region_held_drew (S := fun w' => w'.cell? ⟨b_f, off_f + k * 4, none⟩ = some (.int .i64 f.k) ∧ w'.cell? ⟨b_f, off_f + k * 4 + 1, none⟩ = some (.int .i64 f.m) ∧ w'.cell? ⟨b_f, off_f + k * 4 + 2, none⟩ = some (.int .i64 f.a)) (by kernel_rfl) hS0 (fun hHeld => ?_)
              clear hS0
              refine wpAnyH_take (i := 0) (v := ?_) rfl (by kernel_rfl) (by kernel_rfl) (by kernel_rfl) (fun _ _ _ h => h) (Or.inl ⟨by rfl, ?_⟩) (by assumption) ?_
              rotate_left
              · (intro w' hSw; (try dsimp only at hSw); first | (go_simp; done) | (go_simp; with_reducible rfl))
              try simp only [Act.put, List.getElem_toArray, List.getElem_cons_zero, List.getElem_cons_succ, List.setIfInBounds_toArray, List.set_cons_zero, List.set_cons_succ]
              refine wpAnyH_take (i := 1) (v := ?_) rfl (by kernel_rfl) (by kernel_rfl) (by kernel_rfl) (fun _ _ _ h => h) (Or.inl ⟨by rfl, ?_⟩) (by assumption) ?_
              rotate_left
              · (intro w' hSw; (try dsimp only at hSw); first | (go_simp; done) | (go_simp; with_reducible rfl))
              try simp only [Act.put, List.getElem_toArray, List.getElem_cons_zero, List.getElem_cons_succ, List.setIfInBounds_toArray, List.set_cons_zero, List.set_cons_succ]
              refine wpAnyH_take (i := 2) (v := ?_) rfl (by kernel_rfl) (by kernel_rfl) (by kernel_rfl) (fun _ _ _ h => h) (Or.inl ⟨by rfl, ?_⟩) (by assumption) ?_
              rotate_left
              · (intro w' hSw; (try dsimp only at hSw); first | (go_simp; done) | (go_simp; with_reducible rfl))
              try simp only [Act.put, List.getElem_toArray, List.getElem_cons_zero, List.getElem_cons_succ, List.setIfInBounds_toArray, List.set_cons_zero, List.set_cons_succ]
              refine wpAnyH_take (i := 3) (v := ?_) rfl (by kernel_rfl) (by kernel_rfl) (by kernel_rfl) (fun _ _ _ h => h) (Or.inl ⟨by rfl, ?_⟩) (by assumption) ?_
              rotate_left
              · (intro w' hSw; (try dsimp only at hSw); first | (go_simp; done) | (go_simp; with_reducible rfl))
              try simp only [Act.put, List.getElem_toArray, List.getElem_cons_zero, List.getElem_cons_succ, List.setIfInBounds_toArray, List.set_cons_zero, List.set_cons_succ]
              refine wpAnyH_take (i := 4) (v := ?_) rfl (by kernel_rfl) (by kernel_rfl) (by kernel_rfl) (fun _ _ _ h => h) (Or.inl ⟨by rfl, ?_⟩) (by assumption) ?_
              rotate_left
              · (intro w' hSw; (try dsimp only at hSw); first | (go_simp; done) | (go_simp; with_reducible rfl))
              try simp only [Act.put, List.getElem_toArray, List.getElem_cons_zero, List.getElem_cons_succ, List.setIfInBounds_toArray, List.set_cons_zero, List.set_cons_succ]
              refine wpAnyH_take (i := 5) (v := ?_) rfl (by kernel_rfl) (by kernel_rfl) (by kernel_rfl) (fun _ _ _ h => h) (Or.inl ⟨by rfl, ?_⟩) (by assumption) ?_
              rotate_left
              · (intro w' hSw; (try dsimp only at hSw); first | (go_simp; done) | (go_simp; with_reducible rfl))
              try simp only [Act.put, List.getElem_toArray, List.getElem_cons_zero, List.getElem_cons_succ, List.setIfInBounds_toArray, List.set_cons_zero, List.set_cons_succ]
              refine wpAnyH_take (i := 6) (v := ?_) rfl (by kernel_rfl) (by kernel_rfl) (by kernel_rfl) (fun _ _ _ h => h) (Or.inl ⟨by rfl, ?_⟩) (by assumption) ?_
              rotate_left
              · (intro w' hSw; (try dsimp only at hSw); first | (go_simp; done) | (go_simp; with_reducible rfl))
              try simp only [Act.put, List.getElem_toArray, List.getElem_cons_zero, List.getElem_cons_succ, List.setIfInBounds_toArray, List.set_cons_zero, List.set_cons_succ]
              refine wpAnyH_take (i := 7) (v := ?_) rfl (by kernel_rfl) (by kernel_rfl) (by kernel_rfl) (fun _ _ _ h => h) (Or.inl ⟨by rfl, ?_⟩) (by assumption) ?_
              rotate_left
              · (intro w' hSw; (try dsimp only at hSw); first | (go_simp; done) | (go_simp; with_reducible rfl))
              try simp only [Act.put, List.getElem_toArray, List.getElem_cons_zero, List.getElem_cons_succ, List.setIfInBounds_toArray, List.set_cons_zero, List.set_cons_succ]
              refine wpAnyH_take (i := 8) (v := ?_) rfl (by kernel_rfl) (by kernel_rfl) (by kernel_rfl) (fun _ _ _ h => h) (Or.inl ⟨by rfl, ?_⟩) (by assumption) ?_
              rotate_left
              · (intro w' hSw; (try dsimp only at hSw); first | (go_simp; done) | (go_simp; with_reducible rfl))
              try simp only [Act.put, List.getElem_toArray, List.getElem_cons_zero, List.getElem_cons_succ, List.setIfInBounds_toArray, List.set_cons_zero, List.set_cons_succ]
              refine wpAnyH_take (i := 9) (v := ?_) rfl (by kernel_rfl) (by kernel_rfl) (by kernel_rfl) (fun _ _ _ h => h) (Or.inl ⟨by rfl, ?_⟩) (by assumption) ?_
              rotate_left
              · (intro w' hSw; (try dsimp only at hSw); first | (go_simp; done) | (go_simp; with_reducible rfl))
              try simp only [Act.put, List.getElem_toArray, List.getElem_cons_zero, List.getElem_cons_succ, List.setIfInBounds_toArray, List.set_cons_zero, List.set_cons_succ]
              refine wpAnyH_take (i := 10) (v := ?_) rfl (by kernel_rfl) (by kernel_rfl) (by kernel_rfl) (fun _ _ _ h => h) (Or.inl ⟨by rfl, ?_⟩) (by assumption) ?_
              rotate_left
              · (intro w' hSw; (try dsimp only at hSw); first | (go_simp; done) | (go_simp; with_reducible rfl))
              try simp only [Act.put, List.getElem_toArray, List.getElem_cons_zero, List.getElem_cons_succ, List.setIfInBounds_toArray, List.set_cons_zero, List.set_cons_succ]
              refine wpAnyH_ready (rs := [11]) (by kernel_rfl) (by simp) ?_
              refine AllReadyH.cons rfl (fun K hK => ?_) AllReadyH.nil
              go_simp
              go_at_call 60
              refine (HAT.out _ (Below.past HD.out hdr hds)).mono ?_
              rintro e w4 ⟨u, rfl, hu, hb4'⟩
              have hb4 : Below wr.heap.size wr w4 := undrewK hb4'
              obtain ⟨Au, cu, rfl⟩ := own_form hu
              have HD4 := Lib.hid (Below.past HD.out hb4 hds)
              have HRU := Lib.hid (Rd.of_own hu)
              have hs4 := HD4.out.size
              clear hb4' hb4 hu hHeld
              refine hK.out _ _ (HCE.out _ HD4.out) (fun hHeld => ?_)
              try simp only [Act.put, List.getElem_toArray, List.getElem_cons_zero, List.getElem_cons_succ, List.setIfInBounds_toArray, List.set_cons_zero, List.set_cons_succ]
              refine wpAnyH_ready (rs := [12]) (by kernel_rfl) (by simp) ?_
              refine AllReadyH.cons rfl (fun K hK => ?_) AllReadyH.nil
              go_simp
              go_at_call 58
              have HSM := Lib.hid (refSum_any Au _ cu _ w4 HRU.out HLE.out (atB_in HG.out f.spt))
              rw [hS.out] at HSM
              obtain ⟨aS, haS⟩ : ∃ x, Hid (amount S = x) := ⟨_, Lib.hid rfl⟩
              obtain ⟨oS, hoS⟩ : ∃ x, Hid (over S = x) := ⟨_, Lib.hid rfl⟩
              rw [haS.out, hoS.out] at HSM
              refine HSM.out.mono ?_
              rintro e w5 ⟨rfl, rfl⟩
              clear HSM hHeld
              refine hK.out _ _ (HCE.out _ HD4.out) (fun hHeld => ?_)
              try simp only [Act.put, List.getElem_toArray, List.getElem_cons_zero, List.getElem_cons_succ, List.setIfInBounds_toArray, List.set_cons_zero, List.set_cons_succ]
              refine wpAnyH_take (i := 13) (v := ?_) rfl (by kernel_rfl) (by kernel_rfl) (by kernel_rfl) (fun _ _ _ h => h) (Or.inl ⟨by rfl, ?_⟩) (by assumption) ?_
              rotate_left
              · (intro w' hSw; (try dsimp only at hSw); first | (go_simp; done) | (go_simp; with_reducible rfl))
              try simp only [Act.put, List.getElem_toArray, List.getElem_cons_zero, List.getElem_cons_succ, List.setIfInBounds_toArray, List.set_cons_zero, List.set_cons_succ]
              refine wpAnyH_take (i := 14) (v := ?_) rfl (by kernel_rfl) (by kernel_rfl) (by kernel_rfl) (fun _ _ _ h => h) (Or.inl ⟨by rfl, ?_⟩) (by assumption) ?_
              rotate_left
              · (intro w' hSw; (try dsimp only at hSw); first | (go_simp; done) | (go_simp; with_reducible rfl))
              try simp only [Act.put, List.getElem_toArray, List.getElem_cons_zero, List.getElem_cons_succ, List.setIfInBounds_toArray, List.set_cons_zero, List.set_cons_succ]
              refine wpAnyH_take (i := 15) (v := ?_) rfl (by kernel_rfl) (by kernel_rfl) (by kernel_rfl) (fun _ _ _ h => h) (Or.inl ⟨by rfl, ?_⟩) (by assumption) ?_
              rotate_left
              · (intro w' hSw; (try dsimp only at hSw); first | (go_simp; done) | (go_simp; with_reducible rfl))
              try simp only [Act.put, List.getElem_toArray, List.getElem_cons_zero, List.getElem_cons_succ, List.setIfInBounds_toArray, List.set_cons_zero, List.set_cons_succ]
              refine wpAnyH_take (i := 16) (v := ?_) rfl (by kernel_rfl) (by kernel_rfl) (by kernel_rfl) (fun _ _ _ h => h) (Or.inl ⟨by rfl, ?_⟩) (by assumption) ?_
              rotate_left
              · (intro w' hSw; (try dsimp only at hSw); first | (go_simp; done) | (go_simp; with_reducible rfl))
              try simp only [Act.put, List.getElem_toArray, List.getElem_cons_zero, List.getElem_cons_succ, List.setIfInBounds_toArray, List.set_cons_zero, List.set_cons_succ]
              refine wpAnyH_take (i := 17) (v := ?_) rfl (by kernel_rfl) (by kernel_rfl) (by kernel_rfl) (fun _ _ _ h => h) (Or.inl ⟨by rfl, ?_⟩) (by assumption) ?_
              rotate_left
              · (intro w' hSw; (try dsimp only at hSw); first | (go_simp; done) | (go_simp; with_reducible rfl))
              try simp only [Act.put, List.getElem_toArray, List.getElem_cons_zero, List.getElem_cons_succ, List.setIfInBounds_toArray, List.set_cons_zero, List.set_cons_succ]
              refine wpAnyH_done (by kernel_rfl) ?_ _
              clear hHeld
              by_cases hin : inI S
              · obtain rfl : S = aS := (amount_inK hin).1.symm.trans haS.out
                obtain rfl : 0 = oS := (amount_inK hin).2.symm.trans hoS.out
                go_upto_region 20 with fail
                have hdr4 := Below.drew (Below.refl w4.heap.size w4)
                have hS0 : w4.drew.cell? ⟨b_f, off_f + k * 4, none⟩ = some (.int .i64 f.k) ∧ w4.drew.cell? ⟨b_f, off_f + k * 4 + 1, none⟩ = some (.int .i64 f.m) ∧ w4.drew.cell? ⟨b_f, off_f + k * 4 + 2, none⟩ = some (.int .i64 f.a) := HCE.out _ (Below.past HD4.out hdr4 hs4)
                refine wp_region_held_drew (S := fun w' => w'.cell? ⟨b_f, off_f + k * 4, none⟩ = some (.int .i64 f.k) ∧ w'.cell? ⟨b_f, off_f + k * 4 + 1, none⟩ = some (.int .i64 f.m) ∧ w'.cell? ⟨b_f, off_f + k * 4 + 2, none⟩ = some (.int .i64 f.a)) (by kernel_rfl) hS0 (fun hHeld => ?_)
                clear hS0
                refine wpAnyH_take (i := 0) (v := ?_) rfl (by kernel_rfl) (by kernel_rfl) (by kernel_rfl) (fun _ _ _ h => h) (Or.inl ⟨by rfl, ?_⟩) (by assumption) ?_
                rotate_left
                · (intro w' hSw; (try dsimp only at hSw); first | (go_simp; done) | (go_simp; with_reducible rfl))
                try simp only [Act.put, List.getElem_toArray, List.getElem_cons_zero, List.getElem_cons_succ, List.setIfInBounds_toArray, List.set_cons_zero, List.set_cons_succ]
                refine wpAnyH_take (i := 1) (v := ?_) rfl (by kernel_rfl) (by kernel_rfl) (by kernel_rfl) (fun _ _ _ h => h) (Or.inl ⟨by rfl, ?_⟩) (by assumption) ?_
                rotate_left
                · (intro w' hSw; (try dsimp only at hSw); first | (go_simp; done) | (go_simp; with_reducible rfl))
                try simp only [Act.put, List.getElem_toArray, List.getElem_cons_zero, List.getElem_cons_succ, List.setIfInBounds_toArray, List.set_cons_zero, List.set_cons_succ]
                refine wpAnyH_take (i := 2) (v := ?_) rfl (by kernel_rfl) (by kernel_rfl) (by kernel_rfl) (fun _ _ _ h => h) (Or.inl ⟨by rfl, ?_⟩) (by assumption) ?_
                rotate_left
                · (intro w' hSw; (try dsimp only at hSw); first | (go_simp; done) | (go_simp; with_reducible rfl))
                try simp only [Act.put, List.getElem_toArray, List.getElem_cons_zero, List.getElem_cons_succ, List.setIfInBounds_toArray, List.set_cons_zero, List.set_cons_succ]
                refine wpAnyH_take (i := 3) (v := ?_) rfl (by kernel_rfl) (by kernel_rfl) (by kernel_rfl) (fun _ _ _ h => h) (Or.inl ⟨by rfl, ?_⟩) (by assumption) ?_
                rotate_left
                · (intro w' hSw; (try dsimp only at hSw); first | (go_simp; done) | (go_simp; with_reducible rfl))
                try simp only [Act.put, List.getElem_toArray, List.getElem_cons_zero, List.getElem_cons_succ, List.setIfInBounds_toArray, List.set_cons_zero, List.set_cons_succ]
                refine wpAnyH_take (i := 4) (v := ?_) rfl (by kernel_rfl) (by kernel_rfl) (by kernel_rfl) (fun _ _ _ h => h) (Or.inl ⟨by rfl, ?_⟩) (by assumption) ?_
                rotate_left
                · (intro w' hSw; (try dsimp only at hSw); first | (go_simp; done) | (go_simp; with_reducible rfl))
                try simp only [Act.put, List.getElem_toArray, List.getElem_cons_zero, List.getElem_cons_succ, List.setIfInBounds_toArray, List.set_cons_zero, List.set_cons_succ]
                refine wpAnyH_take (i := 5) (v := ?_) rfl (by kernel_rfl) (by kernel_rfl) (by kernel_rfl) (fun _ _ _ h => h) (Or.inl ⟨by rfl, ?_⟩) (by assumption) ?_
                rotate_left
                · (intro w' hSw; (try dsimp only at hSw); first | (go_simp; done) | (go_simp; with_reducible rfl))
                try simp only [Act.put, List.getElem_toArray, List.getElem_cons_zero, List.getElem_cons_succ, List.setIfInBounds_toArray, List.set_cons_zero, List.set_cons_succ]
                refine wpAnyH_take (i := 6) (v := ?_) rfl (by kernel_rfl) (by kernel_rfl) (by kernel_rfl) (fun _ _ _ h => h) (Or.inl ⟨by rfl, ?_⟩) (by assumption) ?_
                rotate_left
                · (intro w' hSw; (try dsimp only at hSw); first | (go_simp; done) | (go_simp; with_reducible rfl))
                try simp only [Act.put, List.getElem_toArray, List.getElem_cons_zero, List.getElem_cons_succ, List.setIfInBounds_toArray, List.set_cons_zero, List.set_cons_succ]
                refine wpAnyH_take (i := 7) (v := ?_) rfl (by kernel_rfl) (by kernel_rfl) (by kernel_rfl) (fun _ _ _ h => h) (Or.inl ⟨by rfl, ?_⟩) (by assumption) ?_
                rotate_left
                · (intro w' hSw; (try dsimp only at hSw); first | (go_simp; done) | (go_simp; with_reducible rfl))
                try simp only [Act.put, List.getElem_toArray, List.getElem_cons_zero, List.getElem_cons_succ, List.setIfInBounds_toArray, List.set_cons_zero, List.set_cons_succ]
                refine wpAnyH_take (i := 8) (v := ?_) rfl (by kernel_rfl) (by kernel_rfl) (by kernel_rfl) (fun _ _ _ h => h) (Or.inl ⟨by rfl, ?_⟩) (by assumption) ?_
                rotate_left
                · (intro w' hSw; (try dsimp only at hSw); first | (go_simp; done) | (go_simp; with_reducible rfl))
                try simp only [Act.put, List.getElem_toArray, List.getElem_cons_zero, List.getElem_cons_succ, List.setIfInBounds_toArray, List.set_cons_zero, List.set_cons_succ]
                refine wpAnyH_take (i := 9) (v := ?_) rfl (by kernel_rfl) (by kernel_rfl) (by kernel_rfl) (fun _ _ _ h => h) (Or.inl ⟨by rfl, ?_⟩) (by assumption) ?_
                rotate_left
                · (intro w' hSw; (try dsimp only at hSw); first | (go_simp; done) | (go_simp; with_reducible rfl))
                try simp only [Act.put, List.getElem_toArray, List.getElem_cons_zero, List.getElem_cons_succ, List.setIfInBounds_toArray, List.set_cons_zero, List.set_cons_succ]
                refine wpAnyH_take (i := 10) (v := ?_) rfl (by kernel_rfl) (by kernel_rfl) (by kernel_rfl) (fun _ _ _ h => h) (Or.inl ⟨by rfl, ?_⟩) (by assumption) ?_
                rotate_left
                · (intro w' hSw; (try dsimp only at hSw); first | (go_simp; done) | (go_simp; with_reducible rfl))
                try simp only [Act.put, List.getElem_toArray, List.getElem_cons_zero, List.getElem_cons_succ, List.setIfInBounds_toArray, List.set_cons_zero, List.set_cons_succ]
                refine wpAnyH_take (i := 12) (v := ?_) rfl (by kernel_rfl) (by kernel_rfl) (by kernel_rfl) (fun _ _ _ h => h) (Or.inl ⟨by rfl, ?_⟩) (by assumption) ?_
                rotate_left
                · (intro w' hSw; (try dsimp only at hSw); first | (go_simp; done) | (go_simp; with_reducible rfl))
                try simp only [Act.put, List.getElem_toArray, List.getElem_cons_zero, List.getElem_cons_succ, List.setIfInBounds_toArray, List.set_cons_zero, List.set_cons_succ]
                refine wpAnyH_ready (rs := [11]) (by kernel_rfl) (by simp) ?_
                refine AllReadyH.cons rfl (fun K hK => ?_) AllReadyH.nil
                go_simp
                go_at_call 61
                have HBA := Lib.hid (refBal_any g base M A v L p f.spt _ (HX.out.past (Below.past HD4.out hdr4 hs4)))
                rw [hb0.out, amount_of HIB.out] at HBA
                refine HBA.out.mono ?_
                rintro e w6 ⟨rfl, hb6'⟩
                have hb6 : Below w4.heap.size w4 w6 := undrewK hb6'
                have HD6 := Lib.hid (Below.past HD4.out hb6 hs4)
                have hs6 := HD6.out.size
                clear hb6' hb6 HBA hHeld
                refine hK.out _ _ (HCE.out _ HD6.out) (fun hHeld => ?_)
                try simp only [Act.put, List.getElem_toArray, List.getElem_cons_zero, List.getElem_cons_succ, List.setIfInBounds_toArray, List.set_cons_zero, List.set_cons_succ]
                refine wpAnyH_ready (rs := [13]) (by kernel_rfl) (by simp) ?_
                refine AllReadyH.cons rfl (fun K hK => ?_) AllReadyH.nil
                go_simp
                have HD7 := Lib.hid (HD6.out.alloc hs6 (.cells #[.int .i64 b, .int .i64 S] 2))
                have hrl : Rd _ _ 1 _ 2 ([b, S].flatMap i64Cells) := Rd.lit (n := 2) (sz := 1) w6 #[.int .i64 b, .int .i64 S] 2 w6.heap.size rfl rfl
                have HSM := Lib.hid (refSum_any _ 2 2 [b, S] _ hrl (by omega) (fun z hz => by
                  simp only [List.mem_cons, List.not_mem_nil, or_false] at hz
                  rcases hz with rfl | rfl
                  · exact HIB.out
                  · exact hin))
                rw [show [b, S].sum = b + S by simp] at HSM
                clear hrl hHeld
                refine hK.out _ _ (HCE.out _ HD7.out) (fun hHeld => ?_)
                try simp only [Act.put, List.getElem_toArray, List.getElem_cons_zero, List.getElem_cons_succ, List.setIfInBounds_toArray, List.set_cons_zero, List.set_cons_succ]
                refine wpAnyH_ready (rs := [14]) (by kernel_rfl) (by simp) ?_
                refine AllReadyH.cons rfl (fun K hK => ?_) AllReadyH.nil
                go_simp
                go_at_call 58
                obtain ⟨aT, haT⟩ : ∃ x, Hid (amount (b + S) = x) := ⟨_, Lib.hid rfl⟩
                obtain ⟨oT, hoT⟩ : ∃ x, Hid (over (b + S) = x) := ⟨_, Lib.hid rfl⟩
                rw [haT.out, hoT.out] at HSM
                refine HSM.out.mono ?_
                rintro e w8 ⟨rfl, rfl⟩
                clear HSM hHeld
                refine hK.out _ _ (HCE.out _ HD7.out) (fun hHeld => ?_)
                try simp only [Act.put, List.getElem_toArray, List.getElem_cons_zero, List.getElem_cons_succ, List.setIfInBounds_toArray, List.set_cons_zero, List.set_cons_succ]
                refine wpAnyH_take (i := 15) (v := ?_) rfl (by kernel_rfl) (by kernel_rfl) (by kernel_rfl) (fun _ _ _ h => h) (Or.inl ⟨by rfl, ?_⟩) (by assumption) ?_
                rotate_left
                · (intro w' hSw; (try dsimp only at hSw); first | (go_simp; done) | (go_simp; with_reducible rfl))
                try simp only [Act.put, List.getElem_toArray, List.getElem_cons_zero, List.getElem_cons_succ, List.setIfInBounds_toArray, List.set_cons_zero, List.set_cons_succ]
                refine wpAnyH_take (i := 16) (v := ?_) rfl (by kernel_rfl) (by kernel_rfl) (by kernel_rfl) (fun _ _ _ h => h) (Or.inl ⟨by rfl, ?_⟩) (by assumption) ?_
                rotate_left
                · (intro w' hSw; (try dsimp only at hSw); first | (go_simp; done) | (go_simp; with_reducible rfl))
                try simp only [Act.put, List.getElem_toArray, List.getElem_cons_zero, List.getElem_cons_succ, List.setIfInBounds_toArray, List.set_cons_zero, List.set_cons_succ]
                refine wpAnyH_take (i := 17) (v := ?_) rfl (by kernel_rfl) (by kernel_rfl) (by kernel_rfl) (fun _ _ _ h => h) (Or.inl ⟨by rfl, ?_⟩) (by assumption) ?_
                rotate_left
                · (intro w' hSw; (try dsimp only at hSw); first | (go_simp; done) | (go_simp; with_reducible rfl))
                try simp only [Act.put, List.getElem_toArray, List.getElem_cons_zero, List.getElem_cons_succ, List.setIfInBounds_toArray, List.set_cons_zero, List.set_cons_succ]
                refine wpAnyH_take (i := 18) (v := ?_) rfl (by kernel_rfl) (by kernel_rfl) (by kernel_rfl) (fun _ _ _ h => h) (Or.inl ⟨by rfl, ?_⟩) (by assumption) ?_
                rotate_left
                · (intro w' hSw; (try dsimp only at hSw); first | (go_simp; done) | (go_simp; with_reducible rfl))
                try simp only [Act.put, List.getElem_toArray, List.getElem_cons_zero, List.getElem_cons_succ, List.setIfInBounds_toArray, List.set_cons_zero, List.set_cons_succ]
                refine wpAnyH_done (by kernel_rfl) ?_ _
                clear hHeld
                by_cases hin2 : inI (b + S)
                · obtain rfl : 0 = oT := (amount_inK hin2).2.symm.trans hoT.out
                  have HOV2 : Hid (∀ e ∈ l.take (k + 1), ovS M bl l e.spt = false) := Lib.hid fun e he => by
                    rw [HT_f.out] at he
                    rcases List.mem_append.1 he with he | he
                    · exact HOV.out e he
                    · simp at he; subst he
                      unfold ovS; rw [hS.out, HNW.out, decide_eq_true hin, decide_eq_true hin2]; rfl
                  go_wp2_with fail
                  go_roundw
                  case rel => exact ⟨k + 1, by omega, by go_num, HOV2, HD7⟩
                  case measure => simp [intOf]; omega
                · obtain rfl : 2 = oT := (amount_outK hin2).2.symm.trans hoT.out
                  have HK := Lib.hid (HK2.out (by unfold ovS; rw [HNW.out, decide_eq_false hin2]; simp))
                  go_wp2_with fail
                  go_ret
                  exact ⟨by rw [HK.out]; rfl, HD7.out⟩
              · have HK := Lib.hid (HK2.out (by unfold ovS; rw [hS.out, decide_eq_false hin]; simp))
                obtain rfl : 0 = aS := (amount_outK hin).1.symm.trans haS.out
                obtain rfl : 2 = oS := (amount_outK hin).2.symm.trans hoS.out
                go_wp2_with fail
                go_ret
                exact ⟨by rw [HK.out]; rfl, HD4.out⟩
            · have hlz : ¬ (k : Int) < (n : Int) := by omega
              obtain rfl : n = k := by omega
              have hT : l.take n = l := List.take_of_length_le (by rw [HL.out]; exact Nat.le_refl _)
              have HK : Hid (RK = 0) := Lib.hid (by
                have h := HOV.out
                rw [hT] at h
                rw [← hRK.out]; unfold chgK
                rw [if_pos HALL.out, if_neg HNB.out, if_neg (fun h' => by
                  obtain ⟨s, hs, hb⟩ := List.any_eq_true.1 h'
                  obtain ⟨e, he, rfl⟩ := spts_mem.1 hs
                  rw [h e he] at hb; cases hb)])
              clear hT
              go_wp2_with fail
              go_ret
              exact ⟨by rw [HK.out]; rfl, HD.out⟩
end Go.Proofs.Ytelbolhckhdioaa
