import Derived.Test.YtkdiongmegnicaaBokT
import Derived.Test.YtkdiongmegnicaaBokV
import Derived.Test.YtkdiongmegnicaaBokW
namespace Go.Proofs.Ytkdiongmegnicaa
open Go.RowKit

/-! ### BookPosts -/
set_option maxHeartbeats 4000000 in
set_option maxRecDepth 100000 in
theorem bookPosts_long (m a : Int) (A : Option Addr) (n c : Nat) (vs : List PosV) (w : World) (hr : Rd w w.heap.size 1 A n (vs.flatMap PosV.cells)) (hf : fewP 20 vs = false) :
    Calls Try.prog 3 #[.int .i64 m, .int .i64 a, .slice A n c] w fun e w' => e = .returned (.bool true) ∧ Below w.heap.size w w' := by
  have HF := Lib.hid (few14_any A n c vs 20 (by omega) w hr)
  rw [hf] at HF
  clear hr hf
  go_enter Try.func3, Try.ntmps3
  go_wp2_with fail
  refine HF.out.mono ?_
  rintro e w1 ⟨rfl, rfl⟩
  go_wp2_with fail
  refine (awake14 _).mono ?_
  rintro e w2 ⟨rfl, hb2⟩
  go_wp2_with fail
  go_ret
  exact ⟨rfl, hb2⟩
set_option maxHeartbeats 4000000 in
set_option maxRecDepth 100000 in
theorem bookPosts_wrong (m a : Int) (A : Option Addr) (n c : Nat) (vs : List PosV) (w : World) (hr : Rd w w.heap.size 1 A n (vs.flatMap PosV.cells)) (hf : fewP 20 vs = true) (hR : right14B m a = false) :
    Calls Try.prog 3 #[.int .i64 m, .int .i64 a, .slice A n c] w fun e w' => e = .returned (.bool true) ∧ Below w.heap.size w w' := by
  have HF := Lib.hid (few14_any A n c vs 20 (by omega) w hr)
  rw [hf] at HF
  have hwrong : m < 0 ∨ 16 < m ∨ a < 1 ∨ 9 < a := by
    unfold right14B at hR
    simp at hR
    omega
  have HN := Lib.hid (newK_no m a hwrong w)
  have HRI := Lib.hid (right14_any m a w)
  rw [hR] at HRI
  clear hr hf hwrong hR
  go_enter Try.func3, Try.ntmps3
  go_wp2_with fail
  refine HF.out.mono ?_
  rintro e w1 ⟨rfl, rfl⟩
  go_wp2_with fail
  refine HN.out.mono ?_
  rintro e w1 ⟨rfl, rfl⟩
  go_wp2_with fail
  refine HRI.out.mono ?_
  rintro e w1 ⟨rfl, rfl⟩
  go_wp2_with fail
  refine (awake14 _).mono ?_
  rintro e w2 ⟨rfl, hb2⟩
  go_wp2_with fail
  refine (post_nil _ _).mono ?_
  rintro e w3 ⟨rfl, rfl⟩
  go_wp2_with fail
  refine (posted_nil _).mono ?_
  rintro e w3 ⟨rfl, rfl⟩
  go_wp2_with fail
  go_ret
  exact ⟨rfl, hb2⟩

set_option maxHeartbeats 16000000 in
set_option maxRecDepth 100000 in
theorem bookPosts_few (M AA : Nat) (hM : M ≤ 16) (hA1 : 1 ≤ AA) (hA : AA ≤ 9) (A : Option Addr) (n c : Nat) (vs : List PosV) (w : World) (hr : Rd w w.heap.size 1 A n (vs.flatMap PosV.cells)) (hps : ∀ v ∈ vs, PosRd w v) (hf : fewP 20 vs = true) :
    Calls Try.prog 3 #[.int .i64 (M : Nat), .int .i64 (AA : Nat), .slice A n c] w fun e w' => e = .returned (.bool true) ∧ Below w.heap.size w w' := by
  have HL := Lib.hid (hr.len PosV.cells_len (by omega))
  have HF := Lib.hid (few14_any A n c vs 20 (by omega) w hr)
  rw [hf] at HF
  have HR := Lib.hid hr
  have HPS := Lib.hid hps
  obtain ⟨hf1, hf2⟩ : vs.length ≤ 20 ∧ vs.all shortP = true := by simpa [fewP] using hf
  have HSH : Hid (∀ v ∈ vs, v.l.length ≤ 12) := Lib.hid fun v hv => by
    have := List.all_eq_true.1 hf2 v hv
    simpa [shortP] using this
  rw [HL.out] at hf1
  have HN := Lib.hid (newK_yes M AA hM hA1 hA w)
  unfold NewKPost at HN
  have hR : right14B M AA = true := by unfold right14B; simp; omega
  have HRI := Lib.hid (fun w => right14_any M AA w)
  rw [hR] at HRI
  clear hr hps hf hf2 hR
  go_enter Try.func3, Try.ntmps3
  go_wp2_with fail
  refine HF.out.mono ?_
  rintro e w0 ⟨rfl, rfl⟩
  go_wp2_with fail
  refine HN.out.mono ?_
  rintro e w1 ⟨g, v, rfl, hg, hbk, hb1⟩
  have hq := (Below.refl w1.heap.size w1).alloc (Nat.le_refl _) (.cells #[.int .i64 M, .int .i64 AA, .slice none 0 0, .int .i64 0] 35)
  have hqb := Blk.new w1 35 #[.int .i64 M, .int .i64 AA, .slice none 0 0, .int .i64 0] w1.heap.size rfl
  obtain ⟨h, hhe⟩ : ∃ h, Hid (w1.heap.size = h) := ⟨_, Lib.hid rfl⟩
  obtain ⟨W2, hW2⟩ : ∃ W2, Hid (w1.alloc (.cells #[.int .i64 M, .int .i64 AA, .slice none 0 0, .int .i64 0] 35) = W2) := ⟨_, Lib.hid rfl⟩
  have hs1 := hb1.size
  have hbX := hbk.past hq
  have hbB := Below.past hb1 hq hs1
  rw [hW2.out] at hqb hbX hbB
  rw [hhe.out] at hqb
  have HST2 : Hid (TwoK w g h M AA v (.slice none 0 0) (List.replicate (AA * cnt M) 0) [] 0 W2) := Lib.hid ⟨hbX, Inv.start hM, ⟨⟨none, 0, rfl⟩, hqb, World.ownsRow_nil _ _ _ _, (fun e he => by cases he), by simp⟩, hbB, hg, by have := hhe.out; omega⟩
  have HRI1 := Lib.hid (HRI.out w1)
  clear hbk hb1 hq hqb hbX hbB HN HF
  go_wp2_with fail
  refine HRI1.out.mono ?_
  rintro e w0 ⟨rfl, rfl⟩
  clear HRI1 HRI
  go_upto_region 9 with fail
  rw [hhe.out, hW2.out]
  go_wp2_with fail
  go_loopw [10] (fun i wr => ∃ (k : Nat) (u : Value) (bl : List Int) (L : List Ent) (p : Int), k ≤ n ∧ i = .int .i64 (k : Nat) ∧ (0 ≤ p ∧ p ≤ (k : Nat)) ∧ L.length ≤ 12 * k ∧ Hid (TwoK w g h M AA v u bl L p wr)) (fun i _ => n - (intOf i).toNat)
  case atStart => exact ⟨0, _, _, _, _, by omega, rfl, by omega, by simp, HST2⟩
  case round =>
    clear HST2
    obtain ⟨k, u, bl, L, p, hk, rfl, hp, hLk, HS⟩ := hrel
    by_cases hlt : k < n
    · have hlz : (k : Int) < (n : Int) := by omega
      have hg_f : vs[k]? = some (vs[k]'(by have := HL.out; omega)) := List.getElem?_eq_getElem _
      obtain ⟨b_f, off_f, rfl, hbb_f, hc_f⟩ := (HR.out.below HS.out.below).elem PosV.cells_len hg_f hlt
      have HT_f := Lib.hid (show vs.take (k + 1) = vs.take k ++ [(vs[k]'(by have := HL.out; omega))] from List.take_succ_eq_append_getElem (by have := HL.out; omega))
      have HM_f := Lib.hid (show (vs[k]'(by have := HL.out; omega)) ∈ vs from List.getElem_mem _)
      have HG_f := Lib.hid hg_f
      generalize (vs[k]'(by have := HL.out; omega)) = f at *
      have c0 := hc_f 0 _ rfl
      clear hc_f hg_f
      simp only [Nat.add_zero, Nat.mul_one] at c0
      have hf12 := HSH.out f HM_f.out
      have HPF : Hid (∀ w', Below w.heap.size w w' → PosRd w' f) := Lib.hid fun w' hb => (HPS.out f HM_f.out).past hb
      have HCL : Hid (∀ w', Below w.heap.size w w' → w'.cell? ⟨b_f, off_f + k, none⟩ = some (.slice f.P f.l.length f.c)) := Lib.hid fun w' hb => by
        obtain ⟨b4, o4, he4, _, hc4⟩ := (HR.out.below hb).elem PosV.cells_len HG_f.out hlt
        cases he4
        have d0 := hc4 0 _ rfl
        simpa using d0
      have HLE := Lib.hid (leastK_any g w.heap.size M AA v bl p f.P f.l.length f.c f.l wr HS.out.book (HPF.out wr HS.out.below).rd (by omega) (HPF.out wr HS.out.below).ok HS.out.inv.inn)
      have HWR : Hid (∀ w', Below wr.heap.size wr w' → Calls Try.prog 18 #[.pointer (some ⟨h, 0, none⟩), .slice f.P f.l.length f.c] w' fun e w'' => e = .returned (.int .i64 (chgK M AA bl f.l)) ∧ Below w'.heap.size w' w'') := Lib.hid fun w' hb => by
        have hS := HS.out.past hb
        exact refWrong14_any h w.heap.size M AA u L p bl f.P f.l.length f.c f.l w' hM hA hS.inv hS.doc (HPF.out w' hS.below).rd (by omega) (HPF.out w' hS.below).ok
      have HRL : Hid (chgK M AA bl f.l = 0 → ∀ w', Below wr.heap.size wr w' → Calls Try.prog 19 #[.pointer (some ⟨h, 0, none⟩), .slice f.P f.l.length f.c] w' fun e w'' => e = .returned (.int .i64 (leastV M AA bl f.l)) ∧ Below w'.heap.size w' w'') := Lib.hid fun h0 w' hb => by
        have hS := HS.out.past hb
        rw [leastV, if_pos h0]
        exact refLeast_any h w.heap.size M AA u bl L p f.P f.l.length f.c f.l w' h0 hS.inv hS.doc (HPF.out w' hS.below).rd (by omega) (HPF.out w' hS.below).ok
      have HLV0 : Hid (chgK M AA bl f.l ≠ 0 → leastV M AA bl f.l = 0) := Lib.hid fun h0 => by rw [leastV, if_neg h0]
      have HPO : Hid (∀ w', Below wr.heap.size wr w' → Calls Try.prog 15 #[.pointer (some ⟨g, 0, none⟩), .slice f.P f.l.length f.c] w' (PostPost g w.heap.size M AA v bl p f.l w')) := Lib.hid fun w' hb => by
        have hS := HS.out.past hb
        exact postK_any g w.heap.size M AA v bl p f.P f.l.length f.c f.l w' hS.book (HPF.out w' hS.below).rd (by omega) (HPF.out w' hS.below).ok hS.inv.inn (by omega)
      unfold PostPost at HPO
      have hp2 := postP_le (M := M) (A := AA) (bl := bl) (l := f.l) hp
      have hL2 := postLL_len (M := M) (A := AA) (bl := bl) hLk hf12
      have HI2 : Hid (Inv M AA (postB M AA bl f.l) (postLL M AA bl L f.l)) := Lib.hid (HS.out.inv.post hM)
      have HR2 : Hid (∀ w5 w6, Below wr.heap.size wr w5 → OnlyG g v w5 w6 → Calls Try.prog 20 #[.pointer (some ⟨h, 0, none⟩), .slice f.P f.l.length f.c] w6 (PostRPost h w.heap.size M AA u bl L p f.l w6)) := Lib.hid fun w5 w6 hb ho => by
        have hS := HS.out.past hb
        obtain ⟨hr, hbl⟩ := hS.mid ho
        exact refPost_any h w.heap.size M AA u bl L p f.P f.l.length f.c f.l w6 hM hA hS.inv hr (HPF.out w6 hbl).rd ((HPS.out f HM_f.out).beside hS.hh fun k e => (hS.doc.row.lt k e).1) (by omega) (by omega) (HPF.out w6 hbl).ok (by omega) hbl.size
      unfold PostRPost at HR2
      obtain ⟨K, hMK⟩ : ∃ K, Hid (postK M AA bl f.l = K) := ⟨_, Lib.hid rfl⟩
      rw [hMK.out] at HPO HR2
      generalize postB M AA bl f.l = bl2 at HPO HI2
      generalize postP M AA bl f.l p = p2 at HPO HR2 hp2
      generalize postLL M AA bl L f.l = L2 at HR2 HI2 hL2
      generalize chgK M AA bl f.l = C at HLE HWR HRL HLV0
      generalize leastV M AA bl f.l = V at HLE HRL HLV0
      obtain ⟨fm, hfm⟩ : ∃ fm, Hid (f.l.length = fm) := ⟨_, Lib.hid rfl⟩
      rw [hfm.out] at HLE HWR HRL HPO HR2 HCL c0
      clear hf12
      go_wp2_with fail
      refine HLE.out.mono ?_
      rintro e w3 ⟨rfl, hb3⟩
      have HB3 := Lib.hid hb3
      have HW3 := Lib.hid (HWR.out w3 hb3)
      clear hb3 c0 HLE HWR
      have d0 := HCL.out w3 (HS.out.past HB3.out).below
      go_wp2_with fail
      refine HW3.out.mono ?_
      rintro e w4 ⟨rfl, hb4⟩
      have HB4 := Lib.hid (Below.past HB3.out hb4 HB3.out.size)
      clear hb4 d0 HW3 HB3
      have d0 := HCL.out w4 (HS.out.past HB4.out).below
      have hCC : (C != C) = false := by simp
      go_upto_region 14 with fail
      go_cut [98] from 74 to 98 (fun v98 w' => v98 = .bool false ∧ Hid (Below wr.heap.size wr w'))
      case first =>
        by_cases hC0 : C = 0
        · subst hC0
          have HR4 := Lib.hid (HRL.out rfl w4 HB4.out)
          have hVV : (V != V) = false := by simp
          go_wp2_with fail
          refine HR4.out.mono ?_
          rintro e w5 ⟨rfl, hb5⟩
          have HB5 := Lib.hid (Below.past HB4.out hb5 HB4.out.size)
          clear hb5 d0
          go_wp2_with fail
          go_meet
          exact ⟨rfl, HB5⟩
        · obtain rfl := HLV0.out hC0
          have hC1 : (C == 0) = false := by simpa using hC0
          have hC2 : (C != 0) = true := by simpa using hC0
          go_wp2_with fail
          go_meet
          exact ⟨rfl, HB4⟩
      case rest =>
      obtain ⟨rfl, HB5⟩ := hcut
      clear d0 HB4 HRL HLV0 hCC
      have hKK : (K != K) = false := by simp
      go_upto_region 16 with fail
      have hdr := Below.drew (Below.refl wc.heap.size wc)
      have HD5 := Lib.hid (Below.past HB5.out hdr HB5.out.size)
      have hS0 := HCL.out wc.drew (HS.out.past HD5.out).below
      refine wp_region_held_drew (S := fun w' => w'.cell? ⟨b_f, off_f + k, none⟩ = some (.slice f.P fm f.c)) (by kernel_rfl) hS0 (fun hHeld => ?_)
      clear hS0
      refine wpAnyH_take (i := 0) (v := ?_) rfl (by kernel_rfl) (by kernel_rfl) (by kernel_rfl) (fun _ _ _ h => h) (Or.inl ⟨by rfl, ?_⟩) (by assumption) ?_
      rotate_left
      · (intro w' hSw; (try dsimp only at hSw); first | (go_simp; done) | (go_simp; with_reducible rfl))
      try simp only [Act.put, List.getElem_toArray, List.getElem_cons_zero, List.getElem_cons_succ, List.setIfInBounds_toArray, List.set_cons_zero, List.set_cons_succ]
      refine wpAnyH_take (i := 1) (v := ?_) rfl (by kernel_rfl) (by kernel_rfl) (by kernel_rfl) (fun _ _ _ h => h) (Or.inl ⟨by rfl, ?_⟩) (by assumption) ?_
      rotate_left
      · (intro w' hSw; (try dsimp only at hSw); first | (go_simp; done) | (go_simp; with_reducible rfl))
      try simp only [Act.put, List.getElem_toArray, List.getElem_cons_zero, List.getElem_cons_succ, List.setIfInBounds_toArray, List.set_cons_zero, List.set_cons_succ]
      refine wpAnyH_take (i := 2) (v := ?_) rfl (by kernel_rfl) (by kernel_rfl) (by kernel_rfl) (fun _ _ _ h => h) (Or.inl ⟨by rfl, ?_⟩) (by assumption) ?_
      rotate_left
      · (intro w' hSw; (try dsimp only at hSw); first | (go_simp; done) | (go_simp; with_reducible rfl))
      try simp only [Act.put, List.getElem_toArray, List.getElem_cons_zero, List.getElem_cons_succ, List.setIfInBounds_toArray, List.set_cons_zero, List.set_cons_succ]
      refine wpAnyH_take (i := 3) (v := ?_) rfl (by kernel_rfl) (by kernel_rfl) (by kernel_rfl) (fun _ _ _ h => h) (Or.inl ⟨by rfl, ?_⟩) (by assumption) ?_
      rotate_left
      · (intro w' hSw; (try dsimp only at hSw); first | (go_simp; done) | (go_simp; with_reducible rfl))
      try simp only [Act.put, List.getElem_toArray, List.getElem_cons_zero, List.getElem_cons_succ, List.setIfInBounds_toArray, List.set_cons_zero, List.set_cons_succ]
      refine wpAnyH_take (i := 4) (v := ?_) rfl (by kernel_rfl) (by kernel_rfl) (by kernel_rfl) (fun _ _ _ h => h) (Or.inl ⟨by rfl, ?_⟩) (by assumption) ?_
      rotate_left
      · (intro w' hSw; (try dsimp only at hSw); first | (go_simp; done) | (go_simp; with_reducible rfl))
      try simp only [Act.put, List.getElem_toArray, List.getElem_cons_zero, List.getElem_cons_succ, List.setIfInBounds_toArray, List.set_cons_zero, List.set_cons_succ]
      refine wpAnyH_take (i := 6) (v := ?_) rfl (by kernel_rfl) (by kernel_rfl) (by kernel_rfl) (fun _ _ _ h => h) (Or.inl ⟨by rfl, ?_⟩) (by assumption) ?_
      rotate_left
      · (intro w' hSw; (try dsimp only at hSw); first | (go_simp; done) | (go_simp; with_reducible rfl))
      try simp only [Act.put, List.getElem_toArray, List.getElem_cons_zero, List.getElem_cons_succ, List.setIfInBounds_toArray, List.set_cons_zero, List.set_cons_succ]
      refine wpAnyH_take (i := 7) (v := ?_) rfl (by kernel_rfl) (by kernel_rfl) (by kernel_rfl) (fun _ _ _ h => h) (Or.inl ⟨by rfl, ?_⟩) (by assumption) ?_
      rotate_left
      · (intro w' hSw; (try dsimp only at hSw); first | (go_simp; done) | (go_simp; with_reducible rfl))
      try simp only [Act.put, List.getElem_toArray, List.getElem_cons_zero, List.getElem_cons_succ, List.setIfInBounds_toArray, List.set_cons_zero, List.set_cons_succ]
      refine wpAnyH_take (i := 8) (v := ?_) rfl (by kernel_rfl) (by kernel_rfl) (by kernel_rfl) (fun _ _ _ h => h) (Or.inl ⟨by rfl, ?_⟩) (by assumption) ?_
      rotate_left
      · (intro w' hSw; (try dsimp only at hSw); first | (go_simp; done) | (go_simp; with_reducible rfl))
      try simp only [Act.put, List.getElem_toArray, List.getElem_cons_zero, List.getElem_cons_succ, List.setIfInBounds_toArray, List.set_cons_zero, List.set_cons_succ]
      refine wpAnyH_take (i := 9) (v := ?_) rfl (by kernel_rfl) (by kernel_rfl) (by kernel_rfl) (fun _ _ _ h => h) (Or.inl ⟨by rfl, ?_⟩) (by assumption) ?_
      rotate_left
      · (intro w' hSw; (try dsimp only at hSw); first | (go_simp; done) | (go_simp; with_reducible rfl))
      try simp only [Act.put, List.getElem_toArray, List.getElem_cons_zero, List.getElem_cons_succ, List.setIfInBounds_toArray, List.set_cons_zero, List.set_cons_succ]
      refine wpAnyH_take (i := 10) (v := ?_) rfl (by kernel_rfl) (by kernel_rfl) (by kernel_rfl) (fun _ _ _ h => h) (Or.inl ⟨by rfl, ?_⟩) (by assumption) ?_
      rotate_left
      · (intro w' hSw; (try dsimp only at hSw); first | (go_simp; done) | (go_simp; with_reducible rfl))
      try simp only [Act.put, List.getElem_toArray, List.getElem_cons_zero, List.getElem_cons_succ, List.setIfInBounds_toArray, List.set_cons_zero, List.set_cons_succ]
      refine wpAnyH_ready (rs := [5]) (by kernel_rfl) (by simp) ?_
      refine AllReadyH.cons rfl (fun K hK => ?_) AllReadyH.nil
      go_simp
      go_at_call 15
      refine (HPO.out _ HD5.out).mono ?_
      rintro e w6 ⟨rfl, hb6, ho6⟩
      have HB6 := Lib.hid hb6
      have HO6 := Lib.hid ho6
      have HR6 := Lib.hid (HR2.out wc.drew w6 HD5.out ho6)
      have HS5 := Lib.hid (HS.out.past HD5.out)
      clear hb6 ho6 hHeld
      refine hK.out _ _ (HCL.out w6 (HS5.out.mid HO6.out).2) (fun hHeld => ?_)
      try simp only [Act.put, List.getElem_toArray, List.getElem_cons_zero, List.getElem_cons_succ, List.setIfInBounds_toArray, List.set_cons_zero, List.set_cons_succ]
      refine wpAnyH_ready (rs := [11]) (by kernel_rfl) (by simp) ?_
      refine AllReadyH.cons rfl (fun K hK => ?_) AllReadyH.nil
      go_simp
      go_at_call 20
      refine HR6.out.mono ?_
      rintro e w7 ⟨rfl, u', hd7, ho7, _⟩
      have HS7 := Lib.hid (HS5.out.next HB6.out HO6.out HI2.out hd7 ho7)
      clear hd7 ho7 hHeld
      refine hK.out _ _ (HCL.out w7 HS7.out.below) (fun hHeld => ?_)
      try simp only [Act.put, List.getElem_toArray, List.getElem_cons_zero, List.getElem_cons_succ, List.setIfInBounds_toArray, List.set_cons_zero, List.set_cons_succ]
      refine wpAnyH_take (i := 12) (v := ?_) rfl (by kernel_rfl) (by kernel_rfl) (by kernel_rfl) (fun _ _ _ h => h) (Or.inl ⟨by rfl, ?_⟩) (by assumption) ?_
      rotate_left
      · (intro w' hSw; (try dsimp only at hSw); first | (go_simp; done) | (go_simp; with_reducible rfl))
      try simp only [Act.put, List.getElem_toArray, List.getElem_cons_zero, List.getElem_cons_succ, List.setIfInBounds_toArray, List.set_cons_zero, List.set_cons_succ]
      refine wpAnyH_done (by kernel_rfl) ?_ _
      clear hHeld HR6 HB6 HO6 HS5 HS HPO HR2 HI2 HD5 HB5
      go_wp2_with fail
      go_roundw
      case rel => exact ⟨k + 1, u', bl2, L2, p2, by omega, by go_num, hp2, hL2, HS7⟩
      case measure => simp [intOf]; omega
    · have hlz : ¬ (k : Int) < (n : Int) := by omega
      go_wp2_with fail
      refine (awake14 _).mono ?_
      rintro e w3 ⟨rfl, hb3⟩
      have HS3 := Lib.hid (HS.out.past hb3)
      have HSA := Lib.hid (same14_any g h w.heap.size M AA v u bl L p w3 HS3.out.book HS3.out.inv HS3.out.doc)
      clear hb3 HS
      go_wp2_with fail
      refine HSA.out.mono ?_
      rintro e w4 ⟨rfl, hb4⟩
      have HB4 := Lib.hid (Below.past HS3.out.below hb4 HS3.out.below.size)
      clear hb4
      go_wp2_with fail
      go_ret
      exact ⟨rfl, HB4.out⟩
end Go.Proofs.Ytkdiongmegnicaa
