import Derived.Test.YtelbolhckhdioaaBokO
namespace Go.Proofs.Ytelbolhckhdioaa
open Go.RowKit

/-! ### The document's Post -/
def BesideK (g : Nat) (v : Value) (P : Option Addr) : Prop := ∀ b off, P = some ⟨b, off, none⟩ → b ≠ g ∧ v.ownBlock ≠ some b
theorem Rd.onlyG {w w' : World} {g sz n : Nat} {v : Value} {A : Option Addr} {xs : List Value} (h : Rd w w.heap.size sz A n xs) (ho : OnlyG g v w w') (hb : BesideK g v A) : Rd w' w'.heap.size sz A n xs := by
  refine ⟨h.1, fun hn => ?_⟩
  obtain ⟨b, off, rfl, hlt, hc⟩ := h.2 hn
  obtain ⟨h1, h2⟩ := hb _ _ rfl
  have hs := ho.size
  exact ⟨b, off, rfl, by omega, fun j u hu => (World.cell?_of_block (w := w) (ho.block b hlt h1 h2)).trans (hc j u hu)⟩
theorem spts_any (p : Spt → Bool) (l : List Ent) : (sptsOf l).any p = l.any fun e => p e.spt := by
  rw [Bool.eq_iff_iff, List.any_eq_true, List.any_eq_true]
  constructor
  · rintro ⟨s, hs, h⟩
    obtain ⟨e, he, rfl⟩ := spts_mem.1 hs
    exact ⟨e, he, h⟩
  · rintro ⟨e, he, h⟩
    exact ⟨e.spt, spts_mem.2 ⟨e, he, rfl⟩, h⟩
theorem chgL_any {M A : Nat} {bl : List Int} {l : List Ent} (h : chgK M A bl l = 0) : (chgL M A bl l).any fundB = l.any fun e => fundB (chgOf M bl l e.spt) := by
  rw [chgL, if_pos h, List.any_map, ← spts_any (fun s => fundB (chgOf M bl l s))]; rfl
theorem chg_ok {M A : Nat} {bl : List Int} {l : List Ent} (hk : chgK M A bl l = 0) : (∀ e ∈ l, okP M A e.spt = true) ∧ ∀ s ∈ sptsOf l, ovS M bl l s = false := by
  unfold chgK at hk
  split at hk
  · rename_i hall
    split at hk
    · omega
    · split at hk
      · omega
      · rename_i ho
        exact ⟨List.all_eq_true.1 hall, fun s hs => by
          cases hov : ovS M bl l s with
          | false => rfl
          | true => exact absurd (List.any_eq_true.2 ⟨s, hs, hov⟩) ho⟩
  · omega
/-- The numbers of an entry of a posting that is not wrong. -/
theorem ent_in {M A : Nat} {bl : List Int} {L l : List Ent} (h : Inv M A bl L) (hk : chgK M A bl l = 0) {e : Ent} (he : e ∈ l) : inI (atB L e.spt).sum ∧ inI (atB l e.spt).sum ∧ inI ((atB L e.spt).sum + (atB l e.spt).sum) ∧ nowB M bl l e.spt = (atB L e.spt).sum + (atB l e.spt).sum := by
  obtain ⟨h1, h2⟩ := chg_ok hk
  have hok := h1 e he
  have hov := h2 e.spt (spts_mem.2 ⟨e, he, rfl⟩)
  have hn : nowB M bl l e.spt = (atB L e.spt).sum + (atB l e.spt).sum := by
    unfold nowB; rw [List.getD_eq_getElem?_getD, h.bal _ hok]; rfl
  unfold ovS at hov
  simp at hov
  rw [hn] at hov
  exact ⟨h.inn _ (List.mem_of_getElem? (h.bal _ hok)), hov.1, hov.2, hn⟩
def postLL (M A : Nat) (bl : List Int) (L l : List Ent) : List Ent := if postK M A bl l = 0 then L ++ l else L
def PostRPost (g base M A : Nat) (v : Value) (bl : List Int) (L : List Ent) (p : Int) (l : List Ent) (w : World) (e : Ending) (w' : World) : Prop :=
  e = .returned (.int .i64 (postK M A bl l)) ∧ ∃ v', RbkV w' g base M A v' (postLL M A bl L l) (postP M A bl l p) ∧ OnlyG g v w w' ∧ (v'.ownBlock = v.ownBlock ∨ ∃ k, v'.ownBlock = some k ∧ w.heap.size ≤ k)
theorem postR_no {g base M A : Nat} {v : Value} {bl : List Int} {L : List Ent} {p : Int} {l : List Ent} {w w' : World} {K : Int} (hx : RbkV w g base M A v L p) (hk : postK M A bl l = K) (h0 : K ≠ 0) (hb : Below w.heap.size w w') : PostRPost g base M A v bl L p l w (.returned (.int .i64 K)) w' := by
  refine ⟨by rw [hk], v, ?_, OnlyG.of_below hb, .inl rfl⟩
  rw [postLL, postP, hk, if_neg h0, if_neg h0]; exact hx.past hb
theorem entInfo : (Try.prog.info? 110).map (fun i => (i.zero, i.size, i.bytes)) = some (some (.agg #[.int .i64 0, .int .i64 0, .int .i64 0, .int .i64 0]), 4, 32) := by kernel_rfl
/-- What holds at the head of each round of the second loop. -/
structure RpSt (W : World) (g base M A : Nat) (v : Value) (p : Int) (L : List Ent) (v' : Value) (w : World) : Prop where
  book : RbkV w g base M A v' L p
  only : OnlyG g v W w
  own : v'.ownBlock = v.ownBlock ∨ ∃ k, v'.ownBlock = some k ∧ W.heap.size ≤ k

theorem RpSt.next {W w w1 w2 : World} {g base M A : Nat} {v v' v2 : Value} {p : Int} {L : List Ent} (h : RpSt W g base M A v p L v' w) (hb : Below w.heap.size w w1) (f : Ent) (hf : EntOk f) (hl : L.length + 1 ≤ 1000) (hown : w2.ownsRow base 110 4 v2 (L.length + 1) (L.flatMap Ent.cells ++ f.cells)) (hg : w1.grownBy w2 v'.ownBlock) (hd : v2.ownBlock = v'.ownBlock ∨ v2.ownBlock = some w1.heap.size) : RpSt W g base M A v p (L ++ [f]) v2 (w2.setCell ⟨g, 2, none⟩ v2) := by
  have hrow1 := own_pastK h.book.row hb
  have hblk1 := h.book.blk.past hb
  have bz : Blk w2 g _ _ := Blk.grown hblk1 hg (own_blk_ne hrow1 hblk1 (by decide))
  have hbs := hb.size
  have hws := h.only.size
  obtain ⟨X, cX, rfl⟩ := own_form hown
  have hLL : (L ++ [f]).length = L.length + 1 := by simp
  refine ⟨⟨⟨X, cX, by rw [hLL]⟩, bz.put 2 _, ?_, ?_, by rw [hLL]; exact hl⟩, ?_, ?_⟩
  · rw [hLL, List.flatMap_append]
    simpa using own_far (p := ⟨g, 2, none⟩) hown (own_blk_ne hown bz (by decide)) _
  · intro e he
    rcases List.mem_append.1 he with h1 | h1
    · exact h.book.ok e h1
    · rw [List.mem_singleton] at h1; rw [h1]; exact hf
  · refine OnlyG.setCell (p := ⟨g, 2, none⟩) ?_ rfl _
    have ho := h.only.below hb
    rcases h.own with h1 | ⟨k, h1, h2⟩
    · rw [h1] at hg; exact ho.grown hg
    · exact ⟨hg.os.trans ho.os, hg.tape.trans ho.tape, hg.output.trans ho.output, Nat.le_trans ho.size hg.size, fun j hj h3 h4 => (hg.block j (Nat.lt_of_lt_of_le hj ho.size) (fun e => by rw [h1] at e; cases e; omega)).trans (ho.block j hj h3 h4)⟩
  · rcases hd with h1 | h1
    · rw [h1]; exact h.own
    · exact .inr ⟨_, h1, by omega⟩

theorem RpSt.last {W w : World} {g base M A : Nat} {v v' : Value} {p : Int} {L : List Ent} (h : RpSt W g base M A v p L v' w) : RbkV (w.setCell ⟨g, 3, none⟩ (.int .i64 (p + 1))) g base M A v' L (p + 1) ∧ OnlyG g v W (w.setCell ⟨g, 3, none⟩ (.int .i64 (p + 1))) :=
  ⟨⟨h.book.form, h.book.blk.put 3 _, own_far (p := ⟨g, 3, none⟩) h.book.row (own_blk_ne h.book.row h.book.blk (by decide)) _, h.book.ok, h.book.len⟩, h.only.setCell ⟨g, 3, none⟩ rfl _⟩

set_option maxHeartbeats 8000000 in
set_option maxRecDepth 100000 in
theorem refPost_any (g base M A : Nat) (v : Value) (bl : List Int) (L : List Ent) (p : Int) (P : Option Addr) (n c : Nat) (l : List Ent) (w : World) (hM : M ≤ 16) (hA : A ≤ 9) (hinv : Inv M A bl L) (hx : RbkV w g base M A v L p) (hr : Rd w w.heap.size 4 P n (l.flatMap Ent.cells)) (hbs : 0 < n → BesideK g v P) (hn : n ≤ 500) (hLn : L.length + l.length ≤ 1000) (hok : ∀ e ∈ l, EntOk e) (hp : 0 ≤ p ∧ p ≤ 1000000) (hbase : base ≤ w.heap.size) :
    Calls Try.prog 18 #[.pointer (some ⟨g, 0, none⟩), .slice P n c] w (PostRPost g base M A v bl L p l w) := by
  have HL := Lib.hid (hr.len Ent.cells_len (by omega))
  have HR := Lib.hid hr
  have HX := Lib.hid hx
  have HG := Lib.hid hok
  have HI := Lib.hid hinv
  have HBS := Lib.hid hbs
  have HP := Lib.hid hp
  have HLN := Lib.hid hLn
  obtain ⟨i0, hi0, hz0, hz1, hz2⟩ := info_parts entInfo
  have HWR := Lib.hid (refWrong14_any g base M A v L p bl P n c l w hM hA hinv hx hr (by omega) hok)
  obtain ⟨K, hK⟩ : ∃ R, Hid (chgK M A bl l = R) := ⟨_, Lib.hid rfl⟩
  rw [hK.out] at HWR
  clear hx hr hok hinv hbs hp hLn
  go_enter Try.func18, Try.ntmps18
  go_wp2_with fail
  refine HWR.out.mono ?_
  rintro e w1 ⟨rfl, hb1⟩
  have HB1 := Lib.hid hb1
  clear hb1 HWR
  by_cases hk0 : K = 0
  · subst hk0
    go_wp2_with fail
    go_loopw [6] (fun i wr => ∃ k : Nat, k ≤ n ∧ i = .int .i64 (k : Nat) ∧ Hid ((l.take k).any (fun e => fundB (chgOf M bl l e.spt)) = false) ∧ Hid (Below w.heap.size w wr)) (fun i _ => n - (intOf i).toNat)
    case atStart => exact ⟨0, by omega, rfl, Lib.hid rfl, HB1⟩
    case round =>
      obtain ⟨k, hk, rfl, HF, HB⟩ := hrel
      have hs := HB.out.size
      by_cases hlt : k < n
      · have hlz : (k : Int) < (n : Int) := by omega
        have hg_f : l[k]? = some (l[k]'(by have := HL.out; omega)) := List.getElem?_eq_getElem _
        obtain ⟨b_f, off_f, rfl, hbb_f, hc_f⟩ := (HR.out.past HB.out).elem Ent.cells_len hg_f hlt
        have HT_f := Lib.hid (show l.take (k + 1) = l.take k ++ [(l[k]'(by have := HL.out; omega))] from List.take_succ_eq_append_getElem (by have := HL.out; omega))
        have HM_f := Lib.hid (show (l[k]'(by have := HL.out; omega)) ∈ l from List.getElem_mem _)
        have HG_f := Lib.hid hg_f
        generalize (l[k]'(by have := HL.out; omega)) = f at *
        have c0 := hc_f 0 _ rfl
        have c1 := hc_f 1 _ rfl
        have c2 := hc_f 2 _ rfl
        have c3 := hc_f 3 _ rfl
        clear hc_f hg_f
        simp only [Nat.add_zero] at c0
        have hin := ent_in HI.out hK.out HM_f.out
        have HBH := Lib.hid (behind_any g base M A v L p (some ⟨b_f, off_f, none⟩) n c l k f wr (HX.out.past HB.out) (HR.out.past HB.out) (by omega) HG.out HG_f.out hin.1 hin.2.1 hin.2.2.1)
        obtain ⟨S, hS⟩ : ∃ S, Hid ((atB l f.spt).sum = S) := ⟨_, Lib.hid rfl⟩
        obtain ⟨N, hN⟩ : ∃ S, Hid (nowB M bl l f.spt = S) := ⟨_, Lib.hid rfl⟩
        rw [← hin.2.2.2, hS.out, hN.out] at HBH
        obtain ⟨F, hF⟩ : ∃ F, Hid (frB f.spt = F) := ⟨_, Lib.hid rfl⟩
        have HFU : Hid (fundB (chgOf M bl l f.spt) = (!F && (decide (S < 0) && decide (N < 0)))) := Lib.hid (by
          unfold fundB chgOf; simp only; rw [hF.out, hS.out, hN.out])
        have HFR := Lib.hid (fun w => refFree_any f.spt w)
        rw [hF.out] at HFR
        obtain ⟨B, hB⟩ : ∃ B, Hid (fundB (chgOf M bl l f.spt) = B) := ⟨_, Lib.hid rfl⟩
        rw [hB.out] at HFU
        clear hin c0 c1 c2 c3
        go_wp2_with fail
        refine HBH.out.mono ?_
        rintro e w3 ⟨rfl, hb3⟩
        have HB3 := Lib.hid (Below.past HB.out hb3 hs)
        have hs3 := HB3.out.size
        obtain ⟨b3, o3, he3, _, hc3⟩ := (HR.out.past HB3.out).elem Ent.cells_len HG_f.out hlt
        cases he3
        have c0 := hc3 0 _ rfl
        have c1 := hc3 1 _ rfl
        simp only [Nat.add_zero] at c0
        clear hb3 hc3 HBH
        go_wp2_with fail
        refine (HFR.out _).mono ?_
        rintro e w4 ⟨rfl, hb4⟩
        have HB4 := Lib.hid (Below.past HB3.out hb4 hs3)
        clear hb4 c0 c1 HFR
        cases B with
        | true =>
          have hft : F = false ∧ S < 0 ∧ N < 0 := by have := HFU.out; simp at this; exact this
          obtain ⟨rfl, hs0, hn0⟩ := hft
          have HK : Hid (postK M A bl l = 13) := Lib.hid (by
            unfold postK
            rw [if_pos hK.out, chgL_any hK.out, if_pos (List.any_eq_true.2 ⟨f, HM_f.out, hB.out⟩)])
          go_wp2_with fail
          go_ret
          exact postR_no HX.out HK.out (by decide) HB4.out
        | false =>
          have HF2 : Hid ((l.take (k + 1)).any (fun e => fundB (chgOf M bl l e.spt)) = false) := Lib.hid (by rw [HT_f.out, List.any_append, HF.out]; simp [hB.out])
          cases F with
          | true =>
            go_wp2_with fail
            go_roundw
            case rel => exact ⟨k + 1, by omega, by go_num, HF2, HB4⟩
            case measure => simp [intOf]; omega
          | false =>
            by_cases h1 : S < 0
            · have h2 : ¬ N < 0 := fun h2 => by
                have h3 := HFU.out
                rw [decide_eq_true h1, decide_eq_true h2] at h3; cases h3
              go_wp2_with fail
              go_roundw
              case rel => exact ⟨k + 1, by omega, by go_num, HF2, HB4⟩
              case measure => simp [intOf]; omega
            · go_wp2_with fail
              go_roundw
              case rel => exact ⟨k + 1, by omega, by go_num, HF2, HB4⟩
              case measure => simp [intOf]; omega
      · have hlz : ¬ (k : Int) < (n : Int) := by omega
        obtain rfl : n = k := by omega
        have hT : l.take n = l := List.take_of_length_le (by rw [HL.out]; exact Nat.le_refl _)
        have HK : Hid (postK M A bl l = 0) := Lib.hid (by
          have h := HF.out
          rw [hT] at h
          unfold postK
          rw [if_pos hK.out, chgL_any hK.out, h, if_neg (by simp)])
        have HST0 : Hid (RpSt w g base M A v p (L ++ l.take 0) v wr) := Lib.hid ⟨by rw [List.take_zero, List.append_nil]; exact HX.out.past HB.out, OnlyG.of_below HB.out, .inl rfl⟩
        clear hT HF
        go_wp2_with fail
        go_loopw [9] (fun i wz => ∃ (k : Nat) (v' : Value), k ≤ n ∧ i = .int .i64 (k : Nat) ∧ Hid (RpSt w g base M A v p (L ++ l.take k) v' wz)) (fun i _ => n - (intOf i).toNat)
        case atStart => exact ⟨0, v, by omega, rfl, HST0⟩
        case round =>
          clear HST0
          obtain ⟨k, v', hk, rfl, HS⟩ := hrel
          by_cases hlt : k < n
          · have hlz2 : (k : Int) < (n : Int) := by omega
            have hrz := HR.out.onlyG HS.out.only (HBS.out (by omega))
            have hg_f : l[k]? = some (l[k]'(by have := HL.out; omega)) := List.getElem?_eq_getElem _
            obtain ⟨b_f, off_f, rfl, hbb_f, hc_f⟩ := (hrz).elem Ent.cells_len hg_f hlt
            have HT_f := Lib.hid (show l.take (k + 1) = l.take k ++ [(l[k]'(by have := HL.out; omega))] from List.take_succ_eq_append_getElem (by have := HL.out; omega))
            have HM_f := Lib.hid (show (l[k]'(by have := HL.out; omega)) ∈ l from List.getElem_mem _)
            generalize (l[k]'(by have := HL.out; omega)) = f at *
            have c0 := hc_f 0 _ rfl
            have c1 := hc_f 1 _ rfl
            have c2 := hc_f 2 _ rfl
            have c3 := hc_f 3 _ rfl
            clear hc_f hg_f
            simp only [Nat.add_zero] at c0
            obtain ⟨X, cX, rfl⟩ := HS.out.book.form
            obtain ⟨q, hq⟩ : ∃ q, Hid ((L ++ l.take k).length = q) := ⟨_, Lib.hid rfl⟩
            have hq1 : q ≤ 1000 := by rw [← hq.out, List.length_append, List.length_take]; have := HLN.out; have := HL.out; omega
            have blz := HS.out.book.blk
            have hoz := HS.out.book.row
            rw [hq.out] at blz hoz
            have hbf : b_f < wr.heap.size := by
              rcases Nat.lt_or_ge b_f wr.heap.size with h | h
              · exact h
              · have := c0; simp [World.cell?, Array.getElem?_eq_none h] at this
            have l2 := blz.cell 2
            simp at l2
            have hgz := blz.lt
            have hws := HS.out.only.size
            have hbz : base ≤ wr.heap.size := by omega
            clear hrz
            have HRW := Lib.hid hoz
            have HBL := Lib.hid blz
            have HEF := Lib.hid (HG.out f HM_f.out)
            have hqk : q = L.length + k := by rw [← hq.out, List.length_append, List.length_take]; have := HL.out; omega
            have hq2 : q + 1 ≤ 1000 := by have := HLN.out; have := HL.out; omega
            clear hqk
            have hbz2 := hbz
            clear hoz blz
            go_upto_region 13 with fail
            go_region_law (refine step_append_blkG rfl (.tmp 54) (.tmp 59) 33 rfl base 110 i0 _ 4 32 Try.underlying33 hi0 hz0 hz1 hz2 rfl (by decide) (.slice X q cX) q ((L ++ l.take k).flatMap Ent.cells) (by simp [Act.eval, Act.put]) (by first | exact HRW.out.alloc _ | exact own_drewN (HRW.out.alloc _) 1) wr.heap.size 1 1 #[.int .i64 f.k, .int .i64 f.m, .int .i64 f.a, .int .i64 f.z] (by simp [Act.eval, Act.put]) (by exact Blk.new wr 110 _ _ rfl) rfl (by simp [Value.oneCell']) (by omega) (by omega) (by simp; omega) ?_; intro v' w' hown' hg' hd; obtain ⟨A', c', rfl⟩ := own_form hown'; have bz : Blk w' g 35 #[.int .i64 M, .int .i64 A, .slice X q cX, .int .i64 p] := Blk.grown (by first | exact HBL.out.alloc _ | exact (HBL.out.alloc _).drewN 1) hg' (own_blk_ne (w := wr) HRW.out HBL.out (by decide)); have z1 := bz.cell 2; have zf := bz.frozen 2; simp at z1)
            all_goals
              have HN : Hid (RpSt w g base M A v p (L ++ l.take (k + 1)) (.slice A' (q + 1) c') (w'.setCell ⟨g, 2, none⟩ (.slice A' (q + 1) c'))) := Lib.hid (by
                rw [HT_f.out, ← List.append_assoc]
                refine HS.out.next ?_ f HEF.out (by rw [hq.out]; exact hq2) (by rw [hq.out]; exact hown') (by rw [hq.out]; exact hg') (by rw [hq.out]; exact hd)
                first | exact (Below.refl wr.heap.size wr).alloc (Nat.le_refl _) _ | exact ((Below.refl wr.heap.size wr).alloc (Nat.le_refl _) _).drew)
              clear z1 zf bz hown' hg' hd
              go_wp2_with fail
              go_roundw
              case rel => exact ⟨k + 1, _, by omega, by go_num, HN⟩
              case measure => simp [intOf]; omega
          · have hlz2 : ¬ (k : Int) < (n : Int) := by omega
            obtain rfl : n = k := by omega
            have hT : l.take n = l := List.take_of_length_le (by rw [HL.out]; exact Nat.le_refl _)
            have HS2 := HS
            rw [hT] at HS2
            have HLS := Lib.hid HS2.out.last
            have HOW := Lib.hid HS2.out.own
            have p3 := HS.out.book.blk.cell 3
            have z3 := HS.out.book.blk.frozen 3
            simp at p3
            have hwp : IntKind.i64.wrap (p + 1) = p + 1 := IntWalk.i64_in _ (by have := HP.out; omega)
            have HE : Hid (postLL M A bl L l = L ++ l ∧ postP M A bl l p = p + 1) := Lib.hid (by unfold postLL postP; rw [HK.out, if_pos rfl, if_pos rfl]; exact ⟨rfl, rfl⟩)
            clear hT HS2
            go_wp2_with fail
            go_ret
            refine ⟨by rw [HK.out]; rfl, v', ?_, HLS.out.2, HOW.out⟩
            rw [HE.out.1, HE.out.2]
            exact HLS.out.1
  · have HK : Hid (postK M A bl l = K) := Lib.hid (by unfold postK; rw [if_neg (by rw [hK.out]; exact hk0), hK.out])
    have q1 : (K != 0) = true := by simpa using hk0
    go_wp2_with fail
    go_ret
    exact postR_no HX.out HK.out hk0 HB1.out
end Go.Proofs.Ytelbolhckhdioaa
