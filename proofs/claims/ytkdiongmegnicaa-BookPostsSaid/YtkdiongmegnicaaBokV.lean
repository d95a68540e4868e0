import Derived.Test.YtkdiongmegnicaaBokP
import Derived.Test.YtkdiongmegnicaaBokI
namespace Go.Proofs.Ytkdiongmegnicaa
open Go.RowKit Go.ChangeShapes Go.ChangeMaps

/-! ### The least balance behind a posting (plain) -/
def lsF (z : Int) (fr : Bool) (nw : Int) : Int := if fr = true then z else if nw < z then nw else z
def lsC (z : Int) (c : Chg) : Int := lsF z c.fr c.nw
def lsS (M : Nat) (bl : List Int) (l : List Ent) (z : Int) (s : Spt) : Int := lsF z (frB s) (nowB M bl l s)
def topI : Int := 9223372036854775807
theorem lsS_fold (fr : Spt → Bool) (nw : Spt → Int) (xs : List Spt) : ∀ z : Int, (xs.foldl (fun z s => lsF z (fr s) (nw s)) z ≤ z) ∧ (∀ s ∈ xs, fr s = false → xs.foldl (fun z s => lsF z (fr s) (nw s)) z ≤ nw s) ∧ (xs.foldl (fun z s => lsF z (fr s) (nw s)) z = z ∨ ∃ s ∈ xs, fr s = false ∧ xs.foldl (fun z s => lsF z (fr s) (nw s)) z = nw s) := by
  induction xs with
  | nil => intro z; exact ⟨Int.le_refl _, (fun s hs => by cases hs), Or.inl rfl⟩
  | cons x xs ih =>
    intro z
    rw [List.foldl_cons]
    obtain ⟨h1, h2, h3⟩ := ih (lsF z (fr x) (nw x))
    have hx : lsF z (fr x) (nw x) ≤ z ∧ (fr x = false → lsF z (fr x) (nw x) ≤ nw x) ∧ (lsF z (fr x) (nw x) = z ∨ (fr x = false ∧ lsF z (fr x) (nw x) = nw x)) := by
      unfold lsF
      cases hf : fr x with
      | true => simp
      | false =>
        by_cases hl : nw x < z
        · simp [hl]; omega
        · simp [hl]; omega
    refine ⟨by omega, fun s hs hf => ?_, ?_⟩
    · rcases List.mem_cons.1 hs with rfl | hs
      · exact Int.le_trans h1 (hx.2.1 hf)
      · exact h2 s hs hf
    · rcases h3 with h3 | ⟨s, hs, hf, h3⟩
      · rcases hx.2.2 with hz | ⟨hf, hz⟩
        · exact .inl (by rw [h3, hz])
        · exact .inr ⟨x, List.mem_cons_self, hf, by rw [h3, hz]⟩
      · exact .inr ⟨s, List.mem_cons_of_mem _ hs, hf, h3⟩
theorem lsS_same (fr : Spt → Bool) (nw : Spt → Int) (xs ys : List Spt) (h : ∀ s, s ∈ xs ↔ s ∈ ys) (z : Int) : xs.foldl (fun z s => lsF z (fr s) (nw s)) z = ys.foldl (fun z s => lsF z (fr s) (nw s)) z := by
  obtain ⟨a1, a2, a3⟩ := lsS_fold fr nw xs z
  obtain ⟨b1, b2, b3⟩ := lsS_fold fr nw ys z
  apply Int.le_antisymm
  · rcases b3 with b3 | ⟨s, hs, hf, b3⟩
    · omega
    · have := a2 s ((h s).2 hs) hf; omega
  · rcases a3 with a3 | ⟨s, hs, hf, a3⟩
    · omega
    · have := b2 s ((h s).1 hs) hf; omega
/-- The least of a posting's balances that must not fall below 0. -/
def lsE (M : Nat) (bl : List Int) (l : List Ent) (xs : List Ent) : Int := xs.foldl (fun z e => lsS M bl l z e.spt) topI
theorem ls_eq {M A : Nat} {bl : List Int} {l : List Ent} (h : chgK M A bl l = 0) : (chgL M A bl l).foldl lsC topI = lsE M bl l l := by
  rw [chgL, if_pos h, List.foldl_map]
  show (sptsOf l).foldl (fun z s => lsF z (frB s) (nowB M bl l s)) topI = _
  rw [lsS_same frB (nowB M bl l) (sptsOf l) (l.map Ent.spt) (fun s => by rw [spts_mem, List.mem_map]) topI, List.foldl_map]
  rfl

/-! ### Least -/
def leastV (M A : Nat) (bl : List Int) (l : List Ent) : Int := if chgK M A bl l = 0 then lsE M bl l l else 0
set_option maxHeartbeats 8000000 in
set_option maxRecDepth 100000 in
theorem leastK_any (g base M A : Nat) (v : Value) (bl : List Int) (p : Int) (P : Option Addr) (n c : Nat) (l : List Ent) (w : World) (hx : BookV w g base M A v bl p) (hrl : Rd w w.heap.size 4 P n (l.flatMap Ent.cells)) (hn : n ≤ 1000) (hok : ∀ e ∈ l, EntOk e) (hbl : ∀ z ∈ bl, inI z) :
    Calls Try.prog 17 #[.pointer (some ⟨g, 0, none⟩), .slice P n c] w fun e w' => e = .returned (.tuple #[.int .i64 (leastV M A bl l), .int .i64 (chgK M A bl l)]) ∧ Below w.heap.size w w' := by
  have HCH := Lib.hid (changes_any g base M A v bl p P n c l w hx hrl hn hok hbl)
  unfold ChgPost at HCH
  obtain ⟨K, hK⟩ : ∃ K, Hid (chgK M A bl l = K) := ⟨_, Lib.hid rfl⟩
  obtain ⟨CS, hCS⟩ : ∃ CS, Hid (chgL M A bl l = CS) := ⟨_, Lib.hid rfl⟩
  rw [hK.out, hCS.out] at HCH
  have hln : CS.length ≤ 1000 := by
    rw [← hCS.out]; unfold chgL; split
    · rw [List.length_map]; exact Nat.le_trans (spts_len l) (by have := hrl.len Ent.cells_len (by omega); omega)
    · simp
  have HLV : Hid (leastV M A bl l = if K = 0 then CS.foldl lsC topI else 0) := Lib.hid (by
    unfold leastV; rw [hK.out]
    by_cases h0 : K = 0
    · rw [if_pos h0, if_pos h0, ← hCS.out, ls_eq (by rw [hK.out, h0])]
    · rw [if_neg h0, if_neg h0])
  rw [hK.out, HLV.out]
  clear hx hrl hok hbl HLV
  go_enter Try.func17, Try.ntmps17
  go_wp2_with fail
  refine HCH.out.mono ?_
  rintro e w1 ⟨vc, rfl, hoc, hb1⟩
  have HB1 := Lib.hid hb1
  by_cases hk0 : K = 0
  · subst hk0
    obtain ⟨Ac, cc, rfl⟩ := own_form hoc
    obtain ⟨m, hm⟩ : ∃ m, Hid (CS.length = m) := ⟨_, Lib.hid rfl⟩
    have HOC := Lib.hid hoc
    rw [hm.out] at HOC hln
    have HRC := Lib.hid (Rd.of_own HOC.out)
    have hs1 := hb1.size
    clear hoc hb1 HCH
    rw [hm.out]
    go_wp2_with fail
    go_loopw [8, 24] (fun v8 i wr => ∃ k : Nat, k ≤ m ∧ v8 = .int .i64 ((CS.take k).foldl lsC topI) ∧ i = .int .i64 (k : Nat) ∧ Hid (Below w1.heap.size w1 wr)) (fun _ i _ => m - (intOf i).toNat)
    case atStart => exact ⟨0, by omega, rfl, rfl, Lib.hid (Below.refl _ _)⟩
    case round =>
      obtain ⟨k, hk, rfl, rfl, HD⟩ := hrel
      have hds := HD.out.size
      by_cases hlt : k < m
      · have hlz : (k : Int) < (m : Int) := by omega
        have hg_f : CS[k]? = some (CS[k]'(by have := hm.out; omega)) := List.getElem?_eq_getElem _
        obtain ⟨b_f, off_f, rfl, hbb_f, hc_f⟩ := (HRC.out.below HD.out).elem Chg.cells_len hg_f hlt
        have HT_f := Lib.hid (show CS.take (k + 1) = CS.take k ++ [(CS[k]'(by have := hm.out; omega))] from List.take_succ_eq_append_getElem (by have := hm.out; omega))
        have HM_f := Lib.hid (show (CS[k]'(by have := hm.out; omega)) ∈ CS from List.getElem_mem _)
        generalize (CS[k]'(by have := hm.out; omega)) = f at *
        have c0 := hc_f 0 _ rfl
        have c1 := hc_f 1 _ rfl
        have c2 := hc_f 2 _ rfl
        have c3 := hc_f 3 _ rfl
        clear hc_f hg_f
        simp only [Nat.add_zero] at c0
        obtain ⟨z, hz⟩ : ∃ z, Hid ((CS.take k).foldl lsC topI = z) := ⟨_, Lib.hid rfl⟩
        have HZ : Hid ((CS.take (k + 1)).foldl lsC topI = lsC z f) := Lib.hid (by rw [HT_f.out, List.foldl_append, hz.out]; rfl)
        rw [hz.out]
        have bX := Blk.new wr 133 #[.int .i64 (f.pl : Nat), .bool f.fr, .int .i64 f.zb, .int .i64 f.nw] wr.heap.size rfl
        have hb2 := (Below.refl wr.heap.size wr).alloc (Nat.le_refl _) (.cells #[.int .i64 (f.pl : Nat), .bool f.fr, .int .i64 f.zb, .int .i64 f.nw] 133)
        obtain ⟨W1, hW1⟩ : ∃ W, Hid (wr.alloc (.cells #[.int .i64 (f.pl : Nat), .bool f.fr, .int .i64 f.zb, .int .i64 f.nw] 133) = W) := ⟨_, Lib.hid rfl⟩
        rw [hW1.out] at bX hb2
        have HD2 := Lib.hid (Below.past HD.out hb2 hds)
        have x0 := (bX).cell 0
        have x1 := (bX).cell 1
        have x2 := (bX).cell 2
        have x3 := (bX).cell 3
        simp at x0 x1 x2 x3
        clear bX hb2
        go_upto_region 10 with fail
        rw [hW1.out]
        clear c0 c1 c2 c3
        obtain ⟨F, hF⟩ : ∃ F, Hid (f.fr = F) := ⟨_, Lib.hid rfl⟩
        rw [hF.out] at x1
        have HZ2 : Hid ((CS.take (k + 1)).foldl lsC topI = if F = true then z else if f.nw < z then f.nw else z) := Lib.hid (by rw [HZ.out]; unfold lsC lsF; rw [hF.out])
        cases F with
        | true =>
          go_wp2_with fail
          go_roundw
          case rel => exact ⟨k + 1, by omega, by rw [HZ2.out]; rfl, by go_num, HD2⟩
          case measure => simp [intOf]; omega
        | false =>
          by_cases hl : f.nw < z
          · go_wp2_with fail
            go_roundw
            case rel => exact ⟨k + 1, by omega, by rw [HZ2.out]; simp [hl], by go_num, HD2⟩
            case measure => simp [intOf]; omega
          · go_wp2_with fail
            go_roundw
            case rel => exact ⟨k + 1, by omega, by rw [HZ2.out]; simp [hl], by go_num, HD2⟩
            case measure => simp [intOf]; omega
      · have hlz : ¬ (k : Int) < (m : Int) := by omega
        obtain rfl : m = k := by omega
        have hT : CS.take m = CS := List.take_of_length_le (by rw [hm.out]; exact Nat.le_refl _)
        rw [hT]
        have HBX := Lib.hid (Below.past HB1.out HD.out hs1)
        clear hT HD
        go_wp2_with fail
        go_ret2
        exact ⟨by first | (simp; done) | rfl, HBX.out⟩
  · have q1 : (K != 0) = true := by simpa using hk0
    go_wp2_with fail
    go_ret2
    exact ⟨by first | (simp [hk0]; done) | rfl, HB1.out⟩

set_option maxHeartbeats 8000000 in
set_option maxRecDepth 100000 in
theorem refLeast_any (g base M A : Nat) (v : Value) (bl : List Int) (L : List Ent) (p : Int) (P : Option Addr) (n c : Nat) (l : List Ent) (w : World) (hk0 : chgK M A bl l = 0) (hinv : Inv M A bl L) (hx : RbkV w g base M A v L p) (hr : Rd w w.heap.size 4 P n (l.flatMap Ent.cells)) (hn : n ≤ 500) (hok : ∀ e ∈ l, EntOk e) :
    Calls Try.prog 19 #[.pointer (some ⟨g, 0, none⟩), .slice P n c] w fun e w' => e = .returned (.int .i64 (lsE M bl l l)) ∧ Below w.heap.size w w' := by
  have HL := Lib.hid (hr.len Ent.cells_len (by omega))
  have HR := Lib.hid hr
  have HX := Lib.hid hx
  have HG := Lib.hid hok
  have HI := Lib.hid hinv
  have hK := Lib.hid hk0
  clear hx hr hok hinv hk0
  go_enter Try.func19, Try.ntmps19
  go_wp2_with fail
  go_loopw [5, 6] (fun v5 i wr => ∃ k : Nat, k ≤ n ∧ v5 = .int .i64 (lsE M bl l (l.take k)) ∧ i = .int .i64 (k : Nat) ∧ Hid (Below w.heap.size w wr)) (fun _ i _ => n - (intOf i).toNat)
  case atStart => exact ⟨0, by omega, rfl, rfl, Lib.hid (Below.refl _ _)⟩
  case round =>
    obtain ⟨k, hk, rfl, rfl, HB⟩ := hrel
    have hs := HB.out.size
    by_cases hlt : k < n
    · have hlz : (k : Int) < (n : Int) := by omega
      have hg_f : l[k]? = some (l[k]'(by have := HL.out; omega)) := List.getElem?_eq_getElem _
      obtain ⟨b_f, off_f, rfl, hbb_f, hc_f⟩ := (HR.out.past HB.out).elem Ent.cells_len hg_f hlt
      have HT_f := Lib.hid (show l.take (k + 1) = l.take k ++ [(l[k]'(by have := HL.out; omega))] from List.take_succ_eq_append_getElem (by have := HL.out; omega))
      have HM_f := Lib.hid (show (l[k]'(by have := HL.out; omega)) ∈ l from List.getElem_mem _)
      have HG_f := Lib.hid hg_f
      generalize (l[k]'(by have := HL.out; omega)) = f at *
      have c0 := hc_f 0 _ rfl
      have c1 := hc_f 1 _ rfl
      have c2 := hc_f 2 _ rfl
      have c3 := hc_f 3 _ rfl
      clear hc_f hg_f
      simp only [Nat.add_zero] at c0
      have hin := ent_in HI.out hK.out HM_f.out
      have HBH := Lib.hid (behind_any g base M A v L p (some ⟨b_f, off_f, none⟩) n c l k f wr (HX.out.past HB.out) (HR.out.past HB.out) (by omega) HG.out HG_f.out hin.1 hin.2.1 hin.2.2.1)
      obtain ⟨z, hz⟩ : ∃ z, Hid (lsE M bl l (l.take k) = z) := ⟨_, Lib.hid rfl⟩
      obtain ⟨S, hS⟩ : ∃ S, Hid ((atB l f.spt).sum = S) := ⟨_, Lib.hid rfl⟩
      obtain ⟨N, hN⟩ : ∃ S, Hid (nowB M bl l f.spt = S) := ⟨_, Lib.hid rfl⟩
      rw [← hin.2.2.2, hS.out, hN.out] at HBH
      obtain ⟨F, hF⟩ : ∃ F, Hid (frB f.spt = F) := ⟨_, Lib.hid rfl⟩
      have HZ : Hid (lsE M bl l (l.take (k + 1)) = if F = true then z else if N < z then N else z) := Lib.hid (by
        unfold lsE at hz ⊢
        rw [HT_f.out, List.foldl_append, hz.out]
        show lsF z (frB f.spt) (nowB M bl l f.spt) = _
        unfold lsF
        rw [hF.out, hN.out])
      have HFR := Lib.hid (fun w => refFree_any f.spt w)
      rw [hF.out] at HFR
      rw [hz.out]
      clear hin c0 c1 c2 c3
      go_wp2_with fail
      refine HBH.out.mono ?_
      rintro e w3 ⟨rfl, hb3⟩
      have HB3 := Lib.hid (Below.past HB.out hb3 hs)
      have hs3 := HB3.out.size
      obtain ⟨b3, o3, he3, _, hc3⟩ := (HR.out.past HB3.out).elem Ent.cells_len HG_f.out hlt
      cases he3
      have c0 := hc3 0 _ rfl
      have c1 := hc3 1 _ rfl
      simp only [Nat.add_zero] at c0
      clear hb3 hc3 HBH
      go_wp2_with fail
      refine (HFR.out _).mono ?_
      rintro e w4 ⟨rfl, hb4⟩
      have HB4 := Lib.hid (Below.past HB3.out hb4 hs3)
      clear hb4 c0 c1 HFR
      cases F with
      | true =>
        go_wp2_with fail
        go_roundw
        case rel => exact ⟨k + 1, by omega, by rw [HZ.out]; rfl, by go_num, HB4⟩
        case measure => simp [intOf]; omega
      | false =>
        by_cases hl : N < z
        · go_wp2_with fail
          go_roundw
          case rel => exact ⟨k + 1, by omega, by rw [HZ.out]; (first | (simp [hl]; done) | (simp; omega)), by go_num, HB4⟩
          case measure => simp [intOf]; omega
        · go_wp2_with fail
          go_roundw
          case rel => exact ⟨k + 1, by omega, by rw [HZ.out]; (first | (simp [hl]; done) | (simp; omega)), by go_num, HB4⟩
          case measure => simp [intOf]; omega
    · have hlz : ¬ (k : Int) < (n : Int) := by omega
      obtain rfl : n = k := by omega
      have hT : l.take n = l := List.take_of_length_le (by rw [HL.out]; exact Nat.le_refl _)
      rw [hT]
      clear hT
      go_wp2_with fail
      go_ret
      exact ⟨rfl, HB.out⟩
end Go.Proofs.Ytkdiongmegnicaa
