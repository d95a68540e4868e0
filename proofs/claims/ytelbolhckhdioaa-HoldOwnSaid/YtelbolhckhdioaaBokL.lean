import Derived.Test.YtelbolhckhdioaaBokI
namespace Go.Proofs.Ytelbolhckhdioaa
open Go.RowKit

/-! ### The document's book: what stands at a spot -/
theorem spt_eq (e : Ent) (s : Spt) : (e.spt = s) ↔ (eqA ⟨e.k, e.m⟩ s.acc = true ∧ e.a = s.a) := by
  rw [eqA_iff]
  constructor
  · rintro rfl; exact ⟨⟨rfl, rfl⟩, rfl⟩
  · rintro ⟨⟨h1, h2⟩, h3⟩; exact Spt.same h1 h2 h3
theorem atB_yes {l : List Ent} {f : Ent} {k : Nat} {s : Spt} (hT : l.take (k + 1) = l.take k ++ [f]) (h : f.spt = s) : atB (l.take (k + 1)) s = atB (l.take k) s ++ [f.z] := by rw [hT, atB_snoc, if_pos h]
theorem atB_no {l : List Ent} {f : Ent} {k : Nat} {s : Spt} (hT : l.take (k + 1) = l.take k ++ [f]) (h : ¬ f.spt = s) : atB (l.take (k + 1)) s = atB (l.take k) s := by rw [hT, atB_snoc, if_neg h]
def IntsPost (zs : List Int) (w : World) (e : Ending) (w' : World) : Prop := ∃ v, e = .returned v ∧ w'.ownsRow w.heap.size 2 1 v zs.length (zs.flatMap i64Cells) ∧ Below w.heap.size w w'

set_option maxHeartbeats 4000000 in
set_option maxRecDepth 100000 in
theorem refAt_any (P : Option Addr) (n c : Nat) (l : List Ent) (s : Spt) (w : World) (hr : Rd w w.heap.size 4 P n (l.flatMap Ent.cells)) (hn : n ≤ 1000) :
    Calls Try.prog 60 #[.slice P n c, .agg #[.int .i64 s.k, .int .i64 s.m], .int .i64 s.a] w (IntsPost (atB l s) w) := by
  have HL := Lib.hid (hr.len Ent.cells_len (by omega))
  obtain ⟨i0, hi0, hz0, hz1, hz2⟩ := info_parts int64Info
  have bt0 := Blk.new w 52 #[.int .i64 s.k, .int .i64 s.m] w.heap.size rfl
  have hB0 := (Below.refl w.heap.size w).alloc (Nat.le_refl _) (.cells #[.int .i64 s.k, .int .i64 s.m] 52)
  obtain ⟨W, hW⟩ : ∃ W, Hid (w.alloc (.cells #[.int .i64 s.k, .int .i64 s.m] 52) = W) := ⟨_, Lib.hid rfl⟩
  rw [hW.out] at bt0 hB0
  have HR := Lib.hid (hr.past hB0)
  have HB0 := Lib.hid hB0
  have HBT := Lib.hid bt0
  have hWs := hB0.size
  clear hr hB0 bt0
  go_enter Try.func60, Try.ntmps60
  go_upto_region 1 with fail
  rw [hW.out]
  go_wp2_with fail
  go_loopw [7, 8] (fun v i wr => ∃ k : Nat, k ≤ n ∧ i = .int .i64 (k : Nat) ∧ Hid (wr.ownsRow W.heap.size 2 1 v (atB (l.take k) s).length ((atB (l.take k) s).flatMap i64Cells)) ∧ Hid (Below W.heap.size W wr)) (fun _ i _ => n - (intOf i).toNat)
  case atStart => exact ⟨0, by omega, rfl, Lib.hid (World.ownsRow_nil _ _ _ _), Lib.hid (Below.refl _ _)⟩
  case round =>
    obtain ⟨k, hk, rfl, HO, HB⟩ := hrel
    have hs := HB.out.size
    by_cases hlt : k < n
    · have hlz : (k : Int) < (n : Int) := by omega
      have hg_f : l[k]? = some (l[k]'(by have := HL.out; omega)) := List.getElem?_eq_getElem _
      obtain ⟨b_f, off_f, rfl, hbb_f, hc_f⟩ := (HR.out.past HB.out).elem Ent.cells_len hg_f hlt
      have HT_f := Lib.hid (show l.take (k + 1) = l.take k ++ [(l[k]'(by have := HL.out; omega))] from List.take_succ_eq_append_getElem (by have := HL.out; omega))
      have HM_f := Lib.hid (show (l[k]'(by have := HL.out; omega)) ∈ l from List.getElem_mem _)
      have HG_f := Lib.hid hg_f
      generalize (l[k]'(by have := HL.out; omega)) = f at *
      have c0 := hc_f 0 _ rfl
      have c1 := hc_f 1 _ rfl
      have c2 := hc_f 2 _ rfl
      have c3 := hc_f 3 _ rfl
      clear hc_f hg_f
      simp only [Nat.add_zero] at c0
      have bx := HBT.out.past HB.out
      have t0 := (bx).cell 0
      have t1 := (bx).cell 1
      simp at t0 t1
      clear bx
      have hq := fun w => acc_eql ⟨f.k, f.m⟩ s.acc w
      simp only [Spt.acc] at hq
      by_cases h1 : eqA ⟨f.k, f.m⟩ s.acc = true
      · rw [show eqA ⟨f.k, f.m⟩ ⟨s.k, s.m⟩ = true from h1] at hq
        by_cases h2 : f.a = s.a
        · have q2 : (f.a == s.a) = true := by simpa using h2
          have HE := Lib.hid (atB_yes HT_f.out ((spt_eq f s).2 ⟨h1, h2⟩))
          have hal := atB_len (l.take k) s
          rw [List.length_take] at hal
          obtain ⟨m, hm⟩ : ∃ m, Hid ((atB (l.take k) s).length = m) := ⟨_, Lib.hid rfl⟩
          rw [hm.out] at HO hal
          have hmn : m ≤ 1000 := by omega
          clear h1 h2 hal
          go_wp2_with fail
          go_quiet (fail)
          have HB2 := Lib.hid (below_drewN HB.out nq)
          have HO2 := Lib.hid (own_drewN HO.out nq)
          obtain ⟨b3, o3, he3, _, hc3⟩ := (HR.out.past HB2.out).elem Ent.cells_len HG_f.out hlt
          cases he3
          have d3 := hc3 3 _ rfl
          obtain ⟨V, hV⟩ : ∃ V, Hid (wr.drewN nq = V) := ⟨_, Lib.hid rfl⟩
          rw [hV.out] at HB2 HO2 d3
          rw [hV.out]
          have hs2 := HB2.out.size
          clear hc3 c0 c1 c2 c3 t0 t1 hq
          go_wp2_with (at_builtin; refine wpList_append_lit _ _ rfl (.tmp 31) (.tmp 37) 71 rfl W.heap.size 2 i0 _ 1 8 Try.underlying71 hi0 hz0 hz1 hz2 rfl (by decide) _ _ _ rfl HO2.out _ 1 1 rfl (by first | rfl | simp) rfl (by simp [Value.oneCell']) (by omega) (by omega) (by omega) ?_; intro v' w' hown' hg'; have HOWN := Lib.hid hown'; have HBW := Lib.hid (below_own (HB2.out.alloc hs2 _) hg' HO2.out (by simp; omega) (Nat.le_refl _)); clear hown' hg')
          go_roundw
          case rel => exact ⟨k + 1, by omega, by go_num, Lib.hid (by rw [HE.out, List.length_append, hm.out, List.flatMap_append]; exact HOWN.out), HBW⟩
          case measure => simp [intOf]; omega
        · have q2 : (f.a == s.a) = false := by simpa using h2
          have HE := Lib.hid (atB_no HT_f.out (s := s) (fun h => h2 ((spt_eq f s).1 h).2))
          clear h1 h2
          go_wp2_with fail
          go_quiet (fail)
          have HB2 := Lib.hid (below_drewN HB.out nq)
          have HO2 := Lib.hid (own_drewN HO.out nq)
          clear c0 c1 c2 c3 t0 t1 hq
          go_wp2_with fail
          go_roundw
          case rel => exact ⟨k + 1, by omega, by go_num, by rw [HE.out]; exact HO2, HB2⟩
          case measure => simp [intOf]; omega
      · have h1' : eqA ⟨f.k, f.m⟩ ⟨s.k, s.m⟩ = false := by simpa [Spt.acc] using h1
        rw [h1'] at hq
        have HE := Lib.hid (atB_no HT_f.out (s := s) (fun h => h1 ((spt_eq f s).1 h).1))
        clear h1 h1'
        go_wp2_with fail
        go_quiet (fail)
        have HB2 := Lib.hid (below_drewN HB.out nq)
        have HO2 := Lib.hid (own_drewN HO.out nq)
        clear c0 c1 c2 c3 t0 t1 hq
        go_wp2_with fail
        go_roundw
        case rel => exact ⟨k + 1, by omega, by go_num, by rw [HE.out]; exact HO2, HB2⟩
        case measure => simp [intOf]; omega
    · have hlz : ¬ (k : Int) < (n : Int) := by omega
      obtain rfl : n = k := by omega
      have hT : l.take n = l := List.take_of_length_le (by rw [HL.out]; exact Nat.le_refl _)
      have ho := HO.out
      rw [hT] at ho
      have HF := Lib.hid ho
      have HBF := Lib.hid (Below.past HB0.out HB.out hWs)
      clear hT ho HO
      go_wp2_with fail
      go_ret
      exact ⟨_, rfl, own_monoK HF.out hWs, HBF.out⟩

set_option maxHeartbeats 4000000 in
set_option maxRecDepth 100000 in
theorem refOf14_any (P : Option Addr) (n c : Nat) (l : List Ent) (j : Nat) (w : World) (hr : Rd w w.heap.size 4 P n (l.flatMap Ent.cells)) (hn : n ≤ 1000) :
    Calls Try.prog 59 #[.slice P n c, .int .i64 (j : Nat)] w (IntsPost (ofK l j) w) := by
  have HL := Lib.hid (hr.len Ent.cells_len (by omega))
  obtain ⟨i0, hi0, hz0, hz1, hz2⟩ := info_parts int64Info
  have HR := Lib.hid hr
  clear hr
  go_enter Try.func59, Try.ntmps59
  go_wp2_with fail
  go_loopw [5, 6] (fun v i wr => ∃ k : Nat, k ≤ n ∧ i = .int .i64 (k : Nat) ∧ Hid (wr.ownsRow w.heap.size 2 1 v (ofK (l.take k) j).length ((ofK (l.take k) j).flatMap i64Cells)) ∧ Hid (Below w.heap.size w wr)) (fun _ i _ => n - (intOf i).toNat)
  case atStart => exact ⟨0, by omega, rfl, Lib.hid (World.ownsRow_nil _ _ _ _), Lib.hid (Below.refl _ _)⟩
  case round =>
    obtain ⟨k, hk, rfl, HO, HB⟩ := hrel
    have hs := HB.out.size
    by_cases hlt : k < n
    · have hlz : (k : Int) < (n : Int) := by omega
      have hg_f : l[k]? = some (l[k]'(by have := HL.out; omega)) := List.getElem?_eq_getElem _
      obtain ⟨b_f, off_f, rfl, hbb_f, hc_f⟩ := (HR.out.past HB.out).elem Ent.cells_len hg_f hlt
      have HT_f := Lib.hid (show l.take (k + 1) = l.take k ++ [(l[k]'(by have := HL.out; omega))] from List.take_succ_eq_append_getElem (by have := HL.out; omega))
      have HM_f := Lib.hid (show (l[k]'(by have := HL.out; omega)) ∈ l from List.getElem_mem _)
      generalize (l[k]'(by have := HL.out; omega)) = f at *
      have c0 := hc_f 0 _ rfl
      have c1 := hc_f 1 _ rfl
      have c2 := hc_f 2 _ rfl
      have c3 := hc_f 3 _ rfl
      clear hc_f hg_f
      simp only [Nat.add_zero] at c0
      by_cases h2 : f.a = (j : Int)
      · have q2 : (f.a == (j : Int)) = true := by simpa using h2
        have HE : Hid (ofK (l.take (k + 1)) j = ofK (l.take k) j ++ [f.z]) := Lib.hid (by rw [HT_f.out, ofK_snoc, if_pos h2])
        have hal := ofK_len (l.take k) j
        rw [List.length_take] at hal
        obtain ⟨m, hm⟩ : ∃ m, Hid ((ofK (l.take k) j).length = m) := ⟨_, Lib.hid rfl⟩
        rw [hm.out] at HO hal
        have hmn : m ≤ 1000 := by omega
        clear h2 hal
        go_wp2_with (at_builtin; refine wpList_append_lit _ _ rfl (.tmp 20) (.tmp 26) 71 rfl w.heap.size 2 i0 _ 1 8 Try.underlying71 hi0 hz0 hz1 hz2 rfl (by decide) _ _ _ rfl HO.out _ 1 1 rfl (by first | rfl | simp) rfl (by simp [Value.oneCell']) (by omega) (by omega) (by omega) ?_; intro v' w' hown' hg'; have HOWN := Lib.hid hown'; have HBW := Lib.hid (below_own (HB.out.alloc hs _) hg' HO.out (by simp; omega) (Nat.le_refl _)); clear hown' hg')
        go_roundw
        case rel => exact ⟨k + 1, by omega, by go_num, Lib.hid (by rw [HE.out, List.length_append, hm.out, List.flatMap_append]; exact HOWN.out), HBW⟩
        case measure => simp [intOf]; omega
      · have q2 : (f.a == (j : Int)) = false := by simpa using h2
        have HE : Hid (ofK (l.take (k + 1)) j = ofK (l.take k) j) := Lib.hid (by rw [HT_f.out, ofK_snoc, if_neg h2])
        clear h2
        go_wp2_with fail
        go_roundw
        case rel => exact ⟨k + 1, by omega, by go_num, by rw [HE.out]; exact HO, HB⟩
        case measure => simp [intOf]; omega
    · have hlz : ¬ (k : Int) < (n : Int) := by omega
      obtain rfl : n = k := by omega
      have hT : l.take n = l := List.take_of_length_le (by rw [HL.out]; exact Nat.le_refl _)
      have ho := HO.out
      rw [hT] at ho
      have HF := Lib.hid ho
      clear hT ho HO
      go_wp2_with fail
      go_ret
      exact ⟨_, rfl, HF.out, HB.out⟩

theorem refFree_any (s : Spt) (w : World) : Calls Try.prog 63 #[.agg #[.int .i64 s.k, .int .i64 s.m]] w fun e w' => e = .returned (.bool (frB s)) ∧ Below w.heap.size w w' := by
  have bt0 := Blk.new w 52 #[.int .i64 s.k, .int .i64 s.m] w.heap.size rfl
  have hB0 := (Below.refl w.heap.size w).alloc (Nat.le_refl _) (.cells #[.int .i64 s.k, .int .i64 s.m] 52)
  obtain ⟨F, hF⟩ : ∃ F, Hid (frB s = F) := ⟨_, Lib.hid rfl⟩
  have hfi : frB s = (decide (5 ≤ s.k) && decide (s.k ≤ 7)) := by
    unfold frB
    rw [Bool.eq_iff_iff]
    simp
    omega
  rw [hF.out] at hfi
  by_cases h1 : 5 ≤ s.k
  · by_cases h2 : s.k ≤ 7
    · have HF : Hid (F = true) := Lib.hid (by rw [hfi, decide_eq_true h1, decide_eq_true h2]; rfl)
      clear hfi bt0
      go_enter Try.func63, Try.ntmps63
      go_wp2_with fail
      go_ret
      exact ⟨by rw [hF.out, HF.out]; rfl, hB0⟩
    · have HF : Hid (F = false) := Lib.hid (by rw [hfi, decide_eq_false h2]; simp)
      clear hfi bt0
      go_enter Try.func63, Try.ntmps63
      go_wp2_with fail
      go_ret
      exact ⟨by rw [hF.out, HF.out]; rfl, hB0⟩
  · have HF : Hid (F = false) := Lib.hid (by rw [hfi, decide_eq_false h1]; rfl)
    clear hfi bt0
    go_enter Try.func63, Try.ntmps63
    go_wp2_with fail
    go_ret
    exact ⟨by rw [hF.out, HF.out]; rfl, hB0⟩
end Go.Proofs.Ytelbolhckhdioaa
