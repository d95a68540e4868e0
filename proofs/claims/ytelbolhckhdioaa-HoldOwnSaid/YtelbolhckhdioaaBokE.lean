import Derived.Test.YtelbolhckhdioaaBokD
import Derived.IntWalk
namespace Go.Proofs.Ytelbolhckhdioaa
open Go.RowKit Go.ChangeShapes Go.ChangeMaps

theorem zeroIs (w : World) : (zeroValue 71).run Try.prog w = .ok (.slice none 0 0) w := by kernel_rfl
theorem sptInfo : (Try.prog.info? 174).map (fun i => (i.zero, i.size, i.bytes)) = some (some (.agg #[.int .i64 0, .int .i64 0, .int .i64 0]), 3, 24) := by kernel_rfl
theorem madeR9 : madeCells #[Value.slice none 0 0] 9 = matC fun _ => .slice none 0 0 := by kernel_rfl
theorem makeR9 (w : World) : (Instr.makeSlice 169 (.int .i64 9) (.int .i64 9)).run Try.prog w = .ok (.slice (some ⟨w.heap.size, 0, none⟩) 9 9) (w.alloc (.cells (matC fun _ => .slice none 0 0) 71)) :=
  madeR9 ▸ run_make_row' 169 71 (.slice none 0 0) 24 Try.underlying169 int64sInfo rfl .i64 .i64 9 (by omega) (by omega) w
theorem one_atK (g : Nat) (w : World) (t : TypeId) (x : Value) (h : Blk w g t #[x]) : ∀ (j : Nat) (u : Value), ([x] : List Value)[j]? = some u → w.cell? ((⟨g, 0, none⟩ : Addr).add j) = some u := by
  intro j u hu
  have hj : j = 0 := by
    have := (List.getElem?_eq_some_iff.1 hu).1
    simpa using this
  subst hj
  have := h.cell 0
  simp at hu this
  rw [← hu]; simpa [Addr.add] using this
/-- What gathered makes. -/
def GatPost (n : Nat) (l : List Ent) (w : World) (e : Ending) (w' : World) : Prop :=
  ∃ g gm u D R, e = .returned (.tuple #[.map (some g), .slice (some ⟨gm, 0, none⟩) 9 9, u]) ∧ w.heap.size ≤ g ∧ w.heap.size ≤ gm ∧ w'.ownsGroups Try.prog 174 (g + 1) 2 .i64 g n D ∧ GrpIsK D (fun s => atB l s) ∧ MatV w' gm w.heap.size R (fun j => ofK l j) ∧ w'.ownsRow w.heap.size 174 3 u (sptsOf l).length ((sptsOf l).flatMap Spt.cells) ∧ Below w.heap.size w w'

set_option maxHeartbeats 8000000 in
set_option maxRecDepth 100000 in
theorem gathered_any (A : Option Addr) (n c : Nat) (l : List Ent) (w : World) (hrl : Rd w w.heap.size 4 A n (l.flatMap Ent.cells)) (hn : n ≤ 1000) (hok : ∀ e ∈ l, EntOk e ∧ 0 ≤ e.a ∧ e.a < 9) :
    Calls Try.prog 110 #[.slice A n c] w (GatPost n l w) := by
  have HL := Lib.hid (hrl.len Ent.cells_len (by omega))
  have HG := Lib.hid hok
  have HRL := Lib.hid hrl
  obtain ⟨i0, hi0, hz0, hz1, hz2⟩ := info_parts int64Info
  obtain ⟨j0, hj0, jz0, jz1, jz2⟩ := info_parts sptInfo
  have hmm := @run_makeMap Try.prog
  have hmr := makeR9
  have HST0 : Hid (GatSt w w.heap.size (w.heap.size + 1) 0 (.map []) (fun _ => []) (fun _ => .slice none 0 0) (fun _ => []) (.slice none 0 0) [] ((w.alloc (.map #[] 0)).alloc (.cells (matC fun _ => .slice none 0 0) 71))) := Lib.hid (by
    have h1 := World.ownsGroups_made (H := Unit) w Try.prog 174 2 .i64
    have hb : Below (w.alloc (.map #[] 0)).heap.size (w.alloc (.map #[] 0)) ((w.alloc (.map #[] 0)).alloc (.cells (matC fun _ => .slice none 0 0) 71)) := (Below.refl _ _).alloc (Nat.le_refl _) _
    refine ⟨groups_pastK h1 hb, GrpIsK.start, shuns_past (World.Shuns_made _ _) (by simp) hb, ⟨?_, fun j _ => World.ownsRow_nil _ _ _ _, fun i j _ _ _ => apart_nilN _⟩, World.ownsRow_nil _ _ _ _, ((Below.refl _ _).alloc (Nat.le_refl _) _).alloc (by simp) _, Nat.le_refl _, by omega⟩
    have := Blk.new (w.alloc (.map #[] 0)) 71 (matC fun _ => .slice none 0 0) (w.heap.size + 1) (by simp)
    exact this)
  obtain ⟨W0, hW0⟩ : ∃ W, Hid ((w.alloc (.map #[] 0)).alloc (.cells (matC fun _ => .slice none 0 0) 71) = W) := ⟨_, Lib.hid rfl⟩
  rw [hW0.out] at HST0
  obtain ⟨g, hg0⟩ : ∃ g, Hid (w.heap.size = g) := ⟨_, Lib.hid rfl⟩
  obtain ⟨gm, hgm0⟩ : ∃ gm, Hid (g + 1 = gm) := ⟨_, Lib.hid rfl⟩
  have HST1 : Hid (GatSt w g gm 0 (.map []) (fun s => atB (l.take 0) s) (fun _ => .slice none 0 0) (fun j => ofK (l.take 0) j) (.slice none 0 0) (sptsOf (l.take 0)) W0) := Lib.hid (by rw [← hgm0.out, ← hg0.out]; exact HST0.out)
  clear hrl hok HST0
  go_enter Try.func110, Try.ntmps110
  go_upto_region 3 with fail
  rw [hW0.out]
  rw [hg0.out, hgm0.out]
  clear hmm hmr
  go_wp2_with fail
  go_loopw [7, 15] (fun v7 i wr => ∃ k D R, k ≤ n ∧ i = .int .i64 (k : Nat) ∧ Hid (GatSt w g gm k D (fun s => atB (l.take k) s) R (fun j => ofK (l.take k) j) v7 (sptsOf (l.take k)) wr)) (fun _ i _ => n - (intOf i).toNat)
  case atStart => exact ⟨0, _, _, by omega, rfl, HST1⟩
  case round =>
    clear HST1
    obtain ⟨k, D, R, hk, rfl, HS⟩ := hrel
    have hbel := HS.out.below
    by_cases hlt : k < n
    · have hlz : (k : Int) < (n : Int) := by omega
      have hg_f : l[k]? = some (l[k]'(by have := HL.out; omega)) := List.getElem?_eq_getElem _
      obtain ⟨b_f, off_f, rfl, hbb_f, hc_f⟩ := (HRL.out.below hbel).elem Ent.cells_len hg_f hlt
      have HT_f := Lib.hid (show l.take (k + 1) = l.take k ++ [(l[k]'(by have := HL.out; omega))] from List.take_succ_eq_append_getElem (by have := HL.out; omega))
      have HM_f := Lib.hid (show (l[k]'(by have := HL.out; omega)) ∈ l from List.getElem_mem _)
      generalize (l[k]'(by have := HL.out; omega)) = f at *
      have c0 := hc_f 0 _ rfl
      have c1 := hc_f 1 _ rfl
      have c2 := hc_f 2 _ rfl
      have c3 := hc_f 3 _ rfl
      clear hc_f hg_f
      simp only [Nat.add_zero] at c0
      have hz := HG.out f HM_f.out
      obtain ⟨⟨hk1, hk2, hk3, hk4⟩, ha0, ha9⟩ := hz
      obtain ⟨kl, hkl⟩ := spt_key f.spt hk1 hk2 hk3
      have HKL := Lib.hid hkl
      have hwf : (Lit.int .i64 f.z).wf = true := WalkArith.wf_i64 (by unfold inI at hk4; omega)
      have HWF := Lib.hid hwf
      obtain ⟨j, hja⟩ := Int.eq_ofNat_of_zero_le ha0
      have HJA : Hid (f.a = (j : Int)) := Lib.hid hja
      have hj9 : j < 9 := by omega
      clear hja ha0 ha9
      have hgl := HS.out.gl
      have bX := Blk.new wr 110 #[.int .i64 f.k, .int .i64 f.m, .int .i64 f.a, .int .i64 f.z] wr.heap.size rfl
      have hb1 := (Below.refl wr.heap.size wr).alloc (Nat.le_refl _) (.cells #[.int .i64 f.k, .int .i64 f.m, .int .i64 f.a, .int .i64 f.z] 110)
      obtain ⟨W1, hW1⟩ : ∃ W, Hid (wr.alloc (.cells #[.int .i64 f.k, .int .i64 f.m, .int .i64 f.a, .int .i64 f.z] 110) = W) := ⟨_, Lib.hid rfl⟩
      rw [hW1.out] at bX hb1
      have hW1s : W1.heap.size = wr.heap.size + 1 := by rw [← hW1.out]; simp
      have bS := Blk.new W1 174 #[.int .i64 f.k, .int .i64 f.m, .int .i64 f.a] (wr.heap.size + 1) (by omega)
      have hb3' := (Below.refl W1.heap.size W1).alloc (Nat.le_refl _) (.cells #[.int .i64 f.k, .int .i64 f.m, .int .i64 f.a] 174)
      have hb3 := Below.past hb1 hb3' (by omega)
      have bX3 := bX.past hb3'
      obtain ⟨W3, hW3⟩ : ∃ W, Hid (W1.alloc (.cells #[.int .i64 f.k, .int .i64 f.m, .int .i64 f.a] 174) = W) := ⟨_, Lib.hid rfl⟩
      rw [hW3.out] at bS hb3 bX3
      have hW3s : W3.heap.size = wr.heap.size + 2 := by rw [← hW3.out]; simp; omega
      have HS3 := Lib.hid (HS.out.past hb3)
      have hul : ∀ k, u7.ownBlock = some k → k < wr.heap.size := fun k e => (HS.out.ord.lt k e).2
      have HUL := Lib.hid hul
      have x0 := (bX).cell 0
      have x1 := (bX).cell 1
      have x2 := (bX).cell 2
      have x3 := (bX).cell 3
      simp at x0 x1 x2 x3
      go_upto_region 7 with fail
      rw [hW1.out]
      go_upto_region 8 with fail
      rw [hW3.out]
      have HX3 := Lib.hid bX3
      have HSB := Lib.hid bS
      clear x0 x1 x2 x3 c0 c1 c2 c3 bX hkl hwf hb1 hb3 hb3' bX3 hul hbel HS
      have y0 := (bS).cell 0
      have y1 := (bS).cell 1
      have y2 := (bS).cell 2
      simp at y0 y1 y2
      clear bS
      have HATZ : Hid (∀ zs, zs = atB (l.take k) f.spt → (f.spt ∈ sptsOf (l.take k) ↔ zs ≠ [])) := Lib.hid fun zs e => by rw [e]; exact spts_at
      have HSN := Lib.hid (show sptsOf (l.take (k + 1)) = if f.spt ∈ sptsOf (l.take k) then sptsOf (l.take k) else sptsOf (l.take k) ++ [f.spt] by rw [HT_f.out]; exact sptsOf_snoc _ _)
      have hnl : (sptsOf (l.take k)).length ≤ 1000 := Nat.le_trans (spts_len _) (by rw [List.length_take]; omega)
      obtain ⟨B, hB⟩ : ∃ B, Hid (decide (¬ f.spt ∈ sptsOf (l.take k)) = B) := ⟨_, Lib.hid rfl⟩
      go_cut [28] from 24 to 28 (fun v w' => v = .bool B ∧ W3 = w')
      case first =>
        by_cases hmem : f.spt ∈ sptsOf (l.take k)
        · have HB := Lib.hid (hB.out.symm.trans (decide_eq_false (fun h => h hmem)))
          go_wp2_with (at_lookup; refine wpList_lookup_groups _ rfl _ _ 168 rfl 174 71 2 .i64 spLaw Try.underlying168 (zeroIs _) (g + 1) g k D rfl HS3.out.grp (by unfold maxLen; omega) _ kl rfl HKL.out ?_; intro v zs hat hoi hzl hback; clear hback; obtain ⟨Az, cz, rfl⟩ := own_form hoi.1; have HZS := (HATZ.out zs (grp_rowK hoi ((HS3.out.is.2 _ kl HKL.out).2.symm.trans hat))).1 hmem; have hzq : ((zs.length : Int) == 0) = false := (by cases zs with | nil => exact absurd rfl HZS | cons => simp; omega); clear hat hoi HZS)
          go_meet
          exact ⟨by rw [HB.out], rfl⟩
        · have HB := Lib.hid (hB.out.symm.trans (decide_eq_true hmem))
          go_wp2_with (at_lookup; refine wpList_lookup_groups _ rfl _ _ 168 rfl 174 71 2 .i64 spLaw Try.underlying168 (zeroIs _) (g + 1) g k D rfl HS3.out.grp (by unfold maxLen; omega) _ kl rfl HKL.out ?_; intro v zs hat hoi hzl hback; clear hback; obtain ⟨Az, cz, rfl⟩ := own_form hoi.1; obtain rfl : zs = [] := (Classical.byContradiction fun hc => hmem ((HATZ.out zs (grp_rowK hoi ((HS3.out.is.2 _ kl HKL.out).2.symm.trans hat))).2 hc)); clear hat hoi)
          go_meet
          exact ⟨by rw [HB.out], rfl⟩
      case rest =>
      obtain ⟨rfl, rfl⟩ := hcut
      go_upto_if 28 with fail
      go_cut [7] from 28 to 32 (fun v w' => Hid (GatSt w g gm k D (fun s => atB (l.take k) s) R (fun j => ofK (l.take k) j) v (sptsOf (l.take (k + 1))) w') ∧ Hid (Blk w' wr.heap.size 110 #[.int .i64 f.k, .int .i64 f.m, .int .i64 f.a, .int .i64 f.z]) ∧ Hid (Blk w' (wr.heap.size + 1) 174 #[.int .i64 f.k, .int .i64 f.m, .int .i64 f.a]) ∧ wr.heap.size + 2 ≤ w'.heap.size)
      case first =>
        by_cases hmem : f.spt ∈ sptsOf (l.take k)
        · have HSN2 := Lib.hid (HSN.out.trans (if_pos hmem))
          have h5 : B = false := hB.out.symm.trans (decide_eq_false (fun h => h hmem))
          subst h5
          go_wp2_with fail
          go_meet
          exact ⟨by rw [HSN2.out]; exact HS3, HX3, HSB, by omega⟩
        · have HSN2 := Lib.hid (HSN.out.trans (if_neg hmem))
          have h5 : B = true := hB.out.symm.trans (decide_eq_true hmem)
          subst h5
          obtain ⟨m, hm⟩ : ∃ m, Hid ((sptsOf (l.take k)).length = m) := ⟨_, Lib.hid rfl⟩
          have HO3 := Lib.hid HS3.out.ord
          rw [hm.out] at HO3 hnl
          have hwB : w.heap.size ≤ W3.heap.size := HS3.out.below.size
          go_wp2_with (at_builtin; go_loud (refine wpList_append_lit_atN _ _ rfl (.tmp 29) (.tmp 31) 170 rfl w.heap.size 174 j0 _ 3 24 Try.underlying170 hj0 jz0 jz1 jz2 rfl (by decide) _ _ _ rfl HO3.out _ 1 1 rfl (by first | rfl | omega) rfl (by simp [Value.oneCell']) (by omega) (by omega) (by omega) ?_; intro U w4 hown' hg' hd; have HOWN := Lib.hid hown'; have HGR := Lib.hid hg'; clear hown' hg' hd))
          have HSA := Lib.hid (HS3.out.past ((Below.refl _ _).alloc (Nat.le_refl _) (.cells #[.int .i64 f.k, .int .i64 f.m, .int .i64 f.a] 174)))
          have HS4 : Hid (GatSt w g gm k D (fun s => atB (l.take k) s) R (fun j => ofK (l.take k) j) U (sptsOf (l.take (k + 1))) w4) := Lib.hid (HSA.out.ordGrown HGR.out (by rw [HSN2.out, List.length_append, hm.out, List.flatMap_append]; exact HOWN.out))
          have HX4 := Lib.hid ((HX3.out.alloc (.cells #[.int .i64 f.k, .int .i64 f.m, .int .i64 f.a] 174)).grown HGR.out (fun e => by have := HUL.out _ e; omega))
          have HB4 := Lib.hid ((HSB.out.alloc (.cells #[.int .i64 f.k, .int .i64 f.m, .int .i64 f.a] 174)).grown HGR.out (fun e => by have := HUL.out _ e; omega))
          have hsz := HGR.out.size
          simp only [World.size_alloc] at hsz
          go_meet
          exact ⟨HS4, HX4, HB4, by omega⟩
      case rest =>
      obtain ⟨HS4, HX4, HB4, hw4s⟩ := hcut
      have HS5 := Lib.hid (HS4.out.past ((Below.refl _ _).alloc (Nat.le_refl _) (.cells #[.int .i64 f.z] 2)))
      have HL5 := Lib.hid (Blk.new wc 2 #[.int .i64 f.z] wc.heap.size rfl)
      have hwf := HWF.out
      have hgc : g < wc.heap.size := HS4.out.gl
      have hbx := HX4.out
      have hbs := HB4.out
      have x0 := (hbx).cell 0
      have x1 := (hbx).cell 1
      have x2 := (hbx).cell 2
      have x3 := (hbx).cell 3
      simp at x0 x1 x2 x3
      have y0 := (hbs).cell 0
      have y1 := (hbs).cell 1
      have y2 := (hbs).cell 2
      simp at y0 y1 y2
      have hBc : w.heap.size ≤ g := HS4.out.hg
      clear hbx hbs
      go_wp2_with (first
        | (refine wpList_mapEntry_groupsS _ rfl _ _ 168 rfl 174 71 2 .i64 spLaw Try.underlying168 zeroIs (g + 1) g k D (NoG gm R) rfl HS5.out.grp HS5.out.sh (by unfold maxLen; omega) _ kl rfl HKL.out ?_; intro v st zs w5 hat hoi hzl hg5 hs5 hsv hback; have HAT := Lib.hid hat; have HOI := Lib.hid hoi; have HBK := Lib.hid hback; have HSV := Lib.hid hsv; have HG5 := Lib.hid hg5; have hs5' : wc.heap.size + 1 = w5.heap.size := (by rw [hs5]; simp); have HL6 := Lib.hid (HL5.out.grown hg5 (fun e => (by cases e; omega))); clear hat hoi hback hs5 hg5 hsv)
        | (at_builtin; refine wpList_append_own_at _ rfl _ _ 71 rfl (g + 1) 2 i0 (.int .i64 0) 1 8 Try.underlying71 hi0 hz0 hz1 hz2 rfl (by decide) _ _ _ rfl HOI.out.1 ⟨wc.heap.size, 0, none⟩ 1 1 [.int .i64 f.z] rfl rfl (one_atK wc.heap.size w5 2 _ HL6.out) (ints_oneCell .i64 [f.z]) (by unfold maxLen; omega) (by omega) (by omega) ?_; intro v' w6 hown' hgrow hnil hloc; have HO6 := Lib.hid hown'; have HG6 := Lib.hid hgrow; have HLC := Lib.hid hloc; clear hown' hgrow hnil hloc)
        | (refine wpList_entryStore_backS _ rfl _ _ _ 168 rfl HBK.out rfl rfl rfl HG6.out (HOI.out.appended HO6.out hwf) (by simp; omega) (HLC.out.imp id (fun h => ⟨_, h, Nat.le_refl _⟩)) (fun g' hg' hn' => by
            have hg2 : v'.ownBlock = some g' := hg'
            rcases HLC.out with h | h
            · rw [h] at hg2; exact HSV.out g' hg2 hn'
            · rw [h] at hg2; cases hg2; exact HS5.out.noNew (by simp only [World.size_alloc]; omega) hn') ?_; intro w7 hown7 hg7 hsh7; have HO7 := Lib.hid hown7; have HG7 := Lib.hid hg7; have HSH7 := Lib.hid hsh7; clear hown7 hg7 hsh7))
      have HS7 : Hid (GatSt w g gm (k + 1) (D.put kl (.slice (lits .i64 (zs ++ [f.z])) [])) (fun s => atB (l.take (k + 1)) s) R (fun j => ofK (l.take k) j) u7 (sptsOf (l.take (k + 1))) w7) := Lib.hid (by
        have hzs : zs = atB (l.take k) f.spt := grp_rowK HOI.out ((HS5.out.is.2 _ kl HKL.out).2.symm.trans HAT.out)
        have hd := (HOI.out.appended HO6.out hwf).datum_pos (H := Unit) (by simp)
        have ho7 : w7.ownsGroups Try.prog 174 (g + 1) 2 .i64 g (k + 1) (D.put kl (rowDatum .i64 v' (zs ++ [f.z]))) := HO7.out
        rw [hd] at ho7
        have hupd := atB_upd (l.take k) f
        rw [← HT_f.out] at hupd
        have his := HS5.out.is.put HKL.out hupd (by simp)
        rw [← hzs] at his
        exact HS5.out.entry HG5.out HOI.out HSV.out HG6.out HG7.out ho7 his HSH7.out)
      have bX5 := (HX4.out.alloc (.cells #[.int .i64 f.z] 2)).grown HG5.out (fun e => by cases e; omega)
      have bX6 := bX5.grown HG6.out (own_blk_ne HOI.out.1 bX5 (by decide))
      have bX7 := bX6.grown HG7.out (fun e => by cases e; omega)
      have hs75 := HG7.out.size
      have hs65 := HG6.out.size
      clear x0 x1 x2 x3 y0 y1 y2 bX5 bX6 HS5 HL5 HB4 HX4 HS4 HAT HOI HBK HSV HG5 HL6 HO6 HG6 HLC HO7 HG7 HSH7 hwf
      generalize D.put kl (.slice (lits .i64 (zs ++ [f.z])) []) = DD at HS7
      have x2 := bX7.cell 2
      have x3 := bX7.cell 3
      simp at x2 x3
      rw [HJA.out] at x2
      have HOFJ : Hid (ofK (l.take (k + 1)) j = ofK (l.take k) j ++ [f.z]) := Lib.hid (by rw [HT_f.out, ofK_snoc, if_pos HJA.out])
      have HOFI : Hid (∀ i, i ≠ j → ofK (l.take (k + 1)) i = ofK (l.take k) i) := Lib.hid fun i hi => by
        rw [HT_f.out, ofK_snoc, if_neg (fun e => hi (by have := HJA.out; omega))]
      have bM7 := HS7.out.mat.blk
      have cM := (bM7.cell j).trans (matC_get R j hj9)
      have hoz := HS7.out.mat.row j hj9
      have hoz : w7.ownsRow w.heap.size 2 1 (R j) (ofK (l.take k) j).length ((ofK (l.take k) j).flatMap i64Cells) := hoz
      obtain ⟨m, hm⟩ : ∃ m, Hid ((ofK (l.take k) j).length = m) := ⟨_, Lib.hid rfl⟩
      have hml : m ≤ 1000 := by
        rw [← hm.out]; unfold ofK; rw [List.length_map]
        exact Nat.le_trans (List.length_filter_le _ _) (by rw [List.length_take]; omega)
      rw [hm.out] at hoz
      obtain ⟨Rj, hRj⟩ : ∃ r, Hid (R j = r) := ⟨_, Lib.hid rfl⟩
      rw [hRj.out] at cM hoz
      have hjz : (j : Int) < 9 := by omega
      have hwB7 : w.heap.size ≤ w7.heap.size := HS7.out.below.size
      have hgm7 := bM7.lt
      have hwr7 := bX7.lt
      have HS7b := Lib.hid (HS7.out.past (Below.drew ((Below.refl _ _).alloc (Nat.le_refl _) (.cells #[.int .i64 f.z] 2))))
      have HBX7 := Lib.hid bX7
      clear bX7
      go_upto_region 11 with fail
      go_region_law (refine step_append_blkK rfl (.tmp 49) (.tmp 52) 71 rfl w.heap.size 2 i0 _ 1 8 Try.underlying71 hi0 hz0 hz1 hz2 rfl (by decide) Rj m ((ofK (l.take k) j).flatMap i64Cells) (by simp [Act.eval, Act.put]) (by first | exact hoz.alloc _ | exact own_drewN (hoz.alloc _) 1) w7.heap.size 1 1 #[.int .i64 f.z] (by simp [Act.eval, Act.put]) (by exact Blk.new w7 2 _ _ rfl) rfl (by simp [Value.oneCell']) (by omega) (by omega) (by simp; omega) ?_; intro v2 w8 hown' hg' hd; obtain ⟨A', c', rfl⟩ := own_form hown'; have bz : Blk w8 gm 71 (matC R) := Blk.grown (by first | exact bM7.alloc _ | exact (bM7.alloc _).drewN 1) hg' (own_blk_ne hoz bM7 (by decide)); have bXw : Blk w8 wr.heap.size 110 #[.int .i64 f.k, .int .i64 f.m, .int .i64 f.a, .int .i64 f.z] := Blk.grown (by first | exact HBX7.out.alloc _ | exact (HBX7.out.alloc _).drewN 1) hg' (own_blk_ne hoz HBX7.out (by decide)); have xw2 := bXw.cell 2; simp at xw2; rw [HJA.out] at xw2; have HS8 : Hid (GatSt w g gm (k + 1) DD (fun s => atB (l.take (k + 1)) s) (setR R j (.slice A' (m + 1) c')) (fun i => ofK (l.take (k + 1)) i) u7 (sptsOf (l.take (k + 1))) (w8.setCell ⟨gm, j, none⟩ (.slice A' (m + 1) c'))) := Lib.hid (GatSt.asset HS7b.out hj9 (by rw [hRj.out]; exact hg') (by show w8.ownsRow w.heap.size _ 1 (.slice A' (m + 1) c') (ofK (l.take (k + 1)) j).length ((ofK (l.take (k + 1)) j).flatMap i64Cells); rw [HOFJ.out, List.length_append, hm.out, List.flatMap_append]; exact hown') HOFI.out (by rw [hRj.out]; exact hd.imp id (fun h => ⟨_, h, by first | exact Nat.le_refl _ | simp⟩))); have z1 := (bz.cell j).trans (matC_get R j hj9); have zf := bz.frozen j; rw [hRj.out] at z1; clear hown' hg' hd bXw)
      all_goals
        clear cM hoz bM7 x2 x3 xw2
        go_wp2_with fail
        go_roundw
        case rel => exact ⟨k + 1, _, _, by omega, by go_num, HS8⟩
        case measure => simp [intOf]; omega
    · have hlz : ¬ (k : Int) < (n : Int) := by omega
      obtain rfl : n = k := by omega
      have hT : l.take n = l := List.take_of_length_le (by rw [HL.out]; exact Nat.le_refl _)
      rw [hT] at HS
      have HSF := Lib.hid HS.out
      go_wp2_with fail
      refine bodyPost_ret (v := .tuple #[.map (some g), .slice (some ⟨gm, 0, none⟩) 9 9, u7]) (by simp [results, Try.results110, go_sem]) rfl ⟨g, gm, u7, D, R, rfl, HSF.out.hg, HSF.out.hgm, HSF.out.grp, HSF.out.is, HSF.out.mat, HSF.out.ord, HSF.out.below⟩
end Go.Proofs.Ytelbolhckhdioaa
