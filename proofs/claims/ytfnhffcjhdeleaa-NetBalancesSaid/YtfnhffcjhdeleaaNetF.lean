import Derived.Test.YtfnhffcjhdeleaaNetE
namespace Go.Proofs.Ytfnhffcjhdeleaa
open Go.RowKit Go.ChangeShapes

theorem zeroKs (w : World) : (zeroValue 35).run Try.prog w = .ok (.slice none 0 0) w := by kernel_rfl
theorem legInfoN : (Try.prog.info? 97).map (fun i => (i.zero, i.size, i.bytes)) = some (some (.agg #[.int .i64 0, .int .i64 0, .int .i64 0]), 3, 24) := by kernel_rfl
theorem i64InfoN : (Try.prog.info? 2).map (fun i => (i.zero, i.size, i.bytes)) = some (some (.int .i64 0), 1, 8) := by kernel_rfl
theorem ints_flat (l : List Int) : l.map (Value.int .i64) = l.flatMap i64Cells := by
  induction l with
  | nil => rfl
  | cons x l ih => rw [List.map_cons, List.flatMap_cons, ih]; rfl
/-- The groups behind some of the legs. -/
structure GrpRel (W : World) (g : Nat) (legs : List Leg) (k : Nat) (wr : World) : Prop where
  grp : ∃ D : DataW Unit, wr.ownsGroups Try.prog 160 (g + 1) 2 .i64 g k D ∧ GrpIs D (fun s => owedL (legs.take k) s.m s.a)
  below : Below W.heap.size W wr
  size : g + 1 ≤ wr.heap.size
theorem one_at (g : Nat) (w : World) (t : TypeId) (x : Value) (h : Blk w g t #[x]) : ∀ (j : Nat) (u : Value), ([x] : List Value)[j]? = some u → w.cell? ((⟨g, 0, none⟩ : Addr).add j) = some u := by
  intro j u hu
  have hj : j = 0 := by
    have := (List.getElem?_eq_some_iff.1 hu).1
    simpa using this
  subst hj
  have := h.cell 0
  simp at hu this
  rw [← hu]; simpa [Addr.add] using this
theorem amount_outN {z : Int} (h : ¬ inI z) : amount z = 0 ∧ over z = 2 := ⟨if_neg h, if_neg h⟩
def NetsPost (w : World) (E : Int) (L : List Leg) (e : Ending) (w' : World) : Prop :=
  ∃ v, e = .returned (.tuple #[v, .int .i64 E]) ∧ w'.ownsRow w.heap.size 97 3 v L.length (L.flatMap Leg.cells) ∧ Below w.heap.size w w'

set_option maxHeartbeats 8000000 in
set_option maxRecDepth 100000 in
theorem nets_any (A1 A2 A3 : Option Addr) (n1 n2 n3 cp1 cp2 cp3 : Nat) (cf : Conf) (A : Option Addr) (n c : Nat) (legs : List Leg) (w : World) (hr : CfRd w A1 n1 A2 n2 A3 n3 cf) (hrl : Rd w w.heap.size 3 A n (legs.flatMap Leg.cells)) (hn : n ≤ 1000) (hg : ∀ x ∈ legs, inI x.amount) :
    Calls Try.prog 51 #[.agg #[.slice A1 n1 cp1, .slice A2 n2 cp2, .slice A3 n3 cp3, .int .i64 cf.line, .int .i64 cf.capital, .int .i64 cf.lead, .int .i64 cf.trades, .int .i64 cf.bids], .slice A n c] w (NetsPost w (netK n1 n2 legs) (netR n1 n2 legs)) := by
  have HL := Lib.hid (hrl.len Leg.cells_len (by omega))
  have HG := Lib.hid hg
  have hn1 := hr.hm
  have hn2 := hr.hs
  obtain ⟨i0, hi0, hz0, hz1, hz2⟩ := info_parts i64InfoN
  obtain ⟨j0, hj0, jz0, jz1, jz2⟩ := info_parts legInfoN
  obtain ⟨W, hW⟩ : ∃ W, Hid (w.alloc (.cells #[.slice A1 n1 cp1, .slice A2 n2 cp2, .slice A3 n3 cp3, .int .i64 cf.line, .int .i64 cf.capital, .int .i64 cf.lead, .int .i64 cf.trades, .int .i64 cf.bids] 89) = W) := ⟨_, Lib.hid rfl⟩
  have hB0 : Below w.heap.size w W := by rw [← hW.out]; exact (Below.refl _ _).alloc (Nat.le_refl _) _
  have hWs : W.heap.size = w.heap.size + 1 := by rw [← hW.out]; simp
  have bc0 : Blk W w.heap.size 89 #[.slice A1 n1 cp1, .slice A2 n2 cp2, .slice A3 n3 cp3, .int .i64 cf.line, .int .i64 cf.capital, .int .i64 cf.lead, .int .i64 cf.trades, .int .i64 cf.bids] := by
    rw [← hW.out]; exact Blk.new w _ _ _ rfl
  have HC0 := Lib.hid bc0
  have HR0 := Lib.hid (hr.past hB0)
  have HRL := Lib.hid (hrl.past hB0)
  have q0 : ¬ (1024 : Int) < (n : Int) := by omega
  obtain ⟨g, hgW⟩ : ∃ g, Hid (W.heap.size = g) := ⟨_, Lib.hid rfl⟩
  have HR1 : Hid (GrpRel W g legs 0 (W.alloc (.map #[] 0))) := Lib.hid (by
    rw [← hgW.out]
    exact ⟨⟨.map [], World.ownsGroups_made _ _ _ _ _, GrpIs.start⟩, (Below.refl _ _).alloc (Nat.le_refl _) _, by simp⟩)
  have hmm := @run_makeMap Try.prog
  have HWS := Lib.hid hWs
  clear bc0 hr hrl hg hWs
  go_enter Try.func51, Try.ntmps51
  go_upto_region 1 with fail
  rw [hW.out]
  go_wp2_with fail
  rw [hgW.out]
  have hgw : g = w.heap.size + 1 := by rw [← hgW.out]; exact HWS.out
  have Hgw := Lib.hid hgw
  have hgl : w.heap.size < g := by omega
  clear hgw hmm
  go_loopw [22] (fun i wr => ∃ k : Nat, k ≤ n ∧ i = .int .i64 k ∧ Hid (firstK n1 n2 (legs.take k) = 0) ∧ Hid (GrpRel W g legs k wr)) (fun i _ => n - (intOf i).toNat)
  case atStart => exact ⟨0, by omega, rfl, Lib.hid rfl, HR1⟩
  case round =>
    obtain ⟨k, hk, rfl, HFK, HR⟩ := hrel
    by_cases hlt : k < n
    · have hlz : (k : Int) < (n : Int) := by omega
      have hb := HR.out.below
      have hs := HR.out.size
      have hg_f : legs[k]? = some (legs[k]'(by have := HL.out; omega)) := List.getElem?_eq_getElem _
      obtain ⟨b_f, off_f, rfl, hbb_f, hc_f⟩ := (HRL.out.below hb).elem Leg.cells_len hg_f hlt
      have HT_f := Lib.hid (show legs.take (k + 1) = legs.take k ++ [(legs[k]'(by have := HL.out; omega))] from List.take_succ_eq_append_getElem (by have := HL.out; omega))
      have HM_f := Lib.hid (show (legs[k]'(by have := HL.out; omega)) ∈ legs from List.getElem_mem _)
      generalize (legs[k]'(by have := HL.out; omega)) = f at *
      have c0 := hc_f 0 _ rfl
      have c1 := hc_f 1 _ rfl
      have c2 := hc_f 2 _ rfl
      clear hc_f hg_f
      simp only [Nat.add_zero] at c0
      obtain ⟨D, hown, hD⟩ := HR.out.grp
      have HOW := Lib.hid hown
      have HDD := Lib.hid hD
      have hbo := (Below.refl wr.heap.size wr).alloc (Nat.le_refl _) (.cells #[.int .i64 f.member, .int .i64 f.asset, .int .i64 f.amount] 97)
      have hB1 := Below.past hb hbo hb.size
      have HB1 := Lib.hid hB1
      have HOW1 := Lib.hid (groups_past hown hbo)
      have HX1 := Lib.hid (Blk.new wr 97 #[.int .i64 f.member, .int .i64 f.asset, .int .i64 f.amount] wr.heap.size rfl)
      clear hown hD hb hbo hB1 HR
      obtain ⟨W1, hW1⟩ : ∃ W, Hid (wr.alloc (.cells #[.int .i64 f.member, .int .i64 f.asset, .int .i64 f.amount] 97) = W) := ⟨_, Lib.hid rfl⟩
      rw [hW1.out] at HB1 HOW1 HX1
      have HCK := Lib.hid (netCheck_any A1 A2 A3 n1 n2 n3 cp1 cp2 cp3 cf f W1 (HR0.out.past HB1.out))
      have bc1 := HC0.out.past HB1.out
      have bx1 := HX1.out
      have e0 := (bc1).cell 0
      have e1 := (bc1).cell 1
      have e2 := (bc1).cell 2
      have e3 := (bc1).cell 3
      have e4 := (bc1).cell 4
      have e5 := (bc1).cell 5
      have e6 := (bc1).cell 6
      have e7 := (bc1).cell 7
      simp at e0 e1 e2 e3 e4 e5 e6 e7
      have x0 := (bx1).cell 0
      have x1 := (bx1).cell 1
      have x2 := (bx1).cell 2
      simp at x0 x1 x2
      have HFS := Lib.hid (show firstK n1 n2 (legs.take (k + 1)) = legK n1 n2 f by rw [HT_f.out]; exact firstK_snoc HFK.out)
      clear bc1 bx1
      go_upto_region 7 with fail
      rw [hW1.out]
      by_cases hlk : legK n1 n2 f = 0
      · have HLK := Lib.hid hlk
        rw [hlk] at HCK HFS
        clear hlk
        have hsW1 := HX1.out.lt
        go_wp2_with fail
        refine HCK.out.mono ?_
        rintro e w2 ⟨rfl, hb2⟩
        have hs2 := hb2.size
        have HX2 := Lib.hid (HX1.out.past hb2)
        have HB2 := Lib.hid (Below.past HB1.out hb2 HB1.out.size)
        have HOW2 := Lib.hid (groups_past HOW1.out hb2)
        have bx2 := HX2.out
        clear e0 e1 e2 e3 e4 e5 e6 e7 x0 x1 x2 hb2
        have x0 := (bx2).cell 0
        have x1 := (bx2).cell 1
        have x2 := (bx2).cell 2
        simp at x0 x1 x2
        clear bx2
        have hlkz := legK_ok HLK.out
        have hin := HG.out f HM_f.out
        rw [gridS_mem] at hlkz
        simp only at hlkz
        obtain ⟨kl, hkl⟩ := sid_key ⟨f.member, f.asset⟩ (by unfold inI; simp only; omega) (by unfold inI; simp only; omega)
        have HKL := Lib.hid hkl
        have hwf : (Lit.int .i64 f.amount).wf = true := WalkArith.wf_i64 (by unfold inI at hin; omega)
        have HIN := Lib.hid hin
        have hb3 := (Below.refl w2.heap.size w2).alloc (Nat.le_refl _) (.cells #[.int .i64 f.member, .int .i64 f.asset] 160)
        have HX3 := Lib.hid (HX2.out.past hb3)
        have HB3 := Lib.hid (Below.past HB2.out hb3 HB2.out.size)
        have HOW3 := Lib.hid (groups_past HOW2.out hb3)
        have HS3 := Lib.hid (Blk.new w2 160 #[.int .i64 f.member, .int .i64 f.asset] w2.heap.size rfl)
        clear hb3 hin hlkz hkl
        obtain ⟨W3, hW3⟩ : ∃ W, Hid (w2.alloc (.cells #[.int .i64 f.member, .int .i64 f.asset] 160) = W) := ⟨_, Lib.hid rfl⟩
        rw [hW3.out] at HX3 HB3 HOW3 HS3
        have hg3 : g + 1 ≤ W3.heap.size := by have := HS3.out.lt; omega
        go_upto_region 11 with fail
        rw [hW3.out]
        have bx3 := HX3.out
        have bs3 := HS3.out
        clear x0 x1 x2
        have x0 := (bx3).cell 0
        have x1 := (bx3).cell 1
        have x2 := (bx3).cell 2
        simp at x0 x1 x2
        have y0 := (bs3).cell 0
        have y1 := (bs3).cell 1
        simp at y0 y1
        clear bx3 bs3
        have HOW4 := Lib.hid (groups_past HOW3.out ((Below.refl _ _).alloc (Nat.le_refl _) (.cells #[.int .i64 f.amount] 2)))
        have HB4 := Lib.hid (HB3.out.alloc HB3.out.size (.cells #[.int .i64 f.amount] 2))
        have HY4 := Lib.hid (Blk.new W3 2 #[.int .i64 f.amount] W3.heap.size rfl)
        go_wp2_with (first
          | (refine wpList_mapEntry_groups _ rfl _ _ 157 rfl 160 35 2 .i64 sidLaw Try.underlying157 zeroKs (g + 1) g k D rfl HOW4.out (by unfold maxLen; omega) _ kl rfl HKL.out ?_; intro v st zs w5 hat hoi hzl hg5 hs5 hback; have HAT := Lib.hid hat; have HOI := Lib.hid hoi; have HBK := Lib.hid hback; have HS5 := Lib.hid hs5; have HG5 := Lib.hid hg5; have hs5' : W3.heap.size + 1 ≤ w5.heap.size := (by rw [hs5]; simp); have HY5 := Lib.hid (HY4.out.grown hg5 (fun e => (by cases e; omega))); clear hat hoi hback hs5 hg5)
          | (at_builtin; refine wpList_append_own_at _ rfl _ _ 35 rfl (g + 1) 2 i0 (.int .i64 0) 1 8 Try.underlying35 hi0 hz0 hz1 hz2 rfl (by decide) _ _ _ rfl HOI.out.1 ⟨W3.heap.size, 0, none⟩ 1 1 [.int .i64 f.amount] rfl rfl (one_at W3.heap.size w5 2 _ HY5.out) (ints_oneCell .i64 [f.amount]) (by unfold maxLen; omega) (by omega) (by omega) ?_; intro v' w6 hown' hgrow hnil hloc; have HO6 := Lib.hid hown'; have HG6 := Lib.hid hgrow; have HLC := Lib.hid hloc; clear hown' hgrow hnil hloc)
          | (refine wpList_entryStore_back _ rfl _ _ _ 157 rfl HBK.out rfl rfl rfl HG6.out (HOI.out.appended HO6.out hwf) (by simp; omega) (HLC.out.imp id (fun h => ⟨_, h, Nat.le_refl _⟩)) ?_; intro w7 hown7 hg7; have HO7 := Lib.hid hown7; have HG7 := Lib.hid hg7; clear hown7 hg7))
        have HREL : Hid (GrpRel W g legs (k + 1) w7) := by
          have hzs := grp_row HOI.out ((HDD.out.2 _ kl HKL.out).2.symm.trans HAT.out)
          have hd := (HOI.out.appended HO6.out hwf).datum_pos (H := Unit) (by simp)
          have ho7 : w7.ownsGroups Try.prog 160 (g + 1) 2 .i64 g (k + 1) (D.put kl (rowDatum .i64 v' (zs ++ [f.amount]))) := HO7.out
          rw [hd] at ho7
          have hupd := owed_upd (legs.take k) f
          rw [← HT_f.out] at hupd
          refine Lib.hid ⟨⟨_, ho7, ?_⟩, ?_, ?_⟩
          · have h1 := HDD.out.put HKL.out hupd (by simp)
            rw [hzs]
            exact h1
          · have hvl : ∀ j, v.ownBlock = some j → W.heap.size ≤ j := fun j hj => by have := (HOI.out.1.lt j hj).1; have := hgW.out; omega
            have hW5 := HB4.out.grown HG5.out HB4.out.size (fun j hj => by cases hj; have := hgW.out; omega)
            have hW6 := hW5.grown HG6.out hW5.size hvl
            exact hW6.grown HG7.out hW6.size (fun j hj => by cases hj; have := hgW.out; omega)
          · have := HG6.out.size
            have := HG7.out.size
            omega
        clear x0 x1 x2 y0 y1
        go_wp2_with fail
        go_roundw
        case rel => exact ⟨k + 1, by omega, by go_num, HFS, HREL⟩
        case measure => simp [intOf]; omega
      · have HNE := Lib.hid hlk
        have q1 : (legK n1 n2 f != 0) = true := by simpa using hlk
        obtain ⟨K, hK⟩ : ∃ K, Hid (legK n1 n2 f = K) := ⟨_, Lib.hid rfl⟩
        rw [hK.out] at q1 HCK
        clear hlk
        have HE : Hid (netK n1 n2 legs = K ∧ netR n1 n2 legs = []) := Lib.hid (by
          have h1 : firstK n1 n2 legs = K := by
            have h2 := firstK_stop (M := n1) (S := n2) (l := legs.take (k + 1)) (l' := legs.drop (k + 1)) (by rw [HFS.out]; exact HNE.out)
            rw [List.take_append_drop] at h2
            rw [h2, HFS.out, hK.out]
          have h3 : firstK n1 n2 legs ≠ 0 := by rw [h1, ← hK.out]; exact HNE.out
          unfold netK netR
          rw [if_neg h3, if_neg h3]
          exact ⟨h1, rfl⟩)
        go_wp2_with fail
        refine HCK.out.mono ?_
        rintro e w2 ⟨rfl, hb2⟩
        have HB2 := Lib.hid (Below.next' hB0 (Below.past HB1.out hb2 HB1.out.size) (Nat.le_refl _))
        clear hb2
        go_wp2_with fail
        go_ret2
        unfold NetsPost
        rw [HE.out.1, HE.out.2]
        exact ⟨.slice none 0 0, rfl, World.ownsRow_nil _ _ _ _, HB2.out⟩
    · have hlz : ¬ (k : Int) < (n : Int) := by omega
      obtain rfl : n = k := by omega
      have hT : legs.take n = legs := List.take_of_length_le (by rw [HL.out]; exact Nat.le_refl _)
      obtain ⟨⟨D, hown, hD⟩, hb, hs⟩ := HR.out
      have hfk := HFK.out
      rw [hT] at hD hfk
      have HO := Lib.hid (netOrder_any g n (g + 1) D (fun s => owedL legs s.m s.a) wr hown hD hn)
      have HOW := Lib.hid hown
      have HDD := Lib.hid hD
      have HFK' := Lib.hid hfk
      have HB := Lib.hid hb
      clear hown hD hfk hT HR HFK hb HR0 HC0 hi0 hz0 hz1 hz2
      go_wp2_with fail
      refine HO.out.mono ?_
      rintro e w2 ⟨vd, done, rfl, hrow, hdl, hnd, hin, hex, hb2⟩
      have hsort := sort_grid (M := n1) (S := n2) (legs := legs) hnd (fun s => ⟨fun hs => by
        have h1 : owedL legs s.m s.a ≠ [] := (hin s hs).2.2
        unfold hasS
        cases ho : owedL legs s.m s.a with
        | nil => exact absurd ho h1
        | cons => rfl, fun hh => by
        have hgr := has_grid HFK'.out s hh
        rw [gridS_mem] at hgr
        refine hex s (by unfold inI; omega) (by unfold inI; omega) (fun e => ?_)
        have e' : owedL legs s.m s.a = [] := e
        unfold hasS at hh
        rw [e'] at hh
        cases hh⟩) (has_grid HFK'.out)
      obtain ⟨keys, hkeys⟩ : ∃ keys, Hid (sortS done = keys) := ⟨_, Lib.hid rfl⟩
      have hkl : keys.length = done.length := by rw [← hkeys.out, sortS_len]
      have HIN : Hid (∀ s ∈ keys, inI s.m ∧ inI s.a) := Lib.hid fun s hs => by
        rw [← hkeys.out] at hs
        have := hin s ((sortS_perm done).mem_iff.1 hs)
        exact ⟨this.1, this.2.1⟩
      have HNK : Hid (netK n1 n2 legs = netsE keys legs ∧ netR n1 n2 legs = netsL keys legs) := Lib.hid (by
        unfold netK netR
        rw [if_pos HFK'.out, if_pos HFK'.out, ← hkeys.out, hsort, netsE_has, netsL_has]
        exact ⟨rfl, rfl⟩)
      obtain ⟨A8, c8, rfl⟩ := own_form hrow
      obtain ⟨m, hm⟩ : ∃ m, Hid (done.length = m) := ⟨_, Lib.hid rfl⟩
      rw [hkeys.out] at hrow
      rw [hm.out] at hrow hkl hdl ⊢
      have HKL := Lib.hid hkl
      have hs2 := hb2.size
      have HOW2 := Lib.hid (groups_past HOW.out hb2)
      have HRK := Lib.hid (Rd.of_own hrow)
      have HBB := Lib.hid (Below.next' hB0 (Below.past HB.out hb2 HB.out.size) (Nat.le_refl _))
      clear hrow hnd hin hex hsort hkl hb2 HOW HO
      go_wp2_with fail
      go_loopw [11, 50] (fun v i wr => ∃ k : Nat, k ≤ m ∧ i = .int .i64 k ∧ Hid ((keys.take k).all (okS legs) = true) ∧ Hid (wr.ownsRow w2.heap.size 97 3 v (((keys.take k).filter (nzS legs)).map (ofS legs)).length ((((keys.take k).filter (nzS legs)).map (ofS legs)).flatMap Leg.cells)) ∧ Hid (Below w2.heap.size w2 wr)) (fun _ i _ => m - (intOf i).toNat)
      case atStart => exact ⟨0, Nat.zero_le _, rfl, Lib.hid rfl, Lib.hid (World.ownsRow_nil _ _ _ _), Lib.hid (Below.refl _ _)⟩
      case round =>
        obtain ⟨k, hk, rfl, HOK, HRO, HBZ⟩ := hrel
        by_cases hlt : k < m
        · have hlz2 : (k : Int) < (m : Int) := by omega
          have hbz := HBZ.out
          have hsz := hbz.size
          have hg_f : keys[k]? = some (keys[k]'(by have := HKL.out; omega)) := List.getElem?_eq_getElem _
          obtain ⟨b_f, off_f, rfl, hbb_f, hc_f⟩ := (HRK.out.below hbz).elem Sid.cells_len hg_f hlt
          have HT_f := Lib.hid (show keys.take (k + 1) = keys.take k ++ [(keys[k]'(by have := HKL.out; omega))] from List.take_succ_eq_append_getElem (by have := HKL.out; omega))
          have HM_f := Lib.hid (show (keys[k]'(by have := HKL.out; omega)) ∈ keys from List.getElem_mem _)
          generalize (keys[k]'(by have := HKL.out; omega)) = f at *
          have c0 := hc_f 0 _ rfl
          have c1 := hc_f 1 _ rfl
          clear hc_f hg_f
          simp only [Nat.add_zero] at c0
          obtain ⟨hi1, hi2⟩ := HIN.out f HM_f.out
          obtain ⟨kl, hkl⟩ := sid_key f hi1 hi2
          have HKY := Lib.hid hkl
          have hbo := (Below.refl wr.heap.size wr).alloc (Nat.le_refl _) (.cells #[.int .i64 f.m, .int .i64 f.a] 160)
          have HB1 := Lib.hid (Below.past hbz hbo hsz)
          have HOW1 := Lib.hid (groups_past HOW2.out HB1.out)
          have HX1 := Lib.hid (Blk.new wr 160 #[.int .i64 f.m, .int .i64 f.a] wr.heap.size rfl)
          have HRO1 := Lib.hid (own_past' HRO.out hbo)
          obtain ⟨p, hp⟩ : ∃ p, Hid ((((keys.take k).filter (nzS legs)).map (ofS legs)).length = p) := ⟨_, Lib.hid rfl⟩
          have hpk : (((keys.take k).filter (nzS legs)).map (ofS legs)).length ≤ k := by
            rw [List.length_map]
            exact Nat.le_trans (List.length_filter_le _ _) (by rw [List.length_take]; exact Nat.min_le_left _ _)
          rw [hp.out] at HRO1 hpk
          clear hbo hbz hi1 hi2 hkl HRO
          obtain ⟨W1, hW1⟩ : ∃ W, Hid (wr.alloc (.cells #[.int .i64 f.m, .int .i64 f.a] 160) = W) := ⟨_, Lib.hid rfl⟩
          rw [hW1.out] at HB1 HOW1 HX1 HRO1
          go_upto_region 17 with fail
          rw [hW1.out]
          have bx1 := HX1.out
          have x0 := (bx1).cell 0
          have x1 := (bx1).cell 1
          simp at x0 x1
          clear bx1
          go_wp2_with (at_lookup; refine wpList_lookup_groups _ rfl _ _ 157 rfl 160 35 2 .i64 sidLaw Try.underlying157 (zeroKs _) (g + 1) g n D rfl HOW1.out (by unfold maxLen; omega) _ kl rfl HKY.out ?_; intro v zs hat hoi hzl hback; clear hback; obtain ⟨Az, cz, rfl⟩ := own_form hoi.1; have HZS := Lib.hid (grp_row hoi ((HDD.out.2 _ kl HKY.out).2.symm.trans hat)); have HOI := Lib.hid hoi; clear hat hoi)
          have HSM := Lib.hid (sum_any Az zs.length cz zs W1 (by rw [← ints_flat]; exact Rd.of_own HOI.out.1) (by omega) (by rw [HZS.out]; exact owedL_ok legs f.m f.a HG.out))
          have hsum : Hid (zs.sum = sumS legs f) := Lib.hid (by rw [HZS.out]; rfl)
          rw [hsum.out] at HSM
          obtain ⟨S, hS⟩ : ∃ S, Hid (sumS legs f = S) := ⟨_, Lib.hid rfl⟩
          rw [hS.out] at HSM
          cases hok : okS legs f with
          | false =>
            have hov : ¬ inI S := by
              have := of_decide_eq_false hok
              rw [hS.out] at this; exact this
            have HA := Lib.hid (amount_outN hov)
            rw [HA.out.1, HA.out.2] at HSM
            have HE : Hid (netK n1 n2 legs = 2 ∧ netR n1 n2 legs = []) := Lib.hid (by
              rw [HNK.out.1, HNK.out.2]
              have : ¬ keys.all (okS legs) = true := fun h => by
                have := List.all_eq_true.1 h f HM_f.out
                rw [hok] at this; cases this
              unfold netsE netsL
              rw [if_neg this, if_neg this]
              exact ⟨rfl, rfl⟩)
            clear hok hov
            refine HSM.out.mono ?_
            rintro e w4 ⟨rfl, hb4⟩
            have HB4 := Lib.hid (Below.past HBB.out (Below.past HB1.out hb4 HB1.out.size) HBB.out.size)
            clear hb4
            go_wp2_with fail
            go_ret2
            unfold NetsPost
            rw [HE.out.1, HE.out.2]
            exact ⟨.slice none 0 0, rfl, World.ownsRow_nil _ _ _ _, HB4.out⟩
          | true =>
            have hov : inI S := by
              have := of_decide_eq_true hok
              rw [hS.out] at this; exact this
            have HA := Lib.hid (amount_in hov)
            rw [HA.out.1, HA.out.2] at HSM
            have HOK2 : Hid ((keys.take (k + 1)).all (okS legs) = true) := Lib.hid (by rw [HT_f.out, List.all_append, HOK.out]; simp [hok])
            clear hok hov
            by_cases hz : S = 0
            · have q1 : (S != 0) = false := by simpa using hz
              have HF : Hid (((keys.take (k + 1)).filter (nzS legs)).map (ofS legs) = ((keys.take k).filter (nzS legs)).map (ofS legs)) := Lib.hid (by
                rw [HT_f.out, List.filter_append]; simp [nzS, hS.out, hz])
              clear hz
              refine HSM.out.mono ?_
              rintro e w4 ⟨rfl, hb4⟩
              have HB4 := Lib.hid (Below.past HB1.out hb4 HB1.out.size)
              have HRO4 := Lib.hid (own_past' HRO1.out hb4)
              clear hb4
              go_wp2_with fail
              go_roundw
              case rel => exact ⟨k + 1, by omega, by go_num, HOK2, Lib.hid (by rw [HF.out, hp.out]; exact HRO4.out), HB4⟩
              case measure => simp [intOf]; omega
            · have q1 : (S != 0) = true := by simpa using hz
              have HF : Hid (((keys.take (k + 1)).filter (nzS legs)).map (ofS legs) = ((keys.take k).filter (nzS legs)).map (ofS legs) ++ [⟨f.m, f.a, S⟩]) := Lib.hid (by
                rw [HT_f.out, List.filter_append]; simp [nzS, hS.out, hz, ofS])
              clear hz
              refine HSM.out.mono ?_
              rintro e w4 ⟨rfl, hb4⟩
              have HB4 := Lib.hid (Below.past HB1.out hb4 HB1.out.size)
              have HRO4 := Lib.hid (own_past' HRO1.out hb4)
              have bx4 := HX1.out.past hb4
              have hs4 := HB4.out.size
              clear hb4 x0 x1
              have x0 := (bx4).cell 0
              have x1 := (bx4).cell 1
              simp at x0 x1
              clear bx4
              go_wp2_with (at_builtin; refine wpList_append_lit _ _ rfl (.tmp 66) (.tmp 73) 90 rfl w2.heap.size 97 j0 _ 3 24 Try.underlying90 hj0 jz0 jz1 jz2 rfl (by decide) _ _ _ rfl HRO4.out _ 1 1 rfl (by first | rfl | simp) rfl (by simp [Value.oneCell']) (by omega) (by omega) (by omega) ?_; intro v' w' hown' hg'; have HOWN := Lib.hid hown'; have HBW := Lib.hid (below_own (HB4.out.alloc hs4 _) hg' HRO4.out (by simp; omega) (Nat.le_refl _)); clear hown' hg')
              clear x0 x1
              go_roundw
              case rel => exact ⟨k + 1, by omega, by go_num, HOK2, Lib.hid (by rw [HF.out, List.length_append, hp.out, List.flatMap_append]; exact HOWN.out), HBW⟩
              case measure => simp [intOf]; omega
        · have hlz2 : ¬ (k : Int) < (m : Int) := by omega
          obtain rfl : m = k := by omega
          have hTk : keys.take m = keys := List.take_of_length_le (by rw [HKL.out]; exact Nat.le_refl _)
          have HE : Hid (netK n1 n2 legs = 0 ∧ netR n1 n2 legs = (keys.filter (nzS legs)).map (ofS legs)) := Lib.hid (by
            have hall := HOK.out
            rw [hTk] at hall
            rw [HNK.out.1, HNK.out.2]
            unfold netsE netsL
            rw [if_pos hall, if_pos hall]
            exact ⟨rfl, rfl⟩)
          have hro := HRO.out
          rw [hTk] at hro
          have HROW := Lib.hid (own_mono' hro (show w.heap.size ≤ w2.heap.size from HBB.out.size))
          have HBF := Lib.hid (Below.past HBB.out HBZ.out HBB.out.size)
          clear hTk hro
          go_wp2_with fail
          go_ret2
          unfold NetsPost
          rw [HE.out.1, HE.out.2]
          exact ⟨_, rfl, HROW.out, HBF.out⟩
end Go.Proofs.Ytfnhffcjhdeleaa
