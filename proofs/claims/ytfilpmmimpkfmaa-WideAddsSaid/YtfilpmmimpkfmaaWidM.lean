/-
  WideAdds: the sum and the difference of any two wide numbers, or that it is none, and how they compare.
-/
import Derived.Test.YtfilpmmimpkfmaaWidL
namespace Go.Proofs.Ytfilpmmimpkfmaa
open Go.RowKit

theorem wide_eql0 (w : World) : (binOp .eql 30 (.agg #[.int .u64 0, .int .u64 0]) (.agg #[.int .u64 0, .int .u64 0])).run Try.prog w = .ok (.bool true) w := by kernel_rfl
theorem wide_neq0 (w : World) : (binOp .neq 30 (.agg #[.int .u64 0, .int .u64 0]) (.agg #[.int .u64 0, .int .u64 0])).run Try.prog w = .ok (.bool false) w := by kernel_rfl

set_option maxRecDepth 100000 in
set_option maxHeartbeats 4000000 in
theorem wideAdds_fit_lt (ah al bh bl : Int) (h0 : 0 ≤ ah) (h1 : ah < 18446744073709551616) (l0 : 0 ≤ al) (l1 : al < 18446744073709551616) (g0 : 0 ≤ bh) (g1 : bh < 18446744073709551616) (k0 : 0 ≤ bl) (k1 : bl < 18446744073709551616) (hf : ah * 18446744073709551616 + al + (bh * 18446744073709551616 + bl) < 340282366920938463463374607431768211456) (hle : ¬ bh * 18446744073709551616 + bl ≤ ah * 18446744073709551616 + al) (w : World) :
    Calls Try.prog 4 #[.agg #[.int .u64 ah, .int .u64 al], .agg #[.int .u64 bh, .int .u64 bl]] w fun e w' => e = .returned (.bool true) ∧ Below w.heap.size w w' := by
  have R1 := of_any ah al h0 h1 l0 l1
  have R2 := of_any bh bl g0 g1 k0 k1
  have PL := wplus_yes ah al bh bl h0 h1 l0 l1 g0 g1 k0 k1 hf
  have MI := wminus_no ah al bh bl h0 h1 l0 l1 g0 g1 k0 k1 hle
  have WC := wcmp_any ah al bh bl l0 l1 k0 k1
  have x0 : 0 ≤ ah * 18446744073709551616 + al := by omega
  have x1 : ah * 18446744073709551616 + al < 340282366920938463463374607431768211456 := by omega
  have y0 : 0 ≤ bh * 18446744073709551616 + bl := by omega
  have y1 : bh * 18446744073709551616 + bl < 340282366920938463463374607431768211456 := by omega
  obtain ⟨X, hX⟩ : ∃ X, Hid (ah * 18446744073709551616 + al = X) := ⟨_, Lib.hid rfl⟩
  obtain ⟨Y, hY⟩ : ∃ Y, Hid (bh * 18446744073709551616 + bl = Y) := ⟨_, Lib.hid rfl⟩
  rw [hX.out] at R1 PL WC x0 x1 hf hle
  rw [hY.out] at R2 PL WC y0 y1 hf hle
  have RP := fun w => refPlus_any X Y w x0 x1 y0 y1
  have KC := fun w => refCmp_any X Y w x0 x1 y0 y1
  rw [decide_eq_true hf] at RP
  have SM := same_true (X + Y) (by omega) hf
  have qc : decide (cmpI X Y < 0) = true := dec_t (by unfold cmpI; split <;> (try split) <;> omega)
  obtain ⟨N, hN⟩ : ∃ N, Hid (X + Y = N) := ⟨_, Lib.hid rfl⟩
  rw [hN.out] at RP
  rw [hN.out] at SM PL
  obtain ⟨nh, hnh⟩ : ∃ D', Hid (N / 18446744073709551616 = D') := ⟨_, Lib.hid rfl⟩
  obtain ⟨nl, hnl⟩ : ∃ D', Hid (N % 18446744073709551616 = D') := ⟨_, Lib.hid rfl⟩
  rw [hnh.out, hnl.out] at SM PL
  have HSM := Lib.hid SM
  clear SM
  generalize cmpI X Y = v at *
  have pv : (v != v) = false := by simp
  have XA : Hid (arr8 (dig X) = #[.int .u64 (dig X 0), .int .u64 (dig X 1), .int .u64 (dig X 2), .int .u64 (dig X 3), .int .u64 (dig X 4), .int .u64 (dig X 5), .int .u64 (dig X 6), .int .u64 (dig X 7)]) := Lib.hid rfl
  have YA : Hid (arr8 (dig Y) = #[.int .u64 (dig Y 0), .int .u64 (dig Y 1), .int .u64 (dig Y 2), .int .u64 (dig Y 3), .int .u64 (dig Y 4), .int .u64 (dig Y 5), .int .u64 (dig Y 6), .int .u64 (dig Y 7)]) := Lib.hid rfl
  have NA : Hid (arr8 (dig N) = #[.int .u64 (dig N 0), .int .u64 (dig N 1), .int .u64 (dig N 2), .int .u64 (dig N 3), .int .u64 (dig N 4), .int .u64 (dig N 5), .int .u64 (dig N 6), .int .u64 (dig N 7)]) := Lib.hid rfl
  have HR1 := Lib.hid R1
  have HR2 := Lib.hid R2
  have HPL := Lib.hid PL
  have HMI := Lib.hid MI
  have HWC := Lib.hid WC
  have HRP := Lib.hid RP
  have HKC := Lib.hid KC
  clear R1 R2 PL MI WC RP KC hf hle
  have hB0 := ((Below.refl w.heap.size w).alloc (Nat.le_refl _) (.cells #[.int .u64 ah, .int .u64 al] 30)).alloc (by simp) (.cells #[.int .u64 bh, .int .u64 bl] 30)
  have bxa := (Blk.new w 30 #[.int .u64 ah, .int .u64 al] w.heap.size rfl).alloc (.cells #[.int .u64 bh, .int .u64 bl] 30)
  have bxb := Blk.new (w.alloc (.cells #[.int .u64 ah, .int .u64 al] 30)) 30 #[.int .u64 bh, .int .u64 bl] (w.heap.size + 1) (by simp)
  obtain ⟨W, hW⟩ : ∃ W, Hid ((w.alloc (.cells #[.int .u64 ah, .int .u64 al] 30)).alloc (.cells #[.int .u64 bh, .int .u64 bl] 30) = W) := ⟨_, Lib.hid rfl⟩
  rw [hW.out] at hB0 bxa bxb
  have hlta := bxa.lt
  have hltb := bxb.lt
  go_enter Try.func4, Try.ntmps4
  go_upto_region 1 with fail
  rw [hW.out]
  go_cut [5, 6] (fun p q w' => TwoCut W X Y p q w')
  case first =>
    refine wp_region_any (by kernel_rfl) ?_
    change wpAny _ _ _ _ _ _ _ (World.drew _)
    refine wpAny_take (i := 0) (v := .pointer (some ⟨w.heap.size, 0, none⟩)) rfl (by kernel_rfl) (by kernel_rfl) (by kernel_rfl) (fun _ _ _ h => h) (Or.inl ⟨by rfl, fun _ => by go_simp⟩) ?_
    refine wpAny_take (i := 2) (v := .pointer (some ⟨w.heap.size, 1, none⟩)) rfl (by kernel_rfl) (by kernel_rfl) (by kernel_rfl) (fun _ _ _ h => h) (Or.inl ⟨by rfl, fun _ => by go_simp⟩) ?_
    refine wpAny_take (i := 5) (v := .pointer (some ⟨w.heap.size + 1, 0, none⟩)) rfl (by kernel_rfl) (by kernel_rfl) (by kernel_rfl) (fun _ _ _ h => h) (Or.inl ⟨by rfl, fun _ => by go_simp⟩) ?_
    refine wpAny_take (i := 7) (v := .pointer (some ⟨w.heap.size + 1, 1, none⟩)) rfl (by kernel_rfl) (by kernel_rfl) (by kernel_rfl) (fun _ _ _ h => h) (Or.inl ⟨by rfl, fun _ => by go_simp⟩) ?_
    refine wpAny_inv_fr [17, 19, 20, 22, 24, 25, 5, 6] (jA W X Y (.int .u64 ah) (.int .u64 al) (.int .u64 bh) (.int .u64 bl)) (by simp [toCome]) ?_ ?_ ?_
    · exact fun v => ⟨false, false, false, false, false, false, false, false, false, false, rfl, { below := Below.drew (Below.refl _ _), call1 := nofun, load1 := nofun, load2 := nofun, call2 := nofun, new1 := nofun, new2 := nofun, apart := nofun, one := nofun, two := nofun }, nofun, nofun⟩
    · rintro L v w4 ⟨l1, l2, c1, l3, l4, c2, a1, a2, s1, s2, rfl, hS, hv1, hv2⟩ hr
      have rdy : ∀ i, i ∈ Region.ready _ _ _ → False := fun i hi => by rw [hr] at hi; cases hi
      cases l1
      · exact (rdy 1 (mem_ready.2 ⟨rfl, _, rfl, by intro e he _; simp at he; subst he; rfl⟩)).elim
      cases l2
      · exact (rdy 3 (mem_ready.2 ⟨rfl, _, rfl, by intro e he _; simp at he; subst he; rfl⟩)).elim
      cases c1
      · exact (rdy 4 (mem_ready.2 ⟨rfl, _, rfl, by intro e he _; simp at he; rcases he with rfl | rfl <;> rfl⟩)).elim
      cases l3
      · exact (rdy 6 (mem_ready.2 ⟨rfl, _, rfl, by intro e he _; simp at he; subst he; rfl⟩)).elim
      cases l4
      · exact (rdy 8 (mem_ready.2 ⟨rfl, _, rfl, by intro e he _; simp at he; subst he; rfl⟩)).elim
      cases c2
      · exact (rdy 9 (mem_ready.2 ⟨rfl, _, rfl, by intro e he _; simp at he; rcases he with rfl | rfl | rfl <;> rfl⟩)).elim
      cases a1
      · exact (rdy 10 (mem_ready.2 ⟨rfl, _, rfl, by intro e he _; simp at he⟩)).elim
      cases a2
      · exact (rdy 11 (mem_ready.2 ⟨rfl, _, rfl, by intro e he _; simp at he⟩)).elim
      cases s1
      · exact (rdy 12 (mem_ready.2 ⟨rfl, _, rfl, by intro e he _; simp at he; rcases he with rfl | rfl | rfl | rfl | rfl | rfl | rfl | rfl | rfl | rfl | rfl | rfl | rfl | rfl | rfl <;> rfl⟩)).elim
      cases s2
      · exact (rdy 13 (mem_ready.2 ⟨rfl, _, rfl, by intro e he _; simp at he; rcases he with rfl | rfl | rfl | rfl | rfl | rfl | rfl | rfl | rfl | rfl | rfl | rfl | rfl | rfl | rfl | rfl <;> rfl⟩)).elim
      clear rdy hr
      obtain ⟨g, e1, _, e3⟩ := hS.new1 rfl
      obtain ⟨h, f1, _, f3⟩ := hS.new2 rfl
      have hT : TwoCut W X Y (v 5) (v 6) w4 := ⟨g, h, e1, f1, e3, f3, hS.below⟩
      clear e1 e3 f1 f3 hS
      simp [frS, Act.put]
      go_wp2_with fail
      go_meet
      exact hT
    · rintro L v w4 i ⟨l1, l2, c1, l3, l4, c2, a1, a2, s1, s2, rfl, hS, hv1, hv2⟩ hi hr
      obtain ⟨hun, o, ho, hall⟩ := mem_ready.1 hr
      have hm : i ∈ [0, 1, 2, 3, 4, 5, 6, 7, 8, 9, 10, 11, 12, 13] := hi
      simp only [List.mem_cons, List.not_mem_nil, or_false] at hm
      rcases hm with rfl | rfl | rfl | rfl | rfl | rfl | rfl | rfl | rfl | rfl | rfl | rfl | rfl | rfl
      all_goals first | (simp at hun; done) | skip
      · obtain rfl : l1 = false := by simpa using hun
        exact wpOp_load64 (i := 1) rfl rfl rfl (.tmp 16) rfl ⟨w.heap.size, 0, none⟩ ah (frS_old rfl) ((bxa.below hS.below hlta).cell 0) ⟨_, frS_put rfl, true, l2, c1, l3, l4, c2, a1, a2, s1, s2, rfl, hS, fun _ => rfl, hv2⟩
      · obtain rfl : l2 = false := by simpa using hun
        exact wpOp_load64 (i := 3) rfl rfl rfl (.tmp 18) rfl ⟨w.heap.size, 1, none⟩ al (frS_old rfl) ((bxa.below hS.below hlta).cell 1) ⟨_, frS_put rfl, l1, true, c1, l3, l4, c2, a1, a2, s1, s2, rfl, hS, hv1, fun _ => rfl⟩
      · obtain rfl : c1 = false := by simpa using hun
        simp at ho
        subst ho
        have k1 : l1 = true := by simpa using hall { on := 1, ground := Ground.data } (by simp) rfl
        have k2 : l2 = true := by simpa using hall { on := 3, ground := Ground.data } (by simp) rfl
        refine wpOp_call2 (i := 4) rfl Try.call20 (.int .u64 ah) (.int .u64 al) ((frS_eval rfl (by simp [Act.put])).trans (hv1 k1)) ((frS_eval rfl (by simp [Act.put])).trans (hv2 k2)) _ (HR1.out _) ?_
        intro w5 hb5
        exact ⟨_, frS_put rfl, l1, l2, true, l3, l4, c2, a1, a2, s1, s2, rfl, (hS.past hb5).setCall1, hv1, hv2⟩
      · obtain rfl : l3 = false := by simpa using hun
        exact wpOp_load64 (i := 6) rfl rfl rfl (.tmp 21) rfl ⟨w.heap.size + 1, 0, none⟩ bh (frS_old rfl) ((bxb.below hS.below hltb).cell 0) ⟨_, frS_put rfl, l1, l2, c1, true, l4, c2, a1, a2, s1, s2, rfl, hS.setLoad1, hv1, hv2⟩
      · obtain rfl : l4 = false := by simpa using hun
        exact wpOp_load64 (i := 8) rfl rfl rfl (.tmp 23) rfl ⟨w.heap.size + 1, 1, none⟩ bl (frS_old rfl) ((bxb.below hS.below hltb).cell 1) ⟨_, frS_put rfl, l1, l2, c1, l3, true, c2, a1, a2, s1, s2, rfl, hS.setLoad2, hv1, hv2⟩
      · obtain rfl : c2 = false := by simpa using hun
        simp at ho
        subst ho
        have k1 : l3 = true := by simpa using hall { on := 6, ground := Ground.data } (by simp) rfl
        have k2 : l4 = true := by simpa using hall { on := 8, ground := Ground.data } (by simp) rfl
        refine wpOp_call2 (i := 9) rfl Try.call20 (.int .u64 bh) (.int .u64 bl) ((frS_eval rfl (by simp [Act.put])).trans (hS.load1 k1)) ((frS_eval rfl (by simp [Act.put])).trans (hS.load2 k2)) _ (HR2.out _) ?_
        intro w5 hb5
        exact ⟨_, frS_put rfl, l1, l2, c1, l3, l4, true, a1, a2, s1, s2, rfl, (hS.past hb5).setCall2, hv1, hv2⟩
      · obtain rfl : a1 = false := by simpa using hun
        exact wpOp_alloc8 (i := 10) rfl rfl rfl rfl ⟨_, frS_put rfl, l1, l2, c1, l3, l4, c2, true, a2, s1, s2, rfl, hS.setNew1, hv1, hv2⟩
      · obtain rfl : a2 = false := by simpa using hun
        exact wpOp_alloc8 (i := 11) rfl rfl rfl rfl ⟨_, frS_put rfl, l1, l2, c1, l3, l4, c2, a1, true, s1, s2, rfl, hS.setNew2, hv1, hv2⟩
      · obtain rfl : s1 = false := by simpa using hun
        simp at ho
        subst ho
        obtain rfl : a1 = true := by simpa using hall { on := 10, ground := Ground.data } (by simp) rfl
        have k2 : c1 = true := by simpa using hall { on := 4, ground := Ground.data } (by simp) rfl
        obtain ⟨g, e1, e2, e3⟩ := hS.new1 rfl
        exact wpOp_store8 (i := 12) rfl rfl rfl (.tmp 5) (.tmp 20) rfl g (fun _ => 0) (dig X) ((frS_eval rfl (by simp [Act.put])).trans e1) ((frS_eval rfl (by simp [Act.put])).trans (hS.call1 k2)) e3 ⟨v, rfl, l1, l2, c1, l3, l4, c2, true, a2, true, s2, rfl, hS.setStore1 e1, hv1, hv2⟩
      · obtain rfl : s2 = false := by simpa using hun
        simp at ho
        subst ho
        obtain rfl : a2 = true := by simpa using hall { on := 11, ground := Ground.data } (by simp) rfl
        have k2 : c2 = true := by simpa using hall { on := 9, ground := Ground.data } (by simp) rfl
        obtain ⟨g, e1, e2, e3⟩ := hS.new2 rfl
        exact wpOp_store8 (i := 13) rfl rfl rfl (.tmp 6) (.tmp 25) rfl g (fun _ => 0) (dig Y) ((frS_eval rfl (by simp [Act.put])).trans e1) ((frS_eval rfl (by simp [Act.put])).trans (hS.call2 k2)) e3 ⟨v, rfl, l1, l2, c1, l3, l4, c2, a1, true, s1, true, rfl, hS.setStore2 e1, hv1, hv2⟩
  case rest =>
    obtain ⟨g, h, rfl, rfl, hg, hh, hbc⟩ := hcut
    have ba := bxa.below hbc hlta
    have bb := bxb.below hbc hltb
    have hBc := Below.past hB0 hbc hB0.size
    clear bxa bxb hlta hltb hbc hB0 hW HR1 HR2
    have ea0 := ba.cell 0
    have ea1 := ba.cell 1
    have eb0 := bb.cell 0
    have eb1 := bb.cell 1
    simp at ea0 ea1 eb0 eb1
    go_wp2_with fail
    refine (HPL.out _).mono ?_
    rintro e w1 ⟨rfl, hb1⟩
    have hg1 := hg.past hb1
    have hh1 := hh.past hb1
    have ba1 := ba.past hb1
    have bb1 := bb.past hb1
    have hB1 := Below.next hBc hb1
    clear ea0 ea1 eb0 eb1
    have p0 : ∀ o : Obj, (w1.alloc o).cell? ⟨g, 0, none⟩ = some (.int .u64 (dig X 0)) := fun o => ((hg1.alloc o).cell 0).trans (arr8_get _ 0 (by omega))
    have p1 : ∀ o : Obj, (w1.alloc o).cell? ⟨g, 1, none⟩ = some (.int .u64 (dig X 1)) := fun o => ((hg1.alloc o).cell 1).trans (arr8_get _ 1 (by omega))
    have p2 : ∀ o : Obj, (w1.alloc o).cell? ⟨g, 2, none⟩ = some (.int .u64 (dig X 2)) := fun o => ((hg1.alloc o).cell 2).trans (arr8_get _ 2 (by omega))
    have p3 : ∀ o : Obj, (w1.alloc o).cell? ⟨g, 3, none⟩ = some (.int .u64 (dig X 3)) := fun o => ((hg1.alloc o).cell 3).trans (arr8_get _ 3 (by omega))
    have p4 : ∀ o : Obj, (w1.alloc o).cell? ⟨g, 4, none⟩ = some (.int .u64 (dig X 4)) := fun o => ((hg1.alloc o).cell 4).trans (arr8_get _ 4 (by omega))
    have p5 : ∀ o : Obj, (w1.alloc o).cell? ⟨g, 5, none⟩ = some (.int .u64 (dig X 5)) := fun o => ((hg1.alloc o).cell 5).trans (arr8_get _ 5 (by omega))
    have p6 : ∀ o : Obj, (w1.alloc o).cell? ⟨g, 6, none⟩ = some (.int .u64 (dig X 6)) := fun o => ((hg1.alloc o).cell 6).trans (arr8_get _ 6 (by omega))
    have p7 : ∀ o : Obj, (w1.alloc o).cell? ⟨g, 7, none⟩ = some (.int .u64 (dig X 7)) := fun o => ((hg1.alloc o).cell 7).trans (arr8_get _ 7 (by omega))
    have q0 : ∀ o : Obj, (w1.alloc o).cell? ⟨h, 0, none⟩ = some (.int .u64 (dig Y 0)) := fun o => ((hh1.alloc o).cell 0).trans (arr8_get _ 0 (by omega))
    have q1 : ∀ o : Obj, (w1.alloc o).cell? ⟨h, 1, none⟩ = some (.int .u64 (dig Y 1)) := fun o => ((hh1.alloc o).cell 1).trans (arr8_get _ 1 (by omega))
    have q2 : ∀ o : Obj, (w1.alloc o).cell? ⟨h, 2, none⟩ = some (.int .u64 (dig Y 2)) := fun o => ((hh1.alloc o).cell 2).trans (arr8_get _ 2 (by omega))
    have q3 : ∀ o : Obj, (w1.alloc o).cell? ⟨h, 3, none⟩ = some (.int .u64 (dig Y 3)) := fun o => ((hh1.alloc o).cell 3).trans (arr8_get _ 3 (by omega))
    have q4 : ∀ o : Obj, (w1.alloc o).cell? ⟨h, 4, none⟩ = some (.int .u64 (dig Y 4)) := fun o => ((hh1.alloc o).cell 4).trans (arr8_get _ 4 (by omega))
    have q5 : ∀ o : Obj, (w1.alloc o).cell? ⟨h, 5, none⟩ = some (.int .u64 (dig Y 5)) := fun o => ((hh1.alloc o).cell 5).trans (arr8_get _ 5 (by omega))
    have q6 : ∀ o : Obj, (w1.alloc o).cell? ⟨h, 6, none⟩ = some (.int .u64 (dig Y 6)) := fun o => ((hh1.alloc o).cell 6).trans (arr8_get _ 6 (by omega))
    have q7 : ∀ o : Obj, (w1.alloc o).cell? ⟨h, 7, none⟩ = some (.int .u64 (dig Y 7)) := fun o => ((hh1.alloc o).cell 7).trans (arr8_get _ 7 (by omega))
    have bs1 := Blk.new w1 30 #[.int .u64 nh, .int .u64 nl] w1.heap.size rfl
    have hBs := hB1.alloc hB1.size (.cells #[.int .u64 nh, .int .u64 nl] 30)
    rw [XA.out, YA.out] at HRP
    go_wp2_with fail
    refine (HRP.out _).mono ?_
    rw [NA.out]
    rintro e w2 ⟨rfl, hb2⟩
    have hg2 := (hg1.alloc _).past hb2
    have hh2 := (hh1.alloc _).past hb2
    have ba2 := (ba1.alloc _).past hb2
    have bb2 := (bb1.alloc _).past hb2
    have bs2 := bs1.past hb2
    have hB2 := Below.next hBs hb2
    have bn2 := Blk.new w2 25 (arr8 (dig N)) w2.heap.size rfl
    have hBn := hB2.alloc hB2.size (.cells #[.int .u64 (dig N 0), .int .u64 (dig N 1), .int .u64 (dig N 2), .int .u64 (dig N 3), .int .u64 (dig N 4), .int .u64 (dig N 5), .int .u64 (dig N 6), .int .u64 (dig N 7)] 25)
    rw [NA.out] at bn2
    clear p0 p1 p2 p3 p4 p5 p6 p7
    clear q0 q1 q2 q3 q4 q5 q6 q7
    have es0 : ∀ o : Obj, (w2.alloc o).cell? ⟨w1.heap.size, 0, none⟩ = some (.int .u64 nh) := fun o => (bs2.alloc o).cell 0
    have es1 : ∀ o : Obj, (w2.alloc o).cell? ⟨w1.heap.size, 1, none⟩ = some (.int .u64 nl) := fun o => (bs2.alloc o).cell 1
    rw [NA.out] at HSM
    go_wp2_with fail
    refine (HSM.out _).mono ?_
    rintro e w3 ⟨rfl, hb3⟩
    have hg3 := (hg2.alloc _).past hb3
    have hh3 := (hh2.alloc _).past hb3
    have ba3 := (ba2.alloc _).past hb3
    have bb3 := (bb2.alloc _).past hb3
    have hB3 := Below.next hBn hb3
    clear es0 es1
    have p0 := (hg3.cell 0).trans (arr8_get (dig X) 0 (by omega))
    have p1 := (hg3.cell 1).trans (arr8_get (dig X) 1 (by omega))
    have p2 := (hg3.cell 2).trans (arr8_get (dig X) 2 (by omega))
    have p3 := (hg3.cell 3).trans (arr8_get (dig X) 3 (by omega))
    have p4 := (hg3.cell 4).trans (arr8_get (dig X) 4 (by omega))
    have p5 := (hg3.cell 5).trans (arr8_get (dig X) 5 (by omega))
    have p6 := (hg3.cell 6).trans (arr8_get (dig X) 6 (by omega))
    have p7 := (hg3.cell 7).trans (arr8_get (dig X) 7 (by omega))
    have q0 := (hh3.cell 0).trans (arr8_get (dig Y) 0 (by omega))
    have q1 := (hh3.cell 1).trans (arr8_get (dig Y) 1 (by omega))
    have q2 := (hh3.cell 2).trans (arr8_get (dig Y) 2 (by omega))
    have q3 := (hh3.cell 3).trans (arr8_get (dig Y) 3 (by omega))
    have q4 := (hh3.cell 4).trans (arr8_get (dig Y) 4 (by omega))
    have q5 := (hh3.cell 5).trans (arr8_get (dig Y) 5 (by omega))
    have q6 := (hh3.cell 6).trans (arr8_get (dig Y) 6 (by omega))
    have q7 := (hh3.cell 7).trans (arr8_get (dig Y) 7 (by omega))
    rw [XA.out, YA.out] at HKC
    go_wp2_with fail
    refine (HKC.out _).mono ?_
    rintro e w4 ⟨rfl, hb4⟩
    have hg4 := hg3.past hb4
    have hh4 := hh3.past hb4
    have ba4 := ba3.past hb4
    have bb4 := bb3.past hb4
    have hB4 := Below.next hB3 hb4
    clear p0 p1 p2 p3 p4 p5 p6 p7
    clear q0 q1 q2 q3 q4 q5 q6 q7
    have ea0 := ba4.cell 0
    have ea1 := ba4.cell 1
    have eb0 := bb4.cell 0
    have eb1 := bb4.cell 1
    simp at ea0 ea1 eb0 eb1
    go_wp2_with fail
    refine (HMI.out _).mono ?_
    rintro e w5 ⟨rfl, hb5⟩
    have hg5 := hg4.past hb5
    have hh5 := hh4.past hb5
    have ba5 := ba4.past hb5
    have bb5 := bb4.past hb5
    have hB5 := Below.next hB4 hb5
    clear ea0 ea1 eb0 eb1
    have ea0 : ∀ o : Obj, (w5.alloc o).cell? ⟨w.heap.size, 0, none⟩ = some (.int .u64 ah) := fun o => (ba5.alloc o).cell 0
    have ea1 : ∀ o : Obj, (w5.alloc o).cell? ⟨w.heap.size, 1, none⟩ = some (.int .u64 al) := fun o => (ba5.alloc o).cell 1
    have eb0 : ∀ o : Obj, (w5.alloc o).cell? ⟨w.heap.size + 1, 0, none⟩ = some (.int .u64 bh) := fun o => (bb5.alloc o).cell 0
    have eb1 : ∀ o : Obj, (w5.alloc o).cell? ⟨w.heap.size + 1, 1, none⟩ = some (.int .u64 bl) := fun o => (bb5.alloc o).cell 1
    have bd5 := Blk.new w5 30 #[.int .u64 0, .int .u64 0] w5.heap.size rfl
    have hBd := hB5.alloc hB5.size (.cells #[.int .u64 0, .int .u64 0] 30)
    go_wp2_with fail
    refine (HWC.out _).mono ?_
    rintro e w6 ⟨rfl, hb6⟩
    have hg6 := (hg5.alloc _).past hb6
    have hh6 := (hh5.alloc _).past hb6
    have bd6 := bd5.past hb6
    have hB6 := Below.next hBd hb6
    clear ea0 ea1 eb0 eb1
    have hz := wide_eql0
    go_wp2_with fail
    refine (awake02 _).mono ?_
    rintro e w7 ⟨rfl, hb7⟩
    have ed0 := (bd6.past hb7).cell 0
    have ed1 := (bd6.past hb7).cell 1
    simp at ed0 ed1
    go_wp2_with fail
    go_ret
    exact ⟨rfl, Below.next hB6 hb7⟩

set_option maxRecDepth 100000 in
set_option maxHeartbeats 4000000 in
theorem wideAdds_over_lt (ah al bh bl : Int) (h0 : 0 ≤ ah) (h1 : ah < 18446744073709551616) (l0 : 0 ≤ al) (l1 : al < 18446744073709551616) (g0 : 0 ≤ bh) (g1 : bh < 18446744073709551616) (k0 : 0 ≤ bl) (k1 : bl < 18446744073709551616) (hf : ¬ ah * 18446744073709551616 + al + (bh * 18446744073709551616 + bl) < 340282366920938463463374607431768211456) (hle : ¬ bh * 18446744073709551616 + bl ≤ ah * 18446744073709551616 + al) (w : World) :
    Calls Try.prog 4 #[.agg #[.int .u64 ah, .int .u64 al], .agg #[.int .u64 bh, .int .u64 bl]] w fun e w' => e = .returned (.bool true) ∧ Below w.heap.size w w' := by
  have R1 := of_any ah al h0 h1 l0 l1
  have R2 := of_any bh bl g0 g1 k0 k1
  have PL := wplus_no ah al bh bl h0 h1 l0 l1 g0 g1 k0 k1 hf
  have MI := wminus_no ah al bh bl h0 h1 l0 l1 g0 g1 k0 k1 hle
  have WC := wcmp_any ah al bh bl l0 l1 k0 k1
  have x0 : 0 ≤ ah * 18446744073709551616 + al := by omega
  have x1 : ah * 18446744073709551616 + al < 340282366920938463463374607431768211456 := by omega
  have y0 : 0 ≤ bh * 18446744073709551616 + bl := by omega
  have y1 : bh * 18446744073709551616 + bl < 340282366920938463463374607431768211456 := by omega
  obtain ⟨X, hX⟩ : ∃ X, Hid (ah * 18446744073709551616 + al = X) := ⟨_, Lib.hid rfl⟩
  obtain ⟨Y, hY⟩ : ∃ Y, Hid (bh * 18446744073709551616 + bl = Y) := ⟨_, Lib.hid rfl⟩
  rw [hX.out] at R1 WC x0 x1 hf hle
  rw [hY.out] at R2 WC y0 y1 hf hle
  have RP := fun w => refPlus_any X Y w x0 x1 y0 y1
  have KC := fun w => refCmp_any X Y w x0 x1 y0 y1
  rw [decide_eq_false hf] at RP
  have qc : decide (cmpI X Y < 0) = true := dec_t (by unfold cmpI; split <;> (try split) <;> omega)
  obtain ⟨N, hN⟩ : ∃ N, Hid (X + Y = N) := ⟨_, Lib.hid rfl⟩
  rw [hN.out] at RP
  generalize cmpI X Y = v at *
  have pv : (v != v) = false := by simp
  have XA : Hid (arr8 (dig X) = #[.int .u64 (dig X 0), .int .u64 (dig X 1), .int .u64 (dig X 2), .int .u64 (dig X 3), .int .u64 (dig X 4), .int .u64 (dig X 5), .int .u64 (dig X 6), .int .u64 (dig X 7)]) := Lib.hid rfl
  have YA : Hid (arr8 (dig Y) = #[.int .u64 (dig Y 0), .int .u64 (dig Y 1), .int .u64 (dig Y 2), .int .u64 (dig Y 3), .int .u64 (dig Y 4), .int .u64 (dig Y 5), .int .u64 (dig Y 6), .int .u64 (dig Y 7)]) := Lib.hid rfl
  have NA : Hid (arr8 (dig N) = #[.int .u64 (dig N 0), .int .u64 (dig N 1), .int .u64 (dig N 2), .int .u64 (dig N 3), .int .u64 (dig N 4), .int .u64 (dig N 5), .int .u64 (dig N 6), .int .u64 (dig N 7)]) := Lib.hid rfl
  have HR1 := Lib.hid R1
  have HR2 := Lib.hid R2
  have HPL := Lib.hid PL
  have HMI := Lib.hid MI
  have HWC := Lib.hid WC
  have HRP := Lib.hid RP
  have HKC := Lib.hid KC
  clear R1 R2 PL MI WC RP KC hf hle
  have hB0 := ((Below.refl w.heap.size w).alloc (Nat.le_refl _) (.cells #[.int .u64 ah, .int .u64 al] 30)).alloc (by simp) (.cells #[.int .u64 bh, .int .u64 bl] 30)
  have bxa := (Blk.new w 30 #[.int .u64 ah, .int .u64 al] w.heap.size rfl).alloc (.cells #[.int .u64 bh, .int .u64 bl] 30)
  have bxb := Blk.new (w.alloc (.cells #[.int .u64 ah, .int .u64 al] 30)) 30 #[.int .u64 bh, .int .u64 bl] (w.heap.size + 1) (by simp)
  obtain ⟨W, hW⟩ : ∃ W, Hid ((w.alloc (.cells #[.int .u64 ah, .int .u64 al] 30)).alloc (.cells #[.int .u64 bh, .int .u64 bl] 30) = W) := ⟨_, Lib.hid rfl⟩
  rw [hW.out] at hB0 bxa bxb
  have hlta := bxa.lt
  have hltb := bxb.lt
  go_enter Try.func4, Try.ntmps4
  go_upto_region 1 with fail
  rw [hW.out]
  go_cut [5, 6] (fun p q w' => TwoCut W X Y p q w')
  case first =>
    refine wp_region_any (by kernel_rfl) ?_
    change wpAny _ _ _ _ _ _ _ (World.drew _)
    refine wpAny_take (i := 0) (v := .pointer (some ⟨w.heap.size, 0, none⟩)) rfl (by kernel_rfl) (by kernel_rfl) (by kernel_rfl) (fun _ _ _ h => h) (Or.inl ⟨by rfl, fun _ => by go_simp⟩) ?_
    refine wpAny_take (i := 2) (v := .pointer (some ⟨w.heap.size, 1, none⟩)) rfl (by kernel_rfl) (by kernel_rfl) (by kernel_rfl) (fun _ _ _ h => h) (Or.inl ⟨by rfl, fun _ => by go_simp⟩) ?_
    refine wpAny_take (i := 5) (v := .pointer (some ⟨w.heap.size + 1, 0, none⟩)) rfl (by kernel_rfl) (by kernel_rfl) (by kernel_rfl) (fun _ _ _ h => h) (Or.inl ⟨by rfl, fun _ => by go_simp⟩) ?_
    refine wpAny_take (i := 7) (v := .pointer (some ⟨w.heap.size + 1, 1, none⟩)) rfl (by kernel_rfl) (by kernel_rfl) (by kernel_rfl) (fun _ _ _ h => h) (Or.inl ⟨by rfl, fun _ => by go_simp⟩) ?_
    refine wpAny_inv_fr [17, 19, 20, 22, 24, 25, 5, 6] (jA W X Y (.int .u64 ah) (.int .u64 al) (.int .u64 bh) (.int .u64 bl)) (by simp [toCome]) ?_ ?_ ?_
    · exact fun v => ⟨false, false, false, false, false, false, false, false, false, false, rfl, { below := Below.drew (Below.refl _ _), call1 := nofun, load1 := nofun, load2 := nofun, call2 := nofun, new1 := nofun, new2 := nofun, apart := nofun, one := nofun, two := nofun }, nofun, nofun⟩
    · rintro L v w4 ⟨l1, l2, c1, l3, l4, c2, a1, a2, s1, s2, rfl, hS, hv1, hv2⟩ hr
      have rdy : ∀ i, i ∈ Region.ready _ _ _ → False := fun i hi => by rw [hr] at hi; cases hi
      cases l1
      · exact (rdy 1 (mem_ready.2 ⟨rfl, _, rfl, by intro e he _; simp at he; subst he; rfl⟩)).elim
      cases l2
      · exact (rdy 3 (mem_ready.2 ⟨rfl, _, rfl, by intro e he _; simp at he; subst he; rfl⟩)).elim
      cases c1
      · exact (rdy 4 (mem_ready.2 ⟨rfl, _, rfl, by intro e he _; simp at he; rcases he with rfl | rfl <;> rfl⟩)).elim
      cases l3
      · exact (rdy 6 (mem_ready.2 ⟨rfl, _, rfl, by intro e he _; simp at he; subst he; rfl⟩)).elim
      cases l4
      · exact (rdy 8 (mem_ready.2 ⟨rfl, _, rfl, by intro e he _; simp at he; subst he; rfl⟩)).elim
      cases c2
      · exact (rdy 9 (mem_ready.2 ⟨rfl, _, rfl, by intro e he _; simp at he; rcases he with rfl | rfl | rfl <;> rfl⟩)).elim
      cases a1
      · exact (rdy 10 (mem_ready.2 ⟨rfl, _, rfl, by intro e he _; simp at he⟩)).elim
      cases a2
      · exact (rdy 11 (mem_ready.2 ⟨rfl, _, rfl, by intro e he _; simp at he⟩)).elim
      cases s1
      · exact (rdy 12 (mem_ready.2 ⟨rfl, _, rfl, by intro e he _; simp at he; rcases he with rfl | rfl | rfl | rfl | rfl | rfl | rfl | rfl | rfl | rfl | rfl | rfl | rfl | rfl | rfl <;> rfl⟩)).elim
      cases s2
      · exact (rdy 13 (mem_ready.2 ⟨rfl, _, rfl, by intro e he _; simp at he; rcases he with rfl | rfl | rfl | rfl | rfl | rfl | rfl | rfl | rfl | rfl | rfl | rfl | rfl | rfl | rfl | rfl <;> rfl⟩)).elim
      clear rdy hr
      obtain ⟨g, e1, _, e3⟩ := hS.new1 rfl
      obtain ⟨h, f1, _, f3⟩ := hS.new2 rfl
      have hT : TwoCut W X Y (v 5) (v 6) w4 := ⟨g, h, e1, f1, e3, f3, hS.below⟩
      clear e1 e3 f1 f3 hS
      simp [frS, Act.put]
      go_wp2_with fail
      go_meet
      exact hT
    · rintro L v w4 i ⟨l1, l2, c1, l3, l4, c2, a1, a2, s1, s2, rfl, hS, hv1, hv2⟩ hi hr
      obtain ⟨hun, o, ho, hall⟩ := mem_ready.1 hr
      have hm : i ∈ [0, 1, 2, 3, 4, 5, 6, 7, 8, 9, 10, 11, 12, 13] := hi
      simp only [List.mem_cons, List.not_mem_nil, or_false] at hm
      rcases hm with rfl | rfl | rfl | rfl | rfl | rfl | rfl | rfl | rfl | rfl | rfl | rfl | rfl | rfl
      all_goals first | (simp at hun; done) | skip
      · obtain rfl : l1 = false := by simpa using hun
        exact wpOp_load64 (i := 1) rfl rfl rfl (.tmp 16) rfl ⟨w.heap.size, 0, none⟩ ah (frS_old rfl) ((bxa.below hS.below hlta).cell 0) ⟨_, frS_put rfl, true, l2, c1, l3, l4, c2, a1, a2, s1, s2, rfl, hS, fun _ => rfl, hv2⟩
      · obtain rfl : l2 = false := by simpa using hun
        exact wpOp_load64 (i := 3) rfl rfl rfl (.tmp 18) rfl ⟨w.heap.size, 1, none⟩ al (frS_old rfl) ((bxa.below hS.below hlta).cell 1) ⟨_, frS_put rfl, l1, true, c1, l3, l4, c2, a1, a2, s1, s2, rfl, hS, hv1, fun _ => rfl⟩
      · obtain rfl : c1 = false := by simpa using hun
        simp at ho
        subst ho
        have k1 : l1 = true := by simpa using hall { on := 1, ground := Ground.data } (by simp) rfl
        have k2 : l2 = true := by simpa using hall { on := 3, ground := Ground.data } (by simp) rfl
        refine wpOp_call2 (i := 4) rfl Try.call20 (.int .u64 ah) (.int .u64 al) ((frS_eval rfl (by simp [Act.put])).trans (hv1 k1)) ((frS_eval rfl (by simp [Act.put])).trans (hv2 k2)) _ (HR1.out _) ?_
        intro w5 hb5
        exact ⟨_, frS_put rfl, l1, l2, true, l3, l4, c2, a1, a2, s1, s2, rfl, (hS.past hb5).setCall1, hv1, hv2⟩
      · obtain rfl : l3 = false := by simpa using hun
        exact wpOp_load64 (i := 6) rfl rfl rfl (.tmp 21) rfl ⟨w.heap.size + 1, 0, none⟩ bh (frS_old rfl) ((bxb.below hS.below hltb).cell 0) ⟨_, frS_put rfl, l1, l2, c1, true, l4, c2, a1, a2, s1, s2, rfl, hS.setLoad1, hv1, hv2⟩
      · obtain rfl : l4 = false := by simpa using hun
        exact wpOp_load64 (i := 8) rfl rfl rfl (.tmp 23) rfl ⟨w.heap.size + 1, 1, none⟩ bl (frS_old rfl) ((bxb.below hS.below hltb).cell 1) ⟨_, frS_put rfl, l1, l2, c1, l3, true, c2, a1, a2, s1, s2, rfl, hS.setLoad2, hv1, hv2⟩
      · obtain rfl : c2 = false := by simpa using hun
        simp at ho
        subst ho
        have k1 : l3 = true := by simpa using hall { on := 6, ground := Ground.data } (by simp) rfl
        have k2 : l4 = true := by simpa using hall { on := 8, ground := Ground.data } (by simp) rfl
        refine wpOp_call2 (i := 9) rfl Try.call20 (.int .u64 bh) (.int .u64 bl) ((frS_eval rfl (by simp [Act.put])).trans (hS.load1 k1)) ((frS_eval rfl (by simp [Act.put])).trans (hS.load2 k2)) _ (HR2.out _) ?_
        intro w5 hb5
        exact ⟨_, frS_put rfl, l1, l2, c1, l3, l4, true, a1, a2, s1, s2, rfl, (hS.past hb5).setCall2, hv1, hv2⟩
      · obtain rfl : a1 = false := by simpa using hun
        exact wpOp_alloc8 (i := 10) rfl rfl rfl rfl ⟨_, frS_put rfl, l1, l2, c1, l3, l4, c2, true, a2, s1, s2, rfl, hS.setNew1, hv1, hv2⟩
      · obtain rfl : a2 = false := by simpa using hun
        exact wpOp_alloc8 (i := 11) rfl rfl rfl rfl ⟨_, frS_put rfl, l1, l2, c1, l3, l4, c2, a1, true, s1, s2, rfl, hS.setNew2, hv1, hv2⟩
      · obtain rfl : s1 = false := by simpa using hun
        simp at ho
        subst ho
        obtain rfl : a1 = true := by simpa using hall { on := 10, ground := Ground.data } (by simp) rfl
        have k2 : c1 = true := by simpa using hall { on := 4, ground := Ground.data } (by simp) rfl
        obtain ⟨g, e1, e2, e3⟩ := hS.new1 rfl
        exact wpOp_store8 (i := 12) rfl rfl rfl (.tmp 5) (.tmp 20) rfl g (fun _ => 0) (dig X) ((frS_eval rfl (by simp [Act.put])).trans e1) ((frS_eval rfl (by simp [Act.put])).trans (hS.call1 k2)) e3 ⟨v, rfl, l1, l2, c1, l3, l4, c2, true, a2, true, s2, rfl, hS.setStore1 e1, hv1, hv2⟩
      · obtain rfl : s2 = false := by simpa using hun
        simp at ho
        subst ho
        obtain rfl : a2 = true := by simpa using hall { on := 11, ground := Ground.data } (by simp) rfl
        have k2 : c2 = true := by simpa using hall { on := 9, ground := Ground.data } (by simp) rfl
        obtain ⟨g, e1, e2, e3⟩ := hS.new2 rfl
        exact wpOp_store8 (i := 13) rfl rfl rfl (.tmp 6) (.tmp 25) rfl g (fun _ => 0) (dig Y) ((frS_eval rfl (by simp [Act.put])).trans e1) ((frS_eval rfl (by simp [Act.put])).trans (hS.call2 k2)) e3 ⟨v, rfl, l1, l2, c1, l3, l4, c2, a1, true, s1, true, rfl, hS.setStore2 e1, hv1, hv2⟩
  case rest =>
    obtain ⟨g, h, rfl, rfl, hg, hh, hbc⟩ := hcut
    have ba := bxa.below hbc hlta
    have bb := bxb.below hbc hltb
    have hBc := Below.past hB0 hbc hB0.size
    clear bxa bxb hlta hltb hbc hB0 hW HR1 HR2
    have ea0 := ba.cell 0
    have ea1 := ba.cell 1
    have eb0 := bb.cell 0
    have eb1 := bb.cell 1
    simp at ea0 ea1 eb0 eb1
    go_wp2_with fail
    refine (HPL.out _).mono ?_
    rintro e w1 ⟨rfl, hb1⟩
    have hg1 := hg.past hb1
    have hh1 := hh.past hb1
    have ba1 := ba.past hb1
    have bb1 := bb.past hb1
    have hB1 := Below.next hBc hb1
    clear ea0 ea1 eb0 eb1
    have p0 : ∀ o : Obj, (w1.alloc o).cell? ⟨g, 0, none⟩ = some (.int .u64 (dig X 0)) := fun o => ((hg1.alloc o).cell 0).trans (arr8_get _ 0 (by omega))
    have p1 : ∀ o : Obj, (w1.alloc o).cell? ⟨g, 1, none⟩ = some (.int .u64 (dig X 1)) := fun o => ((hg1.alloc o).cell 1).trans (arr8_get _ 1 (by omega))
    have p2 : ∀ o : Obj, (w1.alloc o).cell? ⟨g, 2, none⟩ = some (.int .u64 (dig X 2)) := fun o => ((hg1.alloc o).cell 2).trans (arr8_get _ 2 (by omega))
    have p3 : ∀ o : Obj, (w1.alloc o).cell? ⟨g, 3, none⟩ = some (.int .u64 (dig X 3)) := fun o => ((hg1.alloc o).cell 3).trans (arr8_get _ 3 (by omega))
    have p4 : ∀ o : Obj, (w1.alloc o).cell? ⟨g, 4, none⟩ = some (.int .u64 (dig X 4)) := fun o => ((hg1.alloc o).cell 4).trans (arr8_get _ 4 (by omega))
    have p5 : ∀ o : Obj, (w1.alloc o).cell? ⟨g, 5, none⟩ = some (.int .u64 (dig X 5)) := fun o => ((hg1.alloc o).cell 5).trans (arr8_get _ 5 (by omega))
    have p6 : ∀ o : Obj, (w1.alloc o).cell? ⟨g, 6, none⟩ = some (.int .u64 (dig X 6)) := fun o => ((hg1.alloc o).cell 6).trans (arr8_get _ 6 (by omega))
    have p7 : ∀ o : Obj, (w1.alloc o).cell? ⟨g, 7, none⟩ = some (.int .u64 (dig X 7)) := fun o => ((hg1.alloc o).cell 7).trans (arr8_get _ 7 (by omega))
    have q0 : ∀ o : Obj, (w1.alloc o).cell? ⟨h, 0, none⟩ = some (.int .u64 (dig Y 0)) := fun o => ((hh1.alloc o).cell 0).trans (arr8_get _ 0 (by omega))
    have q1 : ∀ o : Obj, (w1.alloc o).cell? ⟨h, 1, none⟩ = some (.int .u64 (dig Y 1)) := fun o => ((hh1.alloc o).cell 1).trans (arr8_get _ 1 (by omega))
    have q2 : ∀ o : Obj, (w1.alloc o).cell? ⟨h, 2, none⟩ = some (.int .u64 (dig Y 2)) := fun o => ((hh1.alloc o).cell 2).trans (arr8_get _ 2 (by omega))
    have q3 : ∀ o : Obj, (w1.alloc o).cell? ⟨h, 3, none⟩ = some (.int .u64 (dig Y 3)) := fun o => ((hh1.alloc o).cell 3).trans (arr8_get _ 3 (by omega))
    have q4 : ∀ o : Obj, (w1.alloc o).cell? ⟨h, 4, none⟩ = some (.int .u64 (dig Y 4)) := fun o => ((hh1.alloc o).cell 4).trans (arr8_get _ 4 (by omega))
    have q5 : ∀ o : Obj, (w1.alloc o).cell? ⟨h, 5, none⟩ = some (.int .u64 (dig Y 5)) := fun o => ((hh1.alloc o).cell 5).trans (arr8_get _ 5 (by omega))
    have q6 : ∀ o : Obj, (w1.alloc o).cell? ⟨h, 6, none⟩ = some (.int .u64 (dig Y 6)) := fun o => ((hh1.alloc o).cell 6).trans (arr8_get _ 6 (by omega))
    have q7 : ∀ o : Obj, (w1.alloc o).cell? ⟨h, 7, none⟩ = some (.int .u64 (dig Y 7)) := fun o => ((hh1.alloc o).cell 7).trans (arr8_get _ 7 (by omega))
    have bs1 := Blk.new w1 30 #[.int .u64 0, .int .u64 0] w1.heap.size rfl
    have hBs := hB1.alloc hB1.size (.cells #[.int .u64 0, .int .u64 0] 30)
    rw [XA.out, YA.out] at HRP
    go_wp2_with fail
    refine (HRP.out _).mono ?_
    rw [NA.out]
    rintro e w2 ⟨rfl, hb2⟩
    have hg2 := (hg1.alloc _).past hb2
    have hh2 := (hh1.alloc _).past hb2
    have ba2 := (ba1.alloc _).past hb2
    have bb2 := (bb1.alloc _).past hb2
    have bs2 := bs1.past hb2
    have hB2 := Below.next hBs hb2
    have bn2 := Blk.new w2 25 (arr8 (dig N)) w2.heap.size rfl
    have hBn := hB2.alloc hB2.size (.cells #[.int .u64 (dig N 0), .int .u64 (dig N 1), .int .u64 (dig N 2), .int .u64 (dig N 3), .int .u64 (dig N 4), .int .u64 (dig N 5), .int .u64 (dig N 6), .int .u64 (dig N 7)] 25)
    rw [NA.out] at bn2
    clear p0 p1 p2 p3 p4 p5 p6 p7
    clear q0 q1 q2 q3 q4 q5 q6 q7
    have es0 : ∀ o : Obj, (w2.alloc o).cell? ⟨w1.heap.size, 0, none⟩ = some (.int .u64 0) := fun o => (bs2.alloc o).cell 0
    have es1 : ∀ o : Obj, (w2.alloc o).cell? ⟨w1.heap.size, 1, none⟩ = some (.int .u64 0) := fun o => (bs2.alloc o).cell 1
    have hz := wide_neq0
    have p0 : ∀ o : Obj, (w2.alloc o).cell? ⟨g, 0, none⟩ = some (.int .u64 (dig X 0)) := fun o => ((hg2.alloc o).cell 0).trans (arr8_get _ 0 (by omega))
    have p1 : ∀ o : Obj, (w2.alloc o).cell? ⟨g, 1, none⟩ = some (.int .u64 (dig X 1)) := fun o => ((hg2.alloc o).cell 1).trans (arr8_get _ 1 (by omega))
    have p2 : ∀ o : Obj, (w2.alloc o).cell? ⟨g, 2, none⟩ = some (.int .u64 (dig X 2)) := fun o => ((hg2.alloc o).cell 2).trans (arr8_get _ 2 (by omega))
    have p3 : ∀ o : Obj, (w2.alloc o).cell? ⟨g, 3, none⟩ = some (.int .u64 (dig X 3)) := fun o => ((hg2.alloc o).cell 3).trans (arr8_get _ 3 (by omega))
    have p4 : ∀ o : Obj, (w2.alloc o).cell? ⟨g, 4, none⟩ = some (.int .u64 (dig X 4)) := fun o => ((hg2.alloc o).cell 4).trans (arr8_get _ 4 (by omega))
    have p5 : ∀ o : Obj, (w2.alloc o).cell? ⟨g, 5, none⟩ = some (.int .u64 (dig X 5)) := fun o => ((hg2.alloc o).cell 5).trans (arr8_get _ 5 (by omega))
    have p6 : ∀ o : Obj, (w2.alloc o).cell? ⟨g, 6, none⟩ = some (.int .u64 (dig X 6)) := fun o => ((hg2.alloc o).cell 6).trans (arr8_get _ 6 (by omega))
    have p7 : ∀ o : Obj, (w2.alloc o).cell? ⟨g, 7, none⟩ = some (.int .u64 (dig X 7)) := fun o => ((hg2.alloc o).cell 7).trans (arr8_get _ 7 (by omega))
    have q0 : ∀ o : Obj, (w2.alloc o).cell? ⟨h, 0, none⟩ = some (.int .u64 (dig Y 0)) := fun o => ((hh2.alloc o).cell 0).trans (arr8_get _ 0 (by omega))
    have q1 : ∀ o : Obj, (w2.alloc o).cell? ⟨h, 1, none⟩ = some (.int .u64 (dig Y 1)) := fun o => ((hh2.alloc o).cell 1).trans (arr8_get _ 1 (by omega))
    have q2 : ∀ o : Obj, (w2.alloc o).cell? ⟨h, 2, none⟩ = some (.int .u64 (dig Y 2)) := fun o => ((hh2.alloc o).cell 2).trans (arr8_get _ 2 (by omega))
    have q3 : ∀ o : Obj, (w2.alloc o).cell? ⟨h, 3, none⟩ = some (.int .u64 (dig Y 3)) := fun o => ((hh2.alloc o).cell 3).trans (arr8_get _ 3 (by omega))
    have q4 : ∀ o : Obj, (w2.alloc o).cell? ⟨h, 4, none⟩ = some (.int .u64 (dig Y 4)) := fun o => ((hh2.alloc o).cell 4).trans (arr8_get _ 4 (by omega))
    have q5 : ∀ o : Obj, (w2.alloc o).cell? ⟨h, 5, none⟩ = some (.int .u64 (dig Y 5)) := fun o => ((hh2.alloc o).cell 5).trans (arr8_get _ 5 (by omega))
    have q6 : ∀ o : Obj, (w2.alloc o).cell? ⟨h, 6, none⟩ = some (.int .u64 (dig Y 6)) := fun o => ((hh2.alloc o).cell 6).trans (arr8_get _ 6 (by omega))
    have q7 : ∀ o : Obj, (w2.alloc o).cell? ⟨h, 7, none⟩ = some (.int .u64 (dig Y 7)) := fun o => ((hh2.alloc o).cell 7).trans (arr8_get _ 7 (by omega))
    rw [XA.out, YA.out] at HKC
    go_wp2_with fail
    refine (HKC.out _).mono ?_
    rintro e w4 ⟨rfl, hb4⟩
    have hg4 := (hg2.alloc _).past hb4
    have hh4 := (hh2.alloc _).past hb4
    have ba4 := (ba2.alloc _).past hb4
    have bb4 := (bb2.alloc _).past hb4
    have hB4 := Below.next hBn hb4
    clear es0 es1 hz
    clear p0 p1 p2 p3 p4 p5 p6 p7
    clear q0 q1 q2 q3 q4 q5 q6 q7
    have ea0 := ba4.cell 0
    have ea1 := ba4.cell 1
    have eb0 := bb4.cell 0
    have eb1 := bb4.cell 1
    simp at ea0 ea1 eb0 eb1
    go_wp2_with fail
    refine (HMI.out _).mono ?_
    rintro e w5 ⟨rfl, hb5⟩
    have hg5 := hg4.past hb5
    have hh5 := hh4.past hb5
    have ba5 := ba4.past hb5
    have bb5 := bb4.past hb5
    have hB5 := Below.next hB4 hb5
    clear ea0 ea1 eb0 eb1
    have ea0 : ∀ o : Obj, (w5.alloc o).cell? ⟨w.heap.size, 0, none⟩ = some (.int .u64 ah) := fun o => (ba5.alloc o).cell 0
    have ea1 : ∀ o : Obj, (w5.alloc o).cell? ⟨w.heap.size, 1, none⟩ = some (.int .u64 al) := fun o => (ba5.alloc o).cell 1
    have eb0 : ∀ o : Obj, (w5.alloc o).cell? ⟨w.heap.size + 1, 0, none⟩ = some (.int .u64 bh) := fun o => (bb5.alloc o).cell 0
    have eb1 : ∀ o : Obj, (w5.alloc o).cell? ⟨w.heap.size + 1, 1, none⟩ = some (.int .u64 bl) := fun o => (bb5.alloc o).cell 1
    have bd5 := Blk.new w5 30 #[.int .u64 0, .int .u64 0] w5.heap.size rfl
    have hBd := hB5.alloc hB5.size (.cells #[.int .u64 0, .int .u64 0] 30)
    go_wp2_with fail
    refine (HWC.out _).mono ?_
    rintro e w6 ⟨rfl, hb6⟩
    have hg6 := (hg5.alloc _).past hb6
    have hh6 := (hh5.alloc _).past hb6
    have bd6 := bd5.past hb6
    have hB6 := Below.next hBd hb6
    clear ea0 ea1 eb0 eb1
    have hz := wide_eql0
    go_wp2_with fail
    refine (awake02 _).mono ?_
    rintro e w7 ⟨rfl, hb7⟩
    have ed0 := (bd6.past hb7).cell 0
    have ed1 := (bd6.past hb7).cell 1
    simp at ed0 ed1
    go_wp2_with fail
    go_ret
    exact ⟨rfl, Below.next hB6 hb7⟩

set_option maxRecDepth 100000 in
set_option maxHeartbeats 4000000 in
theorem wideAdds_fit_le (ah al bh bl : Int) (h0 : 0 ≤ ah) (h1 : ah < 18446744073709551616) (l0 : 0 ≤ al) (l1 : al < 18446744073709551616) (g0 : 0 ≤ bh) (g1 : bh < 18446744073709551616) (k0 : 0 ≤ bl) (k1 : bl < 18446744073709551616) (hf : ah * 18446744073709551616 + al + (bh * 18446744073709551616 + bl) < 340282366920938463463374607431768211456) (hle : bh * 18446744073709551616 + bl ≤ ah * 18446744073709551616 + al) (w : World) :
    Calls Try.prog 4 #[.agg #[.int .u64 ah, .int .u64 al], .agg #[.int .u64 bh, .int .u64 bl]] w fun e w' => e = .returned (.bool true) ∧ Below w.heap.size w w' := by
  have R1 := of_any ah al h0 h1 l0 l1
  have R2 := of_any bh bl g0 g1 k0 k1
  have PL := wplus_yes ah al bh bl h0 h1 l0 l1 g0 g1 k0 k1 hf
  have MI := wminus_yes ah al bh bl h0 h1 l0 l1 g0 g1 k0 k1 hle
  have WC := wcmp_any ah al bh bl l0 l1 k0 k1
  have x0 : 0 ≤ ah * 18446744073709551616 + al := by omega
  have x1 : ah * 18446744073709551616 + al < 340282366920938463463374607431768211456 := by omega
  have y0 : 0 ≤ bh * 18446744073709551616 + bl := by omega
  have y1 : bh * 18446744073709551616 + bl < 340282366920938463463374607431768211456 := by omega
  obtain ⟨X, hX⟩ : ∃ X, Hid (ah * 18446744073709551616 + al = X) := ⟨_, Lib.hid rfl⟩
  obtain ⟨Y, hY⟩ : ∃ Y, Hid (bh * 18446744073709551616 + bl = Y) := ⟨_, Lib.hid rfl⟩
  rw [hX.out] at R1 PL MI WC x0 x1 hf hle
  rw [hY.out] at R2 PL MI WC y0 y1 hf hle
  have RP := fun w => refPlus_any X Y w x0 x1 y0 y1
  have KC := fun w => refCmp_any X Y w x0 x1 y0 y1
  rw [decide_eq_true hf] at RP
  have SM := same_true (X + Y) (by omega) hf
  have qc : decide (cmpI X Y < 0) = false := dec_f (by unfold cmpI; split <;> (try split) <;> omega)
  have D0 : 0 ≤ X - Y := by omega
  have R3 := of_any ((X - Y) / 18446744073709551616) ((X - Y) % 18446744073709551616) (by omega) (by omega) (by omega) (by omega)
  rw [words_back] at R3
  have RQ := fun w => refPlus_any (X - Y) Y w D0 (by omega) y0 y1
  rw [show X - Y + Y = X by omega, decide_eq_true x1] at RQ
  obtain ⟨D, hD⟩ : ∃ D, Hid (X - Y = D) := ⟨_, Lib.hid rfl⟩
  rw [hD.out] at MI R3 RQ D0
  obtain ⟨dh, hdh⟩ : ∃ D', Hid (D / 18446744073709551616 = D') := ⟨_, Lib.hid rfl⟩
  obtain ⟨dl, hdl⟩ : ∃ D', Hid (D % 18446744073709551616 = D') := ⟨_, Lib.hid rfl⟩
  rw [hdh.out, hdl.out] at MI R3
  have HR3 := Lib.hid R3
  have HRQ := Lib.hid RQ
  clear R3 RQ
  obtain ⟨N, hN⟩ : ∃ N, Hid (X + Y = N) := ⟨_, Lib.hid rfl⟩
  rw [hN.out] at RP
  rw [hN.out] at SM PL
  obtain ⟨nh, hnh⟩ : ∃ D', Hid (N / 18446744073709551616 = D') := ⟨_, Lib.hid rfl⟩
  obtain ⟨nl, hnl⟩ : ∃ D', Hid (N % 18446744073709551616 = D') := ⟨_, Lib.hid rfl⟩
  rw [hnh.out, hnl.out] at SM PL
  have HSM := Lib.hid SM
  clear SM
  generalize cmpI X Y = v at *
  have pv : (v != v) = false := by simp
  have XA : Hid (arr8 (dig X) = #[.int .u64 (dig X 0), .int .u64 (dig X 1), .int .u64 (dig X 2), .int .u64 (dig X 3), .int .u64 (dig X 4), .int .u64 (dig X 5), .int .u64 (dig X 6), .int .u64 (dig X 7)]) := Lib.hid rfl
  have YA : Hid (arr8 (dig Y) = #[.int .u64 (dig Y 0), .int .u64 (dig Y 1), .int .u64 (dig Y 2), .int .u64 (dig Y 3), .int .u64 (dig Y 4), .int .u64 (dig Y 5), .int .u64 (dig Y 6), .int .u64 (dig Y 7)]) := Lib.hid rfl
  have NA : Hid (arr8 (dig N) = #[.int .u64 (dig N 0), .int .u64 (dig N 1), .int .u64 (dig N 2), .int .u64 (dig N 3), .int .u64 (dig N 4), .int .u64 (dig N 5), .int .u64 (dig N 6), .int .u64 (dig N 7)]) := Lib.hid rfl
  have HR1 := Lib.hid R1
  have HR2 := Lib.hid R2
  have HPL := Lib.hid PL
  have HMI := Lib.hid MI
  have HWC := Lib.hid WC
  have HRP := Lib.hid RP
  have HKC := Lib.hid KC
  clear R1 R2 PL MI WC RP KC hf hle
  have hB0 := ((Below.refl w.heap.size w).alloc (Nat.le_refl _) (.cells #[.int .u64 ah, .int .u64 al] 30)).alloc (by simp) (.cells #[.int .u64 bh, .int .u64 bl] 30)
  have bxa := (Blk.new w 30 #[.int .u64 ah, .int .u64 al] w.heap.size rfl).alloc (.cells #[.int .u64 bh, .int .u64 bl] 30)
  have bxb := Blk.new (w.alloc (.cells #[.int .u64 ah, .int .u64 al] 30)) 30 #[.int .u64 bh, .int .u64 bl] (w.heap.size + 1) (by simp)
  obtain ⟨W, hW⟩ : ∃ W, Hid ((w.alloc (.cells #[.int .u64 ah, .int .u64 al] 30)).alloc (.cells #[.int .u64 bh, .int .u64 bl] 30) = W) := ⟨_, Lib.hid rfl⟩
  rw [hW.out] at hB0 bxa bxb
  have hlta := bxa.lt
  have hltb := bxb.lt
  go_enter Try.func4, Try.ntmps4
  go_upto_region 1 with fail
  rw [hW.out]
  go_cut [5, 6] (fun p q w' => TwoCut W X Y p q w')
  case first =>
    refine wp_region_any (by kernel_rfl) ?_
    change wpAny _ _ _ _ _ _ _ (World.drew _)
    refine wpAny_take (i := 0) (v := .pointer (some ⟨w.heap.size, 0, none⟩)) rfl (by kernel_rfl) (by kernel_rfl) (by kernel_rfl) (fun _ _ _ h => h) (Or.inl ⟨by rfl, fun _ => by go_simp⟩) ?_
    refine wpAny_take (i := 2) (v := .pointer (some ⟨w.heap.size, 1, none⟩)) rfl (by kernel_rfl) (by kernel_rfl) (by kernel_rfl) (fun _ _ _ h => h) (Or.inl ⟨by rfl, fun _ => by go_simp⟩) ?_
    refine wpAny_take (i := 5) (v := .pointer (some ⟨w.heap.size + 1, 0, none⟩)) rfl (by kernel_rfl) (by kernel_rfl) (by kernel_rfl) (fun _ _ _ h => h) (Or.inl ⟨by rfl, fun _ => by go_simp⟩) ?_
    refine wpAny_take (i := 7) (v := .pointer (some ⟨w.heap.size + 1, 1, none⟩)) rfl (by kernel_rfl) (by kernel_rfl) (by kernel_rfl) (fun _ _ _ h => h) (Or.inl ⟨by rfl, fun _ => by go_simp⟩) ?_
    refine wpAny_inv_fr [17, 19, 20, 22, 24, 25, 5, 6] (jA W X Y (.int .u64 ah) (.int .u64 al) (.int .u64 bh) (.int .u64 bl)) (by simp [toCome]) ?_ ?_ ?_
    · exact fun v => ⟨false, false, false, false, false, false, false, false, false, false, rfl, { below := Below.drew (Below.refl _ _), call1 := nofun, load1 := nofun, load2 := nofun, call2 := nofun, new1 := nofun, new2 := nofun, apart := nofun, one := nofun, two := nofun }, nofun, nofun⟩
    · rintro L v w4 ⟨l1, l2, c1, l3, l4, c2, a1, a2, s1, s2, rfl, hS, hv1, hv2⟩ hr
      have rdy : ∀ i, i ∈ Region.ready _ _ _ → False := fun i hi => by rw [hr] at hi; cases hi
      cases l1
      · exact (rdy 1 (mem_ready.2 ⟨rfl, _, rfl, by intro e he _; simp at he; subst he; rfl⟩)).elim
      cases l2
      · exact (rdy 3 (mem_ready.2 ⟨rfl, _, rfl, by intro e he _; simp at he; subst he; rfl⟩)).elim
      cases c1
      · exact (rdy 4 (mem_ready.2 ⟨rfl, _, rfl, by intro e he _; simp at he; rcases he with rfl | rfl <;> rfl⟩)).elim
      cases l3
      · exact (rdy 6 (mem_ready.2 ⟨rfl, _, rfl, by intro e he _; simp at he; subst he; rfl⟩)).elim
      cases l4
      · exact (rdy 8 (mem_ready.2 ⟨rfl, _, rfl, by intro e he _; simp at he; subst he; rfl⟩)).elim
      cases c2
      · exact (rdy 9 (mem_ready.2 ⟨rfl, _, rfl, by intro e he _; simp at he; rcases he with rfl | rfl | rfl <;> rfl⟩)).elim
      cases a1
      · exact (rdy 10 (mem_ready.2 ⟨rfl, _, rfl, by intro e he _; simp at he⟩)).elim
      cases a2
      · exact (rdy 11 (mem_ready.2 ⟨rfl, _, rfl, by intro e he _; simp at he⟩)).elim
      cases s1
      · exact (rdy 12 (mem_ready.2 ⟨rfl, _, rfl, by intro e he _; simp at he; rcases he with rfl | rfl | rfl | rfl | rfl | rfl | rfl | rfl | rfl | rfl | rfl | rfl | rfl | rfl | rfl <;> rfl⟩)).elim
      cases s2
      · exact (rdy 13 (mem_ready.2 ⟨rfl, _, rfl, by intro e he _; simp at he; rcases he with rfl | rfl | rfl | rfl | rfl | rfl | rfl | rfl | rfl | rfl | rfl | rfl | rfl | rfl | rfl | rfl <;> rfl⟩)).elim
      clear rdy hr
      obtain ⟨g, e1, _, e3⟩ := hS.new1 rfl
      obtain ⟨h, f1, _, f3⟩ := hS.new2 rfl
      have hT : TwoCut W X Y (v 5) (v 6) w4 := ⟨g, h, e1, f1, e3, f3, hS.below⟩
      clear e1 e3 f1 f3 hS
      simp [frS, Act.put]
      go_wp2_with fail
      go_meet
      exact hT
    · rintro L v w4 i ⟨l1, l2, c1, l3, l4, c2, a1, a2, s1, s2, rfl, hS, hv1, hv2⟩ hi hr
      obtain ⟨hun, o, ho, hall⟩ := mem_ready.1 hr
      have hm : i ∈ [0, 1, 2, 3, 4, 5, 6, 7, 8, 9, 10, 11, 12, 13] := hi
      simp only [List.mem_cons, List.not_mem_nil, or_false] at hm
      rcases hm with rfl | rfl | rfl | rfl | rfl | rfl | rfl | rfl | rfl | rfl | rfl | rfl | rfl | rfl
      all_goals first | (simp at hun; done) | skip
      · obtain rfl : l1 = false := by simpa using hun
        exact wpOp_load64 (i := 1) rfl rfl rfl (.tmp 16) rfl ⟨w.heap.size, 0, none⟩ ah (frS_old rfl) ((bxa.below hS.below hlta).cell 0) ⟨_, frS_put rfl, true, l2, c1, l3, l4, c2, a1, a2, s1, s2, rfl, hS, fun _ => rfl, hv2⟩
      · obtain rfl : l2 = false := by simpa using hun
        exact wpOp_load64 (i := 3) rfl rfl rfl (.tmp 18) rfl ⟨w.heap.size, 1, none⟩ al (frS_old rfl) ((bxa.below hS.below hlta).cell 1) ⟨_, frS_put rfl, l1, true, c1, l3, l4, c2, a1, a2, s1, s2, rfl, hS, hv1, fun _ => rfl⟩
      · obtain rfl : c1 = false := by simpa using hun
        simp at ho
        subst ho
        have k1 : l1 = true := by simpa using hall { on := 1, ground := Ground.data } (by simp) rfl
        have k2 : l2 = true := by simpa using hall { on := 3, ground := Ground.data } (by simp) rfl
        refine wpOp_call2 (i := 4) rfl Try.call20 (.int .u64 ah) (.int .u64 al) ((frS_eval rfl (by simp [Act.put])).trans (hv1 k1)) ((frS_eval rfl (by simp [Act.put])).trans (hv2 k2)) _ (HR1.out _) ?_
        intro w5 hb5
        exact ⟨_, frS_put rfl, l1, l2, true, l3, l4, c2, a1, a2, s1, s2, rfl, (hS.past hb5).setCall1, hv1, hv2⟩
      · obtain rfl : l3 = false := by simpa using hun
        exact wpOp_load64 (i := 6) rfl rfl rfl (.tmp 21) rfl ⟨w.heap.size + 1, 0, none⟩ bh (frS_old rfl) ((bxb.below hS.below hltb).cell 0) ⟨_, frS_put rfl, l1, l2, c1, true, l4, c2, a1, a2, s1, s2, rfl, hS.setLoad1, hv1, hv2⟩
      · obtain rfl : l4 = false := by simpa using hun
        exact wpOp_load64 (i := 8) rfl rfl rfl (.tmp 23) rfl ⟨w.heap.size + 1, 1, none⟩ bl (frS_old rfl) ((bxb.below hS.below hltb).cell 1) ⟨_, frS_put rfl, l1, l2, c1, l3, true, c2, a1, a2, s1, s2, rfl, hS.setLoad2, hv1, hv2⟩
      · obtain rfl : c2 = false := by simpa using hun
        simp at ho
        subst ho
        have k1 : l3 = true := by simpa using hall { on := 6, ground := Ground.data } (by simp) rfl
        have k2 : l4 = true := by simpa using hall { on := 8, ground := Ground.data } (by simp) rfl
        refine wpOp_call2 (i := 9) rfl Try.call20 (.int .u64 bh) (.int .u64 bl) ((frS_eval rfl (by simp [Act.put])).trans (hS.load1 k1)) ((frS_eval rfl (by simp [Act.put])).trans (hS.load2 k2)) _ (HR2.out _) ?_
        intro w5 hb5
        exact ⟨_, frS_put rfl, l1, l2, c1, l3, l4, true, a1, a2, s1, s2, rfl, (hS.past hb5).setCall2, hv1, hv2⟩
      · obtain rfl : a1 = false := by simpa using hun
        exact wpOp_alloc8 (i := 10) rfl rfl rfl rfl ⟨_, frS_put rfl, l1, l2, c1, l3, l4, c2, true, a2, s1, s2, rfl, hS.setNew1, hv1, hv2⟩
      · obtain rfl : a2 = false := by simpa using hun
        exact wpOp_alloc8 (i := 11) rfl rfl rfl rfl ⟨_, frS_put rfl, l1, l2, c1, l3, l4, c2, a1, true, s1, s2, rfl, hS.setNew2, hv1, hv2⟩
      · obtain rfl : s1 = false := by simpa using hun
        simp at ho
        subst ho
        obtain rfl : a1 = true := by simpa using hall { on := 10, ground := Ground.data } (by simp) rfl
        have k2 : c1 = true := by simpa using hall { on := 4, ground := Ground.data } (by simp) rfl
        obtain ⟨g, e1, e2, e3⟩ := hS.new1 rfl
        exact wpOp_store8 (i := 12) rfl rfl rfl (.tmp 5) (.tmp 20) rfl g (fun _ => 0) (dig X) ((frS_eval rfl (by simp [Act.put])).trans e1) ((frS_eval rfl (by simp [Act.put])).trans (hS.call1 k2)) e3 ⟨v, rfl, l1, l2, c1, l3, l4, c2, true, a2, true, s2, rfl, hS.setStore1 e1, hv1, hv2⟩
      · obtain rfl : s2 = false := by simpa using hun
        simp at ho
        subst ho
        obtain rfl : a2 = true := by simpa using hall { on := 11, ground := Ground.data } (by simp) rfl
        have k2 : c2 = true := by simpa using hall { on := 9, ground := Ground.data } (by simp) rfl
        obtain ⟨g, e1, e2, e3⟩ := hS.new2 rfl
        exact wpOp_store8 (i := 13) rfl rfl rfl (.tmp 6) (.tmp 25) rfl g (fun _ => 0) (dig Y) ((frS_eval rfl (by simp [Act.put])).trans e1) ((frS_eval rfl (by simp [Act.put])).trans (hS.call2 k2)) e3 ⟨v, rfl, l1, l2, c1, l3, l4, c2, a1, true, s1, true, rfl, hS.setStore2 e1, hv1, hv2⟩
  case rest =>
    obtain ⟨g, h, rfl, rfl, hg, hh, hbc⟩ := hcut
    have ba := bxa.below hbc hlta
    have bb := bxb.below hbc hltb
    have hBc := Below.past hB0 hbc hB0.size
    clear bxa bxb hlta hltb hbc hB0 hW HR1 HR2
    have ea0 := ba.cell 0
    have ea1 := ba.cell 1
    have eb0 := bb.cell 0
    have eb1 := bb.cell 1
    simp at ea0 ea1 eb0 eb1
    go_wp2_with fail
    refine (HPL.out _).mono ?_
    rintro e w1 ⟨rfl, hb1⟩
    have hg1 := hg.past hb1
    have hh1 := hh.past hb1
    have ba1 := ba.past hb1
    have bb1 := bb.past hb1
    have hB1 := Below.next hBc hb1
    clear ea0 ea1 eb0 eb1
    have p0 : ∀ o : Obj, (w1.alloc o).cell? ⟨g, 0, none⟩ = some (.int .u64 (dig X 0)) := fun o => ((hg1.alloc o).cell 0).trans (arr8_get _ 0 (by omega))
    have p1 : ∀ o : Obj, (w1.alloc o).cell? ⟨g, 1, none⟩ = some (.int .u64 (dig X 1)) := fun o => ((hg1.alloc o).cell 1).trans (arr8_get _ 1 (by omega))
    have p2 : ∀ o : Obj, (w1.alloc o).cell? ⟨g, 2, none⟩ = some (.int .u64 (dig X 2)) := fun o => ((hg1.alloc o).cell 2).trans (arr8_get _ 2 (by omega))
    have p3 : ∀ o : Obj, (w1.alloc o).cell? ⟨g, 3, none⟩ = some (.int .u64 (dig X 3)) := fun o => ((hg1.alloc o).cell 3).trans (arr8_get _ 3 (by omega))
    have p4 : ∀ o : Obj, (w1.alloc o).cell? ⟨g, 4, none⟩ = some (.int .u64 (dig X 4)) := fun o => ((hg1.alloc o).cell 4).trans (arr8_get _ 4 (by omega))
    have p5 : ∀ o : Obj, (w1.alloc o).cell? ⟨g, 5, none⟩ = some (.int .u64 (dig X 5)) := fun o => ((hg1.alloc o).cell 5).trans (arr8_get _ 5 (by omega))
    have p6 : ∀ o : Obj, (w1.alloc o).cell? ⟨g, 6, none⟩ = some (.int .u64 (dig X 6)) := fun o => ((hg1.alloc o).cell 6).trans (arr8_get _ 6 (by omega))
    have p7 : ∀ o : Obj, (w1.alloc o).cell? ⟨g, 7, none⟩ = some (.int .u64 (dig X 7)) := fun o => ((hg1.alloc o).cell 7).trans (arr8_get _ 7 (by omega))
    have q0 : ∀ o : Obj, (w1.alloc o).cell? ⟨h, 0, none⟩ = some (.int .u64 (dig Y 0)) := fun o => ((hh1.alloc o).cell 0).trans (arr8_get _ 0 (by omega))
    have q1 : ∀ o : Obj, (w1.alloc o).cell? ⟨h, 1, none⟩ = some (.int .u64 (dig Y 1)) := fun o => ((hh1.alloc o).cell 1).trans (arr8_get _ 1 (by omega))
    have q2 : ∀ o : Obj, (w1.alloc o).cell? ⟨h, 2, none⟩ = some (.int .u64 (dig Y 2)) := fun o => ((hh1.alloc o).cell 2).trans (arr8_get _ 2 (by omega))
    have q3 : ∀ o : Obj, (w1.alloc o).cell? ⟨h, 3, none⟩ = some (.int .u64 (dig Y 3)) := fun o => ((hh1.alloc o).cell 3).trans (arr8_get _ 3 (by omega))
    have q4 : ∀ o : Obj, (w1.alloc o).cell? ⟨h, 4, none⟩ = some (.int .u64 (dig Y 4)) := fun o => ((hh1.alloc o).cell 4).trans (arr8_get _ 4 (by omega))
    have q5 : ∀ o : Obj, (w1.alloc o).cell? ⟨h, 5, none⟩ = some (.int .u64 (dig Y 5)) := fun o => ((hh1.alloc o).cell 5).trans (arr8_get _ 5 (by omega))
    have q6 : ∀ o : Obj, (w1.alloc o).cell? ⟨h, 6, none⟩ = some (.int .u64 (dig Y 6)) := fun o => ((hh1.alloc o).cell 6).trans (arr8_get _ 6 (by omega))
    have q7 : ∀ o : Obj, (w1.alloc o).cell? ⟨h, 7, none⟩ = some (.int .u64 (dig Y 7)) := fun o => ((hh1.alloc o).cell 7).trans (arr8_get _ 7 (by omega))
    have bs1 := Blk.new w1 30 #[.int .u64 nh, .int .u64 nl] w1.heap.size rfl
    have hBs := hB1.alloc hB1.size (.cells #[.int .u64 nh, .int .u64 nl] 30)
    rw [XA.out, YA.out] at HRP
    go_wp2_with fail
    refine (HRP.out _).mono ?_
    rw [NA.out]
    rintro e w2 ⟨rfl, hb2⟩
    have hg2 := (hg1.alloc _).past hb2
    have hh2 := (hh1.alloc _).past hb2
    have ba2 := (ba1.alloc _).past hb2
    have bb2 := (bb1.alloc _).past hb2
    have bs2 := bs1.past hb2
    have hB2 := Below.next hBs hb2
    have bn2 := Blk.new w2 25 (arr8 (dig N)) w2.heap.size rfl
    have hBn := hB2.alloc hB2.size (.cells #[.int .u64 (dig N 0), .int .u64 (dig N 1), .int .u64 (dig N 2), .int .u64 (dig N 3), .int .u64 (dig N 4), .int .u64 (dig N 5), .int .u64 (dig N 6), .int .u64 (dig N 7)] 25)
    rw [NA.out] at bn2
    clear p0 p1 p2 p3 p4 p5 p6 p7
    clear q0 q1 q2 q3 q4 q5 q6 q7
    have es0 : ∀ o : Obj, (w2.alloc o).cell? ⟨w1.heap.size, 0, none⟩ = some (.int .u64 nh) := fun o => (bs2.alloc o).cell 0
    have es1 : ∀ o : Obj, (w2.alloc o).cell? ⟨w1.heap.size, 1, none⟩ = some (.int .u64 nl) := fun o => (bs2.alloc o).cell 1
    rw [NA.out] at HSM
    go_wp2_with fail
    refine (HSM.out _).mono ?_
    rintro e w3 ⟨rfl, hb3⟩
    have hg3 := (hg2.alloc _).past hb3
    have hh3 := (hh2.alloc _).past hb3
    have ba3 := (ba2.alloc _).past hb3
    have bb3 := (bb2.alloc _).past hb3
    have hB3 := Below.next hBn hb3
    clear es0 es1
    have p0 := (hg3.cell 0).trans (arr8_get (dig X) 0 (by omega))
    have p1 := (hg3.cell 1).trans (arr8_get (dig X) 1 (by omega))
    have p2 := (hg3.cell 2).trans (arr8_get (dig X) 2 (by omega))
    have p3 := (hg3.cell 3).trans (arr8_get (dig X) 3 (by omega))
    have p4 := (hg3.cell 4).trans (arr8_get (dig X) 4 (by omega))
    have p5 := (hg3.cell 5).trans (arr8_get (dig X) 5 (by omega))
    have p6 := (hg3.cell 6).trans (arr8_get (dig X) 6 (by omega))
    have p7 := (hg3.cell 7).trans (arr8_get (dig X) 7 (by omega))
    have q0 := (hh3.cell 0).trans (arr8_get (dig Y) 0 (by omega))
    have q1 := (hh3.cell 1).trans (arr8_get (dig Y) 1 (by omega))
    have q2 := (hh3.cell 2).trans (arr8_get (dig Y) 2 (by omega))
    have q3 := (hh3.cell 3).trans (arr8_get (dig Y) 3 (by omega))
    have q4 := (hh3.cell 4).trans (arr8_get (dig Y) 4 (by omega))
    have q5 := (hh3.cell 5).trans (arr8_get (dig Y) 5 (by omega))
    have q6 := (hh3.cell 6).trans (arr8_get (dig Y) 6 (by omega))
    have q7 := (hh3.cell 7).trans (arr8_get (dig Y) 7 (by omega))
    rw [XA.out, YA.out] at HKC
    go_wp2_with fail
    refine (HKC.out _).mono ?_
    rintro e w4 ⟨rfl, hb4⟩
    have hg4 := hg3.past hb4
    have hh4 := hh3.past hb4
    have ba4 := ba3.past hb4
    have bb4 := bb3.past hb4
    have hB4 := Below.next hB3 hb4
    clear p0 p1 p2 p3 p4 p5 p6 p7
    clear q0 q1 q2 q3 q4 q5 q6 q7
    have ea0 := ba4.cell 0
    have ea1 := ba4.cell 1
    have eb0 := bb4.cell 0
    have eb1 := bb4.cell 1
    simp at ea0 ea1 eb0 eb1
    go_wp2_with fail
    refine (HMI.out _).mono ?_
    rintro e w5 ⟨rfl, hb5⟩
    have hg5 := hg4.past hb5
    have hh5 := hh4.past hb5
    have ba5 := ba4.past hb5
    have bb5 := bb4.past hb5
    have hB5 := Below.next hB4 hb5
    clear ea0 ea1 eb0 eb1
    have ea0 : ∀ o : Obj, (w5.alloc o).cell? ⟨w.heap.size, 0, none⟩ = some (.int .u64 ah) := fun o => (ba5.alloc o).cell 0
    have ea1 : ∀ o : Obj, (w5.alloc o).cell? ⟨w.heap.size, 1, none⟩ = some (.int .u64 al) := fun o => (ba5.alloc o).cell 1
    have eb0 : ∀ o : Obj, (w5.alloc o).cell? ⟨w.heap.size + 1, 0, none⟩ = some (.int .u64 bh) := fun o => (bb5.alloc o).cell 0
    have eb1 : ∀ o : Obj, (w5.alloc o).cell? ⟨w.heap.size + 1, 1, none⟩ = some (.int .u64 bl) := fun o => (bb5.alloc o).cell 1
    have bd5 := Blk.new w5 30 #[.int .u64 dh, .int .u64 dl] w5.heap.size rfl
    have hBd := hB5.alloc hB5.size (.cells #[.int .u64 dh, .int .u64 dl] 30)
    go_wp2_with fail
    refine (HWC.out _).mono ?_
    rintro e w6 ⟨rfl, hb6⟩
    have hg6 := (hg5.alloc _).past hb6
    have hh6 := (hh5.alloc _).past hb6
    have bd6 := bd5.past hb6
    have hB6 := Below.next hBd hb6
    clear ea0 ea1 eb0 eb1
    go_upto_region 12 with fail
    go_cut [14, 15] (fun p b w' => BackCut w6 X p b w')
    case first =>
      refine wp_region_any (by kernel_rfl) ?_
      change wpAny _ _ _ _ _ _ _ (World.drew _)
      refine wpAny_take (i := 0) (v := .pointer (some ⟨w5.heap.size, 0, none⟩)) rfl (by kernel_rfl) (by kernel_rfl) (by kernel_rfl) (fun _ _ _ h => h) (Or.inl ⟨by rfl, fun _ => by go_simp⟩) ?_
      refine wpAny_take (i := 2) (v := .pointer (some ⟨w5.heap.size, 1, none⟩)) rfl (by kernel_rfl) (by kernel_rfl) (by kernel_rfl) (fun _ _ _ h => h) (Or.inl ⟨by rfl, fun _ => by go_simp⟩) ?_
      refine wpAny_inv_fr [92, 94, 95, 96, 97, 90, 98, 99, 14, 15] (jB w6 D Y X (.int .u64 dh) (.int .u64 dl)) (by simp [toCome]) ?_ ?_ ?_
      · exact fun v => ⟨false, false, false, false, false, false, false, false, false, false, false, rfl, { below := Below.drew (Below.refl _ _), h1 := nofun, h2 := nofun, h3 := nofun, h4 := nofun, h5 := nofun, h6 := nofun, h7 := nofun, h8 := nofun, h9 := nofun, h10 := nofun, h11 := nofun }⟩
      · rintro L v w7 ⟨l1, l2, c1, l5, c2, m, x1, x2, al, st, ag, rfl, hS⟩ hr
        have rdy : ∀ i, i ∈ Region.ready _ _ _ → False := fun i hi => by rw [hr] at hi; cases hi
        cases l1
        · exact (rdy 1 (mem_ready.2 ⟨rfl, _, rfl, by intro e he hb; first | (simp at he; done) | (simp at he; subst he; rfl) | (simp at he; rcases he with rfl | rfl <;> first | rfl | exact absurd hb (by decide)) | (simp at he; rcases he with rfl | rfl | rfl <;> first | rfl | exact absurd hb (by decide)) | (simp at he; rcases he with rfl | rfl | rfl | rfl <;> first | rfl | exact absurd hb (by decide)) | (simp at he; rcases he with rfl | rfl | rfl | rfl | rfl <;> first | rfl | exact absurd hb (by decide)) | (simp at he; rcases he with rfl | rfl | rfl | rfl | rfl | rfl <;> first | rfl | exact absurd hb (by decide)) | (simp at he; rcases he with rfl | rfl | rfl | rfl | rfl | rfl | rfl <;> first | rfl | exact absurd hb (by decide)) | (simp at he; rcases he with rfl | rfl | rfl | rfl | rfl | rfl | rfl | rfl <;> first | rfl | exact absurd hb (by decide)) | (simp at he; rcases he with rfl | rfl | rfl | rfl | rfl | rfl | rfl | rfl | rfl <;> first | rfl | exact absurd hb (by decide)) | (simp at he; rcases he with rfl | rfl | rfl | rfl | rfl | rfl | rfl | rfl | rfl | rfl <;> first | rfl | exact absurd hb (by decide)) | (simp at he; rcases he with rfl | rfl | rfl | rfl | rfl | rfl | rfl | rfl | rfl | rfl | rfl <;> first | rfl | exact absurd hb (by decide)) | (simp at he; rcases he with rfl | rfl | rfl | rfl | rfl | rfl | rfl | rfl | rfl | rfl | rfl | rfl <;> first | rfl | exact absurd hb (by decide)) | (simp at he; rcases he with rfl | rfl | rfl | rfl | rfl | rfl | rfl | rfl | rfl | rfl | rfl | rfl | rfl <;> first | rfl | exact absurd hb (by decide)) | (simp at he; rcases he with rfl | rfl | rfl | rfl | rfl | rfl | rfl | rfl | rfl | rfl | rfl | rfl | rfl | rfl <;> first | rfl | exact absurd hb (by decide)) | (simp at he; rcases he with rfl | rfl | rfl | rfl | rfl | rfl | rfl | rfl | rfl | rfl | rfl | rfl | rfl | rfl | rfl <;> first | rfl | exact absurd hb (by decide)) | (simp at he; rcases he with rfl | rfl | rfl | rfl | rfl | rfl | rfl | rfl | rfl | rfl | rfl | rfl | rfl | rfl | rfl | rfl <;> first | rfl | exact absurd hb (by decide))⟩)).elim
        cases l2
        · exact (rdy 3 (mem_ready.2 ⟨rfl, _, rfl, by intro e he hb; first | (simp at he; done) | (simp at he; subst he; rfl) | (simp at he; rcases he with rfl | rfl <;> first | rfl | exact absurd hb (by decide)) | (simp at he; rcases he with rfl | rfl | rfl <;> first | rfl | exact absurd hb (by decide)) | (simp at he; rcases he with rfl | rfl | rfl | rfl <;> first | rfl | exact absurd hb (by decide)) | (simp at he; rcases he with rfl | rfl | rfl | rfl | rfl <;> first | rfl | exact absurd hb (by decide)) | (simp at he; rcases he with rfl | rfl | rfl | rfl | rfl | rfl <;> first | rfl | exact absurd hb (by decide)) | (simp at he; rcases he with rfl | rfl | rfl | rfl | rfl | rfl | rfl <;> first | rfl | exact absurd hb (by decide)) | (simp at he; rcases he with rfl | rfl | rfl | rfl | rfl | rfl | rfl | rfl <;> first | rfl | exact absurd hb (by decide)) | (simp at he; rcases he with rfl | rfl | rfl | rfl | rfl | rfl | rfl | rfl | rfl <;> first | rfl | exact absurd hb (by decide)) | (simp at he; rcases he with rfl | rfl | rfl | rfl | rfl | rfl | rfl | rfl | rfl | rfl <;> first | rfl | exact absurd hb (by decide)) | (simp at he; rcases he with rfl | rfl | rfl | rfl | rfl | rfl | rfl | rfl | rfl | rfl | rfl <;> first | rfl | exact absurd hb (by decide)) | (simp at he; rcases he with rfl | rfl | rfl | rfl | rfl | rfl | rfl | rfl | rfl | rfl | rfl | rfl <;> first | rfl | exact absurd hb (by decide)) | (simp at he; rcases he with rfl | rfl | rfl | rfl | rfl | rfl | rfl | rfl | rfl | rfl | rfl | rfl | rfl <;> first | rfl | exact absurd hb (by decide)) | (simp at he; rcases he with rfl | rfl | rfl | rfl | rfl | rfl | rfl | rfl | rfl | rfl | rfl | rfl | rfl | rfl <;> first | rfl | exact absurd hb (by decide)) | (simp at he; rcases he with rfl | rfl | rfl | rfl | rfl | rfl | rfl | rfl | rfl | rfl | rfl | rfl | rfl | rfl | rfl <;> first | rfl | exact absurd hb (by decide)) | (simp at he; rcases he with rfl | rfl | rfl | rfl | rfl | rfl | rfl | rfl | rfl | rfl | rfl | rfl | rfl | rfl | rfl | rfl <;> first | rfl | exact absurd hb (by decide))⟩)).elim
        cases c1
        · exact (rdy 4 (mem_ready.2 ⟨rfl, _, rfl, by intro e he hb; first | (simp at he; done) | (simp at he; subst he; rfl) | (simp at he; rcases he with rfl | rfl <;> first | rfl | exact absurd hb (by decide)) | (simp at he; rcases he with rfl | rfl | rfl <;> first | rfl | exact absurd hb (by decide)) | (simp at he; rcases he with rfl | rfl | rfl | rfl <;> first | rfl | exact absurd hb (by decide)) | (simp at he; rcases he with rfl | rfl | rfl | rfl | rfl <;> first | rfl | exact absurd hb (by decide)) | (simp at he; rcases he with rfl | rfl | rfl | rfl | rfl | rfl <;> first | rfl | exact absurd hb (by decide)) | (simp at he; rcases he with rfl | rfl | rfl | rfl | rfl | rfl | rfl <;> first | rfl | exact absurd hb (by decide)) | (simp at he; rcases he with rfl | rfl | rfl | rfl | rfl | rfl | rfl | rfl <;> first | rfl | exact absurd hb (by decide)) | (simp at he; rcases he with rfl | rfl | rfl | rfl | rfl | rfl | rfl | rfl | rfl <;> first | rfl | exact absurd hb (by decide)) | (simp at he; rcases he with rfl | rfl | rfl | rfl | rfl | rfl | rfl | rfl | rfl | rfl <;> first | rfl | exact absurd hb (by decide)) | (simp at he; rcases he with rfl | rfl | rfl | rfl | rfl | rfl | rfl | rfl | rfl | rfl | rfl <;> first | rfl | exact absurd hb (by decide)) | (simp at he; rcases he with rfl | rfl | rfl | rfl | rfl | rfl | rfl | rfl | rfl | rfl | rfl | rfl <;> first | rfl | exact absurd hb (by decide)) | (simp at he; rcases he with rfl | rfl | rfl | rfl | rfl | rfl | rfl | rfl | rfl | rfl | rfl | rfl | rfl <;> first | rfl | exact absurd hb (by decide)) | (simp at he; rcases he with rfl | rfl | rfl | rfl | rfl | rfl | rfl | rfl | rfl | rfl | rfl | rfl | rfl | rfl <;> first | rfl | exact absurd hb (by decide)) | (simp at he; rcases he with rfl | rfl | rfl | rfl | rfl | rfl | rfl | rfl | rfl | rfl | rfl | rfl | rfl | rfl | rfl <;> first | rfl | exact absurd hb (by decide)) | (simp at he; rcases he with rfl | rfl | rfl | rfl | rfl | rfl | rfl | rfl | rfl | rfl | rfl | rfl | rfl | rfl | rfl | rfl <;> first | rfl | exact absurd hb (by decide))⟩)).elim
        cases l5
        · exact (rdy 5 (mem_ready.2 ⟨rfl, _, rfl, by intro e he hb; first | (simp at he; done) | (simp at he; subst he; rfl) | (simp at he; rcases he with rfl | rfl <;> first | rfl | exact absurd hb (by decide)) | (simp at he; rcases he with rfl | rfl | rfl <;> first | rfl | exact absurd hb (by decide)) | (simp at he; rcases he with rfl | rfl | rfl | rfl <;> first | rfl | exact absurd hb (by decide)) | (simp at he; rcases he with rfl | rfl | rfl | rfl | rfl <;> first | rfl | exact absurd hb (by decide)) | (simp at he; rcases he with rfl | rfl | rfl | rfl | rfl | rfl <;> first | rfl | exact absurd hb (by decide)) | (simp at he; rcases he with rfl | rfl | rfl | rfl | rfl | rfl | rfl <;> first | rfl | exact absurd hb (by decide)) | (simp at he; rcases he with rfl | rfl | rfl | rfl | rfl | rfl | rfl | rfl <;> first | rfl | exact absurd hb (by decide)) | (simp at he; rcases he with rfl | rfl | rfl | rfl | rfl | rfl | rfl | rfl | rfl <;> first | rfl | exact absurd hb (by decide)) | (simp at he; rcases he with rfl | rfl | rfl | rfl | rfl | rfl | rfl | rfl | rfl | rfl <;> first | rfl | exact absurd hb (by decide)) | (simp at he; rcases he with rfl | rfl | rfl | rfl | rfl | rfl | rfl | rfl | rfl | rfl | rfl <;> first | rfl | exact absurd hb (by decide)) | (simp at he; rcases he with rfl | rfl | rfl | rfl | rfl | rfl | rfl | rfl | rfl | rfl | rfl | rfl <;> first | rfl | exact absurd hb (by decide)) | (simp at he; rcases he with rfl | rfl | rfl | rfl | rfl | rfl | rfl | rfl | rfl | rfl | rfl | rfl | rfl <;> first | rfl | exact absurd hb (by decide)) | (simp at he; rcases he with rfl | rfl | rfl | rfl | rfl | rfl | rfl | rfl | rfl | rfl | rfl | rfl | rfl | rfl <;> first | rfl | exact absurd hb (by decide)) | (simp at he; rcases he with rfl | rfl | rfl | rfl | rfl | rfl | rfl | rfl | rfl | rfl | rfl | rfl | rfl | rfl | rfl <;> first | rfl | exact absurd hb (by decide)) | (simp at he; rcases he with rfl | rfl | rfl | rfl | rfl | rfl | rfl | rfl | rfl | rfl | rfl | rfl | rfl | rfl | rfl | rfl <;> first | rfl | exact absurd hb (by decide))⟩)).elim
        cases c2
        · exact (rdy 6 (mem_ready.2 ⟨rfl, _, rfl, by intro e he hb; first | (simp at he; done) | (simp at he; subst he; rfl) | (simp at he; rcases he with rfl | rfl <;> first | rfl | exact absurd hb (by decide)) | (simp at he; rcases he with rfl | rfl | rfl <;> first | rfl | exact absurd hb (by decide)) | (simp at he; rcases he with rfl | rfl | rfl | rfl <;> first | rfl | exact absurd hb (by decide)) | (simp at he; rcases he with rfl | rfl | rfl | rfl | rfl <;> first | rfl | exact absurd hb (by decide)) | (simp at he; rcases he with rfl | rfl | rfl | rfl | rfl | rfl <;> first | rfl | exact absurd hb (by decide)) | (simp at he; rcases he with rfl | rfl | rfl | rfl | rfl | rfl | rfl <;> first | rfl | exact absurd hb (by decide)) | (simp at he; rcases he with rfl | rfl | rfl | rfl | rfl | rfl | rfl | rfl <;> first | rfl | exact absurd hb (by decide)) | (simp at he; rcases he with rfl | rfl | rfl | rfl | rfl | rfl | rfl | rfl | rfl <;> first | rfl | exact absurd hb (by decide)) | (simp at he; rcases he with rfl | rfl | rfl | rfl | rfl | rfl | rfl | rfl | rfl | rfl <;> first | rfl | exact absurd hb (by decide)) | (simp at he; rcases he with rfl | rfl | rfl | rfl | rfl | rfl | rfl | rfl | rfl | rfl | rfl <;> first | rfl | exact absurd hb (by decide)) | (simp at he; rcases he with rfl | rfl | rfl | rfl | rfl | rfl | rfl | rfl | rfl | rfl | rfl | rfl <;> first | rfl | exact absurd hb (by decide)) | (simp at he; rcases he with rfl | rfl | rfl | rfl | rfl | rfl | rfl | rfl | rfl | rfl | rfl | rfl | rfl <;> first | rfl | exact absurd hb (by decide)) | (simp at he; rcases he with rfl | rfl | rfl | rfl | rfl | rfl | rfl | rfl | rfl | rfl | rfl | rfl | rfl | rfl <;> first | rfl | exact absurd hb (by decide)) | (simp at he; rcases he with rfl | rfl | rfl | rfl | rfl | rfl | rfl | rfl | rfl | rfl | rfl | rfl | rfl | rfl | rfl <;> first | rfl | exact absurd hb (by decide)) | (simp at he; rcases he with rfl | rfl | rfl | rfl | rfl | rfl | rfl | rfl | rfl | rfl | rfl | rfl | rfl | rfl | rfl | rfl <;> first | rfl | exact absurd hb (by decide))⟩)).elim
        cases m
        · exact (rdy 7 (mem_ready.2 ⟨rfl, _, rfl, by intro e he hb; first | (simp at he; done) | (simp at he; subst he; rfl) | (simp at he; rcases he with rfl | rfl <;> first | rfl | exact absurd hb (by decide)) | (simp at he; rcases he with rfl | rfl | rfl <;> first | rfl | exact absurd hb (by decide)) | (simp at he; rcases he with rfl | rfl | rfl | rfl <;> first | rfl | exact absurd hb (by decide)) | (simp at he; rcases he with rfl | rfl | rfl | rfl | rfl <;> first | rfl | exact absurd hb (by decide)) | (simp at he; rcases he with rfl | rfl | rfl | rfl | rfl | rfl <;> first | rfl | exact absurd hb (by decide)) | (simp at he; rcases he with rfl | rfl | rfl | rfl | rfl | rfl | rfl <;> first | rfl | exact absurd hb (by decide)) | (simp at he; rcases he with rfl | rfl | rfl | rfl | rfl | rfl | rfl | rfl <;> first | rfl | exact absurd hb (by decide)) | (simp at he; rcases he with rfl | rfl | rfl | rfl | rfl | rfl | rfl | rfl | rfl <;> first | rfl | exact absurd hb (by decide)) | (simp at he; rcases he with rfl | rfl | rfl | rfl | rfl | rfl | rfl | rfl | rfl | rfl <;> first | rfl | exact absurd hb (by decide)) | (simp at he; rcases he with rfl | rfl | rfl | rfl | rfl | rfl | rfl | rfl | rfl | rfl | rfl <;> first | rfl | exact absurd hb (by decide)) | (simp at he; rcases he with rfl | rfl | rfl | rfl | rfl | rfl | rfl | rfl | rfl | rfl | rfl | rfl <;> first | rfl | exact absurd hb (by decide)) | (simp at he; rcases he with rfl | rfl | rfl | rfl | rfl | rfl | rfl | rfl | rfl | rfl | rfl | rfl | rfl <;> first | rfl | exact absurd hb (by decide)) | (simp at he; rcases he with rfl | rfl | rfl | rfl | rfl | rfl | rfl | rfl | rfl | rfl | rfl | rfl | rfl | rfl <;> first | rfl | exact absurd hb (by decide)) | (simp at he; rcases he with rfl | rfl | rfl | rfl | rfl | rfl | rfl | rfl | rfl | rfl | rfl | rfl | rfl | rfl | rfl <;> first | rfl | exact absurd hb (by decide)) | (simp at he; rcases he with rfl | rfl | rfl | rfl | rfl | rfl | rfl | rfl | rfl | rfl | rfl | rfl | rfl | rfl | rfl | rfl <;> first | rfl | exact absurd hb (by decide))⟩)).elim
        cases x1
        · exact (rdy 8 (mem_ready.2 ⟨rfl, _, rfl, by intro e he hb; first | (simp at he; done) | (simp at he; subst he; rfl) | (simp at he; rcases he with rfl | rfl <;> first | rfl | exact absurd hb (by decide)) | (simp at he; rcases he with rfl | rfl | rfl <;> first | rfl | exact absurd hb (by decide)) | (simp at he; rcases he with rfl | rfl | rfl | rfl <;> first | rfl | exact absurd hb (by decide)) | (simp at he; rcases he with rfl | rfl | rfl | rfl | rfl <;> first | rfl | exact absurd hb (by decide)) | (simp at he; rcases he with rfl | rfl | rfl | rfl | rfl | rfl <;> first | rfl | exact absurd hb (by decide)) | (simp at he; rcases he with rfl | rfl | rfl | rfl | rfl | rfl | rfl <;> first | rfl | exact absurd hb (by decide)) | (simp at he; rcases he with rfl | rfl | rfl | rfl | rfl | rfl | rfl | rfl <;> first | rfl | exact absurd hb (by decide)) | (simp at he; rcases he with rfl | rfl | rfl | rfl | rfl | rfl | rfl | rfl | rfl <;> first | rfl | exact absurd hb (by decide)) | (simp at he; rcases he with rfl | rfl | rfl | rfl | rfl | rfl | rfl | rfl | rfl | rfl <;> first | rfl | exact absurd hb (by decide)) | (simp at he; rcases he with rfl | rfl | rfl | rfl | rfl | rfl | rfl | rfl | rfl | rfl | rfl <;> first | rfl | exact absurd hb (by decide)) | (simp at he; rcases he with rfl | rfl | rfl | rfl | rfl | rfl | rfl | rfl | rfl | rfl | rfl | rfl <;> first | rfl | exact absurd hb (by decide)) | (simp at he; rcases he with rfl | rfl | rfl | rfl | rfl | rfl | rfl | rfl | rfl | rfl | rfl | rfl | rfl <;> first | rfl | exact absurd hb (by decide)) | (simp at he; rcases he with rfl | rfl | rfl | rfl | rfl | rfl | rfl | rfl | rfl | rfl | rfl | rfl | rfl | rfl <;> first | rfl | exact absurd hb (by decide)) | (simp at he; rcases he with rfl | rfl | rfl | rfl | rfl | rfl | rfl | rfl | rfl | rfl | rfl | rfl | rfl | rfl | rfl <;> first | rfl | exact absurd hb (by decide)) | (simp at he; rcases he with rfl | rfl | rfl | rfl | rfl | rfl | rfl | rfl | rfl | rfl | rfl | rfl | rfl | rfl | rfl | rfl <;> first | rfl | exact absurd hb (by decide))⟩)).elim
        cases x2
        · exact (rdy 9 (mem_ready.2 ⟨rfl, _, rfl, by intro e he hb; first | (simp at he; done) | (simp at he; subst he; rfl) | (simp at he; rcases he with rfl | rfl <;> first | rfl | exact absurd hb (by decide)) | (simp at he; rcases he with rfl | rfl | rfl <;> first | rfl | exact absurd hb (by decide)) | (simp at he; rcases he with rfl | rfl | rfl | rfl <;> first | rfl | exact absurd hb (by decide)) | (simp at he; rcases he with rfl | rfl | rfl | rfl | rfl <;> first | rfl | exact absurd hb (by decide)) | (simp at he; rcases he with rfl | rfl | rfl | rfl | rfl | rfl <;> first | rfl | exact absurd hb (by decide)) | (simp at he; rcases he with rfl | rfl | rfl | rfl | rfl | rfl | rfl <;> first | rfl | exact absurd hb (by decide)) | (simp at he; rcases he with rfl | rfl | rfl | rfl | rfl | rfl | rfl | rfl <;> first | rfl | exact absurd hb (by decide)) | (simp at he; rcases he with rfl | rfl | rfl | rfl | rfl | rfl | rfl | rfl | rfl <;> first | rfl | exact absurd hb (by decide)) | (simp at he; rcases he with rfl | rfl | rfl | rfl | rfl | rfl | rfl | rfl | rfl | rfl <;> first | rfl | exact absurd hb (by decide)) | (simp at he; rcases he with rfl | rfl | rfl | rfl | rfl | rfl | rfl | rfl | rfl | rfl | rfl <;> first | rfl | exact absurd hb (by decide)) | (simp at he; rcases he with rfl | rfl | rfl | rfl | rfl | rfl | rfl | rfl | rfl | rfl | rfl | rfl <;> first | rfl | exact absurd hb (by decide)) | (simp at he; rcases he with rfl | rfl | rfl | rfl | rfl | rfl | rfl | rfl | rfl | rfl | rfl | rfl | rfl <;> first | rfl | exact absurd hb (by decide)) | (simp at he; rcases he with rfl | rfl | rfl | rfl | rfl | rfl | rfl | rfl | rfl | rfl | rfl | rfl | rfl | rfl <;> first | rfl | exact absurd hb (by decide)) | (simp at he; rcases he with rfl | rfl | rfl | rfl | rfl | rfl | rfl | rfl | rfl | rfl | rfl | rfl | rfl | rfl | rfl <;> first | rfl | exact absurd hb (by decide)) | (simp at he; rcases he with rfl | rfl | rfl | rfl | rfl | rfl | rfl | rfl | rfl | rfl | rfl | rfl | rfl | rfl | rfl | rfl <;> first | rfl | exact absurd hb (by decide))⟩)).elim
        cases al
        · exact (rdy 10 (mem_ready.2 ⟨rfl, _, rfl, by intro e he hb; first | (simp at he; done) | (simp at he; subst he; rfl) | (simp at he; rcases he with rfl | rfl <;> first | rfl | exact absurd hb (by decide)) | (simp at he; rcases he with rfl | rfl | rfl <;> first | rfl | exact absurd hb (by decide)) | (simp at he; rcases he with rfl | rfl | rfl | rfl <;> first | rfl | exact absurd hb (by decide)) | (simp at he; rcases he with rfl | rfl | rfl | rfl | rfl <;> first | rfl | exact absurd hb (by decide)) | (simp at he; rcases he with rfl | rfl | rfl | rfl | rfl | rfl <;> first | rfl | exact absurd hb (by decide)) | (simp at he; rcases he with rfl | rfl | rfl | rfl | rfl | rfl | rfl <;> first | rfl | exact absurd hb (by decide)) | (simp at he; rcases he with rfl | rfl | rfl | rfl | rfl | rfl | rfl | rfl <;> first | rfl | exact absurd hb (by decide)) | (simp at he; rcases he with rfl | rfl | rfl | rfl | rfl | rfl | rfl | rfl | rfl <;> first | rfl | exact absurd hb (by decide)) | (simp at he; rcases he with rfl | rfl | rfl | rfl | rfl | rfl | rfl | rfl | rfl | rfl <;> first | rfl | exact absurd hb (by decide)) | (simp at he; rcases he with rfl | rfl | rfl | rfl | rfl | rfl | rfl | rfl | rfl | rfl | rfl <;> first | rfl | exact absurd hb (by decide)) | (simp at he; rcases he with rfl | rfl | rfl | rfl | rfl | rfl | rfl | rfl | rfl | rfl | rfl | rfl <;> first | rfl | exact absurd hb (by decide)) | (simp at he; rcases he with rfl | rfl | rfl | rfl | rfl | rfl | rfl | rfl | rfl | rfl | rfl | rfl | rfl <;> first | rfl | exact absurd hb (by decide)) | (simp at he; rcases he with rfl | rfl | rfl | rfl | rfl | rfl | rfl | rfl | rfl | rfl | rfl | rfl | rfl | rfl <;> first | rfl | exact absurd hb (by decide)) | (simp at he; rcases he with rfl | rfl | rfl | rfl | rfl | rfl | rfl | rfl | rfl | rfl | rfl | rfl | rfl | rfl | rfl <;> first | rfl | exact absurd hb (by decide)) | (simp at he; rcases he with rfl | rfl | rfl | rfl | rfl | rfl | rfl | rfl | rfl | rfl | rfl | rfl | rfl | rfl | rfl | rfl <;> first | rfl | exact absurd hb (by decide))⟩)).elim
        cases st
        · exact (rdy 11 (mem_ready.2 ⟨rfl, _, rfl, by intro e he hb; first | (simp at he; done) | (simp at he; subst he; rfl) | (simp at he; rcases he with rfl | rfl <;> first | rfl | exact absurd hb (by decide)) | (simp at he; rcases he with rfl | rfl | rfl <;> first | rfl | exact absurd hb (by decide)) | (simp at he; rcases he with rfl | rfl | rfl | rfl <;> first | rfl | exact absurd hb (by decide)) | (simp at he; rcases he with rfl | rfl | rfl | rfl | rfl <;> first | rfl | exact absurd hb (by decide)) | (simp at he; rcases he with rfl | rfl | rfl | rfl | rfl | rfl <;> first | rfl | exact absurd hb (by decide)) | (simp at he; rcases he with rfl | rfl | rfl | rfl | rfl | rfl | rfl <;> first | rfl | exact absurd hb (by decide)) | (simp at he; rcases he with rfl | rfl | rfl | rfl | rfl | rfl | rfl | rfl <;> first | rfl | exact absurd hb (by decide)) | (simp at he; rcases he with rfl | rfl | rfl | rfl | rfl | rfl | rfl | rfl | rfl <;> first | rfl | exact absurd hb (by decide)) | (simp at he; rcases he with rfl | rfl | rfl | rfl | rfl | rfl | rfl | rfl | rfl | rfl <;> first | rfl | exact absurd hb (by decide)) | (simp at he; rcases he with rfl | rfl | rfl | rfl | rfl | rfl | rfl | rfl | rfl | rfl | rfl <;> first | rfl | exact absurd hb (by decide)) | (simp at he; rcases he with rfl | rfl | rfl | rfl | rfl | rfl | rfl | rfl | rfl | rfl | rfl | rfl <;> first | rfl | exact absurd hb (by decide)) | (simp at he; rcases he with rfl | rfl | rfl | rfl | rfl | rfl | rfl | rfl | rfl | rfl | rfl | rfl | rfl <;> first | rfl | exact absurd hb (by decide)) | (simp at he; rcases he with rfl | rfl | rfl | rfl | rfl | rfl | rfl | rfl | rfl | rfl | rfl | rfl | rfl | rfl <;> first | rfl | exact absurd hb (by decide)) | (simp at he; rcases he with rfl | rfl | rfl | rfl | rfl | rfl | rfl | rfl | rfl | rfl | rfl | rfl | rfl | rfl | rfl <;> first | rfl | exact absurd hb (by decide)) | (simp at he; rcases he with rfl | rfl | rfl | rfl | rfl | rfl | rfl | rfl | rfl | rfl | rfl | rfl | rfl | rfl | rfl | rfl <;> first | rfl | exact absurd hb (by decide))⟩)).elim
        cases ag
        · exact (rdy 12 (mem_ready.2 ⟨rfl, _, rfl, by intro e he hb; first | (simp at he; done) | (simp at he; subst he; rfl) | (simp at he; rcases he with rfl | rfl <;> first | rfl | exact absurd hb (by decide)) | (simp at he; rcases he with rfl | rfl | rfl <;> first | rfl | exact absurd hb (by decide)) | (simp at he; rcases he with rfl | rfl | rfl | rfl <;> first | rfl | exact absurd hb (by decide)) | (simp at he; rcases he with rfl | rfl | rfl | rfl | rfl <;> first | rfl | exact absurd hb (by decide)) | (simp at he; rcases he with rfl | rfl | rfl | rfl | rfl | rfl <;> first | rfl | exact absurd hb (by decide)) | (simp at he; rcases he with rfl | rfl | rfl | rfl | rfl | rfl | rfl <;> first | rfl | exact absurd hb (by decide)) | (simp at he; rcases he with rfl | rfl | rfl | rfl | rfl | rfl | rfl | rfl <;> first | rfl | exact absurd hb (by decide)) | (simp at he; rcases he with rfl | rfl | rfl | rfl | rfl | rfl | rfl | rfl | rfl <;> first | rfl | exact absurd hb (by decide)) | (simp at he; rcases he with rfl | rfl | rfl | rfl | rfl | rfl | rfl | rfl | rfl | rfl <;> first | rfl | exact absurd hb (by decide)) | (simp at he; rcases he with rfl | rfl | rfl | rfl | rfl | rfl | rfl | rfl | rfl | rfl | rfl <;> first | rfl | exact absurd hb (by decide)) | (simp at he; rcases he with rfl | rfl | rfl | rfl | rfl | rfl | rfl | rfl | rfl | rfl | rfl | rfl <;> first | rfl | exact absurd hb (by decide)) | (simp at he; rcases he with rfl | rfl | rfl | rfl | rfl | rfl | rfl | rfl | rfl | rfl | rfl | rfl | rfl <;> first | rfl | exact absurd hb (by decide)) | (simp at he; rcases he with rfl | rfl | rfl | rfl | rfl | rfl | rfl | rfl | rfl | rfl | rfl | rfl | rfl | rfl <;> first | rfl | exact absurd hb (by decide)) | (simp at he; rcases he with rfl | rfl | rfl | rfl | rfl | rfl | rfl | rfl | rfl | rfl | rfl | rfl | rfl | rfl | rfl <;> first | rfl | exact absurd hb (by decide)) | (simp at he; rcases he with rfl | rfl | rfl | rfl | rfl | rfl | rfl | rfl | rfl | rfl | rfl | rfl | rfl | rfl | rfl | rfl <;> first | rfl | exact absurd hb (by decide))⟩)).elim
        clear rdy hr
        obtain ⟨gb, e1, _, e3⟩ := hS.h9 rfl
        have hT : BackCut w6 X (v 14) (v 15) w7 := ⟨gb, e1, hS.h11 rfl, e3, hS.below⟩
        clear e1 e3 hS
        simp [frS, Act.put]
        go_wp2_with fail
        go_meet
        exact hT
      · rintro L v w7 i ⟨l1, l2, c1, l5, c2, m, x1, x2, al, st, ag, rfl, hS⟩ hi hr
        obtain ⟨hun, o, ho, hall⟩ := mem_ready.1 hr
        have hm : i ∈ [0, 1, 2, 3, 4, 5, 6, 7, 8, 9, 10, 11, 12] := hi
        simp only [List.mem_cons, List.not_mem_nil, or_false] at hm
        rcases hm with rfl | rfl | rfl | rfl | rfl | rfl | rfl | rfl | rfl | rfl | rfl | rfl | rfl
        all_goals first | (simp at hun; done) | skip
        · obtain rfl : l1 = false := by simpa using hun
          simp at ho
          subst ho
          exact wpOp_load64 (i := 1) rfl rfl rfl (.tmp 91) rfl ⟨w5.heap.size, 0, none⟩ dh (frS_old rfl) ((bd6.below hS.below bd6.lt).cell 0) ⟨_, frS_put rfl, true, l2, c1, l5, c2, m, x1, x2, al, st, ag, rfl, { hS with h1 := fun _ => rfl }⟩
        · obtain rfl : l2 = false := by simpa using hun
          simp at ho
          subst ho
          exact wpOp_load64 (i := 3) rfl rfl rfl (.tmp 93) rfl ⟨w5.heap.size, 1, none⟩ dl (frS_old rfl) ((bd6.below hS.below bd6.lt).cell 1) ⟨_, frS_put rfl, l1, true, c1, l5, c2, m, x1, x2, al, st, ag, rfl, { hS with h2 := fun _ => rfl }⟩
        · obtain rfl : c1 = false := by simpa using hun
          simp at ho
          subst ho
          have k1 : l1 = true := by simpa using hall { on := 1, ground := Ground.data } (by simp) rfl
          have k2 : l2 = true := by simpa using hall { on := 3, ground := Ground.data } (by simp) rfl
          refine wpOp_call2 (i := 4) rfl Try.call20 (.int .u64 dh) (.int .u64 dl) ((frS_eval rfl (by simp [Act.put])).trans (hS.h1 k1)) ((frS_eval rfl (by simp [Act.put])).trans (hS.h2 k2)) _ (HR3.out _) ?_
          intro w8 hb8
          exact ⟨_, frS_put rfl, l1, l2, true, l5, c2, m, x1, x2, al, st, ag, rfl, { hS.past hb8 with h3 := fun _ => rfl }⟩
        · obtain rfl : l5 = false := by simpa using hun
          simp at ho
          subst ho
          exact wpOp_load8 (i := 5) rfl rfl rfl (.tmp 6) rfl h (dig Y) (frS_old rfl) (hh6.below hS.below hh6.lt) ⟨_, frS_put rfl, l1, l2, c1, true, c2, m, x1, x2, al, st, ag, rfl, { hS with h4 := fun _ => rfl }⟩
        · obtain rfl : c2 = false := by simpa using hun
          simp at ho
          subst ho
          have k1 : c1 = true := by simpa using hall { on := 4, ground := Ground.data } (by simp) rfl
          have k2 : l5 = true := by simpa using hall { on := 5, ground := Ground.data } (by simp) rfl
          refine wpOp_call2 (i := 6) rfl Try.call22 (.agg (arr8 (dig D))) (.agg (arr8 (dig Y))) ((frS_eval rfl (by simp [Act.put])).trans (hS.h3 k1)) ((frS_eval rfl (by simp [Act.put])).trans (hS.h4 k2)) _ (HRQ.out _) ?_
          intro w8 hb8
          exact ⟨_, frS_put rfl, l1, l2, c1, l5, true, m, x1, x2, al, st, ag, rfl, { hS.past hb8 with h5 := fun _ => rfl }⟩
        · obtain rfl : m = false := by simpa using hun
          simp at ho
          subst ho
          have k1 : c2 = true := by simpa using hall { on := 6, ground := Ground.data } (by simp) rfl
          exact wpOp_move (i := 7) rfl rfl rfl (.tmp 97) (Or.inl rfl) _ ((frS_eval rfl (by simp [Act.put])).trans (hS.h5 k1)) ⟨_, frS_put rfl, l1, l2, c1, l5, c2, true, x1, x2, al, st, ag, rfl, { hS with h6 := fun _ => rfl }⟩
        · obtain rfl : x1 = false := by simpa using hun
          simp at ho
          subst ho
          have k1 : m = true := by simpa using hall { on := 7, ground := Ground.data } (by simp) rfl
          exact wpOp_extract (i := 8) rfl rfl rfl (.tmp 90) 0 rfl _ _ (Or.inl rfl) ((frS_eval rfl (by simp [Act.put])).trans (hS.h6 k1)) ⟨_, frS_put rfl, l1, l2, c1, l5, c2, m, true, x2, al, st, ag, rfl, { hS with h7 := fun _ => rfl }⟩
        · obtain rfl : x2 = false := by simpa using hun
          simp at ho
          subst ho
          have k1 : m = true := by simpa using hall { on := 7, ground := Ground.data } (by simp) rfl
          exact wpOp_extract (i := 9) rfl rfl rfl (.tmp 90) 1 rfl _ _ (Or.inr rfl) ((frS_eval rfl (by simp [Act.put])).trans (hS.h6 k1)) ⟨_, frS_put rfl, l1, l2, c1, l5, c2, m, x1, true, al, st, ag, rfl, { hS with h8 := fun _ => rfl }⟩
        · obtain rfl : al = false := by simpa using hun
          simp at ho
          subst ho
          obtain rfl : st = false := by cases hs : st with | false => rfl | true => exact absurd (hS.h10 hs) (by simp)
          exact wpOp_alloc8 (i := 10) rfl rfl rfl rfl ⟨_, frS_put rfl, l1, l2, c1, l5, c2, m, x1, x2, true, false, ag, rfl, { hS.past ((Below.refl _ _).alloc (Nat.le_refl _) _) with h9 := fun _ => ⟨_, rfl, hS.below.size, Blk.new _ _ _ _ rfl⟩, h10 := nofun }⟩
        · obtain rfl : st = false := by simpa using hun
          simp at ho
          subst ho
          obtain rfl : al = true := by simpa using hall { on := 10, ground := Ground.data } (by simp) rfl
          have k1 : x1 = true := by simpa using hall { on := 8, ground := Ground.data } (by simp) rfl
          obtain ⟨gb, e1, e2, e3⟩ := hS.h9 rfl
          exact wpOp_store8 (i := 11) rfl rfl rfl (.tmp 14) (.tmp 98) rfl gb (fun _ => 0) (dig X) ((frS_eval rfl (by simp [Act.put])).trans e1) ((frS_eval rfl (by simp [Act.put])).trans (hS.h7 k1)) e3 ⟨v, rfl, l1, l2, c1, l5, c2, m, x1, x2, true, true, ag, rfl, { hS with below := below8 hS.below e2, h9 := fun _ => ⟨gb, e1, e2, blk8 (F := fun _ => 0) e3⟩, h10 := fun _ => rfl }⟩
        · obtain rfl : ag = false := by simpa using hun
          simp at ho
          subst ho
          have k1 : x2 = true := by simpa using hall { on := 9, ground := Ground.data } (by simp) rfl
          exact wpOp_move (i := 12) rfl rfl rfl (.tmp 99) (Or.inr rfl) _ ((frS_eval rfl (by simp [Act.put])).trans (hS.h8 k1)) ⟨_, frS_put rfl, l1, l2, c1, l5, c2, m, x1, x2, al, st, true, rfl, { hS with h11 := fun _ => rfl }⟩
    case rest =>
      obtain ⟨gb, rfl, rfl, hgb, hbw⟩ := hcut
      have hBw := Below.next hB6 hbw
      have hg7 := hg6.past hbw
      go_wp2_with fail
      refine (awake02 _).mono ?_
      rintro e w8 ⟨rfl, hb8⟩
      have hg8 := hg7.past hb8
      have hk8 := hgb.past hb8
      have p0 := (hg8.cell 0).trans (arr8_get (dig X) 0 (by omega))
      have p1 := (hg8.cell 1).trans (arr8_get (dig X) 1 (by omega))
      have p2 := (hg8.cell 2).trans (arr8_get (dig X) 2 (by omega))
      have p3 := (hg8.cell 3).trans (arr8_get (dig X) 3 (by omega))
      have p4 := (hg8.cell 4).trans (arr8_get (dig X) 4 (by omega))
      have p5 := (hg8.cell 5).trans (arr8_get (dig X) 5 (by omega))
      have p6 := (hg8.cell 6).trans (arr8_get (dig X) 6 (by omega))
      have p7 := (hg8.cell 7).trans (arr8_get (dig X) 7 (by omega))
      have q0 := (hk8.cell 0).trans (arr8_get (dig X) 0 (by omega))
      have q1 := (hk8.cell 1).trans (arr8_get (dig X) 1 (by omega))
      have q2 := (hk8.cell 2).trans (arr8_get (dig X) 2 (by omega))
      have q3 := (hk8.cell 3).trans (arr8_get (dig X) 3 (by omega))
      have q4 := (hk8.cell 4).trans (arr8_get (dig X) 4 (by omega))
      have q5 := (hk8.cell 5).trans (arr8_get (dig X) 5 (by omega))
      have q6 := (hk8.cell 6).trans (arr8_get (dig X) 6 (by omega))
      have q7 := (hk8.cell 7).trans (arr8_get (dig X) 7 (by omega))
      have heq := fun w => eql_arr8 (dig X) w
      simp only [arr8] at heq
      go_wp2_with fail
      go_ret
      exact ⟨rfl, Below.next hBw hb8⟩

set_option maxRecDepth 100000 in
set_option maxHeartbeats 4000000 in
theorem wideAdds_over_le (ah al bh bl : Int) (h0 : 0 ≤ ah) (h1 : ah < 18446744073709551616) (l0 : 0 ≤ al) (l1 : al < 18446744073709551616) (g0 : 0 ≤ bh) (g1 : bh < 18446744073709551616) (k0 : 0 ≤ bl) (k1 : bl < 18446744073709551616) (hf : ¬ ah * 18446744073709551616 + al + (bh * 18446744073709551616 + bl) < 340282366920938463463374607431768211456) (hle : bh * 18446744073709551616 + bl ≤ ah * 18446744073709551616 + al) (w : World) :
    Calls Try.prog 4 #[.agg #[.int .u64 ah, .int .u64 al], .agg #[.int .u64 bh, .int .u64 bl]] w fun e w' => e = .returned (.bool true) ∧ Below w.heap.size w w' := by
  have R1 := of_any ah al h0 h1 l0 l1
  have R2 := of_any bh bl g0 g1 k0 k1
  have PL := wplus_no ah al bh bl h0 h1 l0 l1 g0 g1 k0 k1 hf
  have MI := wminus_yes ah al bh bl h0 h1 l0 l1 g0 g1 k0 k1 hle
  have WC := wcmp_any ah al bh bl l0 l1 k0 k1
  have x0 : 0 ≤ ah * 18446744073709551616 + al := by omega
  have x1 : ah * 18446744073709551616 + al < 340282366920938463463374607431768211456 := by omega
  have y0 : 0 ≤ bh * 18446744073709551616 + bl := by omega
  have y1 : bh * 18446744073709551616 + bl < 340282366920938463463374607431768211456 := by omega
  obtain ⟨X, hX⟩ : ∃ X, Hid (ah * 18446744073709551616 + al = X) := ⟨_, Lib.hid rfl⟩
  obtain ⟨Y, hY⟩ : ∃ Y, Hid (bh * 18446744073709551616 + bl = Y) := ⟨_, Lib.hid rfl⟩
  rw [hX.out] at R1 MI WC x0 x1 hf hle
  rw [hY.out] at R2 MI WC y0 y1 hf hle
  have RP := fun w => refPlus_any X Y w x0 x1 y0 y1
  have KC := fun w => refCmp_any X Y w x0 x1 y0 y1
  rw [decide_eq_false hf] at RP
  have qc : decide (cmpI X Y < 0) = false := dec_f (by unfold cmpI; split <;> (try split) <;> omega)
  have D0 : 0 ≤ X - Y := by omega
  have R3 := of_any ((X - Y) / 18446744073709551616) ((X - Y) % 18446744073709551616) (by omega) (by omega) (by omega) (by omega)
  rw [words_back] at R3
  have RQ := fun w => refPlus_any (X - Y) Y w D0 (by omega) y0 y1
  rw [show X - Y + Y = X by omega, decide_eq_true x1] at RQ
  obtain ⟨D, hD⟩ : ∃ D, Hid (X - Y = D) := ⟨_, Lib.hid rfl⟩
  rw [hD.out] at MI R3 RQ D0
  obtain ⟨dh, hdh⟩ : ∃ D', Hid (D / 18446744073709551616 = D') := ⟨_, Lib.hid rfl⟩
  obtain ⟨dl, hdl⟩ : ∃ D', Hid (D % 18446744073709551616 = D') := ⟨_, Lib.hid rfl⟩
  rw [hdh.out, hdl.out] at MI R3
  have HR3 := Lib.hid R3
  have HRQ := Lib.hid RQ
  clear R3 RQ
  obtain ⟨N, hN⟩ : ∃ N, Hid (X + Y = N) := ⟨_, Lib.hid rfl⟩
  rw [hN.out] at RP
  generalize cmpI X Y = v at *
  have pv : (v != v) = false := by simp
  have XA : Hid (arr8 (dig X) = #[.int .u64 (dig X 0), .int .u64 (dig X 1), .int .u64 (dig X 2), .int .u64 (dig X 3), .int .u64 (dig X 4), .int .u64 (dig X 5), .int .u64 (dig X 6), .int .u64 (dig X 7)]) := Lib.hid rfl
  have YA : Hid (arr8 (dig Y) = #[.int .u64 (dig Y 0), .int .u64 (dig Y 1), .int .u64 (dig Y 2), .int .u64 (dig Y 3), .int .u64 (dig Y 4), .int .u64 (dig Y 5), .int .u64 (dig Y 6), .int .u64 (dig Y 7)]) := Lib.hid rfl
  have NA : Hid (arr8 (dig N) = #[.int .u64 (dig N 0), .int .u64 (dig N 1), .int .u64 (dig N 2), .int .u64 (dig N 3), .int .u64 (dig N 4), .int .u64 (dig N 5), .int .u64 (dig N 6), .int .u64 (dig N 7)]) := Lib.hid rfl
  have HR1 := Lib.hid R1
  have HR2 := Lib.hid R2
  have HPL := Lib.hid PL
  have HMI := Lib.hid MI
  have HWC := Lib.hid WC
  have HRP := Lib.hid RP
  have HKC := Lib.hid KC
  clear R1 R2 PL MI WC RP KC hf hle
  have hB0 := ((Below.refl w.heap.size w).alloc (Nat.le_refl _) (.cells #[.int .u64 ah, .int .u64 al] 30)).alloc (by simp) (.cells #[.int .u64 bh, .int .u64 bl] 30)
  have bxa := (Blk.new w 30 #[.int .u64 ah, .int .u64 al] w.heap.size rfl).alloc (.cells #[.int .u64 bh, .int .u64 bl] 30)
  have bxb := Blk.new (w.alloc (.cells #[.int .u64 ah, .int .u64 al] 30)) 30 #[.int .u64 bh, .int .u64 bl] (w.heap.size + 1) (by simp)
  obtain ⟨W, hW⟩ : ∃ W, Hid ((w.alloc (.cells #[.int .u64 ah, .int .u64 al] 30)).alloc (.cells #[.int .u64 bh, .int .u64 bl] 30) = W) := ⟨_, Lib.hid rfl⟩
  rw [hW.out] at hB0 bxa bxb
  have hlta := bxa.lt
  have hltb := bxb.lt
  go_enter Try.func4, Try.ntmps4
  go_upto_region 1 with fail
  rw [hW.out]
  go_cut [5, 6] (fun p q w' => TwoCut W X Y p q w')
  case first =>
    refine wp_region_any (by kernel_rfl) ?_
    change wpAny _ _ _ _ _ _ _ (World.drew _)
    refine wpAny_take (i := 0) (v := .pointer (some ⟨w.heap.size, 0, none⟩)) rfl (by kernel_rfl) (by kernel_rfl) (by kernel_rfl) (fun _ _ _ h => h) (Or.inl ⟨by rfl, fun _ => by go_simp⟩) ?_
    refine wpAny_take (i := 2) (v := .pointer (some ⟨w.heap.size, 1, none⟩)) rfl (by kernel_rfl) (by kernel_rfl) (by kernel_rfl) (fun _ _ _ h => h) (Or.inl ⟨by rfl, fun _ => by go_simp⟩) ?_
    refine wpAny_take (i := 5) (v := .pointer (some ⟨w.heap.size + 1, 0, none⟩)) rfl (by kernel_rfl) (by kernel_rfl) (by kernel_rfl) (fun _ _ _ h => h) (Or.inl ⟨by rfl, fun _ => by go_simp⟩) ?_
    refine wpAny_take (i := 7) (v := .pointer (some ⟨w.heap.size + 1, 1, none⟩)) rfl (by kernel_rfl) (by kernel_rfl) (by kernel_rfl) (fun _ _ _ h => h) (Or.inl ⟨by rfl, fun _ => by go_simp⟩) ?_
    refine wpAny_inv_fr [17, 19, 20, 22, 24, 25, 5, 6] (jA W X Y (.int .u64 ah) (.int .u64 al) (.int .u64 bh) (.int .u64 bl)) (by simp [toCome]) ?_ ?_ ?_
    · exact fun v => ⟨false, false, false, false, false, false, false, false, false, false, rfl, { below := Below.drew (Below.refl _ _), call1 := nofun, load1 := nofun, load2 := nofun, call2 := nofun, new1 := nofun, new2 := nofun, apart := nofun, one := nofun, two := nofun }, nofun, nofun⟩
    · rintro L v w4 ⟨l1, l2, c1, l3, l4, c2, a1, a2, s1, s2, rfl, hS, hv1, hv2⟩ hr
      have rdy : ∀ i, i ∈ Region.ready _ _ _ → False := fun i hi => by rw [hr] at hi; cases hi
      cases l1
      · exact (rdy 1 (mem_ready.2 ⟨rfl, _, rfl, by intro e he _; simp at he; subst he; rfl⟩)).elim
      cases l2
      · exact (rdy 3 (mem_ready.2 ⟨rfl, _, rfl, by intro e he _; simp at he; subst he; rfl⟩)).elim
      cases c1
      · exact (rdy 4 (mem_ready.2 ⟨rfl, _, rfl, by intro e he _; simp at he; rcases he with rfl | rfl <;> rfl⟩)).elim
      cases l3
      · exact (rdy 6 (mem_ready.2 ⟨rfl, _, rfl, by intro e he _; simp at he; subst he; rfl⟩)).elim
      cases l4
      · exact (rdy 8 (mem_ready.2 ⟨rfl, _, rfl, by intro e he _; simp at he; subst he; rfl⟩)).elim
      cases c2
      · exact (rdy 9 (mem_ready.2 ⟨rfl, _, rfl, by intro e he _; simp at he; rcases he with rfl | rfl | rfl <;> rfl⟩)).elim
      cases a1
      · exact (rdy 10 (mem_ready.2 ⟨rfl, _, rfl, by intro e he _; simp at he⟩)).elim
      cases a2
      · exact (rdy 11 (mem_ready.2 ⟨rfl, _, rfl, by intro e he _; simp at he⟩)).elim
      cases s1
      · exact (rdy 12 (mem_ready.2 ⟨rfl, _, rfl, by intro e he _; simp at he; rcases he with rfl | rfl | rfl | rfl | rfl | rfl | rfl | rfl | rfl | rfl | rfl | rfl | rfl | rfl | rfl <;> rfl⟩)).elim
      cases s2
      · exact (rdy 13 (mem_ready.2 ⟨rfl, _, rfl, by intro e he _; simp at he; rcases he with rfl | rfl | rfl | rfl | rfl | rfl | rfl | rfl | rfl | rfl | rfl | rfl | rfl | rfl | rfl | rfl <;> rfl⟩)).elim
      clear rdy hr
      obtain ⟨g, e1, _, e3⟩ := hS.new1 rfl
      obtain ⟨h, f1, _, f3⟩ := hS.new2 rfl
      have hT : TwoCut W X Y (v 5) (v 6) w4 := ⟨g, h, e1, f1, e3, f3, hS.below⟩
      clear e1 e3 f1 f3 hS
      simp [frS, Act.put]
      go_wp2_with fail
      go_meet
      exact hT
    · rintro L v w4 i ⟨l1, l2, c1, l3, l4, c2, a1, a2, s1, s2, rfl, hS, hv1, hv2⟩ hi hr
      obtain ⟨hun, o, ho, hall⟩ := mem_ready.1 hr
      have hm : i ∈ [0, 1, 2, 3, 4, 5, 6, 7, 8, 9, 10, 11, 12, 13] := hi
      simp only [List.mem_cons, List.not_mem_nil, or_false] at hm
      rcases hm with rfl | rfl | rfl | rfl | rfl | rfl | rfl | rfl | rfl | rfl | rfl | rfl | rfl | rfl
      all_goals first | (simp at hun; done) | skip
      · obtain rfl : l1 = false := by simpa using hun
        exact wpOp_load64 (i := 1) rfl rfl rfl (.tmp 16) rfl ⟨w.heap.size, 0, none⟩ ah (frS_old rfl) ((bxa.below hS.below hlta).cell 0) ⟨_, frS_put rfl, true, l2, c1, l3, l4, c2, a1, a2, s1, s2, rfl, hS, fun _ => rfl, hv2⟩
      · obtain rfl : l2 = false := by simpa using hun
        exact wpOp_load64 (i := 3) rfl rfl rfl (.tmp 18) rfl ⟨w.heap.size, 1, none⟩ al (frS_old rfl) ((bxa.below hS.below hlta).cell 1) ⟨_, frS_put rfl, l1, true, c1, l3, l4, c2, a1, a2, s1, s2, rfl, hS, hv1, fun _ => rfl⟩
      · obtain rfl : c1 = false := by simpa using hun
        simp at ho
        subst ho
        have k1 : l1 = true := by simpa using hall { on := 1, ground := Ground.data } (by simp) rfl
        have k2 : l2 = true := by simpa using hall { on := 3, ground := Ground.data } (by simp) rfl
        refine wpOp_call2 (i := 4) rfl Try.call20 (.int .u64 ah) (.int .u64 al) ((frS_eval rfl (by simp [Act.put])).trans (hv1 k1)) ((frS_eval rfl (by simp [Act.put])).trans (hv2 k2)) _ (HR1.out _) ?_
        intro w5 hb5
        exact ⟨_, frS_put rfl, l1, l2, true, l3, l4, c2, a1, a2, s1, s2, rfl, (hS.past hb5).setCall1, hv1, hv2⟩
      · obtain rfl : l3 = false := by simpa using hun
        exact wpOp_load64 (i := 6) rfl rfl rfl (.tmp 21) rfl ⟨w.heap.size + 1, 0, none⟩ bh (frS_old rfl) ((bxb.below hS.below hltb).cell 0) ⟨_, frS_put rfl, l1, l2, c1, true, l4, c2, a1, a2, s1, s2, rfl, hS.setLoad1, hv1, hv2⟩
      · obtain rfl : l4 = false := by simpa using hun
        exact wpOp_load64 (i := 8) rfl rfl rfl (.tmp 23) rfl ⟨w.heap.size + 1, 1, none⟩ bl (frS_old rfl) ((bxb.below hS.below hltb).cell 1) ⟨_, frS_put rfl, l1, l2, c1, l3, true, c2, a1, a2, s1, s2, rfl, hS.setLoad2, hv1, hv2⟩
      · obtain rfl : c2 = false := by simpa using hun
        simp at ho
        subst ho
        have k1 : l3 = true := by simpa using hall { on := 6, ground := Ground.data } (by simp) rfl
        have k2 : l4 = true := by simpa using hall { on := 8, ground := Ground.data } (by simp) rfl
        refine wpOp_call2 (i := 9) rfl Try.call20 (.int .u64 bh) (.int .u64 bl) ((frS_eval rfl (by simp [Act.put])).trans (hS.load1 k1)) ((frS_eval rfl (by simp [Act.put])).trans (hS.load2 k2)) _ (HR2.out _) ?_
        intro w5 hb5
        exact ⟨_, frS_put rfl, l1, l2, c1, l3, l4, true, a1, a2, s1, s2, rfl, (hS.past hb5).setCall2, hv1, hv2⟩
      · obtain rfl : a1 = false := by simpa using hun
        exact wpOp_alloc8 (i := 10) rfl rfl rfl rfl ⟨_, frS_put rfl, l1, l2, c1, l3, l4, c2, true, a2, s1, s2, rfl, hS.setNew1, hv1, hv2⟩
      · obtain rfl : a2 = false := by simpa using hun
        exact wpOp_alloc8 (i := 11) rfl rfl rfl rfl ⟨_, frS_put rfl, l1, l2, c1, l3, l4, c2, a1, true, s1, s2, rfl, hS.setNew2, hv1, hv2⟩
      · obtain rfl : s1 = false := by simpa using hun
        simp at ho
        subst ho
        obtain rfl : a1 = true := by simpa using hall { on := 10, ground := Ground.data } (by simp) rfl
        have k2 : c1 = true := by simpa using hall { on := 4, ground := Ground.data } (by simp) rfl
        obtain ⟨g, e1, e2, e3⟩ := hS.new1 rfl
        exact wpOp_store8 (i := 12) rfl rfl rfl (.tmp 5) (.tmp 20) rfl g (fun _ => 0) (dig X) ((frS_eval rfl (by simp [Act.put])).trans e1) ((frS_eval rfl (by simp [Act.put])).trans (hS.call1 k2)) e3 ⟨v, rfl, l1, l2, c1, l3, l4, c2, true, a2, true, s2, rfl, hS.setStore1 e1, hv1, hv2⟩
      · obtain rfl : s2 = false := by simpa using hun
        simp at ho
        subst ho
        obtain rfl : a2 = true := by simpa using hall { on := 11, ground := Ground.data } (by simp) rfl
        have k2 : c2 = true := by simpa using hall { on := 9, ground := Ground.data } (by simp) rfl
        obtain ⟨g, e1, e2, e3⟩ := hS.new2 rfl
        exact wpOp_store8 (i := 13) rfl rfl rfl (.tmp 6) (.tmp 25) rfl g (fun _ => 0) (dig Y) ((frS_eval rfl (by simp [Act.put])).trans e1) ((frS_eval rfl (by simp [Act.put])).trans (hS.call2 k2)) e3 ⟨v, rfl, l1, l2, c1, l3, l4, c2, a1, true, s1, true, rfl, hS.setStore2 e1, hv1, hv2⟩
  case rest =>
    obtain ⟨g, h, rfl, rfl, hg, hh, hbc⟩ := hcut
    have ba := bxa.below hbc hlta
    have bb := bxb.below hbc hltb
    have hBc := Below.past hB0 hbc hB0.size
    clear bxa bxb hlta hltb hbc hB0 hW HR1 HR2
    have ea0 := ba.cell 0
    have ea1 := ba.cell 1
    have eb0 := bb.cell 0
    have eb1 := bb.cell 1
    simp at ea0 ea1 eb0 eb1
    go_wp2_with fail
    refine (HPL.out _).mono ?_
    rintro e w1 ⟨rfl, hb1⟩
    have hg1 := hg.past hb1
    have hh1 := hh.past hb1
    have ba1 := ba.past hb1
    have bb1 := bb.past hb1
    have hB1 := Below.next hBc hb1
    clear ea0 ea1 eb0 eb1
    have p0 : ∀ o : Obj, (w1.alloc o).cell? ⟨g, 0, none⟩ = some (.int .u64 (dig X 0)) := fun o => ((hg1.alloc o).cell 0).trans (arr8_get _ 0 (by omega))
    have p1 : ∀ o : Obj, (w1.alloc o).cell? ⟨g, 1, none⟩ = some (.int .u64 (dig X 1)) := fun o => ((hg1.alloc o).cell 1).trans (arr8_get _ 1 (by omega))
    have p2 : ∀ o : Obj, (w1.alloc o).cell? ⟨g, 2, none⟩ = some (.int .u64 (dig X 2)) := fun o => ((hg1.alloc o).cell 2).trans (arr8_get _ 2 (by omega))
    have p3 : ∀ o : Obj, (w1.alloc o).cell? ⟨g, 3, none⟩ = some (.int .u64 (dig X 3)) := fun o => ((hg1.alloc o).cell 3).trans (arr8_get _ 3 (by omega))
    have p4 : ∀ o : Obj, (w1.alloc o).cell? ⟨g, 4, none⟩ = some (.int .u64 (dig X 4)) := fun o => ((hg1.alloc o).cell 4).trans (arr8_get _ 4 (by omega))
    have p5 : ∀ o : Obj, (w1.alloc o).cell? ⟨g, 5, none⟩ = some (.int .u64 (dig X 5)) := fun o => ((hg1.alloc o).cell 5).trans (arr8_get _ 5 (by omega))
    have p6 : ∀ o : Obj, (w1.alloc o).cell? ⟨g, 6, none⟩ = some (.int .u64 (dig X 6)) := fun o => ((hg1.alloc o).cell 6).trans (arr8_get _ 6 (by omega))
    have p7 : ∀ o : Obj, (w1.alloc o).cell? ⟨g, 7, none⟩ = some (.int .u64 (dig X 7)) := fun o => ((hg1.alloc o).cell 7).trans (arr8_get _ 7 (by omega))
    have q0 : ∀ o : Obj, (w1.alloc o).cell? ⟨h, 0, none⟩ = some (.int .u64 (dig Y 0)) := fun o => ((hh1.alloc o).cell 0).trans (arr8_get _ 0 (by omega))
    have q1 : ∀ o : Obj, (w1.alloc o).cell? ⟨h, 1, none⟩ = some (.int .u64 (dig Y 1)) := fun o => ((hh1.alloc o).cell 1).trans (arr8_get _ 1 (by omega))
    have q2 : ∀ o : Obj, (w1.alloc o).cell? ⟨h, 2, none⟩ = some (.int .u64 (dig Y 2)) := fun o => ((hh1.alloc o).cell 2).trans (arr8_get _ 2 (by omega))
    have q3 : ∀ o : Obj, (w1.alloc o).cell? ⟨h, 3, none⟩ = some (.int .u64 (dig Y 3)) := fun o => ((hh1.alloc o).cell 3).trans (arr8_get _ 3 (by omega))
    have q4 : ∀ o : Obj, (w1.alloc o).cell? ⟨h, 4, none⟩ = some (.int .u64 (dig Y 4)) := fun o => ((hh1.alloc o).cell 4).trans (arr8_get _ 4 (by omega))
    have q5 : ∀ o : Obj, (w1.alloc o).cell? ⟨h, 5, none⟩ = some (.int .u64 (dig Y 5)) := fun o => ((hh1.alloc o).cell 5).trans (arr8_get _ 5 (by omega))
    have q6 : ∀ o : Obj, (w1.alloc o).cell? ⟨h, 6, none⟩ = some (.int .u64 (dig Y 6)) := fun o => ((hh1.alloc o).cell 6).trans (arr8_get _ 6 (by omega))
    have q7 : ∀ o : Obj, (w1.alloc o).cell? ⟨h, 7, none⟩ = some (.int .u64 (dig Y 7)) := fun o => ((hh1.alloc o).cell 7).trans (arr8_get _ 7 (by omega))
    have bs1 := Blk.new w1 30 #[.int .u64 0, .int .u64 0] w1.heap.size rfl
    have hBs := hB1.alloc hB1.size (.cells #[.int .u64 0, .int .u64 0] 30)
    rw [XA.out, YA.out] at HRP
    go_wp2_with fail
    refine (HRP.out _).mono ?_
    rw [NA.out]
    rintro e w2 ⟨rfl, hb2⟩
    have hg2 := (hg1.alloc _).past hb2
    have hh2 := (hh1.alloc _).past hb2
    have ba2 := (ba1.alloc _).past hb2
    have bb2 := (bb1.alloc _).past hb2
    have bs2 := bs1.past hb2
    have hB2 := Below.next hBs hb2
    have bn2 := Blk.new w2 25 (arr8 (dig N)) w2.heap.size rfl
    have hBn := hB2.alloc hB2.size (.cells #[.int .u64 (dig N 0), .int .u64 (dig N 1), .int .u64 (dig N 2), .int .u64 (dig N 3), .int .u64 (dig N 4), .int .u64 (dig N 5), .int .u64 (dig N 6), .int .u64 (dig N 7)] 25)
    rw [NA.out] at bn2
    clear p0 p1 p2 p3 p4 p5 p6 p7
    clear q0 q1 q2 q3 q4 q5 q6 q7
    have es0 : ∀ o : Obj, (w2.alloc o).cell? ⟨w1.heap.size, 0, none⟩ = some (.int .u64 0) := fun o => (bs2.alloc o).cell 0
    have es1 : ∀ o : Obj, (w2.alloc o).cell? ⟨w1.heap.size, 1, none⟩ = some (.int .u64 0) := fun o => (bs2.alloc o).cell 1
    have hz := wide_neq0
    have p0 : ∀ o : Obj, (w2.alloc o).cell? ⟨g, 0, none⟩ = some (.int .u64 (dig X 0)) := fun o => ((hg2.alloc o).cell 0).trans (arr8_get _ 0 (by omega))
    have p1 : ∀ o : Obj, (w2.alloc o).cell? ⟨g, 1, none⟩ = some (.int .u64 (dig X 1)) := fun o => ((hg2.alloc o).cell 1).trans (arr8_get _ 1 (by omega))
    have p2 : ∀ o : Obj, (w2.alloc o).cell? ⟨g, 2, none⟩ = some (.int .u64 (dig X 2)) := fun o => ((hg2.alloc o).cell 2).trans (arr8_get _ 2 (by omega))
    have p3 : ∀ o : Obj, (w2.alloc o).cell? ⟨g, 3, none⟩ = some (.int .u64 (dig X 3)) := fun o => ((hg2.alloc o).cell 3).trans (arr8_get _ 3 (by omega))
    have p4 : ∀ o : Obj, (w2.alloc o).cell? ⟨g, 4, none⟩ = some (.int .u64 (dig X 4)) := fun o => ((hg2.alloc o).cell 4).trans (arr8_get _ 4 (by omega))
    have p5 : ∀ o : Obj, (w2.alloc o).cell? ⟨g, 5, none⟩ = some (.int .u64 (dig X 5)) := fun o => ((hg2.alloc o).cell 5).trans (arr8_get _ 5 (by omega))
    have p6 : ∀ o : Obj, (w2.alloc o).cell? ⟨g, 6, none⟩ = some (.int .u64 (dig X 6)) := fun o => ((hg2.alloc o).cell 6).trans (arr8_get _ 6 (by omega))
    have p7 : ∀ o : Obj, (w2.alloc o).cell? ⟨g, 7, none⟩ = some (.int .u64 (dig X 7)) := fun o => ((hg2.alloc o).cell 7).trans (arr8_get _ 7 (by omega))
    have q0 : ∀ o : Obj, (w2.alloc o).cell? ⟨h, 0, none⟩ = some (.int .u64 (dig Y 0)) := fun o => ((hh2.alloc o).cell 0).trans (arr8_get _ 0 (by omega))
    have q1 : ∀ o : Obj, (w2.alloc o).cell? ⟨h, 1, none⟩ = some (.int .u64 (dig Y 1)) := fun o => ((hh2.alloc o).cell 1).trans (arr8_get _ 1 (by omega))
    have q2 : ∀ o : Obj, (w2.alloc o).cell? ⟨h, 2, none⟩ = some (.int .u64 (dig Y 2)) := fun o => ((hh2.alloc o).cell 2).trans (arr8_get _ 2 (by omega))
    have q3 : ∀ o : Obj, (w2.alloc o).cell? ⟨h, 3, none⟩ = some (.int .u64 (dig Y 3)) := fun o => ((hh2.alloc o).cell 3).trans (arr8_get _ 3 (by omega))
    have q4 : ∀ o : Obj, (w2.alloc o).cell? ⟨h, 4, none⟩ = some (.int .u64 (dig Y 4)) := fun o => ((hh2.alloc o).cell 4).trans (arr8_get _ 4 (by omega))
    have q5 : ∀ o : Obj, (w2.alloc o).cell? ⟨h, 5, none⟩ = some (.int .u64 (dig Y 5)) := fun o => ((hh2.alloc o).cell 5).trans (arr8_get _ 5 (by omega))
    have q6 : ∀ o : Obj, (w2.alloc o).cell? ⟨h, 6, none⟩ = some (.int .u64 (dig Y 6)) := fun o => ((hh2.alloc o).cell 6).trans (arr8_get _ 6 (by omega))
    have q7 : ∀ o : Obj, (w2.alloc o).cell? ⟨h, 7, none⟩ = some (.int .u64 (dig Y 7)) := fun o => ((hh2.alloc o).cell 7).trans (arr8_get _ 7 (by omega))
    rw [XA.out, YA.out] at HKC
    go_wp2_with fail
    refine (HKC.out _).mono ?_
    rintro e w4 ⟨rfl, hb4⟩
    have hg4 := (hg2.alloc _).past hb4
    have hh4 := (hh2.alloc _).past hb4
    have ba4 := (ba2.alloc _).past hb4
    have bb4 := (bb2.alloc _).past hb4
    have hB4 := Below.next hBn hb4
    clear es0 es1 hz
    clear p0 p1 p2 p3 p4 p5 p6 p7
    clear q0 q1 q2 q3 q4 q5 q6 q7
    have ea0 := ba4.cell 0
    have ea1 := ba4.cell 1
    have eb0 := bb4.cell 0
    have eb1 := bb4.cell 1
    simp at ea0 ea1 eb0 eb1
    go_wp2_with fail
    refine (HMI.out _).mono ?_
    rintro e w5 ⟨rfl, hb5⟩
    have hg5 := hg4.past hb5
    have hh5 := hh4.past hb5
    have ba5 := ba4.past hb5
    have bb5 := bb4.past hb5
    have hB5 := Below.next hB4 hb5
    clear ea0 ea1 eb0 eb1
    have ea0 : ∀ o : Obj, (w5.alloc o).cell? ⟨w.heap.size, 0, none⟩ = some (.int .u64 ah) := fun o => (ba5.alloc o).cell 0
    have ea1 : ∀ o : Obj, (w5.alloc o).cell? ⟨w.heap.size, 1, none⟩ = some (.int .u64 al) := fun o => (ba5.alloc o).cell 1
    have eb0 : ∀ o : Obj, (w5.alloc o).cell? ⟨w.heap.size + 1, 0, none⟩ = some (.int .u64 bh) := fun o => (bb5.alloc o).cell 0
    have eb1 : ∀ o : Obj, (w5.alloc o).cell? ⟨w.heap.size + 1, 1, none⟩ = some (.int .u64 bl) := fun o => (bb5.alloc o).cell 1
    have bd5 := Blk.new w5 30 #[.int .u64 dh, .int .u64 dl] w5.heap.size rfl
    have hBd := hB5.alloc hB5.size (.cells #[.int .u64 dh, .int .u64 dl] 30)
    go_wp2_with fail
    refine (HWC.out _).mono ?_
    rintro e w6 ⟨rfl, hb6⟩
    have hg6 := (hg5.alloc _).past hb6
    have hh6 := (hh5.alloc _).past hb6
    have bd6 := bd5.past hb6
    have hB6 := Below.next hBd hb6
    clear ea0 ea1 eb0 eb1
    go_upto_region 12 with fail
    go_cut [14, 15] (fun p b w' => BackCut w6 X p b w')
    case first =>
      refine wp_region_any (by kernel_rfl) ?_
      change wpAny _ _ _ _ _ _ _ (World.drew _)
      refine wpAny_take (i := 0) (v := .pointer (some ⟨w5.heap.size, 0, none⟩)) rfl (by kernel_rfl) (by kernel_rfl) (by kernel_rfl) (fun _ _ _ h => h) (Or.inl ⟨by rfl, fun _ => by go_simp⟩) ?_
      refine wpAny_take (i := 2) (v := .pointer (some ⟨w5.heap.size, 1, none⟩)) rfl (by kernel_rfl) (by kernel_rfl) (by kernel_rfl) (fun _ _ _ h => h) (Or.inl ⟨by rfl, fun _ => by go_simp⟩) ?_
      refine wpAny_inv_fr [92, 94, 95, 96, 97, 90, 98, 99, 14, 15] (jB w6 D Y X (.int .u64 dh) (.int .u64 dl)) (by simp [toCome]) ?_ ?_ ?_
      · exact fun v => ⟨false, false, false, false, false, false, false, false, false, false, false, rfl, { below := Below.drew (Below.refl _ _), h1 := nofun, h2 := nofun, h3 := nofun, h4 := nofun, h5 := nofun, h6 := nofun, h7 := nofun, h8 := nofun, h9 := nofun, h10 := nofun, h11 := nofun }⟩
      · rintro L v w7 ⟨l1, l2, c1, l5, c2, m, x1, x2, al, st, ag, rfl, hS⟩ hr
        have rdy : ∀ i, i ∈ Region.ready _ _ _ → False := fun i hi => by rw [hr] at hi; cases hi
        cases l1
        · exact (rdy 1 (mem_ready.2 ⟨rfl, _, rfl, by intro e he hb; first | (simp at he; done) | (simp at he; subst he; rfl) | (simp at he; rcases he with rfl | rfl <;> first | rfl | exact absurd hb (by decide)) | (simp at he; rcases he with rfl | rfl | rfl <;> first | rfl | exact absurd hb (by decide)) | (simp at he; rcases he with rfl | rfl | rfl | rfl <;> first | rfl | exact absurd hb (by decide)) | (simp at he; rcases he with rfl | rfl | rfl | rfl | rfl <;> first | rfl | exact absurd hb (by decide)) | (simp at he; rcases he with rfl | rfl | rfl | rfl | rfl | rfl <;> first | rfl | exact absurd hb (by decide)) | (simp at he; rcases he with rfl | rfl | rfl | rfl | rfl | rfl | rfl <;> first | rfl | exact absurd hb (by decide)) | (simp at he; rcases he with rfl | rfl | rfl | rfl | rfl | rfl | rfl | rfl <;> first | rfl | exact absurd hb (by decide)) | (simp at he; rcases he with rfl | rfl | rfl | rfl | rfl | rfl | rfl | rfl | rfl <;> first | rfl | exact absurd hb (by decide)) | (simp at he; rcases he with rfl | rfl | rfl | rfl | rfl | rfl | rfl | rfl | rfl | rfl <;> first | rfl | exact absurd hb (by decide)) | (simp at he; rcases he with rfl | rfl | rfl | rfl | rfl | rfl | rfl | rfl | rfl | rfl | rfl <;> first | rfl | exact absurd hb (by decide)) | (simp at he; rcases he with rfl | rfl | rfl | rfl | rfl | rfl | rfl | rfl | rfl | rfl | rfl | rfl <;> first | rfl | exact absurd hb (by decide)) | (simp at he; rcases he with rfl | rfl | rfl | rfl | rfl | rfl | rfl | rfl | rfl | rfl | rfl | rfl | rfl <;> first | rfl | exact absurd hb (by decide)) | (simp at he; rcases he with rfl | rfl | rfl | rfl | rfl | rfl | rfl | rfl | rfl | rfl | rfl | rfl | rfl | rfl <;> first | rfl | exact absurd hb (by decide)) | (simp at he; rcases he with rfl | rfl | rfl | rfl | rfl | rfl | rfl | rfl | rfl | rfl | rfl | rfl | rfl | rfl | rfl <;> first | rfl | exact absurd hb (by decide)) | (simp at he; rcases he with rfl | rfl | rfl | rfl | rfl | rfl | rfl | rfl | rfl | rfl | rfl | rfl | rfl | rfl | rfl | rfl <;> first | rfl | exact absurd hb (by decide))⟩)).elim
        cases l2
        · exact (rdy 3 (mem_ready.2 ⟨rfl, _, rfl, by intro e he hb; first | (simp at he; done) | (simp at he; subst he; rfl) | (simp at he; rcases he with rfl | rfl <;> first | rfl | exact absurd hb (by decide)) | (simp at he; rcases he with rfl | rfl | rfl <;> first | rfl | exact absurd hb (by decide)) | (simp at he; rcases he with rfl | rfl | rfl | rfl <;> first | rfl | exact absurd hb (by decide)) | (simp at he; rcases he with rfl | rfl | rfl | rfl | rfl <;> first | rfl | exact absurd hb (by decide)) | (simp at he; rcases he with rfl | rfl | rfl | rfl | rfl | rfl <;> first | rfl | exact absurd hb (by decide)) | (simp at he; rcases he with rfl | rfl | rfl | rfl | rfl | rfl | rfl <;> first | rfl | exact absurd hb (by decide)) | (simp at he; rcases he with rfl | rfl | rfl | rfl | rfl | rfl | rfl | rfl <;> first | rfl | exact absurd hb (by decide)) | (simp at he; rcases he with rfl | rfl | rfl | rfl | rfl | rfl | rfl | rfl | rfl <;> first | rfl | exact absurd hb (by decide)) | (simp at he; rcases he with rfl | rfl | rfl | rfl | rfl | rfl | rfl | rfl | rfl | rfl <;> first | rfl | exact absurd hb (by decide)) | (simp at he; rcases he with rfl | rfl | rfl | rfl | rfl | rfl | rfl | rfl | rfl | rfl | rfl <;> first | rfl | exact absurd hb (by decide)) | (simp at he; rcases he with rfl | rfl | rfl | rfl | rfl | rfl | rfl | rfl | rfl | rfl | rfl | rfl <;> first | rfl | exact absurd hb (by decide)) | (simp at he; rcases he with rfl | rfl | rfl | rfl | rfl | rfl | rfl | rfl | rfl | rfl | rfl | rfl | rfl <;> first | rfl | exact absurd hb (by decide)) | (simp at he; rcases he with rfl | rfl | rfl | rfl | rfl | rfl | rfl | rfl | rfl | rfl | rfl | rfl | rfl | rfl <;> first | rfl | exact absurd hb (by decide)) | (simp at he; rcases he with rfl | rfl | rfl | rfl | rfl | rfl | rfl | rfl | rfl | rfl | rfl | rfl | rfl | rfl | rfl <;> first | rfl | exact absurd hb (by decide)) | (simp at he; rcases he with rfl | rfl | rfl | rfl | rfl | rfl | rfl | rfl | rfl | rfl | rfl | rfl | rfl | rfl | rfl | rfl <;> first | rfl | exact absurd hb (by decide))⟩)).elim
        cases c1
        · exact (rdy 4 (mem_ready.2 ⟨rfl, _, rfl, by intro e he hb; first | (simp at he; done) | (simp at he; subst he; rfl) | (simp at he; rcases he with rfl | rfl <;> first | rfl | exact absurd hb (by decide)) | (simp at he; rcases he with rfl | rfl | rfl <;> first | rfl | exact absurd hb (by decide)) | (simp at he; rcases he with rfl | rfl | rfl | rfl <;> first | rfl | exact absurd hb (by decide)) | (simp at he; rcases he with rfl | rfl | rfl | rfl | rfl <;> first | rfl | exact absurd hb (by decide)) | (simp at he; rcases he with rfl | rfl | rfl | rfl | rfl | rfl <;> first | rfl | exact absurd hb (by decide)) | (simp at he; rcases he with rfl | rfl | rfl | rfl | rfl | rfl | rfl <;> first | rfl | exact absurd hb (by decide)) | (simp at he; rcases he with rfl | rfl | rfl | rfl | rfl | rfl | rfl | rfl <;> first | rfl | exact absurd hb (by decide)) | (simp at he; rcases he with rfl | rfl | rfl | rfl | rfl | rfl | rfl | rfl | rfl <;> first | rfl | exact absurd hb (by decide)) | (simp at he; rcases he with rfl | rfl | rfl | rfl | rfl | rfl | rfl | rfl | rfl | rfl <;> first | rfl | exact absurd hb (by decide)) | (simp at he; rcases he with rfl | rfl | rfl | rfl | rfl | rfl | rfl | rfl | rfl | rfl | rfl <;> first | rfl | exact absurd hb (by decide)) | (simp at he; rcases he with rfl | rfl | rfl | rfl | rfl | rfl | rfl | rfl | rfl | rfl | rfl | rfl <;> first | rfl | exact absurd hb (by decide)) | (simp at he; rcases he with rfl | rfl | rfl | rfl | rfl | rfl | rfl | rfl | rfl | rfl | rfl | rfl | rfl <;> first | rfl | exact absurd hb (by decide)) | (simp at he; rcases he with rfl | rfl | rfl | rfl | rfl | rfl | rfl | rfl | rfl | rfl | rfl | rfl | rfl | rfl <;> first | rfl | exact absurd hb (by decide)) | (simp at he; rcases he with rfl | rfl | rfl | rfl | rfl | rfl | rfl | rfl | rfl | rfl | rfl | rfl | rfl | rfl | rfl <;> first | rfl | exact absurd hb (by decide)) | (simp at he; rcases he with rfl | rfl | rfl | rfl | rfl | rfl | rfl | rfl | rfl | rfl | rfl | rfl | rfl | rfl | rfl | rfl <;> first | rfl | exact absurd hb (by decide))⟩)).elim
        cases l5
        · exact (rdy 5 (mem_ready.2 ⟨rfl, _, rfl, by intro e he hb; first | (simp at he; done) | (simp at he; subst he; rfl) | (simp at he; rcases he with rfl | rfl <;> first | rfl | exact absurd hb (by decide)) | (simp at he; rcases he with rfl | rfl | rfl <;> first | rfl | exact absurd hb (by decide)) | (simp at he; rcases he with rfl | rfl | rfl | rfl <;> first | rfl | exact absurd hb (by decide)) | (simp at he; rcases he with rfl | rfl | rfl | rfl | rfl <;> first | rfl | exact absurd hb (by decide)) | (simp at he; rcases he with rfl | rfl | rfl | rfl | rfl | rfl <;> first | rfl | exact absurd hb (by decide)) | (simp at he; rcases he with rfl | rfl | rfl | rfl | rfl | rfl | rfl <;> first | rfl | exact absurd hb (by decide)) | (simp at he; rcases he with rfl | rfl | rfl | rfl | rfl | rfl | rfl | rfl <;> first | rfl | exact absurd hb (by decide)) | (simp at he; rcases he with rfl | rfl | rfl | rfl | rfl | rfl | rfl | rfl | rfl <;> first | rfl | exact absurd hb (by decide)) | (simp at he; rcases he with rfl | rfl | rfl | rfl | rfl | rfl | rfl | rfl | rfl | rfl <;> first | rfl | exact absurd hb (by decide)) | (simp at he; rcases he with rfl | rfl | rfl | rfl | rfl | rfl | rfl | rfl | rfl | rfl | rfl <;> first | rfl | exact absurd hb (by decide)) | (simp at he; rcases he with rfl | rfl | rfl | rfl | rfl | rfl | rfl | rfl | rfl | rfl | rfl | rfl <;> first | rfl | exact absurd hb (by decide)) | (simp at he; rcases he with rfl | rfl | rfl | rfl | rfl | rfl | rfl | rfl | rfl | rfl | rfl | rfl | rfl <;> first | rfl | exact absurd hb (by decide)) | (simp at he; rcases he with rfl | rfl | rfl | rfl | rfl | rfl | rfl | rfl | rfl | rfl | rfl | rfl | rfl | rfl <;> first | rfl | exact absurd hb (by decide)) | (simp at he; rcases he with rfl | rfl | rfl | rfl | rfl | rfl | rfl | rfl | rfl | rfl | rfl | rfl | rfl | rfl | rfl <;> first | rfl | exact absurd hb (by decide)) | (simp at he; rcases he with rfl | rfl | rfl | rfl | rfl | rfl | rfl | rfl | rfl | rfl | rfl | rfl | rfl | rfl | rfl | rfl <;> first | rfl | exact absurd hb (by decide))⟩)).elim
        cases c2
        · exact (rdy 6 (mem_ready.2 ⟨rfl, _, rfl, by intro e he hb; first | (simp at he; done) | (simp at he; subst he; rfl) | (simp at he; rcases he with rfl | rfl <;> first | rfl | exact absurd hb (by decide)) | (simp at he; rcases he with rfl | rfl | rfl <;> first | rfl | exact absurd hb (by decide)) | (simp at he; rcases he with rfl | rfl | rfl | rfl <;> first | rfl | exact absurd hb (by decide)) | (simp at he; rcases he with rfl | rfl | rfl | rfl | rfl <;> first | rfl | exact absurd hb (by decide)) | (simp at he; rcases he with rfl | rfl | rfl | rfl | rfl | rfl <;> first | rfl | exact absurd hb (by decide)) | (simp at he; rcases he with rfl | rfl | rfl | rfl | rfl | rfl | rfl <;> first | rfl | exact absurd hb (by decide)) | (simp at he; rcases he with rfl | rfl | rfl | rfl | rfl | rfl | rfl | rfl <;> first | rfl | exact absurd hb (by decide)) | (simp at he; rcases he with rfl | rfl | rfl | rfl | rfl | rfl | rfl | rfl | rfl <;> first | rfl | exact absurd hb (by decide)) | (simp at he; rcases he with rfl | rfl | rfl | rfl | rfl | rfl | rfl | rfl | rfl | rfl <;> first | rfl | exact absurd hb (by decide)) | (simp at he; rcases he with rfl | rfl | rfl | rfl | rfl | rfl | rfl | rfl | rfl | rfl | rfl <;> first | rfl | exact absurd hb (by decide)) | (simp at he; rcases he with rfl | rfl | rfl | rfl | rfl | rfl | rfl | rfl | rfl | rfl | rfl | rfl <;> first | rfl | exact absurd hb (by decide)) | (simp at he; rcases he with rfl | rfl | rfl | rfl | rfl | rfl | rfl | rfl | rfl | rfl | rfl | rfl | rfl <;> first | rfl | exact absurd hb (by decide)) | (simp at he; rcases he with rfl | rfl | rfl | rfl | rfl | rfl | rfl | rfl | rfl | rfl | rfl | rfl | rfl | rfl <;> first | rfl | exact absurd hb (by decide)) | (simp at he; rcases he with rfl | rfl | rfl | rfl | rfl | rfl | rfl | rfl | rfl | rfl | rfl | rfl | rfl | rfl | rfl <;> first | rfl | exact absurd hb (by decide)) | (simp at he; rcases he with rfl | rfl | rfl | rfl | rfl | rfl | rfl | rfl | rfl | rfl | rfl | rfl | rfl | rfl | rfl | rfl <;> first | rfl | exact absurd hb (by decide))⟩)).elim
        cases m
        · exact (rdy 7 (mem_ready.2 ⟨rfl, _, rfl, by intro e he hb; first | (simp at he; done) | (simp at he; subst he; rfl) | (simp at he; rcases he with rfl | rfl <;> first | rfl | exact absurd hb (by decide)) | (simp at he; rcases he with rfl | rfl | rfl <;> first | rfl | exact absurd hb (by decide)) | (simp at he; rcases he with rfl | rfl | rfl | rfl <;> first | rfl | exact absurd hb (by decide)) | (simp at he; rcases he with rfl | rfl | rfl | rfl | rfl <;> first | rfl | exact absurd hb (by decide)) | (simp at he; rcases he with rfl | rfl | rfl | rfl | rfl | rfl <;> first | rfl | exact absurd hb (by decide)) | (simp at he; rcases he with rfl | rfl | rfl | rfl | rfl | rfl | rfl <;> first | rfl | exact absurd hb (by decide)) | (simp at he; rcases he with rfl | rfl | rfl | rfl | rfl | rfl | rfl | rfl <;> first | rfl | exact absurd hb (by decide)) | (simp at he; rcases he with rfl | rfl | rfl | rfl | rfl | rfl | rfl | rfl | rfl <;> first | rfl | exact absurd hb (by decide)) | (simp at he; rcases he with rfl | rfl | rfl | rfl | rfl | rfl | rfl | rfl | rfl | rfl <;> first | rfl | exact absurd hb (by decide)) | (simp at he; rcases he with rfl | rfl | rfl | rfl | rfl | rfl | rfl | rfl | rfl | rfl | rfl <;> first | rfl | exact absurd hb (by decide)) | (simp at he; rcases he with rfl | rfl | rfl | rfl | rfl | rfl | rfl | rfl | rfl | rfl | rfl | rfl <;> first | rfl | exact absurd hb (by decide)) | (simp at he; rcases he with rfl | rfl | rfl | rfl | rfl | rfl | rfl | rfl | rfl | rfl | rfl | rfl | rfl <;> first | rfl | exact absurd hb (by decide)) | (simp at he; rcases he with rfl | rfl | rfl | rfl | rfl | rfl | rfl | rfl | rfl | rfl | rfl | rfl | rfl | rfl <;> first | rfl | exact absurd hb (by decide)) | (simp at he; rcases he with rfl | rfl | rfl | rfl | rfl | rfl | rfl | rfl | rfl | rfl | rfl | rfl | rfl | rfl | rfl <;> first | rfl | exact absurd hb (by decide)) | (simp at he; rcases he with rfl | rfl | rfl | rfl | rfl | rfl | rfl | rfl | rfl | rfl | rfl | rfl | rfl | rfl | rfl | rfl <;> first | rfl | exact absurd hb (by decide))⟩)).elim
        cases x1
        · exact (rdy 8 (mem_ready.2 ⟨rfl, _, rfl, by intro e he hb; first | (simp at he; done) | (simp at he; subst he; rfl) | (simp at he; rcases he with rfl | rfl <;> first | rfl | exact absurd hb (by decide)) | (simp at he; rcases he with rfl | rfl | rfl <;> first | rfl | exact absurd hb (by decide)) | (simp at he; rcases he with rfl | rfl | rfl | rfl <;> first | rfl | exact absurd hb (by decide)) | (simp at he; rcases he with rfl | rfl | rfl | rfl | rfl <;> first | rfl | exact absurd hb (by decide)) | (simp at he; rcases he with rfl | rfl | rfl | rfl | rfl | rfl <;> first | rfl | exact absurd hb (by decide)) | (simp at he; rcases he with rfl | rfl | rfl | rfl | rfl | rfl | rfl <;> first | rfl | exact absurd hb (by decide)) | (simp at he; rcases he with rfl | rfl | rfl | rfl | rfl | rfl | rfl | rfl <;> first | rfl | exact absurd hb (by decide)) | (simp at he; rcases he with rfl | rfl | rfl | rfl | rfl | rfl | rfl | rfl | rfl <;> first | rfl | exact absurd hb (by decide)) | (simp at he; rcases he with rfl | rfl | rfl | rfl | rfl | rfl | rfl | rfl | rfl | rfl <;> first | rfl | exact absurd hb (by decide)) | (simp at he; rcases he with rfl | rfl | rfl | rfl | rfl | rfl | rfl | rfl | rfl | rfl | rfl <;> first | rfl | exact absurd hb (by decide)) | (simp at he; rcases he with rfl | rfl | rfl | rfl | rfl | rfl | rfl | rfl | rfl | rfl | rfl | rfl <;> first | rfl | exact absurd hb (by decide)) | (simp at he; rcases he with rfl | rfl | rfl | rfl | rfl | rfl | rfl | rfl | rfl | rfl | rfl | rfl | rfl <;> first | rfl | exact absurd hb (by decide)) | (simp at he; rcases he with rfl | rfl | rfl | rfl | rfl | rfl | rfl | rfl | rfl | rfl | rfl | rfl | rfl | rfl <;> first | rfl | exact absurd hb (by decide)) | (simp at he; rcases he with rfl | rfl | rfl | rfl | rfl | rfl | rfl | rfl | rfl | rfl | rfl | rfl | rfl | rfl | rfl <;> first | rfl | exact absurd hb (by decide)) | (simp at he; rcases he with rfl | rfl | rfl | rfl | rfl | rfl | rfl | rfl | rfl | rfl | rfl | rfl | rfl | rfl | rfl | rfl <;> first | rfl | exact absurd hb (by decide))⟩)).elim
        cases x2
        · exact (rdy 9 (mem_ready.2 ⟨rfl, _, rfl, by intro e he hb; first | (simp at he; done) | (simp at he; subst he; rfl) | (simp at he; rcases he with rfl | rfl <;> first | rfl | exact absurd hb (by decide)) | (simp at he; rcases he with rfl | rfl | rfl <;> first | rfl | exact absurd hb (by decide)) | (simp at he; rcases he with rfl | rfl | rfl | rfl <;> first | rfl | exact absurd hb (by decide)) | (simp at he; rcases he with rfl | rfl | rfl | rfl | rfl <;> first | rfl | exact absurd hb (by decide)) | (simp at he; rcases he with rfl | rfl | rfl | rfl | rfl | rfl <;> first | rfl | exact absurd hb (by decide)) | (simp at he; rcases he with rfl | rfl | rfl | rfl | rfl | rfl | rfl <;> first | rfl | exact absurd hb (by decide)) | (simp at he; rcases he with rfl | rfl | rfl | rfl | rfl | rfl | rfl | rfl <;> first | rfl | exact absurd hb (by decide)) | (simp at he; rcases he with rfl | rfl | rfl | rfl | rfl | rfl | rfl | rfl | rfl <;> first | rfl | exact absurd hb (by decide)) | (simp at he; rcases he with rfl | rfl | rfl | rfl | rfl | rfl | rfl | rfl | rfl | rfl <;> first | rfl | exact absurd hb (by decide)) | (simp at he; rcases he with rfl | rfl | rfl | rfl | rfl | rfl | rfl | rfl | rfl | rfl | rfl <;> first | rfl | exact absurd hb (by decide)) | (simp at he; rcases he with rfl | rfl | rfl | rfl | rfl | rfl | rfl | rfl | rfl | rfl | rfl | rfl <;> first | rfl | exact absurd hb (by decide)) | (simp at he; rcases he with rfl | rfl | rfl | rfl | rfl | rfl | rfl | rfl | rfl | rfl | rfl | rfl | rfl <;> first | rfl | exact absurd hb (by decide)) | (simp at he; rcases he with rfl | rfl | rfl | rfl | rfl | rfl | rfl | rfl | rfl | rfl | rfl | rfl | rfl | rfl <;> first | rfl | exact absurd hb (by decide)) | (simp at he; rcases he with rfl | rfl | rfl | rfl | rfl | rfl | rfl | rfl | rfl | rfl | rfl | rfl | rfl | rfl | rfl <;> first | rfl | exact absurd hb (by decide)) | (simp at he; rcases he with rfl | rfl | rfl | rfl | rfl | rfl | rfl | rfl | rfl | rfl | rfl | rfl | rfl | rfl | rfl | rfl <;> first | rfl | exact absurd hb (by decide))⟩)).elim
        cases al
        · exact (rdy 10 (mem_ready.2 ⟨rfl, _, rfl, by intro e he hb; first | (simp at he; done) | (simp at he; subst he; rfl) | (simp at he; rcases he with rfl | rfl <;> first | rfl | exact absurd hb (by decide)) | (simp at he; rcases he with rfl | rfl | rfl <;> first | rfl | exact absurd hb (by decide)) | (simp at he; rcases he with rfl | rfl | rfl | rfl <;> first | rfl | exact absurd hb (by decide)) | (simp at he; rcases he with rfl | rfl | rfl | rfl | rfl <;> first | rfl | exact absurd hb (by decide)) | (simp at he; rcases he with rfl | rfl | rfl | rfl | rfl | rfl <;> first | rfl | exact absurd hb (by decide)) | (simp at he; rcases he with rfl | rfl | rfl | rfl | rfl | rfl | rfl <;> first | rfl | exact absurd hb (by decide)) | (simp at he; rcases he with rfl | rfl | rfl | rfl | rfl | rfl | rfl | rfl <;> first | rfl | exact absurd hb (by decide)) | (simp at he; rcases he with rfl | rfl | rfl | rfl | rfl | rfl | rfl | rfl | rfl <;> first | rfl | exact absurd hb (by decide)) | (simp at he; rcases he with rfl | rfl | rfl | rfl | rfl | rfl | rfl | rfl | rfl | rfl <;> first | rfl | exact absurd hb (by decide)) | (simp at he; rcases he with rfl | rfl | rfl | rfl | rfl | rfl | rfl | rfl | rfl | rfl | rfl <;> first | rfl | exact absurd hb (by decide)) | (simp at he; rcases he with rfl | rfl | rfl | rfl | rfl | rfl | rfl | rfl | rfl | rfl | rfl | rfl <;> first | rfl | exact absurd hb (by decide)) | (simp at he; rcases he with rfl | rfl | rfl | rfl | rfl | rfl | rfl | rfl | rfl | rfl | rfl | rfl | rfl <;> first | rfl | exact absurd hb (by decide)) | (simp at he; rcases he with rfl | rfl | rfl | rfl | rfl | rfl | rfl | rfl | rfl | rfl | rfl | rfl | rfl | rfl <;> first | rfl | exact absurd hb (by decide)) | (simp at he; rcases he with rfl | rfl | rfl | rfl | rfl | rfl | rfl | rfl | rfl | rfl | rfl | rfl | rfl | rfl | rfl <;> first | rfl | exact absurd hb (by decide)) | (simp at he; rcases he with rfl | rfl | rfl | rfl | rfl | rfl | rfl | rfl | rfl | rfl | rfl | rfl | rfl | rfl | rfl | rfl <;> first | rfl | exact absurd hb (by decide))⟩)).elim
        cases st
        · exact (rdy 11 (mem_ready.2 ⟨rfl, _, rfl, by intro e he hb; first | (simp at he; done) | (simp at he; subst he; rfl) | (simp at he; rcases he with rfl | rfl <;> first | rfl | exact absurd hb (by decide)) | (simp at he; rcases he with rfl | rfl | rfl <;> first | rfl | exact absurd hb (by decide)) | (simp at he; rcases he with rfl | rfl | rfl | rfl <;> first | rfl | exact absurd hb (by decide)) | (simp at he; rcases he with rfl | rfl | rfl | rfl | rfl <;> first | rfl | exact absurd hb (by decide)) | (simp at he; rcases he with rfl | rfl | rfl | rfl | rfl | rfl <;> first | rfl | exact absurd hb (by decide)) | (simp at he; rcases he with rfl | rfl | rfl | rfl | rfl | rfl | rfl <;> first | rfl | exact absurd hb (by decide)) | (simp at he; rcases he with rfl | rfl | rfl | rfl | rfl | rfl | rfl | rfl <;> first | rfl | exact absurd hb (by decide)) | (simp at he; rcases he with rfl | rfl | rfl | rfl | rfl | rfl | rfl | rfl | rfl <;> first | rfl | exact absurd hb (by decide)) | (simp at he; rcases he with rfl | rfl | rfl | rfl | rfl | rfl | rfl | rfl | rfl | rfl <;> first | rfl | exact absurd hb (by decide)) | (simp at he; rcases he with rfl | rfl | rfl | rfl | rfl | rfl | rfl | rfl | rfl | rfl | rfl <;> first | rfl | exact absurd hb (by decide)) | (simp at he; rcases he with rfl | rfl | rfl | rfl | rfl | rfl | rfl | rfl | rfl | rfl | rfl | rfl <;> first | rfl | exact absurd hb (by decide)) | (simp at he; rcases he with rfl | rfl | rfl | rfl | rfl | rfl | rfl | rfl | rfl | rfl | rfl | rfl | rfl <;> first | rfl | exact absurd hb (by decide)) | (simp at he; rcases he with rfl | rfl | rfl | rfl | rfl | rfl | rfl | rfl | rfl | rfl | rfl | rfl | rfl | rfl <;> first | rfl | exact absurd hb (by decide)) | (simp at he; rcases he with rfl | rfl | rfl | rfl | rfl | rfl | rfl | rfl | rfl | rfl | rfl | rfl | rfl | rfl | rfl <;> first | rfl | exact absurd hb (by decide)) | (simp at he; rcases he with rfl | rfl | rfl | rfl | rfl | rfl | rfl | rfl | rfl | rfl | rfl | rfl | rfl | rfl | rfl | rfl <;> first | rfl | exact absurd hb (by decide))⟩)).elim
        cases ag
        · exact (rdy 12 (mem_ready.2 ⟨rfl, _, rfl, by intro e he hb; first | (simp at he; done) | (simp at he; subst he; rfl) | (simp at he; rcases he with rfl | rfl <;> first | rfl | exact absurd hb (by decide)) | (simp at he; rcases he with rfl | rfl | rfl <;> first | rfl | exact absurd hb (by decide)) | (simp at he; rcases he with rfl | rfl | rfl | rfl <;> first | rfl | exact absurd hb (by decide)) | (simp at he; rcases he with rfl | rfl | rfl | rfl | rfl <;> first | rfl | exact absurd hb (by decide)) | (simp at he; rcases he with rfl | rfl | rfl | rfl | rfl | rfl <;> first | rfl | exact absurd hb (by decide)) | (simp at he; rcases he with rfl | rfl | rfl | rfl | rfl | rfl | rfl <;> first | rfl | exact absurd hb (by decide)) | (simp at he; rcases he with rfl | rfl | rfl | rfl | rfl | rfl | rfl | rfl <;> first | rfl | exact absurd hb (by decide)) | (simp at he; rcases he with rfl | rfl | rfl | rfl | rfl | rfl | rfl | rfl | rfl <;> first | rfl | exact absurd hb (by decide)) | (simp at he; rcases he with rfl | rfl | rfl | rfl | rfl | rfl | rfl | rfl | rfl | rfl <;> first | rfl | exact absurd hb (by decide)) | (simp at he; rcases he with rfl | rfl | rfl | rfl | rfl | rfl | rfl | rfl | rfl | rfl | rfl <;> first | rfl | exact absurd hb (by decide)) | (simp at he; rcases he with rfl | rfl | rfl | rfl | rfl | rfl | rfl | rfl | rfl | rfl | rfl | rfl <;> first | rfl | exact absurd hb (by decide)) | (simp at he; rcases he with rfl | rfl | rfl | rfl | rfl | rfl | rfl | rfl | rfl | rfl | rfl | rfl | rfl <;> first | rfl | exact absurd hb (by decide)) | (simp at he; rcases he with rfl | rfl | rfl | rfl | rfl | rfl | rfl | rfl | rfl | rfl | rfl | rfl | rfl | rfl <;> first | rfl | exact absurd hb (by decide)) | (simp at he; rcases he with rfl | rfl | rfl | rfl | rfl | rfl | rfl | rfl | rfl | rfl | rfl | rfl | rfl | rfl | rfl <;> first | rfl | exact absurd hb (by decide)) | (simp at he; rcases he with rfl | rfl | rfl | rfl | rfl | rfl | rfl | rfl | rfl | rfl | rfl | rfl | rfl | rfl | rfl | rfl <;> first | rfl | exact absurd hb (by decide))⟩)).elim
        clear rdy hr
        obtain ⟨gb, e1, _, e3⟩ := hS.h9 rfl
        have hT : BackCut w6 X (v 14) (v 15) w7 := ⟨gb, e1, hS.h11 rfl, e3, hS.below⟩
        clear e1 e3 hS
        simp [frS, Act.put]
        go_wp2_with fail
        go_meet
        exact hT
      · rintro L v w7 i ⟨l1, l2, c1, l5, c2, m, x1, x2, al, st, ag, rfl, hS⟩ hi hr
        obtain ⟨hun, o, ho, hall⟩ := mem_ready.1 hr
        have hm : i ∈ [0, 1, 2, 3, 4, 5, 6, 7, 8, 9, 10, 11, 12] := hi
        simp only [List.mem_cons, List.not_mem_nil, or_false] at hm
        rcases hm with rfl | rfl | rfl | rfl | rfl | rfl | rfl | rfl | rfl | rfl | rfl | rfl | rfl
        all_goals first | (simp at hun; done) | skip
        · obtain rfl : l1 = false := by simpa using hun
          simp at ho
          subst ho
          exact wpOp_load64 (i := 1) rfl rfl rfl (.tmp 91) rfl ⟨w5.heap.size, 0, none⟩ dh (frS_old rfl) ((bd6.below hS.below bd6.lt).cell 0) ⟨_, frS_put rfl, true, l2, c1, l5, c2, m, x1, x2, al, st, ag, rfl, { hS with h1 := fun _ => rfl }⟩
        · obtain rfl : l2 = false := by simpa using hun
          simp at ho
          subst ho
          exact wpOp_load64 (i := 3) rfl rfl rfl (.tmp 93) rfl ⟨w5.heap.size, 1, none⟩ dl (frS_old rfl) ((bd6.below hS.below bd6.lt).cell 1) ⟨_, frS_put rfl, l1, true, c1, l5, c2, m, x1, x2, al, st, ag, rfl, { hS with h2 := fun _ => rfl }⟩
        · obtain rfl : c1 = false := by simpa using hun
          simp at ho
          subst ho
          have k1 : l1 = true := by simpa using hall { on := 1, ground := Ground.data } (by simp) rfl
          have k2 : l2 = true := by simpa using hall { on := 3, ground := Ground.data } (by simp) rfl
          refine wpOp_call2 (i := 4) rfl Try.call20 (.int .u64 dh) (.int .u64 dl) ((frS_eval rfl (by simp [Act.put])).trans (hS.h1 k1)) ((frS_eval rfl (by simp [Act.put])).trans (hS.h2 k2)) _ (HR3.out _) ?_
          intro w8 hb8
          exact ⟨_, frS_put rfl, l1, l2, true, l5, c2, m, x1, x2, al, st, ag, rfl, { hS.past hb8 with h3 := fun _ => rfl }⟩
        · obtain rfl : l5 = false := by simpa using hun
          simp at ho
          subst ho
          exact wpOp_load8 (i := 5) rfl rfl rfl (.tmp 6) rfl h (dig Y) (frS_old rfl) (hh6.below hS.below hh6.lt) ⟨_, frS_put rfl, l1, l2, c1, true, c2, m, x1, x2, al, st, ag, rfl, { hS with h4 := fun _ => rfl }⟩
        · obtain rfl : c2 = false := by simpa using hun
          simp at ho
          subst ho
          have k1 : c1 = true := by simpa using hall { on := 4, ground := Ground.data } (by simp) rfl
          have k2 : l5 = true := by simpa using hall { on := 5, ground := Ground.data } (by simp) rfl
          refine wpOp_call2 (i := 6) rfl Try.call22 (.agg (arr8 (dig D))) (.agg (arr8 (dig Y))) ((frS_eval rfl (by simp [Act.put])).trans (hS.h3 k1)) ((frS_eval rfl (by simp [Act.put])).trans (hS.h4 k2)) _ (HRQ.out _) ?_
          intro w8 hb8
          exact ⟨_, frS_put rfl, l1, l2, c1, l5, true, m, x1, x2, al, st, ag, rfl, { hS.past hb8 with h5 := fun _ => rfl }⟩
        · obtain rfl : m = false := by simpa using hun
          simp at ho
          subst ho
          have k1 : c2 = true := by simpa using hall { on := 6, ground := Ground.data } (by simp) rfl
          exact wpOp_move (i := 7) rfl rfl rfl (.tmp 97) (Or.inl rfl) _ ((frS_eval rfl (by simp [Act.put])).trans (hS.h5 k1)) ⟨_, frS_put rfl, l1, l2, c1, l5, c2, true, x1, x2, al, st, ag, rfl, { hS with h6 := fun _ => rfl }⟩
        · obtain rfl : x1 = false := by simpa using hun
          simp at ho
          subst ho
          have k1 : m = true := by simpa using hall { on := 7, ground := Ground.data } (by simp) rfl
          exact wpOp_extract (i := 8) rfl rfl rfl (.tmp 90) 0 rfl _ _ (Or.inl rfl) ((frS_eval rfl (by simp [Act.put])).trans (hS.h6 k1)) ⟨_, frS_put rfl, l1, l2, c1, l5, c2, m, true, x2, al, st, ag, rfl, { hS with h7 := fun _ => rfl }⟩
        · obtain rfl : x2 = false := by simpa using hun
          simp at ho
          subst ho
          have k1 : m = true := by simpa using hall { on := 7, ground := Ground.data } (by simp) rfl
          exact wpOp_extract (i := 9) rfl rfl rfl (.tmp 90) 1 rfl _ _ (Or.inr rfl) ((frS_eval rfl (by simp [Act.put])).trans (hS.h6 k1)) ⟨_, frS_put rfl, l1, l2, c1, l5, c2, m, x1, true, al, st, ag, rfl, { hS with h8 := fun _ => rfl }⟩
        · obtain rfl : al = false := by simpa using hun
          simp at ho
          subst ho
          obtain rfl : st = false := by cases hs : st with | false => rfl | true => exact absurd (hS.h10 hs) (by simp)
          exact wpOp_alloc8 (i := 10) rfl rfl rfl rfl ⟨_, frS_put rfl, l1, l2, c1, l5, c2, m, x1, x2, true, false, ag, rfl, { hS.past ((Below.refl _ _).alloc (Nat.le_refl _) _) with h9 := fun _ => ⟨_, rfl, hS.below.size, Blk.new _ _ _ _ rfl⟩, h10 := nofun }⟩
        · obtain rfl : st = false := by simpa using hun
          simp at ho
          subst ho
          obtain rfl : al = true := by simpa using hall { on := 10, ground := Ground.data } (by simp) rfl
          have k1 : x1 = true := by simpa using hall { on := 8, ground := Ground.data } (by simp) rfl
          obtain ⟨gb, e1, e2, e3⟩ := hS.h9 rfl
          exact wpOp_store8 (i := 11) rfl rfl rfl (.tmp 14) (.tmp 98) rfl gb (fun _ => 0) (dig X) ((frS_eval rfl (by simp [Act.put])).trans e1) ((frS_eval rfl (by simp [Act.put])).trans (hS.h7 k1)) e3 ⟨v, rfl, l1, l2, c1, l5, c2, m, x1, x2, true, true, ag, rfl, { hS with below := below8 hS.below e2, h9 := fun _ => ⟨gb, e1, e2, blk8 (F := fun _ => 0) e3⟩, h10 := fun _ => rfl }⟩
        · obtain rfl : ag = false := by simpa using hun
          simp at ho
          subst ho
          have k1 : x2 = true := by simpa using hall { on := 9, ground := Ground.data } (by simp) rfl
          exact wpOp_move (i := 12) rfl rfl rfl (.tmp 99) (Or.inr rfl) _ ((frS_eval rfl (by simp [Act.put])).trans (hS.h8 k1)) ⟨_, frS_put rfl, l1, l2, c1, l5, c2, m, x1, x2, al, st, true, rfl, { hS with h11 := fun _ => rfl }⟩
    case rest =>
      obtain ⟨gb, rfl, rfl, hgb, hbw⟩ := hcut
      have hBw := Below.next hB6 hbw
      have hg7 := hg6.past hbw
      go_wp2_with fail
      refine (awake02 _).mono ?_
      rintro e w8 ⟨rfl, hb8⟩
      have hg8 := hg7.past hb8
      have hk8 := hgb.past hb8
      have p0 := (hg8.cell 0).trans (arr8_get (dig X) 0 (by omega))
      have p1 := (hg8.cell 1).trans (arr8_get (dig X) 1 (by omega))
      have p2 := (hg8.cell 2).trans (arr8_get (dig X) 2 (by omega))
      have p3 := (hg8.cell 3).trans (arr8_get (dig X) 3 (by omega))
      have p4 := (hg8.cell 4).trans (arr8_get (dig X) 4 (by omega))
      have p5 := (hg8.cell 5).trans (arr8_get (dig X) 5 (by omega))
      have p6 := (hg8.cell 6).trans (arr8_get (dig X) 6 (by omega))
      have p7 := (hg8.cell 7).trans (arr8_get (dig X) 7 (by omega))
      have q0 := (hk8.cell 0).trans (arr8_get (dig X) 0 (by omega))
      have q1 := (hk8.cell 1).trans (arr8_get (dig X) 1 (by omega))
      have q2 := (hk8.cell 2).trans (arr8_get (dig X) 2 (by omega))
      have q3 := (hk8.cell 3).trans (arr8_get (dig X) 3 (by omega))
      have q4 := (hk8.cell 4).trans (arr8_get (dig X) 4 (by omega))
      have q5 := (hk8.cell 5).trans (arr8_get (dig X) 5 (by omega))
      have q6 := (hk8.cell 6).trans (arr8_get (dig X) 6 (by omega))
      have q7 := (hk8.cell 7).trans (arr8_get (dig X) 7 (by omega))
      have heq := fun w => eql_arr8 (dig X) w
      simp only [arr8] at heq
      go_wp2_with fail
      go_ret
      exact ⟨rfl, Below.next hBw hb8⟩

theorem wideAdds_any (ah al bh bl : Int) (h0 : 0 ≤ ah) (h1 : ah < 18446744073709551616) (l0 : 0 ≤ al) (l1 : al < 18446744073709551616) (g0 : 0 ≤ bh) (g1 : bh < 18446744073709551616) (k0 : 0 ≤ bl) (k1 : bl < 18446744073709551616) (w : World) :
    Calls Try.prog 4 #[.agg #[.int .u64 ah, .int .u64 al], .agg #[.int .u64 bh, .int .u64 bl]] w fun e w' => e = .returned (.bool true) ∧ Below w.heap.size w w' := by
  by_cases hf : ah * 18446744073709551616 + al + (bh * 18446744073709551616 + bl) < 340282366920938463463374607431768211456
  · by_cases hle : bh * 18446744073709551616 + bl ≤ ah * 18446744073709551616 + al
    · exact wideAdds_fit_le ah al bh bl h0 h1 l0 l1 g0 g1 k0 k1 hf hle w
    · exact wideAdds_fit_lt ah al bh bl h0 h1 l0 l1 g0 g1 k0 k1 hf hle w
  · by_cases hle : bh * 18446744073709551616 + bl ≤ ah * 18446744073709551616 + al
    · exact wideAdds_over_le ah al bh bl h0 h1 l0 l1 g0 g1 k0 k1 hf hle w
    · exact wideAdds_over_lt ah al bh bl h0 h1 l0 l1 g0 g1 k0 k1 hf hle w
end Go.Proofs.Ytfilpmmimpkfmaa
