import Derived.Test.YtfilpmmimpkfmaaWidI
namespace Go.Proofs.Ytfilpmmimpkfmaa
open Go.RowKit

def jM (W : World) (P Q : Int) (X0 X1 : Value) (L : Array Bool) (v : Nat → Value) (w : World) : Prop :=
  ∃ c1 l1 l2 c2 a1 a2 s1 s2, L = #[true, true, c1, true, l1, true, l2, c2, a1, a2, s1, s2] ∧ St8 W P Q c1 l1 l2 c2 a1 a2 s1 s2 (v 11) (v 13) (v 15) (v 16) (v 7) (v 8) X0 X1 w

set_option maxRecDepth 100000 in
set_option maxHeartbeats 4000000 in
theorem wideMuls_any (a b x0 x1 : Int) (a0 : 0 ≤ a) (a1 : a < 18446744073709551616) (b0 : 0 ≤ b) (b1 : b < 18446744073709551616) (c0 : 0 ≤ x0) (c1 : x0 < 18446744073709551616) (d0 : 0 ≤ x1) (d1 : x1 < 18446744073709551616) (w : World) :
    Calls Try.prog 3 #[.int .u64 a, .int .u64 b, .agg #[.int .u64 x0, .int .u64 x1]] w fun e w' => e = .returned (.bool true) ∧ Below w.heap.size w w' := by
  have R1 := refWMul_any a b a0 a1 b0 b1
  have R2 := refWMul_any x0 x1 c0 c1 d0 d1
  have M1 := wmul_any a b a0 a1 b0 b1
  have L1 := wless_any a b x0 x1 a0 a1 b0 b1 c0 c1 d0 d1
  have p0 : 0 ≤ a * b := Int.mul_nonneg a0 b0
  have p1 : a * b ≤ 18446744073709551615 * 18446744073709551615 := Int.mul_le_mul (by omega) (by omega) b0 (by omega)
  have q0 : 0 ≤ x0 * x1 := Int.mul_nonneg c0 d0
  have q1 : x0 * x1 ≤ 18446744073709551615 * 18446744073709551615 := Int.mul_le_mul (by omega) (by omega) d0 (by omega)
  obtain ⟨P, hP⟩ : ∃ P, Hid (a * b = P) := ⟨_, Lib.hid rfl⟩
  obtain ⟨Q, hQ⟩ : ∃ P, Hid (x0 * x1 = P) := ⟨_, Lib.hid rfl⟩
  rw [hP.out] at R1 M1 L1 p0 p1
  rw [hQ.out] at R2 L1 q0 q1
  have S1 := same_true P p0 (by omega)
  have K1 := fun w => refCmp_any P Q w p0 (by omega) q0 (by omega)
  generalize P / 18446744073709551616 = ph at *
  generalize P % 18446744073709551616 = pl at *
  generalize cmpI P Q = v at *
  have HR1 := Lib.hid R1
  have HR2 := Lib.hid R2
  have HM1 := Lib.hid M1
  have HL1 := Lib.hid L1
  have HS1 := Lib.hid S1
  have HK1 := Lib.hid K1
  clear R1 R2 M1 L1 S1 K1
  have PA : Hid (arr8 (dig P) = #[.int .u64 (dig P 0), .int .u64 (dig P 1), .int .u64 (dig P 2), .int .u64 (dig P 3), .int .u64 (dig P 4), .int .u64 (dig P 5), .int .u64 (dig P 6), .int .u64 (dig P 7)]) := Lib.hid rfl
  have QA : Hid (arr8 (dig Q) = #[.int .u64 (dig Q 0), .int .u64 (dig Q 1), .int .u64 (dig Q 2), .int .u64 (dig Q 3), .int .u64 (dig Q 4), .int .u64 (dig Q 5), .int .u64 (dig Q 6), .int .u64 (dig Q 7)]) := Lib.hid rfl
  have hB0 := (Below.refl w.heap.size w).alloc (Nat.le_refl _) (.cells #[.int .u64 x0, .int .u64 x1] 23)
  have bx0 := Blk.new w 23 #[.int .u64 x0, .int .u64 x1] w.heap.size rfl
  obtain ⟨W, hW⟩ : ∃ W, Hid (w.alloc (.cells #[.int .u64 x0, .int .u64 x1] 23) = W) := ⟨_, Lib.hid rfl⟩
  have hlt : w.heap.size < W.heap.size := by rw [← hW.out]; simp
  rw [hW.out] at hB0 bx0
  go_enter Try.func3, Try.ntmps3
  go_upto_region 1 with fail
  rw [hW.out]
  go_cut [7, 8] (fun p q w' => TwoCut W P Q p q w')
  case first =>
    refine wp_region_any (by kernel_rfl) ?_
    change wpAny _ _ _ _ _ _ _ (World.drew _)
    refine wpAny_take (i := 0) (v := .int .u64 a) rfl (by kernel_rfl) (by kernel_rfl) (by kernel_rfl) (fun _ _ _ h => h) (Or.inl ⟨by rfl, fun _ => by go_simp⟩) ?_
    refine wpAny_take (i := 1) (v := .int .u64 b) rfl (by kernel_rfl) (by kernel_rfl) (by kernel_rfl) (fun _ _ _ h => h) (Or.inl ⟨by rfl, fun _ => by go_simp⟩) ?_
    refine wpAny_take (i := 3) (v := .pointer (some ⟨w.heap.size, 0, none⟩)) rfl (by kernel_rfl) (by kernel_rfl) (by kernel_rfl) (fun _ _ _ h => h) (Or.inl ⟨by rfl, fun _ => by go_simp⟩) ?_
    refine wpAny_take (i := 5) (v := .pointer (some ⟨w.heap.size, 1, none⟩)) rfl (by kernel_rfl) (by kernel_rfl) (by kernel_rfl) (fun _ _ _ h => h) (Or.inl ⟨by rfl, fun _ => by go_simp⟩) ?_
    refine wpAny_inv_fr [11, 13, 15, 16, 7, 8] (jM W P Q (.int .u64 x0) (.int .u64 x1)) (by simp [toCome]) ?_ ?_ ?_
    · exact fun v => ⟨false, false, false, false, false, false, false, false, rfl, { below := Below.drew (Below.refl _ _), call1 := nofun, load1 := nofun, load2 := nofun, call2 := nofun, new1 := nofun, new2 := nofun, apart := nofun, one := nofun, two := nofun }⟩
    · rintro L v w4 ⟨c1, l1, l2, c2, a1, a2, s1, s2, rfl, hS⟩ hr
      have rdy : ∀ i, i ∈ Region.ready _ _ _ → False := fun i hi => by rw [hr] at hi; cases hi
      cases c1
      · exact (rdy 2 (mem_ready.2 ⟨rfl, _, rfl, by intro e he _; simp at he; rcases he with rfl | rfl <;> rfl⟩)).elim
      cases l1
      · exact (rdy 4 (mem_ready.2 ⟨rfl, _, rfl, by intro e he _; simp at he; subst he; rfl⟩)).elim
      cases l2
      · exact (rdy 6 (mem_ready.2 ⟨rfl, _, rfl, by intro e he _; simp at he; subst he; rfl⟩)).elim
      cases c2
      · exact (rdy 7 (mem_ready.2 ⟨rfl, _, rfl, by intro e he _; simp at he; rcases he with rfl | rfl | rfl <;> rfl⟩)).elim
      cases a1
      · exact (rdy 8 (mem_ready.2 ⟨rfl, _, rfl, by intro e he _; simp at he⟩)).elim
      cases a2
      · exact (rdy 9 (mem_ready.2 ⟨rfl, _, rfl, by intro e he _; simp at he⟩)).elim
      cases s1
      · exact (rdy 10 (mem_ready.2 ⟨rfl, _, rfl, by intro e he _; simp at he; rcases he with rfl | rfl | rfl | rfl | rfl | rfl | rfl | rfl | rfl | rfl | rfl | rfl | rfl <;> rfl⟩)).elim
      cases s2
      · exact (rdy 11 (mem_ready.2 ⟨rfl, _, rfl, by intro e he _; simp at he; rcases he with rfl | rfl | rfl | rfl | rfl | rfl | rfl | rfl | rfl | rfl | rfl | rfl | rfl | rfl <;> rfl⟩)).elim
      clear rdy hr
      obtain ⟨g, e1, _, e3⟩ := hS.new1 rfl
      obtain ⟨h, f1, _, f3⟩ := hS.new2 rfl
      have hT : TwoCut W P Q (v 7) (v 8) w4 := ⟨g, h, e1, f1, e3, f3, hS.below⟩
      clear e1 e3 f1 f3 hS
      simp [frS, Act.put]
      go_wp2_with fail
      go_meet
      exact hT
    · rintro L v w4 i ⟨c1, l1, l2, c2, a1, a2, s1, s2, rfl, hS⟩ hi hr
      obtain ⟨hun, o, ho, hall⟩ := mem_ready.1 hr
      have hm : i ∈ [0, 1, 2, 3, 4, 5, 6, 7, 8, 9, 10, 11] := hi
      simp only [List.mem_cons, List.not_mem_nil, or_false] at hm
      rcases hm with rfl | rfl | rfl | rfl | rfl | rfl | rfl | rfl | rfl | rfl | rfl | rfl
      all_goals first | (simp at hun; done) | skip
      · obtain rfl : c1 = false := by simpa using hun
        refine wpOp_call2 (i := 2) rfl Try.call14 (.int .u64 a) (.int .u64 b) (frS_old rfl) (frS_old rfl) _ (HR1.out _) ?_
        intro w5 hb5
        refine ⟨_, frS_put rfl, true, l1, l2, c2, a1, a2, s1, s2, rfl, ?_⟩
        exact (hS.past hb5).setCall1
      · obtain rfl : l1 = false := by simpa using hun
        refine wpOp_load64 (i := 4) rfl rfl rfl (.tmp 12) rfl ⟨w.heap.size, 0, none⟩ x0 (frS_old rfl) ((bx0.below hS.below hlt).cell 0) ?_
        refine ⟨_, frS_put rfl, c1, true, l2, c2, a1, a2, s1, s2, rfl, ?_⟩
        exact hS.setLoad1
      · obtain rfl : l2 = false := by simpa using hun
        refine wpOp_load64 (i := 6) rfl rfl rfl (.tmp 14) rfl ⟨w.heap.size, 1, none⟩ x1 (frS_old rfl) ((bx0.below hS.below hlt).cell 1) ?_
        refine ⟨_, frS_put rfl, c1, l1, true, c2, a1, a2, s1, s2, rfl, ?_⟩
        exact hS.setLoad2
      · obtain rfl : c2 = false := by simpa using hun
        simp at ho
        subst ho
        have k1 : l1 = true := by simpa using hall { on := 4, ground := Ground.data } (by simp) rfl
        have k2 : l2 = true := by simpa using hall { on := 6, ground := Ground.data } (by simp) rfl
        refine wpOp_call2 (i := 7) rfl Try.call14 (.int .u64 x0) (.int .u64 x1) ((frS_eval rfl (by simp [Act.put])).trans (hS.load1 k1)) ((frS_eval rfl (by simp [Act.put])).trans (hS.load2 k2)) _ (HR2.out _) ?_
        intro w5 hb5
        exact ⟨_, frS_put rfl, c1, l1, l2, true, a1, a2, s1, s2, rfl, (hS.past hb5).setCall2⟩
      · obtain rfl : a1 = false := by simpa using hun
        exact wpOp_alloc8 (i := 8) rfl rfl rfl rfl ⟨_, frS_put rfl, c1, l1, l2, c2, true, a2, s1, s2, rfl, hS.setNew1⟩
      · obtain rfl : a2 = false := by simpa using hun
        exact wpOp_alloc8 (i := 9) rfl rfl rfl rfl ⟨_, frS_put rfl, c1, l1, l2, c2, a1, true, s1, s2, rfl, hS.setNew2⟩
      · obtain rfl : s1 = false := by simpa using hun
        simp at ho
        subst ho
        obtain rfl : a1 = true := by simpa using hall { on := 8, ground := Ground.data } (by simp) rfl
        have k2 : c1 = true := by simpa using hall { on := 2, ground := Ground.data } (by simp) rfl
        obtain ⟨g, e1, e2, e3⟩ := hS.new1 rfl
        exact wpOp_store8 (i := 10) rfl rfl rfl (.tmp 7) (.tmp 11) rfl g (fun _ => 0) (dig P) ((frS_eval rfl (by simp [Act.put])).trans e1) ((frS_eval rfl (by simp [Act.put])).trans (hS.call1 k2)) e3 ⟨v, rfl, c1, l1, l2, c2, true, a2, true, s2, rfl, hS.setStore1 e1⟩
      · obtain rfl : s2 = false := by simpa using hun
        simp at ho
        subst ho
        obtain rfl : a2 = true := by simpa using hall { on := 9, ground := Ground.data } (by simp) rfl
        have k2 : c2 = true := by simpa using hall { on := 7, ground := Ground.data } (by simp) rfl
        obtain ⟨g, e1, e2, e3⟩ := hS.new2 rfl
        exact wpOp_store8 (i := 11) rfl rfl rfl (.tmp 8) (.tmp 16) rfl g (fun _ => 0) (dig Q) ((frS_eval rfl (by simp [Act.put])).trans e1) ((frS_eval rfl (by simp [Act.put])).trans (hS.call2 k2)) e3 ⟨v, rfl, c1, l1, l2, c2, a1, true, s1, true, rfl, hS.setStore2 e1⟩
  case rest =>
    obtain ⟨g, h, rfl, rfl, hg, hh, hbc⟩ := hcut
    have bx := bx0.below hbc hlt
    have KP : ∀ w', Below wc.heap.size wc w' → (w'.cell? ⟨w.heap.size, 0, none⟩ = some (.int .u64 x0) ∧ w'.cell? ⟨w.heap.size, 1, none⟩ = some (.int .u64 x1) ∧ w'.cell? ⟨g, 0, none⟩ = some (.int .u64 (dig P 0)) ∧ w'.cell? ⟨g, 1, none⟩ = some (.int .u64 (dig P 1)) ∧ w'.cell? ⟨g, 2, none⟩ = some (.int .u64 (dig P 2)) ∧ w'.cell? ⟨g, 3, none⟩ = some (.int .u64 (dig P 3)) ∧ w'.cell? ⟨g, 4, none⟩ = some (.int .u64 (dig P 4)) ∧ w'.cell? ⟨g, 5, none⟩ = some (.int .u64 (dig P 5)) ∧ w'.cell? ⟨g, 6, none⟩ = some (.int .u64 (dig P 6)) ∧ w'.cell? ⟨g, 7, none⟩ = some (.int .u64 (dig P 7)) ∧ w'.cell? ⟨h, 0, none⟩ = some (.int .u64 (dig Q 0)) ∧ w'.cell? ⟨h, 1, none⟩ = some (.int .u64 (dig Q 1)) ∧ w'.cell? ⟨h, 2, none⟩ = some (.int .u64 (dig Q 2)) ∧ w'.cell? ⟨h, 3, none⟩ = some (.int .u64 (dig Q 3)) ∧ w'.cell? ⟨h, 4, none⟩ = some (.int .u64 (dig Q 4)) ∧ w'.cell? ⟨h, 5, none⟩ = some (.int .u64 (dig Q 5)) ∧ w'.cell? ⟨h, 6, none⟩ = some (.int .u64 (dig Q 6)) ∧ w'.cell? ⟨h, 7, none⟩ = some (.int .u64 (dig Q 7)) ∧ Below wc.heap.size wc w') := fun w' hb => ⟨(bx.past hb).cell 0, (bx.past hb).cell 1, ((hg.past hb).cell 0).trans (arr8_get _ 0 (by omega)), ((hg.past hb).cell 1).trans (arr8_get _ 1 (by omega)), ((hg.past hb).cell 2).trans (arr8_get _ 2 (by omega)), ((hg.past hb).cell 3).trans (arr8_get _ 3 (by omega)), ((hg.past hb).cell 4).trans (arr8_get _ 4 (by omega)), ((hg.past hb).cell 5).trans (arr8_get _ 5 (by omega)), ((hg.past hb).cell 6).trans (arr8_get _ 6 (by omega)), ((hg.past hb).cell 7).trans (arr8_get _ 7 (by omega)), ((hh.past hb).cell 0).trans (arr8_get _ 0 (by omega)), ((hh.past hb).cell 1).trans (arr8_get _ 1 (by omega)), ((hh.past hb).cell 2).trans (arr8_get _ 2 (by omega)), ((hh.past hb).cell 3).trans (arr8_get _ 3 (by omega)), ((hh.past hb).cell 4).trans (arr8_get _ 4 (by omega)), ((hh.past hb).cell 5).trans (arr8_get _ 5 (by omega)), ((hh.past hb).cell 6).trans (arr8_get _ 6 (by omega)), ((hh.past hb).cell 7).trans (arr8_get _ 7 (by omega)), hb⟩
    have hW0 := Below.refl wc.heap.size wc
    obtain ⟨k0, k1, k2, k3, k4, k5, k6, k7, k8, k9, k10, k11, k12, k13, k14, k15, k16, k17, _⟩ := KP _ hW0
    have HKP := Lib.hid KP
    have hBc := Below.past hB0 hbc hB0.size
    have pv : (v == v) = true := by simp
    rw [PA.out] at HS1 HK1
    rw [QA.out] at HK1
    clear KP bx hg hh bx0 HR1 HR2 PA QA p0 p1 q0 q1
    go_wp2_with fail
    go_region_held3 (fun w' => w'.cell? ⟨w.heap.size, 0, none⟩ = some (.int .u64 x0) ∧ w'.cell? ⟨w.heap.size, 1, none⟩ = some (.int .u64 x1) ∧ w'.cell? ⟨g, 0, none⟩ = some (.int .u64 (dig P 0)) ∧ w'.cell? ⟨g, 1, none⟩ = some (.int .u64 (dig P 1)) ∧ w'.cell? ⟨g, 2, none⟩ = some (.int .u64 (dig P 2)) ∧ w'.cell? ⟨g, 3, none⟩ = some (.int .u64 (dig P 3)) ∧ w'.cell? ⟨g, 4, none⟩ = some (.int .u64 (dig P 4)) ∧ w'.cell? ⟨g, 5, none⟩ = some (.int .u64 (dig P 5)) ∧ w'.cell? ⟨g, 6, none⟩ = some (.int .u64 (dig P 6)) ∧ w'.cell? ⟨g, 7, none⟩ = some (.int .u64 (dig P 7)) ∧ w'.cell? ⟨h, 0, none⟩ = some (.int .u64 (dig Q 0)) ∧ w'.cell? ⟨h, 1, none⟩ = some (.int .u64 (dig Q 1)) ∧ w'.cell? ⟨h, 2, none⟩ = some (.int .u64 (dig Q 2)) ∧ w'.cell? ⟨h, 3, none⟩ = some (.int .u64 (dig Q 3)) ∧ w'.cell? ⟨h, 4, none⟩ = some (.int .u64 (dig Q 4)) ∧ w'.cell? ⟨h, 5, none⟩ = some (.int .u64 (dig Q 5)) ∧ w'.cell? ⟨h, 6, none⟩ = some (.int .u64 (dig Q 6)) ∧ w'.cell? ⟨h, 7, none⟩ = some (.int .u64 (dig Q 7)) ∧ Below wc.heap.size wc w') ((go_split_ands; refine HKP.out _ ?_; first | assumption | exact Below.drew (by assumption) | exact Below.next (by assumption) (by assumption))) (first
      | (go_at_call 15; go_split_ands; refine (awake02 _).mono ?_; rintro e w4 ⟨rfl, hb4⟩)
      | (go_at_call 17; go_split_ands; refine (HM1.out _).mono ?_; rintro e w4 ⟨rfl, hb4⟩)
      | (go_at_call 16; go_split_ands; refine (HS1.out _).mono ?_; rintro e w4 ⟨rfl, hb4⟩)
      | (go_at_call 18; go_split_ands; refine (HL1.out _).mono ?_; rintro e w4 ⟨rfl, hb4⟩)
      | (go_at_call 19; go_split_ands; refine (HK1.out _).mono ?_; rintro e w4 ⟨rfl, hb4⟩))
    all_goals
      go_split_ands
      have hW4 : Below wc.heap.size wc w4 := by assumption
      go_wp2_with fail
      go_ret
      exact ⟨rfl, Below.past hBc hW4 hBc.size⟩
end Go.Proofs.Ytfilpmmimpkfmaa
