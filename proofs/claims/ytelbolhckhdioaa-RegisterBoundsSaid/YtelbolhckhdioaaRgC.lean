import Derived.Test.YtelbolhckhdioaaRgB
import Derived.Test.YtelbolhckhdioaaConfD
namespace Go.Proofs.Ytelbolhckhdioaa
open Go.RowKit

/-! ### New -/
theorem wrong8 {cf : Conf} (h : wrongK cf = 8) : 1 ≤ cf.trades ∧ cf.trades ≤ 64 ∧ 1 ≤ cf.cycles.length ∧ cf.cycles.length ≤ 4 := by
  have h2 : badAt cf 2 = false := by
    cases e : badAt cf 2 with
    | false => rfl
    | true =>
      unfold wrongK at h
      rw [e] at h
      cases h0 : badAt cf 0 <;> cases h1 : badAt cf 1 <;> simp [h0, h1] at h
  have h6 : badAt cf 6 = false := by
    cases e : badAt cf 6 with
    | false => rfl
    | true =>
      unfold wrongK at h
      rw [e] at h
      cases h0 : badAt cf 0 <;> cases h1 : badAt cf 1 <;> cases h2 : badAt cf 2 <;> cases h3 : badAt cf 3 <;> cases h4 : badAt cf 4 <;> cases h5 : badAt cf 5 <;> simp [h0, h1, h2, h3, h4, h5] at h
  simp [badAt, cycsOk, inB] at h2 h6
  omega
section
variable {n1 n2 n3 : Nat} {cf : Conf}
def NewGPost (n1 n2 n3 : Nat) (cf : Conf) (w : World) (e : Ending) (w' : World) : Prop :=
  ∃ g gt gu B1 d1 B2 d2 B3 d3, e = .returned (.tuple #[.pointer (some ⟨g, 0, none⟩), .int .i64 0]) ∧ RgsV w' g gt gu w.heap.size B1 n1 d1 B2 n2 d2 B3 n3 d3 cf (.slice none 0 0) (.slice none 0 0) 0 [] [] ∧ Below w.heap.size w w'
end
set_option maxHeartbeats 1000000 in
theorem newG_no (A1 A2 A3 : Option Addr) (n1 n2 n3 cp1 cp2 cp3 : Nat) (cf : Conf) (w : World) (hr : CfRd w A1 n1 A2 n2 A3 n3 cf) (hk : wrongK cf ≠ 8) :
    Calls Try.prog 42 #[.agg #[.slice A1 n1 cp1, .slice A2 n2 cp2, .slice A3 n3 cp3, .int .i64 cf.line, .int .i64 cf.capital, .int .i64 cf.lead, .int .i64 cf.trades, .int .i64 cf.bids]] w fun e w' => e = .returned (.tuple #[.pointer none, .int .i64 1]) ∧ Below w.heap.size w w' := by
  have hB0 := (Below.refl w.heap.size w).alloc (Nat.le_refl _) (.cells #[.slice A1 n1 cp1, .slice A2 n2 cp2, .slice A3 n3 cp3, .int .i64 cf.line, .int .i64 cf.capital, .int .i64 cf.lead, .int .i64 cf.trades, .int .i64 cf.bids] 78)
  have bc0 := Blk.new w 78 #[.slice A1 n1 cp1, .slice A2 n2 cp2, .slice A3 n3 cp3, .int .i64 cf.line, .int .i64 cf.capital, .int .i64 cf.lead, .int .i64 cf.trades, .int .i64 cf.bids] w.heap.size rfl
  obtain ⟨W, hW⟩ : ∃ W, Hid (w.alloc (.cells #[.slice A1 n1 cp1, .slice A2 n2 cp2, .slice A3 n3 cp3, .int .i64 cf.line, .int .i64 cf.capital, .int .i64 cf.lead, .int .i64 cf.trades, .int .i64 cf.bids] 78) = W) := ⟨_, Lib.hid rfl⟩
  obtain ⟨xb, hxb⟩ : ∃ xb, Hid (w.heap.size = xb) := ⟨_, Lib.hid rfl⟩
  have hr0 := hr.past hB0
  rw [hW.out] at hB0 bc0 hr0
  rw [hxb.out] at bc0
  have HC := Lib.hid (checkC_any A1 A2 A3 n1 n2 n3 cp1 cp2 cp3 cf W hr0)
  rw [show checkC cf = 1 from if_neg hk] at HC
  have HB0 := Lib.hid hB0
  have e0 := (bc0).cell 0
  have e1 := (bc0).cell 1
  have e2 := (bc0).cell 2
  have e3 := (bc0).cell 3
  have e4 := (bc0).cell 4
  have e5 := (bc0).cell 5
  have e6 := (bc0).cell 6
  have e7 := (bc0).cell 7
  simp at e0 e1 e2 e3 e4 e5 e6 e7
  clear bc0 hB0 hr hr0 hk
  go_enter Try.func42, Try.ntmps42
  go_upto_region 1 with fail
  rw [hW.out, hxb.out]
  go_wp2_with fail
  refine HC.out.mono ?_
  rintro e w1 ⟨rfl, hb1⟩
  have HB1 := Lib.hid (Below.past HB0.out hb1 HB0.out.size)
  clear hb1
  go_wp2_with fail
  go_ret2
  exact ⟨rfl, HB1.out⟩
set_option maxHeartbeats 8000000 in
set_option maxRecDepth 100000 in
theorem newG_yes (A1 A2 A3 : Option Addr) (n1 n2 n3 cp1 cp2 cp3 : Nat) (cf : Conf) (w : World) (hr : CfRd w A1 n1 A2 n2 A3 n3 cf) (hk : wrongK cf = 8) (hn3 : cf.cycles.length = n3) :
    Calls Try.prog 42 #[.agg #[.slice A1 n1 cp1, .slice A2 n2 cp2, .slice A3 n3 cp3, .int .i64 cf.line, .int .i64 cf.capital, .int .i64 cf.lead, .int .i64 cf.trades, .int .i64 cf.bids]] w (NewGPost n1 n2 n3 cf w) := by
  have h8 := wrong8 hk
  rw [hn3] at h8
  have hB0 := (Below.refl w.heap.size w).alloc (Nat.le_refl _) (.cells #[.slice A1 n1 cp1, .slice A2 n2 cp2, .slice A3 n3 cp3, .int .i64 cf.line, .int .i64 cf.capital, .int .i64 cf.lead, .int .i64 cf.trades, .int .i64 cf.bids] 78)
  have bc0 := Blk.new w 78 #[.slice A1 n1 cp1, .slice A2 n2 cp2, .slice A3 n3 cp3, .int .i64 cf.line, .int .i64 cf.capital, .int .i64 cf.lead, .int .i64 cf.trades, .int .i64 cf.bids] w.heap.size rfl
  obtain ⟨W, hW⟩ : ∃ W, Hid (w.alloc (.cells #[.slice A1 n1 cp1, .slice A2 n2 cp2, .slice A3 n3 cp3, .int .i64 cf.line, .int .i64 cf.capital, .int .i64 cf.lead, .int .i64 cf.trades, .int .i64 cf.bids] 78) = W) := ⟨_, Lib.hid rfl⟩
  obtain ⟨xb, hxb⟩ : ∃ xb, Hid (w.heap.size = xb) := ⟨_, Lib.hid rfl⟩
  have hr0 := hr.past hB0
  rw [hW.out] at hB0 bc0 hr0
  rw [hxb.out] at bc0
  have HC := Lib.hid (checkC_any A1 A2 A3 n1 n2 n3 cp1 cp2 cp3 cf W hr0)
  rw [show checkC cf = 0 from if_pos hk] at HC
  have HB0 := Lib.hid hB0
  have HR0 := Lib.hid hr0
  have HX := Lib.hid bc0
  have hmul : 1 ≤ cf.trades * (n3 : Int) ∧ cf.trades * (n3 : Int) ≤ 256 := by
    obtain ⟨a, b, c, d⟩ := h8
    have hn : n3 = 1 ∨ n3 = 2 ∨ n3 = 3 ∨ n3 = 4 := by omega
    rcases hn with rfl | rfl | rfl | rfl <;> constructor <;> push_cast <;> omega
  have hw1 : IntKind.i64.wrap (cf.trades * (n3 : Int)) = cf.trades * (n3 : Int) := IntWalk.i64_in _ (by omega)
  have HMX : Hid (max cf.trades 0 = cf.trades ∧ max (cf.trades * (n3 : Int)) 0 = cf.trades * (n3 : Int)) := Lib.hid ⟨by omega, by omega⟩
  have e0 := (bc0).cell 0
  have e1 := (bc0).cell 1
  have e2 := (bc0).cell 2
  have e3 := (bc0).cell 3
  have e4 := (bc0).cell 4
  have e5 := (bc0).cell 5
  have e6 := (bc0).cell 6
  have e7 := (bc0).cell 7
  simp at e0 e1 e2 e3 e4 e5 e6 e7
  clear bc0 hB0 hr hr0 hk hn3
  obtain ⟨pr, hpr⟩ : ∃ pr, Hid (cf.trades * (n3 : Int) = pr) := ⟨_, Lib.hid rfl⟩
  rw [hpr.out] at hmul hw1 HMX
  go_enter Try.func42, Try.ntmps42
  go_upto_region 1 with fail
  rw [hW.out, hxb.out]
  go_wp2_with fail
  refine HC.out.mono ?_
  rintro e w1 ⟨rfl, hb1⟩
  have hdr := Below.drew (Below.refl w1.heap.size w1)
  have HX1 := Lib.hid ((HX.out.past hb1).past hdr)
  have HR1 := Lib.hid ((HR0.out.past hb1).past hdr)
  have HB1 := Lib.hid ((Below.past HB0.out hb1 HB0.out.size).drew)
  have HCC := Lib.hid (confCopy_any A1 A2 A3 n1 n2 n3 cp1 cp2 cp3 cf w1.drew HR1.out)
  clear hb1 hdr HC e0 e1 e2 e3 e4 e5 e6 e7
  go_upto_region 4 with fail
  have hS0 : w1.drew.cell? ⟨xb, 0, none⟩ = some (.slice A1 n1 cp1) ∧ w1.drew.cell? ⟨xb, 1, none⟩ = some (.slice A2 n2 cp2) ∧ w1.drew.cell? ⟨xb, 2, none⟩ = some (.slice A3 n3 cp3) ∧ w1.drew.cell? ⟨xb, 3, none⟩ = some (.int .i64 cf.line) ∧ w1.drew.cell? ⟨xb, 4, none⟩ = some (.int .i64 cf.capital) ∧ w1.drew.cell? ⟨xb, 5, none⟩ = some (.int .i64 cf.lead) ∧ w1.drew.cell? ⟨xb, 6, none⟩ = some (.int .i64 cf.trades) ∧ w1.drew.cell? ⟨xb, 7, none⟩ = some (.int .i64 cf.bids) := ⟨HX1.out.cell 0, HX1.out.cell 1, HX1.out.cell 2, HX1.out.cell 3, HX1.out.cell 4, HX1.out.cell 5, HX1.out.cell 6, HX1.out.cell 7⟩
  refine wp_region_held_drew (S := fun w' => w'.cell? ⟨xb, 0, none⟩ = some (.slice A1 n1 cp1) ∧ w'.cell? ⟨xb, 1, none⟩ = some (.slice A2 n2 cp2) ∧ w'.cell? ⟨xb, 2, none⟩ = some (.slice A3 n3 cp3) ∧ w'.cell? ⟨xb, 3, none⟩ = some (.int .i64 cf.line) ∧ w'.cell? ⟨xb, 4, none⟩ = some (.int .i64 cf.capital) ∧ w'.cell? ⟨xb, 5, none⟩ = some (.int .i64 cf.lead) ∧ w'.cell? ⟨xb, 6, none⟩ = some (.int .i64 cf.trades) ∧ w'.cell? ⟨xb, 7, none⟩ = some (.int .i64 cf.bids)) (by kernel_rfl) hS0 (fun hHeld => ?_)
  clear hS0
  refine wpAnyH_take (i := 0) (v := ?_) rfl (by kernel_rfl) (by kernel_rfl) (by kernel_rfl) (fun _ _ _ h => h) (Or.inl ⟨by rfl, ?_⟩) (by assumption) ?_
  rotate_left
  · (intro w' hSw; (try dsimp only at hSw); first | (go_simp; done) | (go_simp; with_reducible rfl))
  try simp only [Act.put, List.getElem_toArray, List.getElem_cons_zero, List.getElem_cons_succ, List.setIfInBounds_toArray, List.set_cons_zero, List.set_cons_succ]
  refine wpAnyH_take (i := 2) (v := ?_) rfl (by kernel_rfl) (by kernel_rfl) (by kernel_rfl) (fun _ _ _ h => h) (Or.inl ⟨by rfl, ?_⟩) (by assumption) ?_
  rotate_left
  · (intro w' hSw; (try dsimp only at hSw); first | (go_simp; done) | (go_simp; with_reducible rfl))
  try simp only [Act.put, List.getElem_toArray, List.getElem_cons_zero, List.getElem_cons_succ, List.setIfInBounds_toArray, List.set_cons_zero, List.set_cons_succ]
  refine wpAnyH_take (i := 3) (v := ?_) rfl (by kernel_rfl) (by kernel_rfl) (by kernel_rfl) (fun _ _ _ h => h) (Or.inl ⟨by rfl, ?_⟩) (by assumption) ?_
  rotate_left
  · (intro w' hSw; (try dsimp only at hSw); first | (go_simp; done) | (go_simp; with_reducible rfl))
  try simp only [Act.put, List.getElem_toArray, List.getElem_cons_zero, List.getElem_cons_succ, List.setIfInBounds_toArray, List.set_cons_zero, List.set_cons_succ]
  refine wpAnyH_take (i := 5) (v := ?_) rfl (by kernel_rfl) (by kernel_rfl) (by kernel_rfl) (fun _ _ _ h => h) (Or.inl ⟨by rfl, ?_⟩) (by assumption) ?_
  rotate_left
  · (intro w' hSw; (try dsimp only at hSw); first | (go_simp; done) | (go_simp; with_reducible rfl))
  try simp only [Act.put, List.getElem_toArray, List.getElem_cons_zero, List.getElem_cons_succ, List.setIfInBounds_toArray, List.set_cons_zero, List.set_cons_succ]
  refine wpAnyH_take (i := 6) (v := ?_) rfl (by kernel_rfl) (by kernel_rfl) (by kernel_rfl) (fun _ _ _ h => h) (Or.inl ⟨by rfl, ?_⟩) (by assumption) ?_
  rotate_left
  · (intro w' hSw; (try dsimp only at hSw); first | (go_simp; done) | (go_simp; with_reducible rfl))
  try simp only [Act.put, List.getElem_toArray, List.getElem_cons_zero, List.getElem_cons_succ, List.setIfInBounds_toArray, List.set_cons_zero, List.set_cons_succ]
  refine wpAnyH_take (i := 7) (v := ?_) rfl (by kernel_rfl) (by kernel_rfl) (by kernel_rfl) (fun _ _ _ h => h) (Or.inl ⟨by rfl, ?_⟩) (by assumption) ?_
  rotate_left
  · (intro w' hSw; (try dsimp only at hSw); first | (go_simp; done) | (go_simp; with_reducible rfl))
  try simp only [Act.put, List.getElem_toArray, List.getElem_cons_zero, List.getElem_cons_succ, List.setIfInBounds_toArray, List.set_cons_zero, List.set_cons_succ]
  refine wpAnyH_take (i := 8) (v := ?_) rfl (by kernel_rfl) (by kernel_rfl) (by kernel_rfl) (fun _ _ _ h => h) (Or.inl ⟨by rfl, ?_⟩) (by assumption) ?_
  rotate_left
  · (intro w' hSw; (try dsimp only at hSw); first | (go_simp; done) | (go_simp; with_reducible rfl))
  try simp only [Act.put, List.getElem_toArray, List.getElem_cons_zero, List.getElem_cons_succ, List.setIfInBounds_toArray, List.set_cons_zero, List.set_cons_succ]
  refine wpAnyH_take (i := 9) (v := ?_) rfl (by kernel_rfl) (by kernel_rfl) (by kernel_rfl) (fun _ _ _ h => h) (Or.inl ⟨by rfl, ?_⟩) (by assumption) ?_
  rotate_left
  · (intro w' hSw; (try dsimp only at hSw); first | (go_simp; done) | (go_simp; with_reducible rfl))
  try simp only [Act.put, List.getElem_toArray, List.getElem_cons_zero, List.getElem_cons_succ, List.setIfInBounds_toArray, List.set_cons_zero, List.set_cons_succ]
  refine wpAnyH_take (i := 10) (v := .int .i64 pr) rfl (by kernel_rfl) (by kernel_rfl) (by kernel_rfl) (fun _ _ _ h => h) (Or.inl ⟨by rfl, ?_⟩) (by assumption) ?_
  · intro w' hSw
    go_simp
    rw [hpr.out, hw1]
  try simp only [Act.put, List.getElem_toArray, List.getElem_cons_zero, List.getElem_cons_succ, List.setIfInBounds_toArray, List.set_cons_zero, List.set_cons_succ]
  refine wpAnyH_ready (rs := [1]) (by kernel_rfl) (by simp) ?_
  refine AllReadyH.cons rfl (fun K hK => ?_) AllReadyH.nil
  go_simp
  go_at_call 92
  refine HCC.out.mono ?_
  rintro e w2 ⟨C1, C2, C3, k1, k2, k3, rfl, hcf, hb2⟩
  have HX2 := Lib.hid (HX1.out.past hb2)
  have HB2 := Lib.hid (Below.past HB1.out hb2 HB1.out.size)
  have HCF := Lib.hid hcf
  have HNT := Lib.hid (TTbR.newT_any cf.trades (by omega) w2)
  rw [HMX.out.1] at HNT
  clear hb2 hcf HCC hHeld
  refine hK.out _ _ (⟨HX2.out.cell 0, HX2.out.cell 1, HX2.out.cell 2, HX2.out.cell 3, HX2.out.cell 4, HX2.out.cell 5, HX2.out.cell 6, HX2.out.cell 7⟩) (fun hHeld => ?_)
  try simp only [Act.put, List.getElem_toArray, List.getElem_cons_zero, List.getElem_cons_succ, List.setIfInBounds_toArray, List.set_cons_zero, List.set_cons_succ]
  refine wpAnyH_ready (rs := [4]) (by kernel_rfl) (by simp) ?_
  refine AllReadyH.cons rfl (fun K hK => ?_) AllReadyH.nil
  go_simp
  go_at_call 93
  refine HNT.out.mono ?_
  rintro e w3 ⟨gt, rfl, hgt, htab, hb3⟩
  have HX3 := Lib.hid (HX2.out.past hb3)
  have HB3 := Lib.hid (Below.past HB2.out hb3 HB2.out.size)
  have HCF3 := Lib.hid (HCF.out.past hb3)
  have HTB := Lib.hid htab
  have HNU := Lib.hid (TTbI.newT_any pr (by omega) w3)
  rw [HMX.out.2] at HNU
  have hs2 := HB2.out.size
  have hgt' : w.heap.size ≤ gt := Nat.le_trans hs2 hgt
  clear hb3 htab HNT hHeld hgt
  refine hK.out _ _ (⟨HX3.out.cell 0, HX3.out.cell 1, HX3.out.cell 2, HX3.out.cell 3, HX3.out.cell 4, HX3.out.cell 5, HX3.out.cell 6, HX3.out.cell 7⟩) (fun hHeld => ?_)
  try simp only [Act.put, List.getElem_toArray, List.getElem_cons_zero, List.getElem_cons_succ, List.setIfInBounds_toArray, List.set_cons_zero, List.set_cons_succ]
  refine wpAnyH_ready (rs := [11]) (by kernel_rfl) (by simp) ?_
  refine AllReadyH.cons rfl (fun K hK => ?_) AllReadyH.nil
  go_simp
  go_at_call 94
  refine HNU.out.mono ?_
  rintro e w4 ⟨gu, rfl, hgu, hutab, hb4⟩
  have HX4 := Lib.hid (HX3.out.past hb4)
  have HB4 := Lib.hid (Below.past HB3.out hb4 HB3.out.size)
  have HCF4 := Lib.hid (HCF3.out.past hb4)
  have HTB4 := Lib.hid (HTB.out.past hb4)
  have HUB := Lib.hid hutab
  have hs3 := HB3.out.size
  have hgu' : w.heap.size ≤ gu := Nat.le_trans hs3 hgu
  clear hb4 hutab HNU hHeld hgu
  refine hK.out _ _ (⟨HX4.out.cell 0, HX4.out.cell 1, HX4.out.cell 2, HX4.out.cell 3, HX4.out.cell 4, HX4.out.cell 5, HX4.out.cell 6, HX4.out.cell 7⟩) (fun hHeld => ?_)
  try simp only [Act.put, List.getElem_toArray, List.getElem_cons_zero, List.getElem_cons_succ, List.setIfInBounds_toArray, List.set_cons_zero, List.set_cons_succ]
  refine wpAnyH_take (i := 12) (v := ?_) rfl (by kernel_rfl) (by kernel_rfl) (by kernel_rfl) (fun _ _ _ h => h) (Or.inl ⟨by rfl, ?_⟩) (by assumption) ?_
  rotate_left
  · (intro w' hSw; (try dsimp only at hSw); first | (go_simp; done) | (go_simp; with_reducible rfl))
  try simp only [Act.put, List.getElem_toArray, List.getElem_cons_zero, List.getElem_cons_succ, List.setIfInBounds_toArray, List.set_cons_zero, List.set_cons_succ]
  refine wpAnyH_ready (rs := [13]) (by kernel_rfl) (by simp) ?_
  refine AllReadyH.cons rfl (fun K hK => ?_) AllReadyH.nil
  go_simp
  have hba := (Below.refl w4.heap.size w4).alloc (Nat.le_refl _) (.cells #[.slice C1 n1 k1, .slice C2 n2 k2, .slice C3 n3 k3, .int .i64 cf.line, .int .i64 cf.capital, .int .i64 cf.lead, .int .i64 cf.trades, .int .i64 cf.bids, .pointer (some ⟨gt, 0, none⟩), .pointer (some ⟨gu, 0, none⟩), .int .i64 0] 149)
  have hbv := Blk.new w4 149 #[.slice C1 n1 k1, .slice C2 n2 k2, .slice C3 n3 k3, .int .i64 cf.line, .int .i64 cf.capital, .int .i64 cf.lead, .int .i64 cf.trades, .int .i64 cf.bids, .pointer (some ⟨gt, 0, none⟩), .pointer (some ⟨gu, 0, none⟩), .int .i64 0] w4.heap.size rfl
  have HX5 := Lib.hid (HX4.out.past hba)
  have HFIN : Hid (NewGPost n1 n2 n3 cf w (.returned (.tuple #[.pointer (some ⟨w4.heap.size, 0, none⟩), .int .i64 0])) (w4.alloc (.cells #[.slice C1 n1 k1, .slice C2 n2 k2, .slice C3 n3 k3, .int .i64 cf.line, .int .i64 cf.capital, .int .i64 cf.lead, .int .i64 cf.trades, .int .i64 cf.bids, .pointer (some ⟨gt, 0, none⟩), .pointer (some ⟨gu, 0, none⟩), .int .i64 0] 149))) := Lib.hid (by
    have ht := HTB4.out.past hba
    have hu := HUB.out.past hba
    have hc := HCF4.out.past hba
    have h1 : w.heap.size ≤ w1.drew.heap.size + 2 := Nat.le_trans HB1.out.size (Nat.le_add_right _ _)
    refine ⟨w4.heap.size, gt, gu, C1, k1, C2, k2, C3, k3, rfl, ⟨hbv, ⟨ht.form, ht.blk, own_monoZ ht.row hs2, ht.ris, ht.len, ht.rm⟩, ?_, ⟨own_monoZ hc.m h1, own_monoZ hc.s h1, own_monoZ hc.c h1, hc.hm, hc.hs, hc.hc⟩, HB4.out.size, hgt', hgu'⟩, Below.past HB4.out hba HB4.out.size⟩
    rw [hpr.out]
    exact ⟨hu.form, hu.blk, own_monoZ hu.row hs3, hu.ris, hu.len, hu.rm⟩)
  clear hba hbv hHeld
  refine hK.out _ _ ⟨HX5.out.cell 0, HX5.out.cell 1, HX5.out.cell 2, HX5.out.cell 3, HX5.out.cell 4, HX5.out.cell 5, HX5.out.cell 6, HX5.out.cell 7⟩ (fun hHeld => ?_)
  clear hK
  refine wpAnyH_take (i := 14) (v := ?_) rfl (by kernel_rfl) (by kernel_rfl) (by kernel_rfl) (fun _ _ _ h => h) (Or.inl ⟨by rfl, ?_⟩) (by assumption) ?_
  rotate_left
  · (intro w' hSw; (try dsimp only at hSw); first | (go_simp; done) | (go_simp; with_reducible rfl))
  try simp only [Act.put, List.getElem_toArray, List.getElem_cons_zero, List.getElem_cons_succ, List.setIfInBounds_toArray, List.set_cons_zero, List.set_cons_succ]
  refine wpAnyH_take (i := 15) (v := ?_) rfl (by kernel_rfl) (by kernel_rfl) (by kernel_rfl) (fun _ _ _ h => h) (Or.inl ⟨by rfl, ?_⟩) (by assumption) ?_
  rotate_left
  · (intro w' hSw; (try dsimp only at hSw); first | (go_simp; done) | (go_simp; with_reducible rfl))
  try simp only [Act.put, List.getElem_toArray, List.getElem_cons_zero, List.getElem_cons_succ, List.setIfInBounds_toArray, List.set_cons_zero, List.set_cons_succ]
  refine wpAnyH_done (by kernel_rfl) ?_ _
  clear hHeld
  go_wp2_with fail
  go_ret2
  exact HFIN.out
end Go.Proofs.Ytelbolhckhdioaa
