import Derived.Test.YtelbolhckhdioaaBokH
namespace Go.Proofs.Ytelbolhckhdioaa
open Go.RowKit

theorem OnlyG.after {g : Nat} {v : Value} {a w w' : World} (hb : Below a.heap.size a w) (h : OnlyG g v w w') : OnlyG g v a w' :=
  ⟨h.os.trans hb.os, h.tape.trans hb.tape, h.output.trans hb.output, Nat.le_trans hb.size h.size, fun k hk h1 h2 => (h.block k (Nat.lt_of_lt_of_le hk hb.size) h1 h2).trans (hb.block k hk)⟩
theorem OnlyG.blk {g : Nat} {v : Value} {w w' : World} (h : OnlyG g v w w') {k : Nat} {t : TypeId} {arr : Array Value} (hb : Blk w k t arr) (hk : k ≠ g) (hv : v.ownBlock ≠ some k) : Blk w' k t arr := by
  have hlt := hb.lt
  unfold Blk at hb ⊢
  rw [h.block k hlt hk hv]; exact hb
theorem BookV.own_ge {w : World} {g base M A : Nat} {v : Value} {bl : List Int} {p : Int} (h : BookV w g base M A v bl p) : ∀ k, v.ownBlock = some k → base ≤ k := fun k e => (h.row.lt k e).1
theorem BookV.frame {w w' : World} {g base M A : Nat} {v : Value} {bl : List Int} {p : Int} (h : BookV w g base M A v bl p) (ho : OnlyG g v w w') {B : Nat} (h1 : B ≤ g) (h2 : B ≤ base) (h3 : B ≤ w.heap.size) : Below B w w' := ho.frame h1 h3 fun k e => by have := h.own_ge k e; omega

/-! ### Balance -/
def blK (M A : Nat) (bl : List Int) (s : Spt) : Int × Int := if okP M A s = true then (bl.getD (ixS M s) 0, 0) else (0, 8)
theorem blK_t {M A : Nat} {bl : List Int} {s : Spt} (h : okP M A s = true) : blK M A bl s = (bl.getD (ixS M s) 0, 0) := if_pos h
theorem blK_f {M A : Nat} {bl : List Int} {s : Spt} (h : okP M A s = false) : blK M A bl s = (0, 8) := if_neg (by rw [h]; simp)
set_option maxHeartbeats 2000000 in
set_option maxRecDepth 100000 in
theorem balK_any (g base M A : Nat) (v : Value) (bl : List Int) (p : Int) (s : Spt) (w : World) (hx : BookV w g base M A v bl p) :
    Calls Try.prog 54 #[.pointer (some ⟨g, 0, none⟩), .agg #[.int .i64 s.k, .int .i64 s.m], .int .i64 s.a] w fun e w' => e = .returned (.tuple #[.int .i64 (blK M A bl s).1, .int .i64 (blK M A bl s).2]) ∧ Below w.heap.size w w' := by
  have bt0 := Blk.new w 52 #[.int .i64 s.k, .int .i64 s.m] w.heap.size rfl
  have hB0 := (Below.refl w.heap.size w).alloc (Nat.le_refl _) (.cells #[.int .i64 s.k, .int .i64 s.m] 52)
  obtain ⟨W, hW⟩ : ∃ W, Hid (w.alloc (.cells #[.int .i64 s.k, .int .i64 s.m] 52) = W) := ⟨_, Lib.hid rfl⟩
  rw [hW.out] at bt0 hB0
  have HB0 := Lib.hid hB0
  have HX := Lib.hid hx
  have HPL := Lib.hid (placeK_any g base M A v bl p s W (hx.past hB0))
  have hsW := hB0.size
  have t0 := (bt0).cell 0
  have t1 := (bt0).cell 1
  simp at t0 t1
  clear bt0 hB0
  go_enter Try.func54, Try.ntmps54
  go_upto_region 1 with fail
  rw [hW.out]
  cases hok : okP M A s with
  | true =>
    rw [plK_t hok] at HPL
    obtain ⟨X, cX, hv⟩ := hx.form
    subst hv
    have hi := (ixS_lt hx.hM hok).1
    have hbg := bl_get hx.len hx.hM hok
    obtain ⟨b, hb0⟩ : ∃ b, Hid (bl.getD (ixS M s) 0 = b) := ⟨_, Lib.hid rfl⟩
    rw [hb0.out] at hbg
    obtain ⟨I, hI⟩ : ∃ I, Hid (ixS M s = I) := ⟨_, Lib.hid rfl⟩
    rw [hI.out] at HPL hi hbg
    have HR : Hid (blK M A bl s = (b, 0)) := Lib.hid (by rw [blK_t hok, hb0.out])
    have HBG := Lib.hid hbg
    obtain ⟨N, hN⟩ : ∃ N, Hid (A * cnt M = N) := ⟨_, Lib.hid rfl⟩
    rw [hN.out] at hi
    have hIz : (I : Int) < (N : Int) := by omega
    clear hbg hok hx
    go_wp2_with fail
    refine HPL.out.mono ?_
    rintro e w1 ⟨rfl, hb1⟩
    have HB1 := Lib.hid (Below.past HB0.out hb1 hsW)
    have hx1 := HX.out.past HB1.out
    have p2 := hx1.blk.cell 2
    simp at p2
    have hrd := Rd.of_own hx1.row
    rw [hN.out] at p2 hrd
    obtain ⟨b1, o1, rfl, _, hc1⟩ := hrd.elem i64Cells_len HBG.out hi
    have d0 := hc1 0 _ rfl
    simp only [Nat.add_zero, Nat.mul_one] at d0
    clear hb1 hx1 hrd hc1 t0 t1
    go_wp2_with fail
    refine bodyPost_ret (v := .tuple #[.int .i64 b, .int .i64 0]) (by simp [results, Try.results54, go_sem]) rfl ⟨by rw [HR.out], HB1.out⟩
  | false =>
    rw [plK_f hok] at HPL
    have HR : Hid (blK M A bl s = (0, 8)) := Lib.hid (blK_f hok)
    clear hok hx
    go_wp2_with fail
    refine HPL.out.mono ?_
    rintro e w1 ⟨rfl, hb1⟩
    have HB1 := Lib.hid (Below.past HB0.out hb1 hsW)
    clear hb1 t0 t1
    go_wp2_with fail
    refine bodyPost_ret (v := .tuple #[.int .i64 0, .int .i64 8]) (by simp [results, Try.results54, go_sem]) rfl ⟨by rw [HR.out], HB1.out⟩

/-! ### Posted, Total -/
theorem postedK_any (g base M A : Nat) (v : Value) (bl : List Int) (p : Int) (w : World) (hx : BookV w g base M A v bl p) :
    Calls Try.prog 14 #[.pointer (some ⟨g, 0, none⟩)] w fun e w' => e = .returned (.int .i64 p) ∧ w = w' := by
  have p3 := hx.blk.cell 3
  simp at p3
  clear hx
  go_enter Try.func14, Try.ntmps14
  go_wp2_with fail
  go_ret
  exact ⟨rfl, rfl⟩
set_option maxHeartbeats 2000000 in
theorem totK_no (g base M A : Nat) (v : Value) (bl : List Int) (p : Int) (a : Int) (ha : a < 0 ∨ (A : Int) ≤ a) (w : World) (hx : BookV w g base M A v bl p) :
    Calls Try.prog 82 #[.pointer (some ⟨g, 0, none⟩), .int .i64 a] w fun e w' => e = .returned (.tuple #[.int .i64 0, .int .i64 8]) ∧ w = w' := by
  have p1 := hx.blk.cell 1
  simp at p1
  clear hx
  by_cases h1 : a < 0
  · go_enter Try.func82, Try.ntmps82
    go_wp2_with fail
    refine bodyPost_ret (v := .tuple #[.int .i64 0, .int .i64 8]) (by simp [results, Try.results82, go_sem]) rfl ⟨rfl, rfl⟩
  · have h2 : (A : Int) ≤ a := by omega
    go_enter Try.func82, Try.ntmps82
    go_wp2_with fail
    refine bodyPost_ret (v := .tuple #[.int .i64 0, .int .i64 8]) (by simp [results, Try.results82, go_sem]) rfl ⟨rfl, rfl⟩
set_option maxHeartbeats 2000000 in
set_option maxRecDepth 100000 in
theorem totK_yes (g base M A : Nat) (v : Value) (bl : List Int) (p : Int) (j : Nat) (hj : j < A) (w : World) (hx : BookV w g base M A v bl p) (hbl : ∀ z ∈ bl, inI z) :
    Calls Try.prog 82 #[.pointer (some ⟨g, 0, none⟩), .int .i64 (j : Nat)] w fun e w' => e = .returned (.tuple #[.int .i64 (amount ((bl.drop (j * cnt M)).take (cnt M)).sum), .int .i64 (over ((bl.drop (j * cnt M)).take (cnt M)).sum)]) ∧ Below w.heap.size w w' := by
  obtain ⟨X, cX, hv⟩ := hx.form
  subst hv
  have p0 := hx.blk.cell 0
  have p1 := hx.blk.cell 1
  have p2 := hx.blk.cell 2
  simp at p0 p1 p2
  have hM := hx.hM
  have hNs := hx.small
  have hA1 : (j + 1) * cnt M ≤ A * cnt M := Nat.mul_le_mul_right _ hj
  have HRD := Lib.hid (Rd.of_own hx.row)
  have HC := Lib.hid (count_yes M hM w)
  obtain ⟨C, hC⟩ : ∃ C : Nat, Hid (cnt M = C) := ⟨_, Lib.hid rfl⟩
  rw [show 6 + 3 * M = C from hC.out] at HC
  rw [hC.out] at p2 hNs hA1 HRD ⊢
  obtain ⟨N, hN⟩ : ∃ N, Hid (A * C = N) := ⟨_, Lib.hid rfl⟩
  obtain ⟨lo, hlo⟩ : ∃ N, Hid (j * C = N) := ⟨_, Lib.hid rfl⟩
  have hC0 : 0 < C := by rw [← hC.out]; unfold cnt; omega
  rw [hN.out] at p2 hNs hA1 HRD
  rw [Nat.add_mul, Nat.one_mul, hlo.out] at hA1
  rw [hlo.out]
  have hw1 : IntKind.i64.wrap ((j : Int) * (C : Int)) = (lo : Int) := by
    have e : (j : Int) * (C : Int) = ((lo : Nat) : Int) := by rw [← hlo.out]; simp
    rw [e]; exact IntWalk.i64_in _ (by omega)
  have hjA : ¬ (A : Int) ≤ (j : Int) := by omega
  have hj0 : ¬ (j : Int) < 0 := by omega
  have hjn : j ≤ 1000 := by
    have h9 := hx.hA; omega
  have hw2 : IntKind.i64.wrap (((j : Int) + 1) * (C : Int)) = ((lo + C : Nat) : Int) := by
    have e : ((j : Int) + 1) * (C : Int) = ((lo + C : Nat) : Int) := by rw [← hlo.out, Int.add_mul]; simp
    rw [e]; exact IntWalk.i64_in _ (by omega)
  have hcX : N ≤ cX := by
    rcases hx.row.2 with ⟨h0, h00⟩ | ⟨g', cap, cur, hv, hb, hh, h1, h2, h3, h4⟩
    · rw [hC.out, hN.out] at h00; omega
    · cases hv; rw [hC.out, hN.out] at h1; exact h1
  have hcut := (HRD.out.pre (k := lo + C) (by omega)).cut (k := lo) (cap := lo + C) (by omega) (Nat.le_refl _)
  rw [if_neg (by omega), Nat.mul_one, Nat.mul_one, Nat.add_sub_cancel_left, ← ints_flatK, ← List.map_take, ← List.map_drop, List.drop_take, Nat.add_sub_cancel_left, ints_flatK] at hcut
  have HSM := Lib.hid (sum_any _ C (cX - lo) _ w hcut (by omega) (fun z hz => hbl z (List.mem_of_mem_drop (List.mem_of_mem_take hz))))
  obtain ⟨S, hS⟩ : ∃ S, Hid (((bl.drop lo).take C).sum = S) := ⟨_, Lib.hid rfl⟩
  rw [hS.out] at HSM ⊢
  clear hx hcut
  go_enter Try.func82, Try.ntmps82
  go_wp2_with fail
  refine HC.out.mono ?_
  rintro e w1 ⟨rfl, rfl⟩
  go_wp2_with fail
  refine HSM.out.mono ?_
  rintro e w2 ⟨rfl, hb2⟩
  have HB2 := Lib.hid hb2
  clear hb2
  go_wp2_with fail
  refine bodyPost_ret (v := .tuple #[.int .i64 (amount S), .int .i64 (over S)]) (by simp [results, Try.results82, go_sem]) rfl ⟨rfl, HB2.out⟩

/-! ### Move -/
def moveE (x : Acc) (y : Acc) (a z : Int) : List Ent := [⟨x.kind, x.member, a, -z⟩, ⟨y.kind, y.member, a, z⟩]
set_option maxHeartbeats 2000000 in
set_option maxRecDepth 100000 in
theorem moveK_any (g base M A : Nat) (v : Value) (bl : List Int) (p : Int) (x y : Acc) (a z : Int) (w : World) (hx : BookV w g base M A v bl p) (hix : inI x.kind ∧ inI x.member) (hiy : inI y.kind ∧ inI y.member) (hia : inI a) (hiz : inI z) (hz : 0 ≤ z) (hbl : ∀ z ∈ bl, inI z) (hp : 0 ≤ p ∧ p ≤ 1000000) :
    Calls Try.prog 52 #[.pointer (some ⟨g, 0, none⟩), .agg #[.int .i64 x.kind, .int .i64 x.member], .agg #[.int .i64 y.kind, .int .i64 y.member], .int .i64 a, .int .i64 z] w (PostPost g base M A v bl p (moveE x y a z) w) := by
  have bx := Blk.new w 52 #[.int .i64 x.kind, .int .i64 x.member] w.heap.size rfl
  have by_ := Blk.new (w.alloc (.cells #[.int .i64 x.kind, .int .i64 x.member] 52)) 52 #[.int .i64 y.kind, .int .i64 y.member] (w.heap.size + 1) (by simp)
  have hB0 := ((Below.refl w.heap.size w).alloc (Nat.le_refl _) (.cells #[.int .i64 x.kind, .int .i64 x.member] 52)).alloc (by simp) (.cells #[.int .i64 y.kind, .int .i64 y.member] 52)
  have bx := bx.alloc (.cells #[.int .i64 y.kind, .int .i64 y.member] 52)
  obtain ⟨W, hW⟩ : ∃ W, Hid ((w.alloc (.cells #[.int .i64 x.kind, .int .i64 x.member] 52)).alloc (.cells #[.int .i64 y.kind, .int .i64 y.member] 52) = W) := ⟨_, Lib.hid rfl⟩
  rw [hW.out] at bx by_ hB0
  have hB1 := hB0.alloc hB0.size (.cells #[.int .i64 x.kind, .int .i64 x.member, .int .i64 a, .int .i64 (-z), .int .i64 y.kind, .int .i64 y.member, .int .i64 a, .int .i64 z] 110)
  have hrl : Rd _ _ 4 _ 2 ((moveE x y a z).flatMap Ent.cells) := Rd.lit (n := 2) (sz := 4) W #[.int .i64 x.kind, .int .i64 x.member, .int .i64 a, .int .i64 (-z), .int .i64 y.kind, .int .i64 y.member, .int .i64 a, .int .i64 z] 110 W.heap.size rfl rfl
  have HPO := Lib.hid (postK_any g base M A v bl p (some ⟨W.heap.size, 0, none⟩) 2 2 (moveE x y a z) _ (hx.past hB1) hrl (by omega) (fun e he => by
    unfold moveE at he
    simp only [List.mem_cons, List.not_mem_nil, or_false] at he
    rcases he with rfl | rfl
    · exact ⟨hix.1, hix.2, hia, by unfold inI at hiz ⊢; simp only; omega⟩
    · exact ⟨hiy.1, hiy.2, hia, hiz⟩) hbl hp)
  unfold PostPost at HPO
  obtain ⟨K, hK⟩ : ∃ K, Hid (postK M A bl (moveE x y a z) = K) := ⟨_, Lib.hid rfl⟩
  rw [hK.out] at HPO
  have HB1 := Lib.hid hB1
  have q0 : ¬ z < 0 := by omega
  have hw1 : IntKind.i64.wrap (-z) = -z := IntWalk.i64_in _ (by unfold inI at hiz; omega)
  have s0 := (bx).cell 0
  have s1 := (bx).cell 1
  simp at s0 s1
  have t0 := (by_).cell 0
  have t1 := (by_).cell 1
  simp at t0 t1
  clear bx by_ hB0 hB1 hrl hx
  go_enter Try.func52, Try.ntmps52
  go_upto_region 1 with fail
  rw [hW.out]
  go_wp2_with fail
  refine HPO.out.mono ?_
  rintro e w2 ⟨rfl, hbk, hon⟩
  have HBK := Lib.hid hbk
  have HON := Lib.hid (OnlyG.after HB1.out hon)
  clear hbk hon
  go_wp2_with fail
  go_ret
  exact ⟨by rw [hK.out]; rfl, HBK.out, HON.out⟩
end Go.Proofs.Ytelbolhckhdioaa
