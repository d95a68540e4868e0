import Derived.Test.YtelbolhckhdioaaBokA
import Derived.Deep.RegionHeld3
import Derived.IntWalk
import Derived.Deep.OwnRows
import Derived.Laws.OwnMore
namespace Go.Proofs.Ytelbolhckhdioaa
open Go.RowKit

/-! ### A book in memory -/
theorem int64Info : (Try.prog.info? 2).map (fun i => (i.zero, i.size, i.bytes)) = some (some (.int .i64 0), 1, 8) := by kernel_rfl
theorem int64sInfo : (Try.prog.info? 71).map (fun i => (i.zero, i.size, i.bytes)) = some (some (.slice none 0 0), 1, 24) := by kernel_rfl
theorem makeI (n : Nat) (hn : n ≤ 1000000) (w : World) : (Instr.makeSlice 71 (.int .i64 (n : Int)) (.int .i64 (n : Int))).run Try.prog w = .ok (.slice (some ⟨w.heap.size, 0, none⟩) n n) (w.alloc (.cells (madeCells #[.int .i64 0] n) 2)) :=
  run_make_row' 71 2 (.int .i64 0) 8 Try.underlying71 int64Info rfl .i64 .i64 n (by omega) (by omega) w
theorem made_zero (n : Nat) : (madeCells #[.int .i64 0] n).toList = (List.replicate n (0 : Int)).flatMap i64Cells := by
  rw [toList_madeCells_one]
  induction n with
  | zero => rfl
  | succ n ih => rw [List.replicate_succ, List.replicate_succ, List.flatMap_cons, ih]; rfl

/-- How many accounts there are. -/
def cnt (M : Nat) : Nat := 6 + 3 * M
structure BookV (w : World) (g base M A : Nat) (v : Value) (bl : List Int) (p : Int) : Prop where
  form : ∃ X c, v = .slice X (A * cnt M) c
  blk : Blk w g 103 #[.int .i64 M, .int .i64 A, v, .int .i64 p]
  row : w.ownsRow base 2 1 v (A * cnt M) (bl.flatMap i64Cells)
  len : bl.length = A * cnt M
  hM : M ≤ 16
  hA : A ≤ 9
theorem BookV.past {w w' : World} {g base M A : Nat} {v : Value} {bl : List Int} {p : Int} (h : BookV w g base M A v bl p) (hb : Below w.heap.size w w') : BookV w' g base M A v bl p :=
  ⟨h.form, h.blk.past hb, own_pastK h.row hb, h.len, h.hM, h.hA⟩
theorem cnt_le {A M : Nat} (hM : M ≤ 16) (hA : A ≤ 9) : A * cnt M ≤ 486 := by
  have : A * cnt M ≤ 9 * 54 := Nat.mul_le_mul hA (by unfold cnt; omega)
  omega
theorem BookV.small {w : World} {g base M A : Nat} {v : Value} {bl : List Int} {p : Int} (h : BookV w g base M A v bl p) : A * cnt M ≤ 486 := cnt_le h.hM h.hA

/-- Where an account's balance of an asset stands. -/
def okP (M A : Nat) (s : Spt) : Bool := decide ((numA M s.acc).2 = 0) && (decide (0 ≤ s.a) && decide (s.a < A))
def ixS (M : Nat) (s : Spt) : Nat := (s.a * cnt M + (numA M s.acc).1).toNat
theorem num_in {M : Nat} {a : Acc} (hM : M ≤ 16) (h : (numA M a).2 = 0) : 0 ≤ (numA M a).1 ∧ (numA M a).1 < cnt M := by
  unfold numA at h ⊢
  unfold cnt
  repeat' split
  all_goals (repeat' split at h)
  all_goals simp_all
  all_goals omega
theorem okP_iff {M A : Nat} {s : Spt} : okP M A s = true ↔ (numA M s.acc).2 = 0 ∧ 0 ≤ s.a ∧ s.a < A := by simp [okP]
theorem ixS_lt {M A : Nat} {s : Spt} (hM : M ≤ 16) (h : okP M A s = true) : ixS M s < A * cnt M ∧ ((ixS M s : Nat) : Int) = s.a * cnt M + (numA M s.acc).1 := by
  obtain ⟨h1, h2, h3⟩ := okP_iff.1 h
  have h4 := num_in hM h1
  obtain ⟨a, ha⟩ := Int.eq_ofNat_of_zero_le h2
  obtain ⟨n, hn⟩ := Int.eq_ofNat_of_zero_le h4.1
  have h5 : (a : Int) < A := by omega
  have h6 : (a + 1) * cnt M ≤ A * cnt M := Nat.mul_le_mul_right _ (by omega)
  rw [Nat.add_mul] at h6
  unfold ixS
  rw [ha, hn]
  have e : ((a : Int) * (cnt M : Int) + (n : Int)) = ((a * cnt M + n : Nat) : Int) := by simp
  rw [e, Int.toNat_natCast]
  refine ⟨by omega, rfl⟩

theorem undrewK {w w' : World} (h : Below w.drew.heap.size w.drew w') : Below w.heap.size w w' := ⟨h.os, h.tape, h.output, h.size, h.block⟩

/-! ### New -/
set_option maxHeartbeats 1000000 in
theorem newK_no (m a : Int) (h : m < 0 ∨ 16 < m ∨ a < 1 ∨ 9 < a) (w : World) : Calls Try.prog 11 #[.int .i64 m, .int .i64 a] w fun e w' => e = .returned (.tuple #[.pointer none, .int .i64 1]) ∧ w' = w := by
  by_cases h1 : m < 0
  · go_enter Try.func11, Try.ntmps11
    go_wp2_with fail
    refine bodyPost_ret (v := .tuple #[.pointer none, .int .i64 1]) (by simp [results, Try.results11, go_sem]) rfl ⟨rfl, rfl⟩
  · by_cases h2 : 16 < m
    · go_enter Try.func11, Try.ntmps11
      go_wp2_with fail
      refine bodyPost_ret (v := .tuple #[.pointer none, .int .i64 1]) (by simp [results, Try.results11, go_sem]) rfl ⟨rfl, rfl⟩
    · by_cases h3 : a < 1
      · go_enter Try.func11, Try.ntmps11
        go_wp2_with fail
        refine bodyPost_ret (v := .tuple #[.pointer none, .int .i64 1]) (by simp [results, Try.results11, go_sem]) rfl ⟨rfl, rfl⟩
      · have h4 : 9 < a := by omega
        go_enter Try.func11, Try.ntmps11
        go_wp2_with fail
        refine bodyPost_ret (v := .tuple #[.pointer none, .int .i64 1]) (by simp [results, Try.results11, go_sem]) rfl ⟨rfl, rfl⟩
def NewKPost (M A : Nat) (w : World) (e : Ending) (w' : World) : Prop :=
  ∃ g v, e = .returned (.tuple #[.pointer (some ⟨g, 0, none⟩), .int .i64 0]) ∧ w.heap.size ≤ g ∧ BookV w' g w.heap.size M A v (List.replicate (A * cnt M) 0) 0 ∧ Below w.heap.size w w'
set_option maxHeartbeats 1000000 in
set_option maxRecDepth 100000 in
theorem newK_yes (M A : Nat) (hM : M ≤ 16) (h1 : 1 ≤ A) (hA : A ≤ 9) (w : World) : Calls Try.prog 11 #[.int .i64 M, .int .i64 A] w (NewKPost M A w) := by
  have q1 : ¬ (M : Int) < 0 := by omega
  have q2 : ¬ (16 : Int) < (M : Int) := by omega
  have q3 : ¬ (A : Int) < 1 := by omega
  have q4 : ¬ (9 : Int) < (A : Int) := by omega
  have hs := cnt_le hM hA
  obtain ⟨N, hN⟩ : ∃ N, Hid (A * cnt M = N) := ⟨_, Lib.hid rfl⟩
  rw [hN.out] at hs
  have HC := Lib.hid (count_yes M hM w)
  obtain ⟨C, hC⟩ : ∃ C : Nat, Hid (6 + 3 * M = C) := ⟨_, Lib.hid rfl⟩
  rw [hC.out] at HC
  have hw1 : IntKind.i64.wrap ((A : Int) * (C : Int)) = (N : Int) := by
    have e : (A : Int) * (C : Int) = (N : Int) := by rw [← hN.out, ← hC.out]; simp [cnt]
    rw [e]; exact IntWalk.i64_in _ (by omega)
  have hmk := makeI N (by omega)
  have HMZ := Lib.hid (made_zero N)
  have hMd := Blk.new w 2 (madeCells #[.int .i64 0] N) w.heap.size rfl
  have hRow : (w.alloc (.cells (madeCells #[.int .i64 0] N) 2)).ownsRow w.heap.size 2 1 (.slice (some ⟨w.heap.size, 0, none⟩) N N) N (madeCells #[.int .i64 0] N).toList := World.ownsRow_lit w _ N (Nat.le_refl _) (by unfold maxLen; omega) (by rw [size_madeCells, Nat.mul_one])
  obtain ⟨W, hW⟩ : ∃ W, Hid (w.alloc (.cells (madeCells #[.int .i64 0] N) 2) = W) := ⟨_, Lib.hid rfl⟩
  have hb0 : Below w.heap.size w W := by rw [← hW.out]; exact (Below.refl _ _).alloc (Nat.le_refl _) _
  have hs0 : W.heap.size = w.heap.size + 1 := by rw [← hW.out]; simp
  rw [hW.out] at hRow
  have HROW := Lib.hid hRow
  have HB0 := Lib.hid hb0
  have hmk2 := hmk w
  rw [hW.out] at hmk2
  clear hmk hMd hRow hb0
  go_enter Try.func11, Try.ntmps11
  go_wp2_with fail
  refine HC.out.mono ?_
  rintro e w1 ⟨rfl, rfl⟩
  clear q1 q2 q3 q4
  go_wp2_with fail
  have hb2 := HB0.out.alloc HB0.out.size (.cells #[.int .i64 M, .int .i64 A, .slice (some ⟨w1.heap.size, 0, none⟩) N N, .int .i64 0] 103)
  have bz := Blk.new W 103 #[.int .i64 M, .int .i64 A, .slice (some ⟨w1.heap.size, 0, none⟩) N N, .int .i64 0] W.heap.size rfl
  refine bodyPost_ret (v := .tuple #[.pointer (some ⟨W.heap.size, 0, none⟩), .int .i64 0]) (by simp [results, Try.results11, go_sem]) rfl ⟨W.heap.size, _, rfl, by omega, ⟨⟨_, _, by rw [hN.out]⟩, bz, by rw [hN.out, ← HMZ.out]; exact HROW.out.alloc _, by simp, hM, hA⟩, hb2⟩

/-! ### place -/
def plK (M A : Nat) (s : Spt) : Int × Int := if okP M A s = true then ((ixS M s : Nat), 0) else (0, 8)
theorem plK_t {M A : Nat} {s : Spt} (h : okP M A s = true) : plK M A s = (((ixS M s : Nat) : Int), 0) := if_pos h
theorem plK_f {M A : Nat} {s : Spt} (h : okP M A s = false) : plK M A s = (0, 8) := if_neg (by rw [h]; simp)
set_option maxHeartbeats 2000000 in
set_option maxRecDepth 100000 in
theorem placeK_any (g base M A : Nat) (v : Value) (bl : List Int) (p : Int) (s : Spt) (w : World) (hx : BookV w g base M A v bl p) :
    Calls Try.prog 108 #[.pointer (some ⟨g, 0, none⟩), .agg #[.int .i64 s.k, .int .i64 s.m], .int .i64 s.a] w fun e w' => e = .returned (.tuple #[.int .i64 (plK M A s).1, .int .i64 (plK M A s).2]) ∧ Below w.heap.size w w' := by
  have hM := hx.hM
  have hsm := hx.small
  have bt0 := Blk.new w 52 #[.int .i64 s.k, .int .i64 s.m] w.heap.size rfl
  have hB0 := (Below.refl w.heap.size w).alloc (Nat.le_refl _) (.cells #[.int .i64 s.k, .int .i64 s.m] 52)
  have bg0 := hx.blk.past hB0
  obtain ⟨W, hW⟩ : ∃ W, Hid (w.alloc (.cells #[.int .i64 s.k, .int .i64 s.m] 52) = W) := ⟨_, Lib.hid rfl⟩
  rw [hW.out] at bt0 hB0 bg0
  have hWs : w.heap.size < W.heap.size := bt0.lt
  have HB0 := Lib.hid hB0
  have HBG := Lib.hid bg0
  have HBT := Lib.hid bt0
  have HN := Lib.hid (num_any M s.acc W.drew)
  have HCN := Lib.hid (fun w => count_yes M hM w)
  obtain ⟨C, hC⟩ : ∃ C : Nat, Hid (6 + 3 * M = C) := ⟨_, Lib.hid rfl⟩
  rw [hC.out] at HCN
  obtain ⟨n, E, hNE⟩ : ∃ n E, Hid (numA M s.acc = (n, E)) := ⟨_, _, Lib.hid rfl⟩
  have HOK : Hid (okP M A s = (decide (E = 0) && (decide (0 ≤ s.a) && decide (s.a < A)))) := Lib.hid (by unfold okP; rw [hNE.out])
  have HIX := Lib.hid (fun h => ixS_lt (M := M) (A := A) (s := s) hM h)
  rw [hNE.out] at HN HIX
  have p0 := (bg0).cell 0
  have p1 := (bg0).cell 1
  have p2 := (bg0).cell 2
  have p3 := (bg0).cell 3
  simp at p0 p1 p2 p3
  have t0 := (bt0).cell 0
  have t1 := (bt0).cell 1
  simp at t0 t1
  clear bt0 hB0 bg0 hx
  go_enter Try.func108, Try.ntmps108
  go_upto_region 1 with fail
  rw [hW.out]
  have hS0 : W.drew.cell? ⟨g, 0, none⟩ = some (.int .i64 M) ∧ W.drew.cell? ⟨w.heap.size, 0, none⟩ = some (.int .i64 s.k) ∧ W.drew.cell? ⟨w.heap.size, 1, none⟩ = some (.int .i64 s.m) := ⟨p0, t0, t1⟩
  refine wp_region_held_drew (S := fun w' => w'.cell? ⟨g, 0, none⟩ = some (.int .i64 M) ∧ w'.cell? ⟨w.heap.size, 0, none⟩ = some (.int .i64 s.k) ∧ w'.cell? ⟨w.heap.size, 1, none⟩ = some (.int .i64 s.m)) (by kernel_rfl) hS0 (fun hHeld => ?_)
  clear hS0 p0 p1 p2 p3 t0 t1
  refine wpAnyH_take (i := 0) (v := ?_) rfl (by kernel_rfl) (by kernel_rfl) (by kernel_rfl) (fun _ _ _ h => h) (Or.inl ⟨by rfl, ?_⟩) (by assumption) ?_
  rotate_left
  · (intro w' hSw; (try dsimp only at hSw); first | (go_simp; done) | (go_simp; with_reducible rfl))
  try simp only [Act.put, List.getElem_toArray, List.getElem_cons_zero, List.getElem_cons_succ, List.setIfInBounds_toArray, List.set_cons_zero, List.set_cons_succ]
  refine wpAnyH_take (i := 1) (v := ?_) rfl (by kernel_rfl) (by kernel_rfl) (by kernel_rfl) (fun _ _ _ h => h) (Or.inl ⟨by rfl, ?_⟩) (by assumption) ?_
  rotate_left
  · (intro w' hSw; (try dsimp only at hSw); first | (go_simp; done) | (go_simp; with_reducible rfl))
  try simp only [Act.put, List.getElem_toArray, List.getElem_cons_zero, List.getElem_cons_succ, List.setIfInBounds_toArray, List.set_cons_zero, List.set_cons_succ]
  refine wpAnyH_take (i := 2) (v := ?_) rfl (by kernel_rfl) (by kernel_rfl) (by kernel_rfl) (fun _ _ _ h => h) (Or.inl ⟨by rfl, ?_⟩) (by assumption) ?_
  rotate_left
  · (intro w' hSw; (try dsimp only at hSw); first | (go_simp; done) | (go_simp; with_reducible rfl))
  try simp only [Act.put, List.getElem_toArray, List.getElem_cons_zero, List.getElem_cons_succ, List.setIfInBounds_toArray, List.set_cons_zero, List.set_cons_succ]
  refine wpAnyH_take (i := 3) (v := ?_) rfl (by kernel_rfl) (by kernel_rfl) (by kernel_rfl) (fun _ _ _ h => h) (Or.inl ⟨by rfl, ?_⟩) (by assumption) ?_
  rotate_left
  · (intro w' hSw; (try dsimp only at hSw); first | (go_simp; done) | (go_simp; with_reducible rfl))
  try simp only [Act.put, List.getElem_toArray, List.getElem_cons_zero, List.getElem_cons_succ, List.setIfInBounds_toArray, List.set_cons_zero, List.set_cons_succ]
  refine wpAnyH_take (i := 4) (v := ?_) rfl (by kernel_rfl) (by kernel_rfl) (by kernel_rfl) (fun _ _ _ h => h) (Or.inl ⟨by rfl, ?_⟩) (by assumption) ?_
  rotate_left
  · (intro w' hSw; (try dsimp only at hSw); first | (go_simp; done) | (go_simp; with_reducible rfl))
  try simp only [Act.put, List.getElem_toArray, List.getElem_cons_zero, List.getElem_cons_succ, List.setIfInBounds_toArray, List.set_cons_zero, List.set_cons_succ]
  refine wpAnyH_ready (rs := [5]) (by kernel_rfl) (by simp) ?_
  refine AllReadyH.cons rfl (fun K hK => ?_) AllReadyH.nil
  go_simp
  go_at_call 144
  refine HN.out.mono ?_
  rintro e w1 ⟨rfl, hb1⟩
  have hb1' : Below W.heap.size W w1 := undrewK hb1
  have HB1 := Lib.hid (Below.past HB0.out hb1' (Nat.le_of_lt hWs))
  have bg1 := HBG.out.past hb1'
  have bt1 := HBT.out.past hb1'
  clear hb1 hb1' HN hHeld
  refine hK.out _ _ (⟨bg1.cell 0, bt1.cell 0, bt1.cell 1⟩) (fun hHeld => ?_)
  try simp only [Act.put, List.getElem_toArray, List.getElem_cons_zero, List.getElem_cons_succ, List.setIfInBounds_toArray, List.set_cons_zero, List.set_cons_succ]
  refine wpAnyH_take (i := 6) (v := ?_) rfl (by kernel_rfl) (by kernel_rfl) (by kernel_rfl) (fun _ _ _ h => h) (Or.inl ⟨by rfl, ?_⟩) (by assumption) ?_
  rotate_left
  · (intro w' hSw; (try dsimp only at hSw); first | (go_simp; done) | (go_simp; with_reducible rfl))
  try simp only [Act.put, List.getElem_toArray, List.getElem_cons_zero, List.getElem_cons_succ, List.setIfInBounds_toArray, List.set_cons_zero, List.set_cons_succ]
  refine wpAnyH_take (i := 7) (v := ?_) rfl (by kernel_rfl) (by kernel_rfl) (by kernel_rfl) (fun _ _ _ h => h) (Or.inl ⟨by rfl, ?_⟩) (by assumption) ?_
  rotate_left
  · (intro w' hSw; (try dsimp only at hSw); first | (go_simp; done) | (go_simp; with_reducible rfl))
  try simp only [Act.put, List.getElem_toArray, List.getElem_cons_zero, List.getElem_cons_succ, List.setIfInBounds_toArray, List.set_cons_zero, List.set_cons_succ]
  refine wpAnyH_take (i := 8) (v := ?_) rfl (by kernel_rfl) (by kernel_rfl) (by kernel_rfl) (fun _ _ _ h => h) (Or.inl ⟨by rfl, ?_⟩) (by assumption) ?_
  rotate_left
  · (intro w' hSw; (try dsimp only at hSw); first | (go_simp; done) | (go_simp; with_reducible rfl))
  try simp only [Act.put, List.getElem_toArray, List.getElem_cons_zero, List.getElem_cons_succ, List.setIfInBounds_toArray, List.set_cons_zero, List.set_cons_succ]
  refine wpAnyH_take (i := 9) (v := ?_) rfl (by kernel_rfl) (by kernel_rfl) (by kernel_rfl) (fun _ _ _ h => h) (Or.inl ⟨by rfl, ?_⟩) (by assumption) ?_
  rotate_left
  · (intro w' hSw; (try dsimp only at hSw); first | (go_simp; done) | (go_simp; with_reducible rfl))
  try simp only [Act.put, List.getElem_toArray, List.getElem_cons_zero, List.getElem_cons_succ, List.setIfInBounds_toArray, List.set_cons_zero, List.set_cons_succ]
  refine wpAnyH_take (i := 10) (v := ?_) rfl (by kernel_rfl) (by kernel_rfl) (by kernel_rfl) (fun _ _ _ h => h) (Or.inl ⟨by rfl, ?_⟩) (by assumption) ?_
  rotate_left
  · (intro w' hSw; (try dsimp only at hSw); first | (go_simp; done) | (go_simp; with_reducible rfl))
  try simp only [Act.put, List.getElem_toArray, List.getElem_cons_zero, List.getElem_cons_succ, List.setIfInBounds_toArray, List.set_cons_zero, List.set_cons_succ]
  refine wpAnyH_done (by kernel_rfl) ?_ _
  clear hHeld bt1
  have p0 := (bg1).cell 0
  have p1 := (bg1).cell 1
  have p2 := (bg1).cell 2
  have p3 := (bg1).cell 3
  simp at p0 p1 p2 p3
  clear bg1
  by_cases hE : E = 0
  · subst hE
    by_cases ha : s.a < 0
    · have HO : Hid (okP M A s = false) := Lib.hid (by rw [HOK.out, decide_eq_false (show ¬ 0 ≤ s.a by omega)]; simp)
      go_wp2_with fail
      refine bodyPost_ret (v := .tuple #[.int .i64 0, .int .i64 8]) (by simp [results, Try.results108, go_sem]) rfl ⟨by rw [plK_f HO.out], HB1.out⟩
    · by_cases hA : (A : Int) ≤ s.a
      · have HO : Hid (okP M A s = false) := Lib.hid (by rw [HOK.out, decide_eq_false (show ¬ s.a < A by omega)]; simp)
        go_wp2_with fail
        refine bodyPost_ret (v := .tuple #[.int .i64 0, .int .i64 8]) (by simp [results, Try.results108, go_sem]) rfl ⟨by rw [plK_f HO.out], HB1.out⟩
      · have HO : Hid (okP M A s = true) := Lib.hid (by rw [HOK.out, decide_eq_true (show 0 ≤ s.a by omega), decide_eq_true (show s.a < A by omega)]; rfl)
        obtain ⟨hi1, hi2⟩ := HIX.out HO.out
        obtain ⟨I, hI⟩ : ∃ I, Hid (ixS M s = I) := ⟨_, Lib.hid rfl⟩
        rw [hI.out] at hi1 hi2
        obtain ⟨a, hae⟩ := Int.eq_ofNat_of_zero_le (show 0 ≤ s.a by omega)
        have e1 : s.a * (C : Int) = s.a * (cnt M : Int) := by rw [← hC.out]; rfl
        have hn := num_in (a := s.acc) hM (by rw [hNE.out])
        rw [hNE.out] at hn
        simp only at hn hi2
        have hp0 : 0 ≤ s.a * (cnt M : Int) := Int.mul_nonneg (by omega) (by omega)
        obtain ⟨P, hP⟩ : ∃ P, Hid (s.a * (cnt M : Int) = P) := ⟨_, Lib.hid rfl⟩
        have hw1 : IntKind.i64.wrap (s.a * (C : Int)) = P := by rw [e1, hP.out]; rw [hP.out] at hi2 hp0; exact IntWalk.i64_in _ (by omega)
        have hw2 : IntKind.i64.wrap (P + n) = (I : Int) := by rw [← hP.out, ← hi2]; exact IntWalk.i64_in _ (by omega)
        clear hn hp0 hi1 hi2 e1 hae
        go_wp2_with fail
        refine (HCN.out _).mono ?_
        rintro e w2 ⟨rfl, rfl⟩
        go_wp2_with fail
        refine bodyPost_ret (v := .tuple #[.int .i64 (I : Nat), .int .i64 0]) (by simp [results, Try.results108, go_sem]) rfl ⟨by rw [plK_t HO.out, hI.out], HB1.out⟩
  · have HO : Hid (okP M A s = false) := Lib.hid (by rw [HOK.out, decide_eq_false hE]; rfl)
    have q1 : (E != 0) = true := by simpa using hE
    go_wp2_with fail
    refine bodyPost_ret (v := .tuple #[.int .i64 0, .int .i64 8]) (by simp [results, Try.results108, go_sem]) rfl ⟨by rw [plK_f HO.out], HB1.out⟩
end Go.Proofs.Ytelbolhckhdioaa
