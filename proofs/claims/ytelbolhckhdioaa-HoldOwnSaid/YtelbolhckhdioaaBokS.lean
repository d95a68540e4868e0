import Derived.Test.YtelbolhckhdioaaBokI
import Derived.Test.YtelbolhckhdioaaAppRd
namespace Go.Proofs.Ytelbolhckhdioaa
open Go.RowKit

/-! ### A copy of any numbers; Copy -/
theorem rd_none0 {w : World} {B sz n : Nat} {xs : List Value} (h : Rd w B sz none n xs) : n = 0 := by
  rcases Nat.eq_zero_or_pos n with h0 | h0
  · exact h0
  · obtain ⟨_, _, he, _⟩ := h.2 h0
    cases he
set_option maxRecDepth 100000 in
set_option maxHeartbeats 1000000 in
theorem cloneI_nil (cp : Nat) (w : World) : Calls Try.prog 118 #[.slice none 0 cp] w fun e w' => e = .returned (.slice none 0 0) ∧ w = w' := by
  have hq := fun w => Lib.run_eql_slice_nil (P := Try.prog) w 71 2 none 0 cp 0 0 Try.underlying71
  go_enter Try.func118, Try.ntmps118
  go_wp2_with fail
  go_ret
  exact ⟨rfl, rfl⟩
set_option maxRecDepth 100000 in
set_option maxHeartbeats 1000000 in
theorem cloneI_some (A : Addr) (n cp : Nat) (l : List Int) (w : World) (hr : Rd w w.heap.size 1 (some A) n (l.flatMap i64Cells)) (hn : n ≤ 1000) : Calls Try.prog 118 #[.slice (some A) n cp] w fun e w' => ∃ v, e = .returned v ∧ w'.ownsRow w.heap.size 2 1 v n (l.flatMap i64Cells) ∧ Below w.heap.size w w' := by
  have hq := fun w => Lib.run_eql_slice_nil (P := Try.prog) w 71 2 (some A) n cp 0 0 Try.underlying71
  have hB0 := (Below.refl w.heap.size w).alloc (Nat.le_refl _) (.cells #[] 2)
  have hr0 := hr.past hB0
  have hown : (w.alloc (.cells #[] 2)).ownsRow w.heap.size 2 1 (.slice (some ⟨w.heap.size, 0, none⟩) 0 0) 0 [] := ⟨rfl, .inr ⟨w.heap.size, 0, #[], rfl, Nat.le_refl _, heap_alloc_new w _, Nat.le_refl _, Nat.zero_le _, rfl, rfl⟩⟩
  obtain ⟨j0, hj0, jz0, jz1, jz2⟩ := info_parts int64Info
  have hone : ∀ u ∈ l.flatMap i64Cells, u.oneCell' = true := by
    intro u hu
    obtain ⟨f, _, h2⟩ := List.mem_flatMap.1 hu
    simp [i64Cells] at h2
    subst h2; rfl
  go_enter Try.func118, Try.ntmps118
  go_wp2_with (at_builtin; refine wpList_append_rd _ rfl (.tmp 5) (.tmp 6) 71 rfl w.heap.size 2 j0 _ 1 8 Try.underlying71 hj0 jz0 jz1 jz2 rfl (by decide) _ _ _ rfl hown (some A) n cp _ rfl hr0 (fun e => by cases e) hone (by omega) (by omega) (by simp) hB0 (Nat.le_refl _) ?_; intro v' w' hown' hb'; rw [Nat.zero_add, List.nil_append] at hown')
  go_ret
  exact ⟨_, rfl, hown', hb'⟩
/-- A copy of any list of these. -/
theorem cloneI_any (A : Option Addr) (n cp : Nat) (l : List Int) (w : World) (hr : Rd w w.heap.size 1 A n (l.flatMap i64Cells)) (hn : n ≤ 1000) (hA : A = none → n = 0) : Calls Try.prog 118 #[.slice A n cp] w fun e w' => ∃ v, e = .returned v ∧ w'.ownsRow w.heap.size 2 1 v n (l.flatMap i64Cells) ∧ Below w.heap.size w w' := by
  cases A with
  | none =>
    obtain rfl := hA rfl
    have hl : l = [] := List.length_eq_zero_iff.1 (hr.len (fun _ => rfl) (by omega))
    subst hl
    refine (cloneI_nil cp w).mono ?_
    rintro e w' ⟨rfl, rfl⟩
    exact ⟨_, rfl, World.ownsRow_nil _ _ _ _, Below.refl _ _⟩
  | some A1 => exact cloneI_some A1 n cp l w hr hn
def CopyKPost (M A : Nat) (bl : List Int) (p : Int) (w : World) (e : Ending) (w' : World) : Prop :=
  ∃ g' v', e = .returned (.pointer (some ⟨g', 0, none⟩)) ∧ w.heap.size ≤ g' ∧ BookV w' g' w.heap.size M A v' bl p ∧ Below w.heap.size w w'
set_option maxHeartbeats 4000000 in
set_option maxRecDepth 100000 in
theorem copyK_any (g base M A : Nat) (v : Value) (bl : List Int) (p : Int) (w : World) (hx : BookV w g base M A v bl p) :
    Calls Try.prog 75 #[.pointer (some ⟨g, 0, none⟩)] w (CopyKPost M A bl p w) := by
  have hM := hx.hM
  have hA := hx.hA
  have hN := hx.small
  have hlen := hx.len
  obtain ⟨X, cX, rfl⟩ := hx.form
  obtain ⟨N, hNe⟩ : ∃ N, Hid (A * cnt M = N) := ⟨_, Lib.hid rfl⟩
  have bg := hx.blk
  have hrow := hx.row
  rw [hNe.out] at hN bg hrow
  have hrd := Rd.of_own hrow
  have hB1 := (Below.refl w.heap.size w).alloc (Nat.le_refl _) (.cells #[.int .i64 M, .int .i64 A, .slice X N cX, .int .i64 p] 103)
  obtain ⟨W, hW⟩ : ∃ W, Hid (w.alloc (.cells #[.int .i64 M, .int .i64 A, .slice X N cX, .int .i64 p] 103) = W) := ⟨_, Lib.hid rfl⟩
  have bn := Blk.new w 103 #[.int .i64 M, .int .i64 A, .slice X N cX, .int .i64 p] w.heap.size rfl
  rw [hW.out] at hB1 bn
  have hC := Lib.hid (cloneI_any X N cX bl W (hrd.past hB1) (by omega) (fun e => by subst e; exact rd_none0 hrd))
  have p0 := bg.cell 0
  have p1 := bg.cell 1
  have p2 := bg.cell 2
  have p3 := bg.cell 3
  simp at p0 p1 p2 p3
  have hgl := bg.lt
  have HBG := Lib.hid (bg.past hB1)
  have HB1 := Lib.hid hB1
  have HBN := Lib.hid bn
  have r2 := (bg.past hB1).cell 2
  simp at r2
  clear bg hrow hrd hB1 bn hx
  go_enter Try.func75, Try.ntmps75
  go_upto_region 4 with fail
  rw [hW.out]
  clear p0 p1 p2 p3
  go_wp2_with fail
  refine hC.out.mono ?_
  rintro e w1 ⟨v2, rfl, hov, hb0⟩
  obtain ⟨A2, c2, rfl⟩ := own_form hov
  have hne : (Value.slice A2 N c2).ownBlock ≠ some w.heap.size := fun e => by have h1 := (hov.lt w.heap.size e).1; have := HBN.out.lt; omega
  have bn1 := HBN.out.past hb0
  have z2 := bn1.cell 2
  have f2 := bn1.frozen 2
  simp at z2
  have HZ := Lib.hid (bn1.put 2 (.slice A2 N c2))
  have HOZ := Lib.hid (own_far (p := ⟨w.heap.size, 2, none⟩) hov hne (.slice A2 N c2))
  have HBZ := Lib.hid ((Below.past HB1.out hb0 HB1.out.size).setCell (p := ⟨w.heap.size, 2, none⟩) (Nat.le_refl _) (.slice A2 N c2))
  clear hov hb0 bn1 hC r2 hne
  go_wp2_with fail
  go_ret
  exact ⟨_, .slice A2 N c2, rfl, Nat.le_refl _, ⟨⟨A2, c2, by rw [hNe.out]⟩, HZ.out, by rw [hNe.out]; exact own_monoK HOZ.out HB1.out.size, hlen, hM, hA⟩, HBZ.out⟩
end Go.Proofs.Ytelbolhckhdioaa
