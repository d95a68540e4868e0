import Derived.Test.YtfnhffcjhdeleaaConfM
import Derived.Test.YtfnhffcjhdeleaaBas2
import Derived.Test.YtfnhffcjhdeleaaAppRd
import Derived.Lib.SliceRun
namespace Go.Proofs.Ytfnhffcjhdeleaa
open Go.RowKit

theorem cfInfoM : (Try.prog.info? 165).map (fun i => (i.zero, i.size, i.bytes)) = some (some (.agg #[.int .i64 0, .int .i64 0]), 2, 16) := by kernel_rfl
set_option maxRecDepth 100000 in
set_option maxHeartbeats 1000000 in
theorem cloneM_nil (cp : Nat) (w : World) : Calls Try.prog 121 #[.slice none 0 cp] w fun e w' => e = .returned (.slice none 0 0) ∧ w = w' := by
  have hq := fun w => Lib.run_eql_slice_nil (P := Try.prog) w 85 165 none 0 cp 0 0 Try.underlying85
  go_enter Try.func121, Try.ntmps121
  go_wp2_with fail
  go_ret
  exact ⟨rfl, rfl⟩
set_option maxRecDepth 100000 in
set_option maxHeartbeats 1000000 in
theorem cloneM_some (A : Addr) (n cp : Nat) (l : List Memb) (w : World) (hr : Rd w w.heap.size 2 (some A) n (l.flatMap Memb.cells)) (hn : n ≤ 1000) : Calls Try.prog 121 #[.slice (some A) n cp] w fun e w' => ∃ v, e = .returned v ∧ w'.ownsRow w.heap.size 165 2 v n (l.flatMap Memb.cells) ∧ Below w.heap.size w w' := by
  have hq := fun w => Lib.run_eql_slice_nil (P := Try.prog) w 85 165 (some A) n cp 0 0 Try.underlying85
  have hB0 := (Below.refl w.heap.size w).alloc (Nat.le_refl _) (.cells #[] 165)
  have hr0 := hr.past hB0
  have hown : (w.alloc (.cells #[] 165)).ownsRow w.heap.size 165 2 (.slice (some ⟨w.heap.size, 0, none⟩) 0 0) 0 [] := ⟨rfl, .inr ⟨w.heap.size, 0, #[], rfl, Nat.le_refl _, heap_alloc_new w _, Nat.le_refl _, Nat.zero_le _, rfl, rfl⟩⟩
  obtain ⟨j0, hj0, jz0, jz1, jz2⟩ := info_parts cfInfoM
  have hone : ∀ u ∈ l.flatMap Memb.cells, u.oneCell' = true := by
    intro u hu
    obtain ⟨f, _, h2⟩ := List.mem_flatMap.1 hu
    simp [Memb.cells] at h2
    rcases h2 with rfl | rfl <;> rfl
  go_enter Try.func121, Try.ntmps121
  go_wp2_with (at_builtin; refine wpList_append_rd _ rfl (.tmp 5) (.tmp 6) 85 rfl w.heap.size 165 j0 _ 2 16 Try.underlying85 hj0 jz0 jz1 jz2 rfl (by decide) _ _ _ rfl hown (some A) n cp _ rfl hr0 (fun e => by cases e) hone (by omega) (by omega) (by simp) hB0 (Nat.le_refl _) ?_; intro v' w' hown' hb'; rw [Nat.zero_add, List.nil_append] at hown')
  go_ret
  exact ⟨_, rfl, hown', hb'⟩
/-- A copy of any list of these. -/
theorem cloneM_any (A : Option Addr) (n cp : Nat) (l : List Memb) (w : World) (hr : Rd w w.heap.size 2 A n (l.flatMap Memb.cells)) (hn : n ≤ 1000) (hA : A = none → n = 0) : Calls Try.prog 121 #[.slice A n cp] w fun e w' => ∃ v, e = .returned v ∧ w'.ownsRow w.heap.size 165 2 v n (l.flatMap Memb.cells) ∧ Below w.heap.size w w' := by
  cases A with
  | none =>
    obtain rfl := hA rfl
    have hl : l = [] := List.length_eq_zero_iff.1 (hr.len Memb.cells_len (by omega))
    subst hl
    refine (cloneM_nil cp w).mono ?_
    rintro e w' ⟨rfl, rfl⟩
    exact ⟨_, rfl, World.ownsRow_nil _ _ _ _, Below.refl _ _⟩
  | some A1 => exact cloneM_some A1 n cp l w hr hn

theorem cfInfoS : (Try.prog.info? 167).map (fun i => (i.zero, i.size, i.bytes)) = some (some (.agg #[.int .i64 0, .int .i64 0]), 2, 16) := by kernel_rfl
set_option maxRecDepth 100000 in
set_option maxHeartbeats 1000000 in
theorem cloneS_nil (cp : Nat) (w : World) : Calls Try.prog 122 #[.slice none 0 cp] w fun e w' => e = .returned (.slice none 0 0) ∧ w = w' := by
  have hq := fun w => Lib.run_eql_slice_nil (P := Try.prog) w 86 167 none 0 cp 0 0 Try.underlying86
  go_enter Try.func122, Try.ntmps122
  go_wp2_with fail
  go_ret
  exact ⟨rfl, rfl⟩
set_option maxRecDepth 100000 in
set_option maxHeartbeats 1000000 in
theorem cloneS_some (A : Addr) (n cp : Nat) (l : List Secu) (w : World) (hr : Rd w w.heap.size 2 (some A) n (l.flatMap Secu.cells)) (hn : n ≤ 1000) : Calls Try.prog 122 #[.slice (some A) n cp] w fun e w' => ∃ v, e = .returned v ∧ w'.ownsRow w.heap.size 167 2 v n (l.flatMap Secu.cells) ∧ Below w.heap.size w w' := by
  have hq := fun w => Lib.run_eql_slice_nil (P := Try.prog) w 86 167 (some A) n cp 0 0 Try.underlying86
  have hB0 := (Below.refl w.heap.size w).alloc (Nat.le_refl _) (.cells #[] 167)
  have hr0 := hr.past hB0
  have hown : (w.alloc (.cells #[] 167)).ownsRow w.heap.size 167 2 (.slice (some ⟨w.heap.size, 0, none⟩) 0 0) 0 [] := ⟨rfl, .inr ⟨w.heap.size, 0, #[], rfl, Nat.le_refl _, heap_alloc_new w _, Nat.le_refl _, Nat.zero_le _, rfl, rfl⟩⟩
  obtain ⟨j0, hj0, jz0, jz1, jz2⟩ := info_parts cfInfoS
  have hone : ∀ u ∈ l.flatMap Secu.cells, u.oneCell' = true := by
    intro u hu
    obtain ⟨f, _, h2⟩ := List.mem_flatMap.1 hu
    simp [Secu.cells] at h2
    rcases h2 with rfl | rfl <;> rfl
  go_enter Try.func122, Try.ntmps122
  go_wp2_with (at_builtin; refine wpList_append_rd _ rfl (.tmp 5) (.tmp 6) 86 rfl w.heap.size 167 j0 _ 2 16 Try.underlying86 hj0 jz0 jz1 jz2 rfl (by decide) _ _ _ rfl hown (some A) n cp _ rfl hr0 (fun e => by cases e) hone (by omega) (by omega) (by simp) hB0 (Nat.le_refl _) ?_; intro v' w' hown' hb'; rw [Nat.zero_add, List.nil_append] at hown')
  go_ret
  exact ⟨_, rfl, hown', hb'⟩
/-- A copy of any list of these. -/
theorem cloneS_any (A : Option Addr) (n cp : Nat) (l : List Secu) (w : World) (hr : Rd w w.heap.size 2 A n (l.flatMap Secu.cells)) (hn : n ≤ 1000) (hA : A = none → n = 0) : Calls Try.prog 122 #[.slice A n cp] w fun e w' => ∃ v, e = .returned v ∧ w'.ownsRow w.heap.size 167 2 v n (l.flatMap Secu.cells) ∧ Below w.heap.size w w' := by
  cases A with
  | none =>
    obtain rfl := hA rfl
    have hl : l = [] := List.length_eq_zero_iff.1 (hr.len Secu.cells_len (by omega))
    subst hl
    refine (cloneS_nil cp w).mono ?_
    rintro e w' ⟨rfl, rfl⟩
    exact ⟨_, rfl, World.ownsRow_nil _ _ _ _, Below.refl _ _⟩
  | some A1 => exact cloneS_some A1 n cp l w hr hn

theorem cfInfoC : (Try.prog.info? 169).map (fun i => (i.zero, i.size, i.bytes)) = some (some (.agg #[.int .i64 0, .int .i64 0, .int .i64 0, .int .i64 0]), 4, 32) := by kernel_rfl
set_option maxRecDepth 100000 in
set_option maxHeartbeats 1000000 in
theorem cloneC_nil (cp : Nat) (w : World) : Calls Try.prog 123 #[.slice none 0 cp] w fun e w' => e = .returned (.slice none 0 0) ∧ w = w' := by
  have hq := fun w => Lib.run_eql_slice_nil (P := Try.prog) w 87 169 none 0 cp 0 0 Try.underlying87
  go_enter Try.func123, Try.ntmps123
  go_wp2_with fail
  go_ret
  exact ⟨rfl, rfl⟩
set_option maxRecDepth 100000 in
set_option maxHeartbeats 1000000 in
theorem cloneC_some (A : Addr) (n cp : Nat) (l : List Cyc) (w : World) (hr : Rd w w.heap.size 4 (some A) n (l.flatMap Cyc.cells)) (hn : n ≤ 1000) : Calls Try.prog 123 #[.slice (some A) n cp] w fun e w' => ∃ v, e = .returned v ∧ w'.ownsRow w.heap.size 169 4 v n (l.flatMap Cyc.cells) ∧ Below w.heap.size w w' := by
  have hq := fun w => Lib.run_eql_slice_nil (P := Try.prog) w 87 169 (some A) n cp 0 0 Try.underlying87
  have hB0 := (Below.refl w.heap.size w).alloc (Nat.le_refl _) (.cells #[] 169)
  have hr0 := hr.past hB0
  have hown : (w.alloc (.cells #[] 169)).ownsRow w.heap.size 169 4 (.slice (some ⟨w.heap.size, 0, none⟩) 0 0) 0 [] := ⟨rfl, .inr ⟨w.heap.size, 0, #[], rfl, Nat.le_refl _, heap_alloc_new w _, Nat.le_refl _, Nat.zero_le _, rfl, rfl⟩⟩
  obtain ⟨j0, hj0, jz0, jz1, jz2⟩ := info_parts cfInfoC
  have hone : ∀ u ∈ l.flatMap Cyc.cells, u.oneCell' = true := by
    intro u hu
    obtain ⟨f, _, h2⟩ := List.mem_flatMap.1 hu
    simp [Cyc.cells] at h2
    rcases h2 with rfl | rfl | rfl | rfl <;> rfl
  go_enter Try.func123, Try.ntmps123
  go_wp2_with (at_builtin; refine wpList_append_rd _ rfl (.tmp 5) (.tmp 6) 87 rfl w.heap.size 169 j0 _ 4 32 Try.underlying87 hj0 jz0 jz1 jz2 rfl (by decide) _ _ _ rfl hown (some A) n cp _ rfl hr0 (fun e => by cases e) hone (by omega) (by omega) (by simp) hB0 (Nat.le_refl _) ?_; intro v' w' hown' hb'; rw [Nat.zero_add, List.nil_append] at hown')
  go_ret
  exact ⟨_, rfl, hown', hb'⟩
/-- A copy of any list of these. -/
theorem cloneC_any (A : Option Addr) (n cp : Nat) (l : List Cyc) (w : World) (hr : Rd w w.heap.size 4 A n (l.flatMap Cyc.cells)) (hn : n ≤ 1000) (hA : A = none → n = 0) : Calls Try.prog 123 #[.slice A n cp] w fun e w' => ∃ v, e = .returned v ∧ w'.ownsRow w.heap.size 169 4 v n (l.flatMap Cyc.cells) ∧ Below w.heap.size w w' := by
  cases A with
  | none =>
    obtain rfl := hA rfl
    have hl : l = [] := List.length_eq_zero_iff.1 (hr.len Cyc.cells_len (by omega))
    subst hl
    refine (cloneC_nil cp w).mono ?_
    rintro e w' ⟨rfl, rfl⟩
    exact ⟨_, rfl, World.ownsRow_nil _ _ _ _, Below.refl _ _⟩
  | some A1 => exact cloneC_some A1 n cp l w hr hn

end Go.Proofs.Ytfnhffcjhdeleaa
