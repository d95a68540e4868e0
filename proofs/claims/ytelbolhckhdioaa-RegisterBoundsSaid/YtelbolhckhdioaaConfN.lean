import Derived.Test.YtelbolhckhdioaaConfM
import Derived.Test.YtelbolhckhdioaaBas2
import Derived.Test.YtelbolhckhdioaaAppRd
import Derived.Lib.SliceRun
namespace Go.Proofs.Ytelbolhckhdioaa
open Go.RowKit

theorem cfInfoM : (Try.prog.info? 135).map (fun i => (i.zero, i.size, i.bytes)) = some (some (.agg #[.int .i64 0, .int .i64 0]), 2, 16) := by kernel_rfl
set_option maxRecDepth 100000 in
set_option maxHeartbeats 1000000 in
theorem cloneM_nil (cp : Nat) (w : World) : Calls Try.prog 125 #[.slice none 0 cp] w fun e w' => e = .returned (.slice none 0 0) ∧ w = w' := by
  have hq := fun w => Lib.run_eql_slice_nil (P := Try.prog) w 74 135 none 0 cp 0 0 Try.underlying74
  go_enter Try.func125, Try.ntmps125
  go_wp2_with fail
  go_ret
  exact ⟨rfl, rfl⟩
set_option maxRecDepth 100000 in
set_option maxHeartbeats 1000000 in
theorem cloneM_some (A : Addr) (n cp : Nat) (l : List Memb) (w : World) (hr : Rd w w.heap.size 2 (some A) n (l.flatMap Memb.cells)) (hn : n ≤ 1000) : Calls Try.prog 125 #[.slice (some A) n cp] w fun e w' => ∃ v, e = .returned v ∧ w'.ownsRow w.heap.size 135 2 v n (l.flatMap Memb.cells) ∧ Below w.heap.size w w' := by
  have hq := fun w => Lib.run_eql_slice_nil (P := Try.prog) w 74 135 (some A) n cp 0 0 Try.underlying74
  have hB0 := (Below.refl w.heap.size w).alloc (Nat.le_refl _) (.cells #[] 135)
  have hr0 := hr.past hB0
  have hown : (w.alloc (.cells #[] 135)).ownsRow w.heap.size 135 2 (.slice (some ⟨w.heap.size, 0, none⟩) 0 0) 0 [] := ⟨rfl, .inr ⟨w.heap.size, 0, #[], rfl, Nat.le_refl _, heap_alloc_new w _, Nat.le_refl _, Nat.zero_le _, rfl, rfl⟩⟩
  obtain ⟨j0, hj0, jz0, jz1, jz2⟩ := info_parts cfInfoM
  have hone : ∀ u ∈ l.flatMap Memb.cells, u.oneCell' = true := by
    intro u hu
    obtain ⟨f, _, h2⟩ := List.mem_flatMap.1 hu
    simp [Memb.cells] at h2
    rcases h2 with rfl | rfl <;> rfl
  go_enter Try.func125, Try.ntmps125
  go_wp2_with (at_builtin; refine wpList_append_rd _ rfl (.tmp 5) (.tmp 6) 74 rfl w.heap.size 135 j0 _ 2 16 Try.underlying74 hj0 jz0 jz1 jz2 rfl (by decide) _ _ _ rfl hown (some A) n cp _ rfl hr0 (fun e => by cases e) hone (by omega) (by omega) (by simp) hB0 (Nat.le_refl _) ?_; intro v' w' hown' hb'; rw [Nat.zero_add, List.nil_append] at hown')
  go_ret
  exact ⟨_, rfl, hown', hb'⟩
/-- A copy of any list of these. -/
theorem cloneM_any (A : Option Addr) (n cp : Nat) (l : List Memb) (w : World) (hr : Rd w w.heap.size 2 A n (l.flatMap Memb.cells)) (hn : n ≤ 1000) (hA : A = none → n = 0) : Calls Try.prog 125 #[.slice A n cp] w fun e w' => ∃ v, e = .returned v ∧ w'.ownsRow w.heap.size 135 2 v n (l.flatMap Memb.cells) ∧ Below w.heap.size w w' := by
  cases A with
  | none =>
    obtain rfl := hA rfl
    have hl : l = [] := List.length_eq_zero_iff.1 (hr.len Memb.cells_len (by omega))
    subst hl
    refine (cloneM_nil cp w).mono ?_
    rintro e w' ⟨rfl, rfl⟩
    exact ⟨_, rfl, World.ownsRow_nil _ _ _ _, Below.refl _ _⟩
  | some A1 => exact cloneM_some A1 n cp l w hr hn

theorem cfInfoS : (Try.prog.info? 137).map (fun i => (i.zero, i.size, i.bytes)) = some (some (.agg #[.int .i64 0, .int .i64 0]), 2, 16) := by kernel_rfl
set_option maxRecDepth 100000 in
set_option maxHeartbeats 1000000 in
theorem cloneS_nil (cp : Nat) (w : World) : Calls Try.prog 126 #[.slice none 0 cp] w fun e w' => e = .returned (.slice none 0 0) ∧ w = w' := by
  have hq := fun w => Lib.run_eql_slice_nil (P := Try.prog) w 75 137 none 0 cp 0 0 Try.underlying75
  go_enter Try.func126, Try.ntmps126
  go_wp2_with fail
  go_ret
  exact ⟨rfl, rfl⟩
set_option maxRecDepth 100000 in
set_option maxHeartbeats 1000000 in
theorem cloneS_some (A : Addr) (n cp : Nat) (l : List Secu) (w : World) (hr : Rd w w.heap.size 2 (some A) n (l.flatMap Secu.cells)) (hn : n ≤ 1000) : Calls Try.prog 126 #[.slice (some A) n cp] w fun e w' => ∃ v, e = .returned v ∧ w'.ownsRow w.heap.size 137 2 v n (l.flatMap Secu.cells) ∧ Below w.heap.size w w' := by
  have hq := fun w => Lib.run_eql_slice_nil (P := Try.prog) w 75 137 (some A) n cp 0 0 Try.underlying75
  have hB0 := (Below.refl w.heap.size w).alloc (Nat.le_refl _) (.cells #[] 137)
  have hr0 := hr.past hB0
  have hown : (w.alloc (.cells #[] 137)).ownsRow w.heap.size 137 2 (.slice (some ⟨w.heap.size, 0, none⟩) 0 0) 0 [] := ⟨rfl, .inr ⟨w.heap.size, 0, #[], rfl, Nat.le_refl _, heap_alloc_new w _, Nat.le_refl _, Nat.zero_le _, rfl, rfl⟩⟩
  obtain ⟨j0, hj0, jz0, jz1, jz2⟩ := info_parts cfInfoS
  have hone : ∀ u ∈ l.flatMap Secu.cells, u.oneCell' = true := by
    intro u hu
    obtain ⟨f, _, h2⟩ := List.mem_flatMap.1 hu
    simp [Secu.cells] at h2
    rcases h2 with rfl | rfl <;> rfl
  go_enter Try.func126, Try.ntmps126
  go_wp2_with (at_builtin; refine wpList_append_rd _ rfl (.tmp 5) (.tmp 6) 75 rfl w.heap.size 137 j0 _ 2 16 Try.underlying75 hj0 jz0 jz1 jz2 rfl (by decide) _ _ _ rfl hown (some A) n cp _ rfl hr0 (fun e => by cases e) hone (by omega) (by omega) (by simp) hB0 (Nat.le_refl _) ?_; intro v' w' hown' hb'; rw [Nat.zero_add, List.nil_append] at hown')
  go_ret
  exact ⟨_, rfl, hown', hb'⟩
/-- A copy of any list of these. -/
theorem cloneS_any (A : Option Addr) (n cp : Nat) (l : List Secu) (w : World) (hr : Rd w w.heap.size 2 A n (l.flatMap Secu.cells)) (hn : n ≤ 1000) (hA : A = none → n = 0) : Calls Try.prog 126 #[.slice A n cp] w fun e w' => ∃ v, e = .returned v ∧ w'.ownsRow w.heap.size 137 2 v n (l.flatMap Secu.cells) ∧ Below w.heap.size w w' := by
  cases A with
  | none =>
    obtain rfl := hA rfl
    have hl : l = [] := List.length_eq_zero_iff.1 (hr.len Secu.cells_len (by omega))
    subst hl
    refine (cloneS_nil cp w).mono ?_
    rintro e w' ⟨rfl, rfl⟩
    exact ⟨_, rfl, World.ownsRow_nil _ _ _ _, Below.refl _ _⟩
  | some A1 => exact cloneS_some A1 n cp l w hr hn

theorem cfInfoC : (Try.prog.info? 139).map (fun i => (i.zero, i.size, i.bytes)) = some (some (.agg #[.int .i64 0, .int .i64 0, .int .i64 0, .int .i64 0]), 4, 32) := by kernel_rfl
set_option maxRecDepth 100000 in
set_option maxHeartbeats 1000000 in
theorem cloneC_nil (cp : Nat) (w : World) : Calls Try.prog 127 #[.slice none 0 cp] w fun e w' => e = .returned (.slice none 0 0) ∧ w = w' := by
  have hq := fun w => Lib.run_eql_slice_nil (P := Try.prog) w 76 139 none 0 cp 0 0 Try.underlying76
  go_enter Try.func127, Try.ntmps127
  go_wp2_with fail
  go_ret
  exact ⟨rfl, rfl⟩
set_option maxRecDepth 100000 in
set_option maxHeartbeats 1000000 in
theorem cloneC_some (A : Addr) (n cp : Nat) (l : List Cyc) (w : World) (hr : Rd w w.heap.size 4 (some A) n (l.flatMap Cyc.cells)) (hn : n ≤ 1000) : Calls Try.prog 127 #[.slice (some A) n cp] w fun e w' => ∃ v, e = .returned v ∧ w'.ownsRow w.heap.size 139 4 v n (l.flatMap Cyc.cells) ∧ Below w.heap.size w w' := by
  have hq := fun w => Lib.run_eql_slice_nil (P := Try.prog) w 76 139 (some A) n cp 0 0 Try.underlying76
  have hB0 := (Below.refl w.heap.size w).alloc (Nat.le_refl _) (.cells #[] 139)
  have hr0 := hr.past hB0
  have hown : (w.alloc (.cells #[] 139)).ownsRow w.heap.size 139 4 (.slice (some ⟨w.heap.size, 0, none⟩) 0 0) 0 [] := ⟨rfl, .inr ⟨w.heap.size, 0, #[], rfl, Nat.le_refl _, heap_alloc_new w _, Nat.le_refl _, Nat.zero_le _, rfl, rfl⟩⟩
  obtain ⟨j0, hj0, jz0, jz1, jz2⟩ := info_parts cfInfoC
  have hone : ∀ u ∈ l.flatMap Cyc.cells, u.oneCell' = true := by
    intro u hu
    obtain ⟨f, _, h2⟩ := List.mem_flatMap.1 hu
    simp [Cyc.cells] at h2
    rcases h2 with rfl | rfl | rfl | rfl <;> rfl
  go_enter Try.func127, Try.ntmps127
  go_wp2_with (at_builtin; refine wpList_append_rd _ rfl (.tmp 5) (.tmp 6) 76 rfl w.heap.size 139 j0 _ 4 32 Try.underlying76 hj0 jz0 jz1 jz2 rfl (by decide) _ _ _ rfl hown (some A) n cp _ rfl hr0 (fun e => by cases e) hone (by omega) (by omega) (by simp) hB0 (Nat.le_refl _) ?_; intro v' w' hown' hb'; rw [Nat.zero_add, List.nil_append] at hown')
  go_ret
  exact ⟨_, rfl, hown', hb'⟩
/-- A copy of any list of these. -/
theorem cloneC_any (A : Option Addr) (n cp : Nat) (l : List Cyc) (w : World) (hr : Rd w w.heap.size 4 A n (l.flatMap Cyc.cells)) (hn : n ≤ 1000) (hA : A = none → n = 0) : Calls Try.prog 127 #[.slice A n cp] w fun e w' => ∃ v, e = .returned v ∧ w'.ownsRow w.heap.size 139 4 v n (l.flatMap Cyc.cells) ∧ Below w.heap.size w w' := by
  cases A with
  | none =>
    obtain rfl := hA rfl
    have hl : l = [] := List.length_eq_zero_iff.1 (hr.len Cyc.cells_len (by omega))
    subst hl
    refine (cloneC_nil cp w).mono ?_
    rintro e w' ⟨rfl, rfl⟩
    exact ⟨_, rfl, World.ownsRow_nil _ _ _ _, Below.refl _ _⟩
  | some A1 => exact cloneC_some A1 n cp l w hr hn

end Go.Proofs.Ytelbolhckhdioaa
