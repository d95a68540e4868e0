import Derived.Test.YtoohfbgbhjadgaaKeyD
namespace Go.Proofs.Ytoohfbgbhjadgaa
open Go.RowKit

theorem ordK_page : ordK [[2], [1, 5], [1]] = [2, 1, 0] :=
  (ordK_only (keys := [[2], [1, 5], [1]]) (l := [2, 1, 0]) (by decide) (fun x => by simp; omega)).symm

set_option maxHeartbeats 4000000 in
set_option maxRecDepth 100000 in
theorem awake5 (w : World) : Calls Try.prog 15 #[] w fun e w' => e = .returned (.bool true) ∧ Below w.heap.size w w' := by
  have hB1 := (Below.refl w.heap.size w).alloc (Nat.le_refl _) (.cells #[.int .i64 2] 2)
  have r1 := Rd.lit (n := 1) (sz := 1) w #[.int .i64 2] 2 w.heap.size rfl rfl
  have hB2 := hB1.alloc (by simp) (.cells #[.int .i64 1, .int .i64 5] 2)
  have r2 := Rd.lit (n := 2) (sz := 1) (w.alloc (.cells #[.int .i64 2] 2)) #[.int .i64 1, .int .i64 5] 2 (w.heap.size + 1) (by simp) rfl
  have hB3 := hB2.alloc (by simp; omega) (.cells #[.int .i64 1] 2)
  have r3 := Rd.lit (n := 1) (sz := 1) ((w.alloc (.cells #[.int .i64 2] 2)).alloc (.cells #[.int .i64 1, .int .i64 5] 2)) #[.int .i64 1] 2 (w.heap.size + 2) (by simp) rfl
  have r1' := (r1.alloc (.cells #[.int .i64 1, .int .i64 5] 2)).alloc (.cells #[.int .i64 1] 2)
  have r2' := r2.alloc (.cells #[.int .i64 1] 2)
  obtain ⟨W, hW⟩ : ∃ W, Hid (((w.alloc (.cells #[.int .i64 2] 2)).alloc (.cells #[.int .i64 1, .int .i64 5] 2)).alloc (.cells #[.int .i64 1] 2) = W) := ⟨_, Lib.hid rfl⟩
  rw [hW.out] at hB3 r1' r2' r3
  have hWs : W.heap.size = w.heap.size + 3 := by rw [← hW.out]; simp
  have r4 := Rd.lit (n := 3) (sz := 1) W #[.slice (some ⟨w.heap.size, 0, none⟩) 1 1, .slice (some ⟨w.heap.size + 1, 0, none⟩) 2 2, .slice (some ⟨w.heap.size + 2, 0, none⟩) 1 1] 22 (w.heap.size + 3) hWs.symm rfl
  have hB4 := hB3.alloc (by omega) (.cells #[.slice (some ⟨w.heap.size, 0, none⟩) 1 1, .slice (some ⟨w.heap.size + 1, 0, none⟩) 2 2, .slice (some ⟨w.heap.size + 2, 0, none⟩) 1 1] 22)
  have r1'' := r1'.alloc (.cells #[.slice (some ⟨w.heap.size, 0, none⟩) 1 1, .slice (some ⟨w.heap.size + 1, 0, none⟩) 2 2, .slice (some ⟨w.heap.size + 2, 0, none⟩) 1 1] 22)
  have r2'' := r2'.alloc (.cells #[.slice (some ⟨w.heap.size, 0, none⟩) 1 1, .slice (some ⟨w.heap.size + 1, 0, none⟩) 2 2, .slice (some ⟨w.heap.size + 2, 0, none⟩) 1 1] 22)
  have r3'' := r3.alloc (.cells #[.slice (some ⟨w.heap.size, 0, none⟩) 1 1, .slice (some ⟨w.heap.size + 1, 0, none⟩) 2 2, .slice (some ⟨w.heap.size + 2, 0, none⟩) 1 1] 22)
  have HO := Lib.hid (order_any (some ⟨w.heap.size + 3, 0, none⟩) 3 3 [⟨some ⟨w.heap.size, 0, none⟩, 1, [2]⟩, ⟨some ⟨w.heap.size + 1, 0, none⟩, 2, [1, 5]⟩, ⟨some ⟨w.heap.size + 2, 0, none⟩, 1, [1]⟩] _ r4 (by
    intro v hv
    simp only [List.mem_cons, List.not_mem_nil, or_false] at hv
    rcases hv with rfl | rfl | rfl
    · exact ⟨r1'', by simp⟩
    · exact ⟨r2'', by simp⟩
    · exact ⟨r3'', by simp⟩) (by omega))
  clear r1 r2 r3 r1' r2' r4 r1'' r2'' r3'' hB1 hB2 hB3
  go_enter Try.func15, Try.ntmps15
  go_wp2_with fail
  rw [hW.out]
  refine HO.out.mono ?_
  rintro e w' ⟨A, c, rfl, hr, hb, _⟩
  have hk : ordK (keysOf [⟨some ⟨w.heap.size, 0, none⟩, 1, [2]⟩, ⟨some ⟨w.heap.size + 1, 0, none⟩, 2, [1, 5]⟩, ⟨some ⟨w.heap.size + 2, 0, none⟩, 1, [1]⟩]) = [2, 1, 0] := ordK_page
  rw [hk] at hr
  obtain ⟨b, off, rfl, hbb, hc⟩ := hr.2 (by omega)
  have c0 := hc 0 _ rfl
  have c1 := hc 1 _ rfl
  have c2 := hc 2 _ rfl
  simp only [Nat.add_zero] at c0
  have hb' := hB4.trans (hb.mono (by simp; omega))
  clear hk hr hc hb hB4
  have r5 := (Rd.lit (n := 1) (sz := 1) w' #[.int .i64 1] 2 w'.heap.size rfl rfl).alloc (.cells #[.int .i64 1, .int .i64 5] 2)
  have r6 := Rd.lit (n := 2) (sz := 1) (w'.alloc (.cells #[.int .i64 1] 2)) #[.int .i64 1, .int .i64 5] 2 (w'.heap.size + 1) (by simp) rfl
  have HC := Lib.hid (rankCmp_any (some ⟨w'.heap.size, 0, none⟩) 1 1 (some ⟨w'.heap.size + 1, 0, none⟩) 2 2 [1] [1, 5] _ _ _ r5 r6 (by omega) (by omega))
  have hbf := (hb'.alloc hb'.size (.cells #[.int .i64 1] 2)).alloc (by have := hb'.size; simp; omega) (.cells #[.int .i64 1, .int .i64 5] 2)
  clear r5 r6
  go_wp2_with fail
  refine HC.out.mono ?_
  rintro e w'' ⟨rfl, rfl⟩
  go_wp2_with fail
  go_ret
  exact ⟨rfl, hbf⟩
end Go.Proofs.Ytoohfbgbhjadgaa
