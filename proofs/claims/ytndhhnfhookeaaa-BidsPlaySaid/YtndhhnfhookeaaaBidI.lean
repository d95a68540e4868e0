import Derived.Test.YtndhhnfhookeaaaBidH
import Derived.Deep.RegionHeld3
namespace Go.Proofs.Ytndhhnfhookeaaa
open Go.RowKit

set_option maxRecDepth 100000 in
set_option maxHeartbeats 8000000 in
theorem bidsMay_many (A1 A2 A3 : Option Addr) (n1 n2 n3 cp1 cp2 cp3 : Nat) (cf : Conf) (b : BidV) (x : CommB) (w : World) (hf : fewB n1 n2 n3 = false) :
    Calls Try.prog 11 #[.agg #[.slice A1 n1 cp1, .slice A2 n2 cp2, .slice A3 n3 cp3, .int .i64 cf.line, .int .i64 cf.capital, .int .i64 cf.lead, .int .i64 cf.trades, .int .i64 cf.bids], .agg #[.int .i64 b.seq, .int .i64 b.mem, .int .i64 b.sec, .int .i64 b.qty, .int .i64 b.price], .agg #[.int .i64 x.kind, .int .i64 x.id, .int .i64 x.member, .int .i64 x.other, .int .i64 x.sec, .int .i64 x.qty, .int .i64 x.price]] w fun e w' => e = .returned (.bool true) ∧ Below w.heap.size w w' := by
  have Hhf := Lib.hid hf
  clear hf
  obtain ⟨W, hW⟩ : ∃ W, Hid (((w.alloc (.cells #[.slice A1 n1 cp1, .slice A2 n2 cp2, .slice A3 n3 cp3, .int .i64 cf.line, .int .i64 cf.capital, .int .i64 cf.lead, .int .i64 cf.trades, .int .i64 cf.bids] 51)).alloc (.cells #[.int .i64 b.seq, .int .i64 b.mem, .int .i64 b.sec, .int .i64 b.qty, .int .i64 b.price] 90)).alloc (.cells #[.int .i64 x.kind, .int .i64 x.id, .int .i64 x.member, .int .i64 x.other, .int .i64 x.sec, .int .i64 x.qty, .int .i64 x.price] 99) = W) := ⟨_, Lib.hid rfl⟩
  have hB0 : Below w.heap.size w W := by rw [← hW.out]; exact (((Below.refl _ _).alloc (Nat.le_refl _) _).alloc (by simp) _).alloc (by simp; omega) _
  have hs0 : W.heap.size = w.heap.size + 3 := by rw [← hW.out]; simp
  have bc0 : Blk W w.heap.size 51 #[.slice A1 n1 cp1, .slice A2 n2 cp2, .slice A3 n3 cp3, .int .i64 cf.line, .int .i64 cf.capital, .int .i64 cf.lead, .int .i64 cf.trades, .int .i64 cf.bids] := by
    rw [← hW.out]; exact ((Blk.new w _ _ _ rfl).alloc _).alloc _
  have bb0 : Blk W (w.heap.size + 1) 90 #[.int .i64 b.seq, .int .i64 b.mem, .int .i64 b.sec, .int .i64 b.qty, .int .i64 b.price] := by
    rw [← hW.out]; exact (Blk.new (w.alloc (.cells #[.slice A1 n1 cp1, .slice A2 n2 cp2, .slice A3 n3 cp3, .int .i64 cf.line, .int .i64 cf.capital, .int .i64 cf.lead, .int .i64 cf.trades, .int .i64 cf.bids] 51)) _ _ _ (by simp)).alloc _
  have bx0 : Blk W (w.heap.size + 2) 99 #[.int .i64 x.kind, .int .i64 x.id, .int .i64 x.member, .int .i64 x.other, .int .i64 x.sec, .int .i64 x.qty, .int .i64 x.price] := by
    rw [← hW.out]; exact Blk.new _ _ _ _ (by simp)
  have KP : ∀ w', Below W.heap.size W w' → (w'.cell? ⟨w.heap.size, 0, none⟩ = some (.slice A1 n1 cp1) ∧ w'.cell? ⟨w.heap.size, 1, none⟩ = some (.slice A2 n2 cp2) ∧ w'.cell? ⟨w.heap.size, 2, none⟩ = some (.slice A3 n3 cp3) ∧ w'.cell? ⟨w.heap.size, 3, none⟩ = some (.int .i64 cf.line) ∧ w'.cell? ⟨w.heap.size, 4, none⟩ = some (.int .i64 cf.capital) ∧ w'.cell? ⟨w.heap.size, 5, none⟩ = some (.int .i64 cf.lead) ∧ w'.cell? ⟨w.heap.size, 6, none⟩ = some (.int .i64 cf.trades) ∧ w'.cell? ⟨w.heap.size, 7, none⟩ = some (.int .i64 cf.bids) ∧ w'.cell? ⟨w.heap.size + 1, 0, none⟩ = some (.int .i64 b.seq) ∧ w'.cell? ⟨w.heap.size + 1, 1, none⟩ = some (.int .i64 b.mem) ∧ w'.cell? ⟨w.heap.size + 1, 2, none⟩ = some (.int .i64 b.sec) ∧ w'.cell? ⟨w.heap.size + 1, 3, none⟩ = some (.int .i64 b.qty) ∧ w'.cell? ⟨w.heap.size + 1, 4, none⟩ = some (.int .i64 b.price) ∧ Below W.heap.size W w') := fun w' h => ⟨(bc0.past h).cell 0, (bc0.past h).cell 1, (bc0.past h).cell 2, (bc0.past h).cell 3, (bc0.past h).cell 4, (bc0.past h).cell 5, (bc0.past h).cell 6, (bc0.past h).cell 7, (bb0.past h).cell 0, (bb0.past h).cell 1, (bb0.past h).cell 2, (bb0.past h).cell 3, (bb0.past h).cell 4, h⟩
  obtain ⟨e0, e1, e2, e3, e4, e5, e6, e7, f0, f1, f2, f3, f4, _⟩ := KP W (Below.refl _ _)
  have HK := Lib.hid KP
  have HC0 := Lib.hid bc0
  have HX0 := Lib.hid bx0
  have hWW := Below.refl W.heap.size W
  clear KP bc0 bb0 bx0
  go_enter Try.func11, Try.ntmps11
  go_upto_region 1 with fail
  rw [hW.out]
  refine wp_region_held_drew (S := fun w' => w'.cell? ⟨w.heap.size, 0, none⟩ = some (.slice A1 n1 cp1) ∧ w'.cell? ⟨w.heap.size, 1, none⟩ = some (.slice A2 n2 cp2) ∧ w'.cell? ⟨w.heap.size, 2, none⟩ = some (.slice A3 n3 cp3) ∧ w'.cell? ⟨w.heap.size, 3, none⟩ = some (.int .i64 cf.line) ∧ w'.cell? ⟨w.heap.size, 4, none⟩ = some (.int .i64 cf.capital) ∧ w'.cell? ⟨w.heap.size, 5, none⟩ = some (.int .i64 cf.lead) ∧ w'.cell? ⟨w.heap.size, 6, none⟩ = some (.int .i64 cf.trades) ∧ w'.cell? ⟨w.heap.size, 7, none⟩ = some (.int .i64 cf.bids) ∧ w'.cell? ⟨w.heap.size + 1, 0, none⟩ = some (.int .i64 b.seq) ∧ w'.cell? ⟨w.heap.size + 1, 1, none⟩ = some (.int .i64 b.mem) ∧ w'.cell? ⟨w.heap.size + 1, 2, none⟩ = some (.int .i64 b.sec) ∧ w'.cell? ⟨w.heap.size + 1, 3, none⟩ = some (.int .i64 b.qty) ∧ w'.cell? ⟨w.heap.size + 1, 4, none⟩ = some (.int .i64 b.price) ∧ Below W.heap.size W w') (by kernel_rfl) (HK.out _ (Below.drew hWW)) (fun hHeld => ?_)
  refine wpAnyH_take (i := 0) (v := ?_) rfl (by kernel_rfl) (by kernel_rfl) (by kernel_rfl) (fun _ _ _ h => h) (Or.inl ⟨by rfl, ?_⟩) (by assumption) ?_
  rotate_left
  · (intro w' hSw; (try dsimp only at hSw); first | (go_simp; done) | (go_simp; with_reducible rfl))
  try simp only [Act.put, List.getElem_toArray, List.getElem_cons_zero, List.getElem_cons_succ, List.setIfInBounds_toArray, List.set_cons_zero, List.set_cons_succ]
  refine wpAnyH_ready (rs := [1]) (by kernel_rfl) (by simp) ?_
  refine AllReadyH.cons rfl (fun K hK => ?_) AllReadyH.nil
  go_simp
  go_at_call 27
  refine (few_any A1 A2 A3 n1 n2 n3 cp1 cp2 cp3 cf _).mono ?_
  rw [Hhf.out]
  rintro e w4 ⟨rfl, hb4⟩
  refine hK.out _ _ (HK.out _ (Below.next hHeld.2.2.2.2.2.2.2.2.2.2.2.2.2 hb4)) (fun hHeld2 => ?_)
  try simp only [Act.put, List.getElem_toArray, List.getElem_cons_zero, List.getElem_cons_succ, List.setIfInBounds_toArray, List.set_cons_zero, List.set_cons_succ]
  refine wpAnyH_take (i := 2) (v := ?_) rfl (by kernel_rfl) (by kernel_rfl) (by kernel_rfl) (fun _ _ _ h => h) (Or.inl ⟨by rfl, ?_⟩) (by assumption) ?_
  rotate_left
  · (intro w' hSw; (try dsimp only at hSw); first | (go_simp; done) | (go_simp; with_reducible rfl))
  try simp only [Act.put, List.getElem_toArray, List.getElem_cons_zero, List.getElem_cons_succ, List.setIfInBounds_toArray, List.set_cons_zero, List.set_cons_succ]
  refine wpAnyH_take (i := 3) (v := ?_) rfl (by kernel_rfl) (by kernel_rfl) (by kernel_rfl) (fun _ _ _ h => h) (Or.inl ⟨by rfl, ?_⟩) (by assumption) ?_
  rotate_left
  · (intro w' hSw; (try dsimp only at hSw); first | (go_simp; done) | (go_simp; with_reducible rfl))
  try simp only [Act.put, List.getElem_toArray, List.getElem_cons_zero, List.getElem_cons_succ, List.setIfInBounds_toArray, List.set_cons_zero, List.set_cons_succ]
  refine wpAnyH_take (i := 4) (v := undef) rfl (by kernel_rfl) (by kernel_rfl) (by kernel_rfl) (fun _ _ _ h => h) (Or.inr ⟨by rfl, rfl⟩) (by assumption) ?_
  try simp only [Act.put, List.getElem_toArray, List.getElem_cons_zero, List.getElem_cons_succ, List.setIfInBounds_toArray, List.set_cons_zero, List.set_cons_succ]
  refine wpAnyH_take (i := 5) (v := undef) rfl (by kernel_rfl) (by kernel_rfl) (by kernel_rfl) (fun _ _ _ h => h) (Or.inr ⟨by rfl, rfl⟩) (by assumption) ?_
  try simp only [Act.put, List.getElem_toArray, List.getElem_cons_zero, List.getElem_cons_succ, List.setIfInBounds_toArray, List.set_cons_zero, List.set_cons_succ]
  refine wpAnyH_take (i := 6) (v := undef) rfl (by kernel_rfl) (by kernel_rfl) (by kernel_rfl) (fun _ _ _ h => h) (Or.inr ⟨by rfl, rfl⟩) (by assumption) ?_
  try simp only [Act.put, List.getElem_toArray, List.getElem_cons_zero, List.getElem_cons_succ, List.setIfInBounds_toArray, List.set_cons_zero, List.set_cons_succ]
  refine wpAnyH_take (i := 7) (v := undef) rfl (by kernel_rfl) (by kernel_rfl) (by kernel_rfl) (fun _ _ _ h => h) (Or.inr ⟨by rfl, rfl⟩) (by assumption) ?_
  try simp only [Act.put, List.getElem_toArray, List.getElem_cons_zero, List.getElem_cons_succ, List.setIfInBounds_toArray, List.set_cons_zero, List.set_cons_succ]
  refine wpAnyH_take (i := 8) (v := undef) rfl (by kernel_rfl) (by kernel_rfl) (by kernel_rfl) (fun _ _ _ h => h) (Or.inr ⟨by rfl, rfl⟩) (by assumption) ?_
  try simp only [Act.put, List.getElem_toArray, List.getElem_cons_zero, List.getElem_cons_succ, List.setIfInBounds_toArray, List.set_cons_zero, List.set_cons_succ]
  refine wpAnyH_take (i := 9) (v := undef) rfl (by kernel_rfl) (by kernel_rfl) (by kernel_rfl) (fun _ _ _ h => h) (Or.inr ⟨by rfl, rfl⟩) (by assumption) ?_
  try simp only [Act.put, List.getElem_toArray, List.getElem_cons_zero, List.getElem_cons_succ, List.setIfInBounds_toArray, List.set_cons_zero, List.set_cons_succ]
  refine wpAnyH_take (i := 10) (v := undef) rfl (by kernel_rfl) (by kernel_rfl) (by kernel_rfl) (fun _ _ _ h => h) (Or.inr ⟨by rfl, rfl⟩) (by assumption) ?_
  try simp only [Act.put, List.getElem_toArray, List.getElem_cons_zero, List.getElem_cons_succ, List.setIfInBounds_toArray, List.set_cons_zero, List.set_cons_succ]
  refine wpAnyH_take (i := 11) (v := ?_) rfl (by kernel_rfl) (by kernel_rfl) (by kernel_rfl) (fun _ _ _ h => h) (Or.inl ⟨by rfl, ?_⟩) (by assumption) ?_
  rotate_left
  · (intro w' hSw; (try dsimp only at hSw); first | (go_simp; done) | (go_simp; with_reducible rfl))
  try simp only [Act.put, List.getElem_toArray, List.getElem_cons_zero, List.getElem_cons_succ, List.setIfInBounds_toArray, List.set_cons_zero, List.set_cons_succ]
  refine wpAnyH_done (by kernel_rfl) ?_ _
  have hW4 : Below W.heap.size W w4 := hHeld2.2.2.2.2.2.2.2.2.2.2.2.2.2
  clear hHeld hHeld2 hb4
  go_wp2_with fail
  refine (awake24 _).mono ?_
  rintro e w6 ⟨rfl, hb6⟩
  have hW6 := Below.next hW4 hb6
  have bc6 := HC0.out.past hW6
  have p0 := bc6.cell 0
  have p1 := bc6.cell 1
  have p2 := bc6.cell 2
  have p3 := bc6.cell 3
  have p4 := bc6.cell 4
  have p5 := bc6.cell 5
  have p6 := bc6.cell 6
  have p7 := bc6.cell 7
  simp at p0 p1 p2 p3 p4 p5 p6 p7
  clear hb6 bc6
  go_wp2_with fail
  refine (few_any A1 A2 A3 n1 n2 n3 cp1 cp2 cp3 cf _).mono ?_
  rw [Hhf.out]
  rintro e w8 ⟨rfl, hb8⟩
  have hW8 := Below.next hW6 hb8
  go_wp2_with fail
  go_ret
  exact ⟨rfl, Below.next' hB0 hW8 (Nat.le_refl _)⟩

set_option maxRecDepth 100000 in
set_option maxHeartbeats 8000000 in
theorem bidsMay_few (A1 A2 A3 : Option Addr) (n1 n2 n3 cp1 cp2 cp3 : Nat) (cf : Conf) (b : BidV) (x : CommB) (w : World) (hr : CfRd w A1 n1 A2 n2 A3 n3 cf) (hf : fewB n1 n2 n3 = true) :
    Calls Try.prog 11 #[.agg #[.slice A1 n1 cp1, .slice A2 n2 cp2, .slice A3 n3 cp3, .int .i64 cf.line, .int .i64 cf.capital, .int .i64 cf.lead, .int .i64 cf.trades, .int .i64 cf.bids], .agg #[.int .i64 b.seq, .int .i64 b.mem, .int .i64 b.sec, .int .i64 b.qty, .int .i64 b.price], .agg #[.int .i64 x.kind, .int .i64 x.id, .int .i64 x.member, .int .i64 x.other, .int .i64 x.sec, .int .i64 x.qty, .int .i64 x.price]] w fun e w' => e = .returned (.bool true) ∧ Below w.heap.size w w' := by
  have Hhf := Lib.hid hf
  clear hf
  obtain ⟨W, hW⟩ : ∃ W, Hid (((w.alloc (.cells #[.slice A1 n1 cp1, .slice A2 n2 cp2, .slice A3 n3 cp3, .int .i64 cf.line, .int .i64 cf.capital, .int .i64 cf.lead, .int .i64 cf.trades, .int .i64 cf.bids] 51)).alloc (.cells #[.int .i64 b.seq, .int .i64 b.mem, .int .i64 b.sec, .int .i64 b.qty, .int .i64 b.price] 90)).alloc (.cells #[.int .i64 x.kind, .int .i64 x.id, .int .i64 x.member, .int .i64 x.other, .int .i64 x.sec, .int .i64 x.qty, .int .i64 x.price] 99) = W) := ⟨_, Lib.hid rfl⟩
  have hB0 : Below w.heap.size w W := by rw [← hW.out]; exact (((Below.refl _ _).alloc (Nat.le_refl _) _).alloc (by simp) _).alloc (by simp; omega) _
  have hs0 : W.heap.size = w.heap.size + 3 := by rw [← hW.out]; simp
  have bc0 : Blk W w.heap.size 51 #[.slice A1 n1 cp1, .slice A2 n2 cp2, .slice A3 n3 cp3, .int .i64 cf.line, .int .i64 cf.capital, .int .i64 cf.lead, .int .i64 cf.trades, .int .i64 cf.bids] := by
    rw [← hW.out]; exact ((Blk.new w _ _ _ rfl).alloc _).alloc _
  have bb0 : Blk W (w.heap.size + 1) 90 #[.int .i64 b.seq, .int .i64 b.mem, .int .i64 b.sec, .int .i64 b.qty, .int .i64 b.price] := by
    rw [← hW.out]; exact (Blk.new (w.alloc (.cells #[.slice A1 n1 cp1, .slice A2 n2 cp2, .slice A3 n3 cp3, .int .i64 cf.line, .int .i64 cf.capital, .int .i64 cf.lead, .int .i64 cf.trades, .int .i64 cf.bids] 51)) _ _ _ (by simp)).alloc _
  have bx0 : Blk W (w.heap.size + 2) 99 #[.int .i64 x.kind, .int .i64 x.id, .int .i64 x.member, .int .i64 x.other, .int .i64 x.sec, .int .i64 x.qty, .int .i64 x.price] := by
    rw [← hW.out]; exact Blk.new _ _ _ _ (by simp)
  have KP : ∀ w', Below W.heap.size W w' → (w'.cell? ⟨w.heap.size, 0, none⟩ = some (.slice A1 n1 cp1) ∧ w'.cell? ⟨w.heap.size, 1, none⟩ = some (.slice A2 n2 cp2) ∧ w'.cell? ⟨w.heap.size, 2, none⟩ = some (.slice A3 n3 cp3) ∧ w'.cell? ⟨w.heap.size, 3, none⟩ = some (.int .i64 cf.line) ∧ w'.cell? ⟨w.heap.size, 4, none⟩ = some (.int .i64 cf.capital) ∧ w'.cell? ⟨w.heap.size, 5, none⟩ = some (.int .i64 cf.lead) ∧ w'.cell? ⟨w.heap.size, 6, none⟩ = some (.int .i64 cf.trades) ∧ w'.cell? ⟨w.heap.size, 7, none⟩ = some (.int .i64 cf.bids) ∧ w'.cell? ⟨w.heap.size + 1, 0, none⟩ = some (.int .i64 b.seq) ∧ w'.cell? ⟨w.heap.size + 1, 1, none⟩ = some (.int .i64 b.mem) ∧ w'.cell? ⟨w.heap.size + 1, 2, none⟩ = some (.int .i64 b.sec) ∧ w'.cell? ⟨w.heap.size + 1, 3, none⟩ = some (.int .i64 b.qty) ∧ w'.cell? ⟨w.heap.size + 1, 4, none⟩ = some (.int .i64 b.price) ∧ Below W.heap.size W w') := fun w' h => ⟨(bc0.past h).cell 0, (bc0.past h).cell 1, (bc0.past h).cell 2, (bc0.past h).cell 3, (bc0.past h).cell 4, (bc0.past h).cell 5, (bc0.past h).cell 6, (bc0.past h).cell 7, (bb0.past h).cell 0, (bb0.past h).cell 1, (bb0.past h).cell 2, (bb0.past h).cell 3, (bb0.past h).cell 4, h⟩
  obtain ⟨e0, e1, e2, e3, e4, e5, e6, e7, f0, f1, f2, f3, f4, _⟩ := KP W (Below.refl _ _)
  have HK := Lib.hid KP
  have HC0 := Lib.hid bc0
  have HX0 := Lib.hid bx0
  have hWW := Below.refl W.heap.size W
  clear KP bc0 bb0 bx0
  have HR0 := Lib.hid (hr.past hB0)
  clear hr
  obtain ⟨C, hC⟩ : ∃ v, Hid (checkB cf n1 n2 b = v) := ⟨_, Lib.hid rfl⟩
  have qC : (C != C) = false := by simp
  go_enter Try.func11, Try.ntmps11
  go_upto_region 1 with fail
  rw [hW.out]
  go_region_held3 (fun w' => w'.cell? ⟨w.heap.size, 0, none⟩ = some (.slice A1 n1 cp1) ∧ w'.cell? ⟨w.heap.size, 1, none⟩ = some (.slice A2 n2 cp2) ∧ w'.cell? ⟨w.heap.size, 2, none⟩ = some (.slice A3 n3 cp3) ∧ w'.cell? ⟨w.heap.size, 3, none⟩ = some (.int .i64 cf.line) ∧ w'.cell? ⟨w.heap.size, 4, none⟩ = some (.int .i64 cf.capital) ∧ w'.cell? ⟨w.heap.size, 5, none⟩ = some (.int .i64 cf.lead) ∧ w'.cell? ⟨w.heap.size, 6, none⟩ = some (.int .i64 cf.trades) ∧ w'.cell? ⟨w.heap.size, 7, none⟩ = some (.int .i64 cf.bids) ∧ w'.cell? ⟨w.heap.size + 1, 0, none⟩ = some (.int .i64 b.seq) ∧ w'.cell? ⟨w.heap.size + 1, 1, none⟩ = some (.int .i64 b.mem) ∧ w'.cell? ⟨w.heap.size + 1, 2, none⟩ = some (.int .i64 b.sec) ∧ w'.cell? ⟨w.heap.size + 1, 3, none⟩ = some (.int .i64 b.qty) ∧ w'.cell? ⟨w.heap.size + 1, 4, none⟩ = some (.int .i64 b.price) ∧ Below W.heap.size W w') ((go_split_ands; refine HK.out _ ?_; first | assumption | exact Below.drew (by assumption) | exact Below.next (by assumption) (by assumption))) (first
    | (go_at_call 27; go_split_ands; refine (few_any A1 A2 A3 n1 n2 n3 cp1 cp2 cp3 cf _).mono ?_; rw [Hhf.out]; rintro e w4 ⟨rfl, hb4⟩)
    | (go_at_call 50; go_split_ands; refine (checkB_any A1 A2 A3 n1 n2 n3 cp1 cp2 cp3 cf b _ (HR0.out.past (by assumption))).mono ?_; rw [hC.out]; rintro e w4 ⟨rfl, hb4⟩)
    | (go_at_call 51; go_split_ands; refine (refCheckB_any A1 A2 A3 n1 n2 n3 cp1 cp2 cp3 cf b _ (HR0.out.past (by assumption))).mono ?_; rw [hC.out]; rintro e w4 ⟨rfl, hb4⟩))
  all_goals
    go_split_ands
    have hW4 : Below W.heap.size W w4 := by assumption
    have bx4 := HX0.out.past hW4
    have x0 := (bx4).cell 0
    have x1 := (bx4).cell 1
    have x2 := (bx4).cell 2
    have x3 := (bx4).cell 3
    have x4 := (bx4).cell 4
    have x5 := (bx4).cell 5
    have x6 := (bx4).cell 6
    simp at x0 x1 x2 x3 x4 x5 x6
    by_cases hk : x.kind = 7
    · have Hk := Lib.hid hk
      clear hk
      go_wp2_with fail
      refine (ofB_yes x _ Hk.out).mono ?_
      rintro e w5 ⟨rfl, hb5⟩
      have bx5 := bx4.past hb5
      have hW5 := Below.next hW4 hb5
      have q : (x.kind != 7) = false := by simpa using Hk.out
      clear x0 x1 x2 x3 x4 x5 x6
      have x0 : ∀ o : Obj, (w5.alloc o).cell? ⟨w.heap.size + 2, 0, none⟩ = some _ := fun o => (bx5.alloc o).cell 0
      have x1 : ∀ o : Obj, (w5.alloc o).cell? ⟨w.heap.size + 2, 1, none⟩ = some _ := fun o => (bx5.alloc o).cell 1
      have x2 : ∀ o : Obj, (w5.alloc o).cell? ⟨w.heap.size + 2, 2, none⟩ = some _ := fun o => (bx5.alloc o).cell 2
      have x3 : ∀ o : Obj, (w5.alloc o).cell? ⟨w.heap.size + 2, 3, none⟩ = some _ := fun o => (bx5.alloc o).cell 3
      have x4 : ∀ o : Obj, (w5.alloc o).cell? ⟨w.heap.size + 2, 4, none⟩ = some _ := fun o => (bx5.alloc o).cell 4
      have x5 : ∀ o : Obj, (w5.alloc o).cell? ⟨w.heap.size + 2, 5, none⟩ = some _ := fun o => (bx5.alloc o).cell 5
      have x6 : ∀ o : Obj, (w5.alloc o).cell? ⟨w.heap.size + 2, 6, none⟩ = some _ := fun o => (bx5.alloc o).cell 6
      go_wp2_with fail
      have by5 := Blk.new w5 90 #[.int .i64 0, .int .i64 x.member, .int .i64 x.sec, .int .i64 x.qty, .int .i64 x.price] w5.heap.size rfl
      have bz5 := bx5.alloc (.cells #[.int .i64 0, .int .i64 x.member, .int .i64 x.sec, .int .i64 x.qty, .int .i64 x.price] 90)
      have hW6 := hW5.alloc hW5.size (.cells #[.int .i64 0, .int .i64 x.member, .int .i64 x.sec, .int .i64 x.qty, .int .i64 x.price] 90)
      refine (awake24 _).mono ?_
      rintro e w7 ⟨rfl, hb7⟩
      have by7 := by5.past hb7
      have bz7 := bz5.past hb7
      clear x0 x1 x2 x3 x4 x5 x6
      have x0 := (bz7).cell 0
      have x1 := (bz7).cell 1
      have x2 := (bz7).cell 2
      have x3 := (bz7).cell 3
      have x4 := (bz7).cell 4
      have x5 := (bz7).cell 5
      have x6 := (bz7).cell 6
      simp at x0 x1 x2 x3 x4 x5 x6
      have y0 := (by7).cell 0
      have y1 := (by7).cell 1
      have y2 := (by7).cell 2
      have y3 := (by7).cell 3
      have y4 := (by7).cell 4
      simp at y0 y1 y2 y3 y4
      go_wp2_with fail
      go_ret
      exact ⟨rfl, Below.next' hB0 (Below.past hW6 hb7 hW6.size) (Nat.le_refl _)⟩
    · have Hk := Lib.hid hk
      clear hk
      go_wp2_with fail
      refine (ofB_no x _ Hk.out).mono ?_
      rintro e w5 ⟨rfl, hb5⟩
      have bx5 := bx4.past hb5
      have hW5 := Below.next hW4 hb5
      have q : (x.kind != 7) = true := by simpa using Hk.out
      clear x0 x1 x2 x3 x4 x5 x6
      have x0 : ∀ o : Obj, (w5.alloc o).cell? ⟨w.heap.size + 2, 0, none⟩ = some _ := fun o => (bx5.alloc o).cell 0
      have x1 : ∀ o : Obj, (w5.alloc o).cell? ⟨w.heap.size + 2, 1, none⟩ = some _ := fun o => (bx5.alloc o).cell 1
      have x2 : ∀ o : Obj, (w5.alloc o).cell? ⟨w.heap.size + 2, 2, none⟩ = some _ := fun o => (bx5.alloc o).cell 2
      have x3 : ∀ o : Obj, (w5.alloc o).cell? ⟨w.heap.size + 2, 3, none⟩ = some _ := fun o => (bx5.alloc o).cell 3
      have x4 : ∀ o : Obj, (w5.alloc o).cell? ⟨w.heap.size + 2, 4, none⟩ = some _ := fun o => (bx5.alloc o).cell 4
      have x5 : ∀ o : Obj, (w5.alloc o).cell? ⟨w.heap.size + 2, 5, none⟩ = some _ := fun o => (bx5.alloc o).cell 5
      have x6 : ∀ o : Obj, (w5.alloc o).cell? ⟨w.heap.size + 2, 6, none⟩ = some _ := fun o => (bx5.alloc o).cell 6
      go_wp2_with fail
      have by5 := Blk.new w5 90 #[.int .i64 0, .int .i64 0, .int .i64 0, .int .i64 0, .int .i64 0] w5.heap.size rfl
      have bz5 := bx5.alloc (.cells #[.int .i64 0, .int .i64 0, .int .i64 0, .int .i64 0, .int .i64 0] 90)
      have hW6 := hW5.alloc hW5.size (.cells #[.int .i64 0, .int .i64 0, .int .i64 0, .int .i64 0, .int .i64 0] 90)
      refine (awake24 _).mono ?_
      rintro e w7 ⟨rfl, hb7⟩
      have by7 := by5.past hb7
      have bz7 := bz5.past hb7
      clear x0 x1 x2 x3 x4 x5 x6
      have x0 := (bz7).cell 0
      have x1 := (bz7).cell 1
      have x2 := (bz7).cell 2
      have x3 := (bz7).cell 3
      have x4 := (bz7).cell 4
      have x5 := (bz7).cell 5
      have x6 := (bz7).cell 6
      simp at x0 x1 x2 x3 x4 x5 x6
      have y0 := (by7).cell 0
      have y1 := (by7).cell 1
      have y2 := (by7).cell 2
      have y3 := (by7).cell 3
      have y4 := (by7).cell 4
      simp at y0 y1 y2 y3 y4
      go_wp2_with fail
      go_ret
      exact ⟨rfl, Below.next' hB0 (Below.past hW6 hb7 hW6.size) (Nat.le_refl _)⟩
end Go.Proofs.Ytndhhnfhookeaaa
