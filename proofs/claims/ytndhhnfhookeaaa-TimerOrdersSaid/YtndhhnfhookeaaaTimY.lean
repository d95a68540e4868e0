import Derived.Test.YtndhhnfhookeaaaTimX
namespace Go.Proofs.Ytndhhnfhookeaaa
open Go.RowKit

set_option maxRecDepth 100000 in
set_option maxHeartbeats 2000000 in
theorem copy_any (g : Nat) (room : Int) (base : Nat) (ts : List Tim) (w : World) (hw : Wh w g room base ts) (hl : ts.length ≤ 1000) :
    Calls Try.prog 16 #[.pointer (some ⟨g, 0, none⟩)] w fun e w' => ∃ g', e = .returned (.pointer (some ⟨g', 0, none⟩)) ∧ w.heap.size ≤ g' ∧ Wh w' g' room w.heap.size ts ∧ Below w.heap.size w w' := by
  obtain ⟨A, c, bl, hown⟩ := hw
  have hr := Rd.of_own hown
  have l0 := bl.cell 0
  have l1 := bl.cell 1
  simp at l0 l1
  have hC : Hid (Calls Try.prog 60 #[.slice A ts.length c] w.drew fun e w' => ∃ v, e = .returned v ∧ w'.ownsRow w.heap.size 29 4 v ts.length (ts.flatMap Tim.cells) ∧ Below w.heap.size w w') := by
    cases A with
    | none =>
      rcases hown.2 with ⟨h1, h2⟩ | ⟨g1, cap, cur, hv, _⟩
      · have h0 := List.length_eq_zero_iff.1 h2
        subst h0
        cases h1
        refine Lib.hid ((cloneT_nil _).mono ?_)
        rintro e w1 ⟨rfl, rfl⟩
        exact ⟨_, rfl, World.ownsRow_nil _ _ _ _, (Below.refl _ w).drew⟩
      · cases hv
    | some A1 =>
      refine Lib.hid ((cloneT_some A1 _ c ts w.drew hr hl).mono ?_)
      rintro e w1 ⟨v, rfl, h1, h2⟩
      exact ⟨v, rfl, h1, ⟨h2.os, h2.tape, h2.output, h2.size, h2.block⟩⟩
  obtain ⟨n, hn⟩ : ∃ n, Hid (ts.length = n) := ⟨_, Lib.hid rfl⟩
  rw [hn.out] at hC l1
  have HBL := Lib.hid bl
  rw [hn.out] at HBL
  clear hown hr bl hl
  go_enter Try.func16, Try.ntmps16
  go_wp2_with fail
  go_region_with (go_at_call 60; refine hC.out.mono ?_; rintro e w1 ⟨v, rfl, hov, hb⟩; obtain ⟨A2, c2, rfl⟩ := own_form hov; have bl1 := HBL.out.past hb; have m0 := bl1.cell 0; have m1 := bl1.cell 1; simp at m0 m1; have hs := hb.size; have bn := Blk.new w1 113 #[.int .i64 room, .slice A2 n c2] w1.heap.size rfl; have hov2 := hov.alloc (.cells #[.int .i64 room, .slice A2 n c2] 113); have hb2 := hb.alloc hs (.cells #[.int .i64 room, .slice A2 n c2] 113))
  all_goals
    go_wp2_with fail
    go_ret
    exact ⟨_, rfl, hs, ⟨A2, c2, by rw [hn.out]; exact bn, by rw [hn.out]; exact hov2⟩, hb2⟩
end Go.Proofs.Ytndhhnfhookeaaa
