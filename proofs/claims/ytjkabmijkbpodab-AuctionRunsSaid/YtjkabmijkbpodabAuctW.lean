import Derived.Test.YtjkabmijkbpodabAuctC
namespace Go.Proofs.Ytjkabmijkbpodab
open Go.RowKit

set_option maxRecDepth 100000 in
set_option maxHeartbeats 1000000 in
theorem run_bad (A : Option Addr) (n c : Nat) (bs : List Bid) (l m : Int) (w : World) (hr : Rd w w.heap.size 5 A n (bs.flatMap Bid.cells)) (hn : n ≤ 1024) (hc : checkA bs l m ≠ 0) :
    Calls Try.prog 12 #[.slice A n c, .int .i64 l, .int .i64 m] w fun e w' => e = .returned (.tuple #[.slice none 0 0, .int .i64 (checkA bs l m)]) ∧ Below w.heap.size w w' := by
  have q : (checkA bs l m != 0) = true := by simpa using hc
  generalize hx : checkA bs l m = x at *
  have HX := Lib.hid hx
  clear hx hc
  go_enter Try.func12, Try.ntmps12
  go_wp2_with fail
  go_step3
  go_wp2_with fail
  refine (check_any A n c bs l m _ hr hn).mono ?_
  rw [HX.out]
  rintro e w1 ⟨rfl, hb1⟩
  go_wp2
  rw [Exit.noGoto_ret]
  go_ret2
  exact ⟨rfl, hb1⟩

/-- The page's bids. -/
def page : List Bid := [⟨1, 0, 0, 5, 10⟩, ⟨2, 0, 0, 5, 11⟩]
def pageFills : List Fill := [⟨⟨1, 0, 0, 5, 10⟩, 5, 50⟩, ⟨⟨2, 0, 0, 5, 11⟩, 1, 11⟩]
theorem page_run : runA page 7 64 = pageFills := rfl
theorem page_units : sumW (pageFills.map Fill.qty) = 6 := by rw [sumW_eq _ (by decide) (by decide)]; rfl
theorem page_cost : sumW (pageFills.map Fill.cost) = 61 := by rw [sumW_eq _ (by decide) (by decide)]; rfl
theorem page_ok : page.any Bid.bad = false := by decide

set_option maxRecDepth 100000 in
set_option maxHeartbeats 1000000 in
theorem awake25 (w : World) : Calls Try.prog 11 #[] w fun e w' => e = .returned (.bool true) ∧ Below w.heap.size w w' := by
  go_enter Try.func11, Try.ntmps11
  go_wp2_with fail
  refine (run_any _ 2 2 page 7 64 _ (Rd.lit w _ _ _ rfl rfl) (by omega) (by omega) (by omega) page_ok (by omega) (by omega)).mono ?_
  rw [page_run]
  rintro e w1 ⟨v, rfl, hown, hb1⟩
  obtain ⟨g, cap, rfl, _, hlt⟩ := hown.form (by decide)
  have hcs := hown.cells (g := g) rfl
  have c5 := hcs 5 _ rfl
  have c6 := hcs 6 _ rfl
  have c7 := hcs 7 _ rfl
  have c12 := hcs 12 _ rfl
  have c13 := hcs 13 _ rfl
  simp only [Addr.add, Nat.reduceEqDiff, if_false, Nat.zero_add] at c5 c6 c7 c12 c13
  have hrd := Rd.of_own hown
  have hsz : w.heap.size ≤ w1.heap.size := by have := hb1.size; simp at this; omega
  clear hcs
  go_wp2_with fail
  refine (units_any _ _ _ pageFills _ hrd (by decide)).mono ?_
  rw [page_units]
  rintro e w2 ⟨rfl, hb2⟩
  go_wp2_with fail
  refine (cost_any _ _ _ pageFills _ (hrd.past hb2) (by decide)).mono ?_
  rw [page_cost]
  rintro e w3 ⟨rfl, hb3⟩
  go_wp2_with fail
  go_ret
  refine ⟨rfl, ?_⟩
  have h0 : Below w.heap.size w w1 := (((Below.refl _ _).alloc (Nat.le_refl _) _).trans (hb1.mono (by simp)))
  exact Below.past (Below.past h0 hb2 hsz) hb3 (by have := hb2.size; omega)

end Go.Proofs.Ytjkabmijkbpodab
