/-
  AuctionBounds answers true for every input: not more is taken than is lacking or offered, not more is paid than there is (lists of bids of any length, any numbers).
-/
import Derived.Test.YtjkabmijkbpodaaAuctD
import Derived.Test.YtjkabmijkbpodaaLaw
namespace Go.Proofs.Ytjkabmijkbpodaa
open Go.ChangeShapes Go.WideShapes Go.ChangeAt Go.RowKit Go.Deep

theorem bid_flat : flatOf Try.prog 3 30 = some [.i64, .i64, .i64, .i64, .i64] := by kernel_rfl
theorem bid_cells : Try.prog.cellsOf 30 = 5 := by kernel_rfl

theorem ok5 {zs : List Int} (h : IntsOk [.i64, .i64, .i64, .i64, .i64] zs) : ∃ b : Bid, intVals [.i64, .i64, .i64, .i64, .i64] zs = b.cells ∧ True := by
  match zs, h.1 with
  | [a, b, c, d, e], _ => exact ⟨⟨a, b, c, d, e⟩, rfl, trivial⟩

set_option maxRecDepth 100000 in
theorem auctionBounds_lifted (os : Os) (started : os.Started) (H : Type) (enc : TypeId × Value → H) :
    ReturnsInHanded {} Try.checked os 3 .any (Rows.auctionBoundsSpec.pre6 enc Try.prog Try.f3 Rows.auctionBoundsRow.domain false) (Rows.auctionBoundsSpec.post enc Try.prog Try.f3 false true false false) := by
  refine returnsInHanded_of_change (C := Try.checked) Try.own started (by kernel_rfl) Try.func3
    (ChangeSpec.witness6 (enc := enc) (C := Try.checked) false ⟨#[], #[.slice none 0 0, .int .i64 0, .int .i64 0], []⟩ 8 (by kernel_rfl) (by kernel_rfl) (by kernel_rfl) (by kernel_rfl)) ?_
  intro W base args ds gs before hval0 hW hcnd _
  have hval : ∀ (j : Nat) t v, Try.f3.params[j]? = some t → args[j]? = some v → Value.okWide Try.prog W .any base t v := hval0
  have hW' := hW
  obtain ⟨p, q, hA0, hV, rfl, hfz, hnd⟩ := hW
  have hA : DataW.TrodAll enc Try.prog W 0 (fun _ => true) true Try.f3.params.toList args.toList ds p := hA0
  rw [Try.params3] at hA hval
  obtain ⟨v0, v1, v2, d0, d1, d2, p0, p1, p2, hargs, rfl, rfl, h0, h1, h2⟩ := trodAll_three hA
  obtain rfl : args = #[v0, v1, v2] := by cases args; simp_all
  obtain ⟨rfl, rfl⟩ := trodVars_none hV
  obtain ⟨l, rfl, rfl, rfl, wl⟩ := open_int Try.underlying2 (hval 1 2 v1 rfl rfl) h1
  obtain ⟨m, rfl, rfl, rfl, wm⟩ := open_int Try.underlying2 (hval 2 2 v2 rfl rfl) h2
  obtain ⟨a0, len, cap, rfl⟩ := okWide_slice Try.underlying22 (hval 0 22 v0 rfl rfl)
  obtain ⟨fuel, hf⟩ := h0
  obtain ⟨A, len', cap', bs, hcs, hlc, hcm, hbl, _, hrd⟩ := open_flat_list Bid.cells (fun _ => True) Try.underlying22 bid_flat bid_cells (by decide) (fun zs => ok5) hf
  have hcs' : (Value.slice a0 len cap) = .slice A len' cap' := by simpa [Value.cells] using hcs
  injection hcs' with e1 e2 e3
  subst e1; subst e2; subst e3
  have bl := wf_bd wl
  have bm := wf_bd wm
  have key : Calls Try.prog 3 #[.slice a0 len cap, .int .i64 l, .int .i64 m] W fun e w' => e = .returned (.bool true) ∧ Below W.heap.size W w' := by
    by_cases hn : len ≤ 40
    · by_cases hc : checkA bs l m = 0
      · have hc' := hc
        unfold checkA at hc'
        rw [if_neg (by omega)] at hc'
        have hno : ¬ (l < 0 ∨ m < 0 ∨ bs.any Bid.bad = true) := fun h => by rw [if_pos h] at hc'; cases hc'
        simp only [not_or, Bool.not_eq_true] at hno
        exact bounds_good a0 len cap _ l m W hrd hn (by omega) (by omega) hno.2.2 (by omega) (by omega)
      · exact bounds_bad a0 len cap _ l m W hrd hn hc
    · exact bounds_long a0 len cap l m W (by omega)
  refine key.mono fun e W' ⟨he, hb⟩ => ⟨_, he, ?_⟩
  exact law_post (tb := 4) Try.laidOut (by kernel_rfl) rfl Try.underlying4 rfl hW' rfl hb

theorem auctionBounds_holds : Rows.AuctionBoundsSaid :=
  OpenClaim.holds_of_wide 3 Try.f3 rfl rfl rfl rfl rfl rfl rfl ⟨rfl, rfl, rfl, rfl, rfl⟩ rfl rfl rfl rfl rfl (by kernel_rfl) Try.func3 (by kernel_rfl)
    (of_decide_eq_true (by kernel_rfl)) (by unfold Func.isWrapper; first | (rw [if_pos (by decide +kernel)]; kernel_rfl) | (rw [if_neg (by decide +kernel)]; exact ⟨rfl, rfl⟩))
    (fun os started H enc _ => auctionBounds_lifted os started H enc)

end Go.Proofs.Ytjkabmijkbpodaa
