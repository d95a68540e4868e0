/-
  AuctionRuns answers true for every input: which of any bids are taken, and what is paid, or why none is; and what it would cost at worst.
-/
import Derived.Test.YtjkabmijkbpodabAuctH
import Derived.Test.YtjkabmijkbpodabLaw
namespace Go.Proofs.Ytjkabmijkbpodab
open Go.ChangeShapes Go.WideShapes Go.ChangeAt Go.RowKit Go.Deep

theorem bid_flat : flatOf Try.prog 3 34 = some [.i64, .i64, .i64, .i64, .i64] := by kernel_rfl
theorem bid_cells : Try.prog.cellsOf 34 = 5 := by kernel_rfl
theorem okBid {zs : List Int} (h : IntsOk [.i64, .i64, .i64, .i64, .i64] zs) : ∃ b : Bid, intVals [.i64, .i64, .i64, .i64, .i64] zs = b.cells ∧ inI b.price := by
  match zs, h with
  | [a, b, c, d, e], h => exact ⟨⟨a, b, c, d, e⟩, rfl, wf_bd (h.2 4 _ _ rfl rfl)⟩

set_option maxRecDepth 100000 in
theorem auctionRuns_lifted (os : Os) (started : os.Started) (H : Type) (enc : TypeId × Value → H) :
    ReturnsInHanded {} Try.checked os 3 .any (Rows.auctionRunsSpec.pre6 enc Try.prog Try.f3 Rows.auctionRunsRow.domain false) (Rows.auctionRunsSpec.post enc Try.prog Try.f3 false true false false) := by
  refine returnsInHanded_of_change (C := Try.checked) Try.own started (by kernel_rfl) Try.func3
    (ChangeSpec.witness6 (enc := enc) (C := Try.checked) false ⟨#[], #[.slice none 0 0, .int .i64 0, .int .i64 0], []⟩ 8 (by kernel_rfl) (by kernel_rfl) (by kernel_rfl) (by kernel_rfl)) ?_
  intro W base args ds gs before hval0 hW hcnd _
  have hval : ∀ (j : Nat) t v, Try.f3.params[j]? = some t → args[j]? = some v → Value.okWide Try.prog W .any base t v := hval0
  have hW' := hW
  obtain ⟨p, q, hA0, hV, rfl, hfz, hnd⟩ := hW
  have hA : DataW.TrodAll enc Try.prog W 0 (fun _ => true) true Try.f3.params.toList args.toList ds p := hA0
  rw [Try.params3] at hA hval
  obtain ⟨v0, vs0, d0, ds0, p0, q0, hargs, rfl, rfl, h0, r0⟩ := trodAll_cons hA
  obtain ⟨v1, vs1, d1, ds1, p1, q1, rfl, rfl, rfl, h1, r1⟩ := trodAll_cons r0
  obtain ⟨v2, vs2, d2, ds2, p2, q2, rfl, rfl, rfl, h2, r2⟩ := trodAll_cons r1
  obtain ⟨rfl, rfl, rfl⟩ := trodAll_nil r2
  obtain rfl : args = #[v0, v1, v2] := by cases args; simp_all
  obtain ⟨a0, len0, cap0, rfl⟩ := okWide_slice Try.underlying22 (hval 0 22 v0 rfl rfl)
  obtain ⟨fuel0, hf0⟩ := h0
  obtain ⟨A_bs, len_bs, cap_bs, bs, hcs0, hlc_bs, hcm_bs, hl_bs, g_bs, rd_bs⟩ := open_flat_list Bid.cells (fun b => inI b.price) Try.underlying22 bid_flat bid_cells (by decide) (fun _ => okBid) hf0
  have hcs0' : (Value.slice a0 len0 cap0) = .slice A_bs len_bs cap_bs := by simpa [Value.cells] using hcs0
  injection hcs0' with e1_0 e2_0 e3_0
  subst e1_0; subst e2_0; subst e3_0
  obtain ⟨l, rfl, rfl, rfl, w_l⟩ := open_int Try.underlying2 (hval 1 2 v1 rfl rfl) h1
  obtain ⟨m, rfl, rfl, rfl, w_m⟩ := open_int Try.underlying2 (hval 2 2 v2 rfl rfl) h2
  have key : Calls Try.prog 3 #[.slice a0 len0 cap0, .int .i64 l, .int .i64 m] W fun e w' => e = .returned (.bool true) ∧ Below W.heap.size W w' := by
    have bl := wf_bd w_l
    have bm := wf_bd w_m
    by_cases hn : len0 ≤ 50
    · by_cases hc : checkA bs l 0 = 0
      · have h2 := hc
        unfold checkA at h2
        rw [if_neg (by omega)] at h2
        have hno : ¬ (l < 0 ∨ (0 : Int) < 0 ∨ bs.any Bid.bad = true) := fun h => by rw [if_pos h] at h2; cases h2
        simp only [not_or, Bool.not_eq_true] at hno
        by_cases hm : m < 0
        · exact runs_poor a0 len0 cap0 bs l m W rd_bs hn hc hm bl.2 g_bs
        · exact runs_good a0 len0 cap0 bs l m W rd_bs hn (by omega) (by omega) hno.2.2 bl.2 bm.2 g_bs
      · exact runs_wrong a0 len0 cap0 bs l m W rd_bs hn hc
    · exact runs_long a0 len0 cap0 l m W (by omega)
  refine key.mono fun e W' ⟨he, hb⟩ => ⟨_, he, ?_⟩
  exact law_post (tb := 4) Try.laidOut (by kernel_rfl) rfl Try.underlying4 rfl hW' (by obtain ⟨rfl, rfl⟩ := trodVars_none hV; rfl) hb

theorem auctionRuns_holds : Rows.AuctionRunsSaid :=
  OpenClaim.holds_of_wide 3 Try.f3 rfl rfl rfl rfl rfl rfl rfl ⟨rfl, rfl, rfl, rfl, rfl⟩ rfl rfl rfl rfl rfl (by kernel_rfl) Try.func3 (by kernel_rfl)
    (of_decide_eq_true (by kernel_rfl)) (by unfold Func.isWrapper; first | (rw [if_pos (by decide +kernel)]; kernel_rfl) | (rw [if_neg (by decide +kernel)]; exact ⟨rfl, rfl⟩))
    (fun os started H enc _ => auctionRuns_lifted os started H enc)

end Go.Proofs.Ytjkabmijkbpodab
