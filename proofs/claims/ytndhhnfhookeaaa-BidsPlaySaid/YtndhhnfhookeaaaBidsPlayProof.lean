/-
  BidsPlay answers true for every input: which bids a box takes, one behind the other, in any house; all of them, those of any security, in their order; and how many go when it is cleared.
-/
import Derived.Test.YtndhhnfhookeaaaBidV
import Derived.Test.YtndhhnfhookeaaaOpenCf
namespace Go.Proofs.Ytndhhnfhookeaaa
open Go.ChangeShapes Go.WideShapes Go.ChangeAt Go.RowKit Go.Deep

theorem bidl_flat : flatOf Try.prog 3 90 = some [.i64, .i64, .i64, .i64, .i64] := by kernel_rfl
theorem bidl_cellsOf : Try.prog.cellsOf 90 = 5 := by kernel_rfl
theorem okBidL {zs : List Int} (h : IntsOk [.i64, .i64, .i64, .i64, .i64] zs) : ∃ t : BidV, intVals [.i64, .i64, .i64, .i64, .i64] zs = t.cells ∧ True := by
  match zs, h with
  | [a, b, c, d, e], h => exact ⟨⟨a, b, c, d, e⟩, rfl, trivial⟩

theorem open_list2P {H : Type} {P : Program} {t e f : TypeId} {enc : TypeId × Value → H} {w : World} {base fuel : Nat} {held : Bool} {cs : List Value} {x : DataW H × List MemPlace} (ht : P.underlying t = some (.array 2 e)) (hct : P.cellsOf t = 2) (hc : P.cellsOf e = 1) (he : P.underlying e = some (.slice f)) (hfl : flatOf P 3 f = some [.i64, .i64, .i64, .i64, .i64]) (hfc : P.cellsOf f = 5)
    (h : DataW.trod enc P w base (fun _ => true) held fuel t cs = some x) :
    ∃ (A0 : Option Addr) (m0 k0 : Nat) (A1 : Option Addr) (m1 k1 : Nat) (l0 l1 : List BidV), cs = [.slice A0 m0 k0, .slice A1 m1 k1] ∧ Rd w w.heap.size 5 A0 m0 (l0.flatMap BidV.cells) ∧ Rd w w.heap.size 5 A1 m1 (l1.flatMap BidV.cells) := by
  obtain ⟨xs, m, rfl, _, hlen, hn, hel⟩ := DataW.trod_array ht h
  rw [hct] at hlen
  rw [hc] at hel
  match cs, hlen with
  | [c0, c1], _ =>
    have e0 := hel 0 (by omega)
    have e1 := hel 1 (by omega)
    rw [List.getElem?_eq_getElem (by omega)] at e0 e1
    obtain ⟨A0, m0, k0, l0, hc0, _, _, _, _, r0⟩ := open_flat_list BidV.cells (fun _ => True) he hfl hfc (by decide) (fun _ => okBidL) e0
    obtain ⟨A1, m1, k1, l1, hc1, _, _, _, _, r1⟩ := open_flat_list BidV.cells (fun _ => True) he hfl hfc (by decide) (fun _ => okBidL) e1
    simp at hc0 hc1
    exact ⟨A0, m0, k0, A1, m1, k1, l0, l1, by rw [hc0, hc1], r0, r1⟩
theorem open_list2 {H : Type} {enc : TypeId × Value → H} {w : World} {base fuel : Nat} {held : Bool} {cs : List Value} {x : DataW H × List MemPlace} (h : DataW.trod enc Try.prog w base (fun _ => true) held fuel 104 cs = some x) :
    ∃ (A0 : Option Addr) (m0 k0 : Nat) (A1 : Option Addr) (m1 k1 : Nat) (l0 l1 : List BidV), cs = [.slice A0 m0 k0, .slice A1 m1 k1] ∧ Rd w w.heap.size 5 A0 m0 (l0.flatMap BidV.cells) ∧ Rd w w.heap.size 5 A1 m1 (l1.flatMap BidV.cells) :=
  open_list2P Try.underlying104 (by kernel_rfl) (by kernel_rfl) Try.underlying88 bidl_flat bidl_cellsOf h

set_option maxRecDepth 100000 in
theorem bidsPlay_lifted (os : Os) (started : os.Started) (H : Type) (enc : TypeId × Value → H) :
    ReturnsInHanded {} Try.checked os 12 .any (Rows.bidsPlaySpec.pre6 enc Try.prog Try.f12 Rows.bidsPlayRow.domain false) (Rows.bidsPlaySpec.post enc Try.prog Try.f12 false true false false) := by
  refine returnsInHanded_of_change (C := Try.checked) Try.own started (by kernel_rfl) Try.func12
    (ChangeSpec.witness6 (enc := enc) (C := Try.checked) false ⟨#[], #[.agg #[.slice none 0 0, .slice none 0 0, .slice none 0 0, .int .i64 0, .int .i64 0, .int .i64 0, .int .i64 0, .int .i64 0], .agg #[.slice none 0 0, .slice none 0 0], .int .i64 0], []⟩ 8 (by kernel_rfl) (by kernel_rfl) (by kernel_rfl) (by kernel_rfl)) ?_
  intro W base args ds gs before hval0 hW hcnd _
  have hval : ∀ (j : Nat) t v, Try.f12.params[j]? = some t → args[j]? = some v → Value.okWide Try.prog W .any base t v := hval0
  have hW' := hW
  obtain ⟨p, q, hA0, hV, rfl, hfz, hnd⟩ := hW
  have hA : DataW.TrodAll enc Try.prog W 0 (fun _ => true) true Try.f12.params.toList args.toList ds p := hA0
  rw [Try.params12] at hA hval
  obtain ⟨v0, vs0, d0, ds0, p0, q0, hargs, rfl, rfl, h0, r0⟩ := trodAll_cons hA
  obtain ⟨v1, vs1, d1, ds1, p1, q1, rfl, rfl, rfl, h1, r1⟩ := trodAll_cons r0
  obtain ⟨v2, vs2, d2, ds2, p2, q2, rfl, rfl, rfl, h2, r2⟩ := trodAll_cons r1
  obtain ⟨rfl, rfl, rfl⟩ := trodAll_nil r2
  obtain rfl : args = #[v0, v1, v2] := by cases args; simp_all
  obtain ⟨arr0, rfl, hsz0⟩ := okWide_struct cfg_under (hval 0 51 v0 rfl rfl)
  obtain ⟨fuel0, hf0⟩ := h0
  obtain ⟨A1, A2, A3, n1, n2, n3, cp1, cp2, cp3, cf, hcs0, hr1, hr2, hr3, gcf⟩ := open_cfg hf0
  obtain rfl : arr0 = #[.slice A1 n1 cp1, .slice A2 n2 cp2, .slice A3 n3 cp3, .int .i64 cf.line, .int .i64 cf.capital, .int .i64 cf.lead, .int .i64 cf.trades, .int .i64 cf.bids] := by
    apply Array.ext'; simpa [Value.cells] using hcs0
  obtain ⟨arr1, rfl, hsz1⟩ := okWide_array Try.underlying104 (hval 1 104 v1 rfl rfl)
  obtain ⟨fuel1, hf1⟩ := h1
  obtain ⟨P0, m0, k0, P1, m1, k1, l0, l1, hcs1, rd_l0, rd_l1⟩ := open_list2 hf1
  obtain rfl : arr1 = #[.slice P0 m0 k0, .slice P1 m1 k1] := by
    apply Array.ext'; simpa [Value.cells] using hcs1
  obtain ⟨a, rfl, rfl, rfl, w_a⟩ := open_int Try.underlying3 (hval 2 3 v2 rfl rfl) h2
  have key : Calls Try.prog 12 #[.agg #[.slice A1 n1 cp1, .slice A2 n2 cp2, .slice A3 n3 cp3, .int .i64 cf.line, .int .i64 cf.capital, .int .i64 cf.lead, .int .i64 cf.trades, .int .i64 cf.bids], .agg #[.slice P0 m0 k0, .slice P1 m1 k1], .int .i64 a] W fun e w' => e = .returned (.bool true) ∧ Below W.heap.size W w' := by
    by_cases hfew : fewB n1 n2 n3 = true ∧ m0 ≤ 50 ∧ m1 ≤ 50
    · obtain ⟨hfew, hm0, hm1⟩ := hfew
      have h20 : n1 ≤ 20 ∧ n2 ≤ 20 ∧ n3 ≤ 20 := by simpa [fewB] using hfew
      have hcf : CfRd W A1 n1 A2 n2 A3 n3 cf := ⟨hr1, hr2, hr3, by omega, by omega, by omega⟩
      by_cases hc : checkC cf = 0
      · exact bidsPlay_few A1 A2 A3 n1 n2 n3 cp1 cp2 cp3 cf P0 m0 k0 P1 m1 k1 l0 l1 a W hcf rd_l0 rd_l1 hfew hm0 hm1 hc
      · exact bidsPlay_wrong A1 A2 A3 n1 n2 n3 cp1 cp2 cp3 cf P0 m0 k0 P1 m1 k1 a W hcf hfew hm0 hm1 hc
    · exact bidsPlay_many A1 A2 A3 n1 n2 n3 cp1 cp2 cp3 cf P0 m0 k0 P1 m1 k1 a W hfew
  refine key.mono fun e W' ⟨he, hb⟩ => ⟨_, he, ?_⟩
  exact law_post (tb := 4) Try.laidOut (by kernel_rfl) rfl Try.underlying4 rfl hW' (by obtain ⟨rfl, rfl⟩ := trodVars_none hV; rfl) hb

theorem bidsPlay_holds : Rows.BidsPlaySaid :=
  OpenClaim.holds_of_wide 12 Try.f12 rfl rfl rfl rfl rfl rfl rfl ⟨rfl, rfl, rfl, rfl, rfl⟩ rfl rfl rfl rfl rfl (by kernel_rfl) Try.func12 (by kernel_rfl)
    (of_decide_eq_true (by kernel_rfl)) (by unfold Func.isWrapper; first | (rw [if_pos (by decide +kernel)]; kernel_rfl) | (rw [if_neg (by decide +kernel)]; exact ⟨rfl, rfl⟩))
    (fun os started H enc _ => bidsPlay_lifted os started H enc)

end Go.Proofs.Ytndhhnfhookeaaa
