/-
  ChartNumbers answers true for every input: which accounts a house has, and their numbers, which go together one by one, and which accounts may go below 0.
-/
import Derived.Test.YtfilpmmimpkfmabDoorChaD
import Derived.Test.YtfilpmmimpkfmabDoorChaE
import Derived.Test.YtfilpmmimpkfmabDoorChaF
import Derived.Test.YtfilpmmimpkfmabDoorLaidC
import Derived.Test.YtfilpmmimpkfmabDoorLaw
import Derived.Test.YtfilpmmimpkfmabDoorCards
import Derived.Test.YtfilpmmimpkfmabDoorTie
import Derived.SevenTiedAt
namespace Go.Proofs.YtfilpmmimpkfmabDoor
open Go.ChangeShapes Go.WideShapes Go.ChangeAt Go.RowKit Go.Deep

theorem acc_flat : flatOf Tryd.prog 3 23 = some [.i64, .i64] := by kernel_rfl
theorem acc_under : Tryd.prog.underlying 23 = some (.struct (Tryd.prog.fieldsOf 23)) := by kernel_rfl
theorem okAcc {zs : List Int} (h : IntsOk [.i64, .i64] zs) : ∃ t : Acc, intVals [.i64, .i64] zs = [.int .i64 t.kind, .int .i64 t.member] ∧ True := by
  match zs, h with
  | [a, b], h => exact ⟨⟨a, b⟩, rfl, trivial⟩

set_option maxRecDepth 100000 in
theorem chartNumbers_lifted (os : Os) (started : os.Started) (H : Type) (enc : TypeId × Value → H) :
    ReturnsInHanded {} Tryd.checked os 3 .any (fun w args => (Rows.chartNumbersSpec.pre enc Tryd.prog Tryd.f3 [] false w args ∧ laidMetH Tryd.prog [("math/bits.deBruijn32tab", Rows.laid_math_bits_deBruijn32tab), ("math/bits.deBruijn64tab", Rows.laid_math_bits_deBruijn64tab), ("internal/strconv.uint64pow10", Rows.laid_internal_strconv_uint64pow10), ("compline/chart.words", Rows.laid_compline_chart_words)] w) ∧ sizedMet enc Tryd.prog Tryd.f3 (OpenSpec.ofChange Rows.chartNumbersSpec) false w args) (Rows.chartNumbersSpec.post enc Tryd.prog Tryd.f3 false true false false) := by
  refine returnsInHanded_of_change_and (C := Tryd.checked) (X := fun w _ => laidMetH Tryd.prog [("math/bits.deBruijn32tab", Rows.laid_math_bits_deBruijn32tab), ("math/bits.deBruijn64tab", Rows.laid_math_bits_deBruijn64tab), ("internal/strconv.uint64pow10", Rows.laid_internal_strconv_uint64pow10), ("compline/chart.words", Rows.laid_compline_chart_words)] w) (fun _ _ _ hh h => h.of_heap hh) Tryd.own started (by kernel_rfl) Tryd.func3
    (ChangeSpec.witness_shaped (enc := enc) (C := Tryd.checked) (os := os) (X := fun w _ => laidMetH Tryd.prog [("math/bits.deBruijn32tab", Rows.laid_math_bits_deBruijn32tab), ("math/bits.deBruijn64tab", Rows.laid_math_bits_deBruijn64tab), ("internal/strconv.uint64pow10", Rows.laid_internal_strconv_uint64pow10), ("compline/chart.words", Rows.laid_compline_chart_words)] w) false (World.doorLaid Tryd.prog 400 os) #[.int .i64 0, .agg #[.int .i64 0, .int .i64 0], .int .i64 0] 8 rfl (World.shaped_of_RefB (by kernel_rfl) (by kernel_rfl)) (by kernel_rfl) (by kernel_rfl) (by kernel_rfl) (door_metC os _)) ?_
  intro W base args ds gs before hval0 hW _ _ hL _
  have hval : ∀ (j : Nat) t v, Tryd.f3.params[j]? = some t → args[j]? = some v → Value.okWide Tryd.prog W .any base t v := hval0
  have hW' := hW
  obtain ⟨p, q, hA0, hV, rfl, hfz, hnd⟩ := hW
  have hA : DataW.TrodAll enc Tryd.prog W 0 (fun _ => true) true Tryd.f3.params.toList args.toList ds p := hA0
  rw [Tryd.params3] at hA hval
  obtain ⟨v0, vs0, d0, ds0, p0, q0, hargs, rfl, rfl, h0, r0⟩ := trodAll_cons hA
  obtain ⟨v1, vs1, d1, ds1, p1, q1, rfl, rfl, rfl, h1, r1⟩ := trodAll_cons r0
  obtain ⟨v2, vs2, d2, ds2, p2, q2, rfl, rfl, rfl, h2, r2⟩ := trodAll_cons r1
  obtain ⟨rfl, rfl, rfl⟩ := trodAll_nil r2
  obtain rfl : args = #[v0, v1, v2] := by cases args; simp_all
  obtain ⟨m, rfl, rfl, rfl, w_m⟩ := open_int Tryd.underlying3 (hval 0 3 v0 rfl rfl) h0
  obtain ⟨arr1, rfl, hsz1⟩ := okWide_struct acc_under (hval 1 23 v1 rfl rfl)
  obtain ⟨fuel1, hf1⟩ := h1
  obtain ⟨zs1, hcs1, hok1⟩ := flatOf_open 3 23 _ fuel1 _ _ acc_flat hf1
  obtain ⟨a, hx1, g_a⟩ := okAcc hok1
  obtain rfl : arr1 = #[.int .i64 a.kind, .int .i64 a.member] := by
    apply Array.ext'; rw [hx1] at hcs1; simpa [Value.cells] using hcs1
  obtain ⟨n, rfl, rfl, rfl, w_n⟩ := open_int Tryd.underlying3 (hval 2 3 v2 rfl rfl) h2
  have hwd := of_laidC hL
  have key : Calls Tryd.prog 3 #[.int .i64 m, .agg #[.int .i64 a.kind, .int .i64 a.member], .int .i64 n] W fun e w' => e = .returned (.bool true) ∧ Below W.heap.size W w' := by
    by_cases hm : m < 0 ∨ 16 < m
    · exact chartNumbers_not m a n W hwd hm
    · obtain ⟨M, rfl, hM⟩ := allA_nn m hm
      by_cases hn : n < 0 ∨ ((6 + 3 * M : Nat) : Int) ≤ n
      · exact chartNumbers_out M a n W hwd hM hn
      · obtain ⟨N, rfl⟩ : ∃ N : Nat, n = N := ⟨n.toNat, by omega⟩
        exact chartNumbers_in M a N W hwd hM (by omega)
  refine key.mono fun e W' ⟨he, hb⟩ => ⟨_, he, ?_⟩
  exact law_post (tb := 4) Tryd.laidOut (by kernel_rfl) rfl Tryd.underlying4 rfl hW' (by obtain ⟨rfl, rfl⟩ := trodVars_none hV; rfl) hb

theorem chartNumbers_holds : Rows.ChartNumbersSaid :=
  OpenClaim.holds_of_wide 3 Tryd.f3 rfl rfl rfl rfl rfl rfl rfl ⟨rfl, rfl, rfl, rfl, rfl⟩ rfl rfl rfl rfl rfl (by kernel_rfl) Tryd.func3 (by kernel_rfl)
    (of_decide_eq_true (by kernel_rfl)) (by unfold Func.isWrapper; first | (rw [if_pos (by decide +kernel)]; kernel_rfl) | (rw [if_neg (by decide +kernel)]; exact ⟨rfl, rfl⟩))
    (fun os started H enc _ => chartNumbers_lifted os started H enc)

theorem chartNumbers_card : Rows.ChartNumbersCardSaid :=
  Claim7.holds_tied_plain_at .later [] [.data, .data, .data, .data] true (true, "3937af453e483a610eee23fcee5e955ac33675ab243aa576c815bd6f70b28797") false
    chartNumbers_holds (fun _ h => by cases h) (by kernel_rfl) (fun _ h => by cases h) chartNumbers_row_tie rfl ⟨rfl, rfl⟩ (by kernel_rfl) rfl
    (fun f fn hf hfn => by
      obtain rfl : f = 3 := Option.some.inj ((show Tryd.prog.funcNamed "compline/complinelaw13.ChartNumbers" = some 3 by kernel_rfl).symm.trans hf) |>.symm
      obtain rfl : fn = Tryd.f3 := (Option.some.inj (Tryd.func3.symm.trans hfn)).symm
      exact ⟨by kernel_rfl, fun j t ht => by
        rw [Tryd.params3] at ht
        have hm : t ∈ [3, 23, 3] := by simpa using Array.mem_of_getElem? ht
        have hall : ([3, 23, 3].all fun u => !Tryd.prog.wantsStandIn u) = true := by kernel_rfl
        exact (show Tryd.prog.wantsStandIn t = false by simpa using List.all_eq_true.1 hall t hm)⟩)
    (by kernel_rfl)

end Go.Proofs.YtfilpmmimpkfmabDoor
