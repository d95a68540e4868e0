/-
  CalendarTimers answers true for every input: all that is due on a day, by rising ticks, the next one behind any tick, and when each cycle begins.
-/
import Derived.Test.YtjlaooaicddloaaDoorCalT
import Derived.Test.YtjlaooaicddloaaDoorLaidW
import Derived.Test.YtjlaooaicddloaaDoorOpenCf
import Derived.Test.YtjlaooaicddloaaDoorLaw
import Derived.Test.YtjlaooaicddloaaDoorCards
import Derived.Test.YtjlaooaicddloaaDoorTie
import Derived.SevenTiedAt
namespace Go.Proofs.YtjlaooaicddloaaDoor
open Go.ChangeShapes Go.WideShapes Go.ChangeAt Go.RowKit Go.Deep

set_option maxRecDepth 100000 in
theorem calendarTimers_lifted (os : Os) (started : os.Started) (H : Type) (enc : TypeId × Value → H) :
    ReturnsInHanded {} Tryd.checked os 3 .any (fun w args => (Rows.calendarTimersSpec.pre enc Tryd.prog Tryd.f3 [] false w args ∧ laidMetH Tryd.prog [("compline/calendar.words", Rows.laid_compline_calendar_words)] w) ∧ sizedMet enc Tryd.prog Tryd.f3 (OpenSpec.ofChange Rows.calendarTimersSpec) false w args) (Rows.calendarTimersSpec.post enc Tryd.prog Tryd.f3 false true false false) := by
  refine returnsInHanded_of_change_and (C := Tryd.checked) (X := fun w _ => laidMetH Tryd.prog [("compline/calendar.words", Rows.laid_compline_calendar_words)] w) (fun _ _ _ hh h => h.of_heap hh) Tryd.own started (by kernel_rfl) Tryd.func3
    (ChangeSpec.witness_shaped (enc := enc) (C := Tryd.checked) (os := os) (X := fun w _ => laidMetH Tryd.prog [("compline/calendar.words", Rows.laid_compline_calendar_words)] w) false (World.doorLaid Tryd.prog 400 os) #[.agg #[.slice none 0 0, .slice none 0 0, .slice none 0 0, .int .i64 0, .int .i64 0, .int .i64 0, .int .i64 0, .int .i64 0], .int .i64 0, .int .i64 0] 8 rfl (World.shaped_of_RefB (by kernel_rfl) (by kernel_rfl)) (by kernel_rfl) (by kernel_rfl) (by kernel_rfl) (door_met os _)) ?_
  intro W base args ds gs before hval0 hW _ _ hL _
  have hval : ∀ (j : Nat) t v, Tryd.f3.params[j]? = some t → args[j]? = some v → Value.okWide Tryd.prog W .any base t v := hval0
  have hW' := hW
  obtain ⟨p, q, hA0, hV, rfl, hfz, hnd⟩ := hW
  have hA : DataW.TrodAll enc Tryd.prog W 0 (fun _ => true) true Tryd.f3.params.toList args.toList ds p := hA0
  rw [Tryd.params3] at hA hval
  obtain ⟨v0, vs0, d0, ds0, p0, q0, hargs, rfl, rfl, h0, r0⟩ := trodAll_cons hA
  obtain ⟨v1, vs1, d1, ds1, p1, q1, rfl, rfl, rfl, h1, r1⟩ := trodAll_cons r0
  obtain ⟨v2, vs2, d2, ds2, p2, q2, rfl, rfl, rfl, h2, r2⟩ := trodAll_cons r1
  obtain ⟨rfl, rfl, rfl⟩ := trodAll_nil r2
  obtain rfl : args = #[v0, v1, v2] := by cases args; simp_all
  obtain ⟨arr0, rfl, hsz0⟩ := okWide_struct cfg_under (hval 0 26 v0 rfl rfl)
  obtain ⟨fuel0, hf0⟩ := h0
  obtain ⟨A1, A2, A3, n1, n2, n3, cp1, cp2, cp3, cf, hcs0, hr1, hr2, hr3, gcf⟩ := open_cfg hf0
  obtain rfl : arr0 = #[.slice A1 n1 cp1, .slice A2 n2 cp2, .slice A3 n3 cp3, .int .i64 cf.line, .int .i64 cf.capital, .int .i64 cf.lead, .int .i64 cf.trades, .int .i64 cf.bids] := by
    apply Array.ext'; simpa [Value.cells] using hcs0
  obtain ⟨t, rfl, rfl, rfl, w_t⟩ := open_int Tryd.underlying3 (hval 1 3 v1 rfl rfl) h1
  obtain ⟨c, rfl, rfl, rfl, w_c⟩ := open_int Tryd.underlying3 (hval 2 3 v2 rfl rfl) h2
  have hwd := of_laid hL
  have key : Calls Tryd.prog 3 #[.agg #[.slice A1 n1 cp1, .slice A2 n2 cp2, .slice A3 n3 cp3, .int .i64 cf.line, .int .i64 cf.capital, .int .i64 cf.lead, .int .i64 cf.trades, .int .i64 cf.bids], .int .i64 t, .int .i64 c] W fun e w' => e = .returned (.bool true) ∧ Below W.heap.size W w' := by
    cases hfew : fewB n1 n2 n3 with
    | false => exact calendarTimers_many A1 A2 A3 n1 n2 n3 cp1 cp2 cp3 cf t c W hwd hfew
    | true =>
      have h20 : n1 ≤ 20 ∧ n2 ≤ 20 ∧ n3 ≤ 20 := by simpa [fewB] using hfew
      exact calendarTimers_few A1 A2 A3 n1 n2 n3 cp1 cp2 cp3 cf t c W hwd ⟨hr1, hr2, hr3, by omega, by omega, by omega⟩ hfew
  refine key.mono fun e W' ⟨he, hb⟩ => ⟨_, he, ?_⟩
  exact law_post (tb := 4) Tryd.laidOut (by kernel_rfl) rfl Tryd.underlying4 rfl hW' (by obtain ⟨rfl, rfl⟩ := trodVars_none hV; rfl) hb

theorem calendarTimers_holds : Rows.CalendarTimersSaid :=
  OpenClaim.holds_of_wide 3 Tryd.f3 rfl rfl rfl rfl rfl rfl rfl ⟨rfl, rfl, rfl, rfl, rfl⟩ rfl rfl rfl rfl rfl (by kernel_rfl) Tryd.func3 (by kernel_rfl)
    (of_decide_eq_true (by kernel_rfl)) (by unfold Func.isWrapper; first | (rw [if_pos (by decide +kernel)]; kernel_rfl) | (rw [if_neg (by decide +kernel)]; exact ⟨rfl, rfl⟩))
    (fun os started H enc _ => calendarTimers_lifted os started H enc)

theorem calendarTimers_card : Rows.CalendarTimersCardSaid :=
  Claim7.holds_tied_plain_at .later [] [.data] true (true, "56b796ea601dd14927c41b7f7398ef6df21a5e1b9903567c242dc608429b7394") false
    calendarTimers_holds (fun _ h => by cases h) (by kernel_rfl) (fun _ h => by cases h) calendarTimers_row_tie rfl ⟨rfl, rfl⟩ (by kernel_rfl) rfl
    (fun f fn hf hfn => by
      obtain rfl : f = 3 := Option.some.inj ((show Tryd.prog.funcNamed "compline/complinelaw20.CalendarTimers" = some 3 by kernel_rfl).symm.trans hf) |>.symm
      obtain rfl : fn = Tryd.f3 := (Option.some.inj (Tryd.func3.symm.trans hfn)).symm
      exact ⟨by kernel_rfl, fun j t ht => by
        rw [Tryd.params3] at ht
        have hm : t ∈ [26, 3, 3] := by simpa using Array.mem_of_getElem? ht
        have hall : ([26, 3, 3].all fun u => !Tryd.prog.wantsStandIn u) = true := by kernel_rfl
        exact (show Tryd.prog.wantsStandIn t = false by simpa using List.all_eq_true.1 hall t hm)⟩)
    (by kernel_rfl)

end Go.Proofs.YtjlaooaicddloaaDoor
