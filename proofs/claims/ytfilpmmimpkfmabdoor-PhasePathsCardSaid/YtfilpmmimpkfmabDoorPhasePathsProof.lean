/-
  PhasePaths answers true for every input: the phases of a day, cycle by cycle; each one may follow the one ahead; it is closed just at the end.
-/
import Derived.Test.YtfilpmmimpkfmabDoorPhaE
import Derived.Test.YtfilpmmimpkfmabDoorLaidW
import Derived.Test.YtfilpmmimpkfmabDoorOpenB
import Derived.Test.YtfilpmmimpkfmabDoorLaw
import Derived.Test.YtfilpmmimpkfmabDoorCards
import Derived.Test.YtfilpmmimpkfmabDoorTie
import Derived.SevenTiedAt
namespace Go.Proofs.YtfilpmmimpkfmabDoor
open Go.ChangeShapes Go.WideShapes Go.ChangeAt Go.RowKit Go.Deep

set_option maxRecDepth 100000 in
theorem phasePaths_lifted (os : Os) (started : os.Started) (H : Type) (enc : TypeId × Value → H) :
    ReturnsInHanded {} Tryd.checked os 5 .any (fun w args => (Rows.phasePathsSpec.pre enc Tryd.prog Tryd.f5 [] false w args ∧ laidMetH Tryd.prog [("compline/calendar.words", Rows.laid_compline_calendar_words)] w) ∧ sizedMet enc Tryd.prog Tryd.f5 (OpenSpec.ofChange Rows.phasePathsSpec) false w args) (Rows.phasePathsSpec.post enc Tryd.prog Tryd.f5 false true false false) := by
  refine returnsInHanded_of_change_and (C := Tryd.checked) (X := fun w _ => laidMetH Tryd.prog [("compline/calendar.words", Rows.laid_compline_calendar_words)] w) (fun _ _ _ hh h => h.of_heap hh) Tryd.own started (by kernel_rfl) Tryd.func5
    (ChangeSpec.witness_shaped (enc := enc) (C := Tryd.checked) (os := os) (X := fun w _ => laidMetH Tryd.prog [("compline/calendar.words", Rows.laid_compline_calendar_words)] w) false (World.doorLaid Tryd.prog 400 os) #[.slice none 0 0] 8 rfl (World.shaped_of_RefB (by kernel_rfl) (by kernel_rfl)) (by kernel_rfl) (by kernel_rfl) (by kernel_rfl) (door_met os _)) ?_
  intro W base args ds gs before hval0 hW _ _ hL _
  have hval : ∀ (j : Nat) t v, Tryd.f5.params[j]? = some t → args[j]? = some v → Value.okWide Tryd.prog W .any base t v := hval0
  have hW' := hW
  obtain ⟨p, q, hA0, hV, rfl, hfz, hnd⟩ := hW
  have hA : DataW.TrodAll enc Tryd.prog W 0 (fun _ => true) true Tryd.f5.params.toList args.toList ds p := hA0
  rw [Tryd.params5] at hA hval
  obtain ⟨v0, vs0, d0, ds0, p0, q0, hargs, rfl, rfl, h0, r0⟩ := trodAll_cons hA
  obtain ⟨rfl, rfl, rfl⟩ := trodAll_nil r0
  obtain rfl : args = #[v0] := by cases args; simp_all
  obtain ⟨a0, len0, cap0, rfl⟩ := okWide_slice Tryd.underlying40 (hval 0 40 v0 rfl rfl)
  obtain ⟨fuel0, hf0⟩ := h0
  obtain ⟨A_ss, len_ss, cap_ss, ss, hcs0, hlc_ss, hcm_ss, hl_ss, rd_ss⟩ := open_bool_list Tryd.underlying40 Tryd.underlying4 (by kernel_rfl) hf0
  have hcs0' : (Value.slice a0 len0 cap0) = .slice A_ss len_ss cap_ss := by simpa [Value.cells] using hcs0
  injection hcs0' with e1_0 e2_0 e3_0
  subst e1_0; subst e2_0; subst e3_0
  have hwd := of_laid hL
  have key : Calls Tryd.prog 5 #[.slice a0 len0 cap0] W fun e w' => e = .returned (.bool true) ∧ Below W.heap.size W w' := by
    by_cases hn : len0 ≤ 40
    · exact phasePaths_any a0 len0 cap0 ss W hwd hn rd_ss
    · exact phasePaths_long a0 len0 cap0 W hwd (by unfold maxLen at hcm_ss; omega) hn
  refine key.mono fun e W' ⟨he, hb⟩ => ⟨_, he, ?_⟩
  exact law_post (tb := 4) Tryd.laidOut (by kernel_rfl) rfl Tryd.underlying4 rfl hW' (by obtain ⟨rfl, rfl⟩ := trodVars_none hV; rfl) hb

theorem phasePaths_holds : Rows.PhasePathsSaid :=
  OpenClaim.holds_of_wide 5 Tryd.f5 rfl rfl rfl rfl rfl rfl rfl ⟨rfl, rfl, rfl, rfl, rfl⟩ rfl rfl rfl rfl rfl (by kernel_rfl) Tryd.func5 (by kernel_rfl)
    (of_decide_eq_true (by kernel_rfl)) (by unfold Func.isWrapper; first | (rw [if_pos (by decide +kernel)]; kernel_rfl) | (rw [if_neg (by decide +kernel)]; exact ⟨rfl, rfl⟩))
    (fun os started H enc _ => phasePaths_lifted os started H enc)

theorem phasePaths_card : Rows.PhasePathsCardSaid :=
  Claim7.holds_tied_plain_at .later [] [.data] true (true, "3937af453e483a610eee23fcee5e955ac33675ab243aa576c815bd6f70b28797") false
    phasePaths_holds (fun _ h => by cases h) (by kernel_rfl) (fun _ h => by cases h) phasePaths_row_tie rfl ⟨rfl, rfl⟩ (by kernel_rfl) rfl
    (fun f fn hf hfn => by
      obtain rfl : f = 5 := Option.some.inj ((show Tryd.prog.funcNamed "compline/complinelaw29.PhasePaths" = some 5 by kernel_rfl).symm.trans hf) |>.symm
      obtain rfl : fn = Tryd.f5 := (Option.some.inj (Tryd.func5.symm.trans hfn)).symm
      exact ⟨by kernel_rfl, fun j t ht => by
        rw [Tryd.params5] at ht
        have hm : t ∈ [40] := by simpa using Array.mem_of_getElem? ht
        have hall : ([40].all fun u => !Tryd.prog.wantsStandIn u) = true := by kernel_rfl
        exact (show Tryd.prog.wantsStandIn t = false by simpa using List.all_eq_true.1 hall t hm)⟩)
    (by kernel_rfl)

end Go.Proofs.YtfilpmmimpkfmabDoor
