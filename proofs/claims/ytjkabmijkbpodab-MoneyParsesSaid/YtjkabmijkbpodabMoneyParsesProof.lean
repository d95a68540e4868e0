/-
  MoneyParses answers true for every input: which texts are amounts, and of which one: it has just this text.
-/
import Derived.Test.YtjkabmijkbpodabMonQ
import Derived.Test.YtjkabmijkbpodabLaw
import Derived.ChangeMaps5
import Derived.HandedShaped
import Derived.Shelf.Vars
namespace Go.Proofs.Ytjkabmijkbpodab
open Go.ChangeShapes Go.WideShapes Go.ChangeAt Go.RowKit Go.Deep

set_option maxRecDepth 100000 in
theorem moneyParses_lifted (os : Os) (started : os.Started) (H : Type) (enc : TypeId × Value → H) :
    ReturnsInHanded {} Try.checked os 10 .any (Rows.moneyParsesSpec.pre6 enc Try.prog Try.f10 Rows.moneyParsesRow.domain false) (Rows.moneyParsesSpec.post enc Try.prog Try.f10 false true false false) := by
  refine returnsInHanded_of_change_shaped (C := Try.checked) Try.own started (by kernel_rfl) Try.func10
    (ChangeSpec.witness6 (enc := enc) (C := Try.checked) false ⟨#[], #[.string ⟨#[]⟩], []⟩ 8 (by kernel_rfl) (by kernel_rfl) (by kernel_rfl) (by kernel_rfl)) ?_
  intro W base args ds gs before hval0 hW hcnd _ hsh _
  have hval : ∀ (j : Nat) t v, Try.f10.params[j]? = some t → args[j]? = some v → Value.okWide Try.prog W .any base t v := hval0
  have hW' := hW
  obtain ⟨p, q, hA0, hV, rfl, hfz, hnd⟩ := hW
  have hA : DataW.TrodAll enc Try.prog W 0 (fun _ => true) true Try.f10.params.toList args.toList ds p := hA0
  rw [Try.params10] at hA hval
  obtain ⟨v0, vs0, d0, ds0, p0, q0, hargs, rfl, rfl, h0, r0⟩ := trodAll_cons hA
  obtain ⟨rfl, rfl, rfl⟩ := trodAll_nil r0
  obtain rfl : args = #[v0] := by cases args; simp_all
  obtain ⟨x, rfl, rfl, rfl, w_x⟩ := Go.ChangeMaps.open_string Try.underlying9 (hval 0 9 v0 rfl rfl) h0
  have key : Calls Try.prog 10 #[.string x] W fun e w' => e = .returned (.bool true) ∧ Below W.heap.size W w' := by
    obtain ⟨mm, hmm⟩ := cell_of_shapedOpen_int (g := 2) (zero := #[.int .i64 0]) (t := 3) hsh (of_decide_eq_true (by kernel_rfl)) (by kernel_rfl) rfl (by kernel_rfl) (by kernel_rfl) Try.underlying3
    by_cases hs : x.size ≤ 100
    · obtain ⟨⟨l⟩⟩ := x
      have hl : l.length ≤ 100 := hs
      by_cases he : ∃ a, inI a ∧ textI a = l
      · obtain ⟨a, ha, rfl⟩ := he
        exact moneyParses_yes a ha mm W hmm
      · exact moneyParses_no l hl (fun a ha e => he ⟨a, ha, e⟩) mm W hmm
    · exact moneyParses_long x (by omega) W
  refine key.mono fun e W' ⟨he, hb⟩ => ⟨_, he, ?_⟩
  exact law_post (tb := 4) Try.laidOut (by kernel_rfl) rfl Try.underlying4 rfl hW' (by obtain ⟨rfl, rfl⟩ := trodVars_none hV; rfl) hb

theorem moneyParses_holds : Rows.MoneyParsesSaid :=
  OpenClaim.holds_of_wide 10 Try.f10 rfl rfl rfl rfl rfl rfl rfl ⟨rfl, rfl, rfl, rfl, rfl⟩ rfl rfl rfl rfl rfl (by kernel_rfl) Try.func10 (by kernel_rfl)
    (of_decide_eq_true (by kernel_rfl)) (by unfold Func.isWrapper; first | (rw [if_pos (by decide +kernel)]; kernel_rfl) | (rw [if_neg (by decide +kernel)]; exact ⟨rfl, rfl⟩))
    (fun os started H enc _ => moneyParses_lifted os started H enc)

end Go.Proofs.Ytjkabmijkbpodab
