/-
  RankTurns answers true for every input: how keys stood does not show: in another order, they come, as keys, to the same.
-/
import Derived.Test.YtoohfbgbhjadgaaRnkC
import Derived.Test.YtoohfbgbhjadgaaOpenK
namespace Go.Proofs.Ytoohfbgbhjadgaa
open Go.ChangeShapes Go.WideShapes Go.ChangeAt Go.RowKit Go.Deep

theorem keys_short {w : World} {vs : List KeyV} (hr : ∀ v ∈ vs, Rd w w.heap.size 1 v.A v.k.length (v.k.flatMap iC)) (hs : vs.all shortK = true) : KeysRd w w.heap.size vs := fun v hv => by
  have := List.all_eq_true.1 hs v hv
  exact ⟨hr v hv, by simp [shortK] at this; omega⟩

set_option maxRecDepth 100000 in
theorem rankTurns_lifted (os : Os) (started : os.Started) (H : Type) (enc : TypeId × Value → H) :
    ReturnsInHanded {} Try.checked os 4 .any (Rows.rankTurnsSpec.pre6 enc Try.prog Try.f4 Rows.rankTurnsRow.domain false) (Rows.rankTurnsSpec.post enc Try.prog Try.f4 false true false false) := by
  refine returnsInHanded_of_change (C := Try.checked) Try.own started (by kernel_rfl) Try.func4
    (ChangeSpec.witness6 (enc := enc) (C := Try.checked) false ⟨#[], #[.slice none 0 0, .int .u8 0], []⟩ 8 (by kernel_rfl) (by kernel_rfl) (by kernel_rfl) (by kernel_rfl)) ?_
  intro W base args ds gs before hval0 hW hcnd _
  have hval : ∀ (j : Nat) t v, Try.f4.params[j]? = some t → args[j]? = some v → Value.okWide Try.prog W .any base t v := hval0
  have hW' := hW
  obtain ⟨p, q, hA0, hV, rfl, hfz, hnd⟩ := hW
  have hA : DataW.TrodAll enc Try.prog W 0 (fun _ => true) true Try.f4.params.toList args.toList ds p := hA0
  rw [Try.params4] at hA hval
  obtain ⟨v0, vs0, d0, ds0, p0, q0, hargs, rfl, rfl, h0, r0⟩ := trodAll_cons hA
  obtain ⟨v1, vs1, d1, ds1, p1, q1, rfl, rfl, rfl, h1, r1⟩ := trodAll_cons r0
  obtain ⟨rfl, rfl, rfl⟩ := trodAll_nil r1
  obtain rfl : args = #[v0, v1] := by cases args; simp_all
  obtain ⟨a0, len0, cap0, rfl⟩ := okWide_slice Try.underlying26 (hval 0 26 v0 rfl rfl)
  obtain ⟨fuel0, hf0⟩ := h0
  obtain ⟨A_ks, len_ks, cap_ks, ks, hcs0, hl_ks, rd_ks, k_ks⟩ := open_keys hf0
  have hcs0' : (Value.slice a0 len0 cap0) = .slice A_ks len_ks cap_ks := by simpa [Value.cells] using hcs0
  injection hcs0' with e1_0 e2_0 e3_0
  subst e1_0; subst e2_0; subst e3_0
  obtain ⟨a, rfl, rfl, rfl, w_a⟩ := open_int Try.underlying5 (hval 1 5 v1 rfl rfl) h1
  have key : Calls Try.prog 4 #[.slice a0 len0 cap0, .int .u8 a] W fun e w' => e = .returned (.bool true) ∧ Below W.heap.size W w' := by
    have ha := wf_bd_u8 w_a
    by_cases h : len0 ≤ 30 ∧ ks.all shortK = true
    · obtain ⟨k, hk⟩ := Int.eq_ofNat_of_zero_le ha.1
      subst hk
      exact rankTurns_few a0 len0 cap0 k ks W rd_ks (keys_short k_ks h.2) h.1 h.2 (by omega)
    · exact rankTurns_long a0 len0 cap0 a ks W rd_ks h
  refine key.mono fun e W' ⟨he, hb⟩ => ⟨_, he, ?_⟩
  exact law_post (tb := 4) Try.laidOut (by kernel_rfl) rfl Try.underlying4 rfl hW' (by obtain ⟨rfl, rfl⟩ := trodVars_none hV; rfl) hb

theorem rankTurns_holds : Rows.RankTurnsSaid :=
  OpenClaim.holds_of_wide 4 Try.f4 rfl rfl rfl rfl rfl rfl rfl ⟨rfl, rfl, rfl, rfl, rfl⟩ rfl rfl rfl rfl rfl (by kernel_rfl) Try.func4 (by kernel_rfl)
    (of_decide_eq_true (by kernel_rfl)) (by unfold Func.isWrapper; first | (rw [if_pos (by decide +kernel)]; kernel_rfl) | (rw [if_neg (by decide +kernel)]; exact ⟨rfl, rfl⟩))
    (fun os started H enc _ => rankTurns_lifted os started H enc)

end Go.Proofs.Ytoohfbgbhjadgaa
