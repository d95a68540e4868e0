/-
  BidsMay answers true for every input: which bids may be, in any house, or what is wrong first; which bid a command tells.
-/
import Derived.Test.YtndhhnfhookeaaaBidI
import Derived.Test.YtndhhnfhookeaaaOpenCf
namespace Go.Proofs.Ytndhhnfhookeaaa
open Go.ChangeShapes Go.WideShapes Go.ChangeAt Go.RowKit Go.Deep

theorem bidv_flat : flatOf Try.prog 3 90 = some [.i64, .i64, .i64, .i64, .i64] := by kernel_rfl
theorem bidv_under : Try.prog.underlying 90 = some (.struct (Try.prog.fieldsOf 90)) := by kernel_rfl
theorem okBidV {zs : List Int} (h : IntsOk [.i64, .i64, .i64, .i64, .i64] zs) : ∃ t : BidV, intVals [.i64, .i64, .i64, .i64, .i64] zs = [.int .i64 t.seq, .int .i64 t.mem, .int .i64 t.sec, .int .i64 t.qty, .int .i64 t.price] ∧ True := by
  match zs, h with
  | [a, b, c, d, e], h => exact ⟨⟨a, b, c, d, e⟩, rfl, trivial⟩
theorem comm_flat : flatOf Try.prog 3 99 = some [.i64, .i64, .i64, .i64, .i64, .i64, .i64] := by kernel_rfl
theorem comm_under : Try.prog.underlying 99 = some (.struct (Try.prog.fieldsOf 99)) := by kernel_rfl
theorem okComm {zs : List Int} (h : IntsOk [.i64, .i64, .i64, .i64, .i64, .i64, .i64] zs) : ∃ t : CommB, intVals [.i64, .i64, .i64, .i64, .i64, .i64, .i64] zs = [.int .i64 t.kind, .int .i64 t.id, .int .i64 t.member, .int .i64 t.other, .int .i64 t.sec, .int .i64 t.qty, .int .i64 t.price] ∧ True := by
  match zs, h with
  | [a, b, c, d, e, f, g], h => exact ⟨⟨a, b, c, d, e, f, g⟩, rfl, trivial⟩

set_option maxRecDepth 100000 in
theorem bidsMay_lifted (os : Os) (started : os.Started) (H : Type) (enc : TypeId × Value → H) :
    ReturnsInHanded {} Try.checked os 11 .any (Rows.bidsMaySpec.pre6 enc Try.prog Try.f11 Rows.bidsMayRow.domain false) (Rows.bidsMaySpec.post enc Try.prog Try.f11 false true false false) := by
  refine returnsInHanded_of_change (C := Try.checked) Try.own started (by kernel_rfl) Try.func11
    (ChangeSpec.witness6 (enc := enc) (C := Try.checked) false ⟨#[], #[.agg #[.slice none 0 0, .slice none 0 0, .slice none 0 0, .int .i64 0, .int .i64 0, .int .i64 0, .int .i64 0, .int .i64 0], .agg #[.int .i64 0, .int .i64 0, .int .i64 0, .int .i64 0, .int .i64 0], .agg #[.int .i64 0, .int .i64 0, .int .i64 0, .int .i64 0, .int .i64 0, .int .i64 0, .int .i64 0]], []⟩ 8 (by kernel_rfl) (by kernel_rfl) (by kernel_rfl) (by kernel_rfl)) ?_
  intro W base args ds gs before hval0 hW hcnd _
  have hval : ∀ (j : Nat) t v, Try.f11.params[j]? = some t → args[j]? = some v → Value.okWide Try.prog W .any base t v := hval0
  have hW' := hW
  obtain ⟨p, q, hA0, hV, rfl, hfz, hnd⟩ := hW
  have hA : DataW.TrodAll enc Try.prog W 0 (fun _ => true) true Try.f11.params.toList args.toList ds p := hA0
  rw [Try.params11] at hA hval
  obtain ⟨v0, vs0, d0, ds0, p0, q0, hargs, rfl, rfl, h0, r0⟩ := trodAll_cons hA
  obtain ⟨v1, vs1, d1, ds1, p1, q1, rfl, rfl, rfl, h1, r1⟩ := trodAll_cons r0
  obtain ⟨v2, vs2, d2, ds2, p2, q2, rfl, rfl, rfl, h2, r2⟩ := trodAll_cons r1
  obtain ⟨rfl, rfl, rfl⟩ := trodAll_nil r2
  obtain rfl : args = #[v0, v1, v2] := by cases args; simp_all
  obtain ⟨arr0, rfl, hsz0⟩ := okWide_struct cfg_under (hval 0 51 v0 rfl rfl)
  obtain ⟨fuel0, hf0⟩ := h0
  obtain ⟨A1, A2, A3, n1, n2, n3, cp1, cp2, cp3, cf, hcs0, hr1, hr2, hr3, gcf⟩ := open_cfg hf0
  obtain rfl : arr0 = #[.slice A1 n1 cp1, .slice A2 n2 cp2, .slice A3 n3 cp3, .int .i64 cf.line, .int .i64 cf.capital, .int .i64 cf.lead, .int .i64 cf.trades, .int .i64 cf.bids] := by
    apply Array.ext'; simpa [Value.cells] using hcs0
  obtain ⟨arr1, rfl, hsz1⟩ := okWide_struct bidv_under (hval 1 90 v1 rfl rfl)
  obtain ⟨fuel1, hf1⟩ := h1
  obtain ⟨zs1, hcs1, hok1⟩ := flatOf_open 3 90 _ fuel1 _ _ bidv_flat hf1
  obtain ⟨t, hx1, g_t⟩ := okBidV hok1
  obtain rfl : arr1 = #[.int .i64 t.seq, .int .i64 t.mem, .int .i64 t.sec, .int .i64 t.qty, .int .i64 t.price] := by
    apply Array.ext'; rw [hx1] at hcs1; simpa [Value.cells] using hcs1
  obtain ⟨arr2, rfl, hsz2⟩ := okWide_struct comm_under (hval 2 99 v2 rfl rfl)
  obtain ⟨fuel2, hf2⟩ := h2
  obtain ⟨zs2, hcs2, hok2⟩ := flatOf_open 3 99 _ fuel2 _ _ comm_flat hf2
  obtain ⟨x, hx2, g_x⟩ := okComm hok2
  obtain rfl : arr2 = #[.int .i64 x.kind, .int .i64 x.id, .int .i64 x.member, .int .i64 x.other, .int .i64 x.sec, .int .i64 x.qty, .int .i64 x.price] := by
    apply Array.ext'; rw [hx2] at hcs2; simpa [Value.cells] using hcs2
  have key : Calls Try.prog 11 #[.agg #[.slice A1 n1 cp1, .slice A2 n2 cp2, .slice A3 n3 cp3, .int .i64 cf.line, .int .i64 cf.capital, .int .i64 cf.lead, .int .i64 cf.trades, .int .i64 cf.bids], .agg #[.int .i64 t.seq, .int .i64 t.mem, .int .i64 t.sec, .int .i64 t.qty, .int .i64 t.price], .agg #[.int .i64 x.kind, .int .i64 x.id, .int .i64 x.member, .int .i64 x.other, .int .i64 x.sec, .int .i64 x.qty, .int .i64 x.price]] W fun e w' => e = .returned (.bool true) ∧ Below W.heap.size W w' := by
    cases hfew : fewB n1 n2 n3 with
    | false => exact bidsMay_many A1 A2 A3 n1 n2 n3 cp1 cp2 cp3 cf t x W hfew
    | true =>
      have h20 : n1 ≤ 20 ∧ n2 ≤ 20 ∧ n3 ≤ 20 := by simpa [fewB] using hfew
      exact bidsMay_few A1 A2 A3 n1 n2 n3 cp1 cp2 cp3 cf t x W ⟨hr1, hr2, hr3, by omega, by omega, by omega⟩ hfew
  refine key.mono fun e W' ⟨he, hb⟩ => ⟨_, he, ?_⟩
  exact law_post (tb := 4) Try.laidOut (by kernel_rfl) rfl Try.underlying4 rfl hW' (by obtain ⟨rfl, rfl⟩ := trodVars_none hV; rfl) hb

theorem bidsMay_holds : Rows.BidsMaySaid :=
  OpenClaim.holds_of_wide 11 Try.f11 rfl rfl rfl rfl rfl rfl rfl ⟨rfl, rfl, rfl, rfl, rfl⟩ rfl rfl rfl rfl rfl (by kernel_rfl) Try.func11 (by kernel_rfl)
    (of_decide_eq_true (by kernel_rfl)) (by unfold Func.isWrapper; first | (rw [if_pos (by decide +kernel)]; kernel_rfl) | (rw [if_neg (by decide +kernel)]; exact ⟨rfl, rfl⟩))
    (fun os started H enc _ => bidsMay_lifted os started H enc)

end Go.Proofs.Ytndhhnfhookeaaa
