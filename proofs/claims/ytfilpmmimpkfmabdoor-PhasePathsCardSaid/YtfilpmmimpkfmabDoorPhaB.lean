import Derived.Test.YtfilpmmimpkfmabDoorPhaA
import Derived.Test.YtfilpmmimpkfmabDoorCalA
import Derived.Maps.OwnSet
namespace Go.Proofs.YtfilpmmimpkfmabDoor
open Go.RowKit

/-- Which phase follows; none: there is none. -/
def pn (s l : Bool) (p t : Int) : Option Int := if p = 4 ∧ t = 5 ∧ l = true then some 5 else if p = 2 ∧ t = 3 ∧ s = true then some 3 else tab true true true true true true p t
theorem pn_phase {s l : Bool} {p t c : Int} (h : pn s l p t = some c) : (p = 1 ∨ p = 2 ∨ p = 3 ∨ p = 4) ∧ 1 ≤ c ∧ c ≤ 5 := by
  unfold pn tab at h
  repeat' (split at h)
  all_goals first | (simp at h; omega) | skip
  all_goals simp at *
  all_goals omega
theorem pn_word {s l : Bool} {p t c : Int} (h : pn s l p t = some c) : ((wdI p).toArray.toList == []) = false := by
  rcases (pn_phase h).1 with rfl | rfl | rfl | rfl <;> rfl

set_option maxHeartbeats 1000000 in
theorem pnext_some (p t : Int) (s l : Bool) (c : Int) (h : pn s l p t = some c) (hp : (Lit.int .i64 p).wf = true) (ht : (Lit.int .i64 t).wf = true) (w : World) (hw : WdOk w) :
    Calls Tryd.prog 14 #[.int .i64 p, .int .i64 t, .bool s, .bool l] w fun e w' => e = .returned (.tuple #[.int .i64 c, .int .i64 0]) ∧ Below w.heap.size w w' := by
  obtain ⟨kl, hkl⟩ : ∃ kl, keyOf Tryd.prog 53 (.agg #[.int .i64 p, .int .i64 t]) = some kl := ev_key p t hp ht
  have zeroE : ∀ w : World, (zeroValue 3).run Tryd.prog w = .ok (.int .i64 0) w := fun w => by kernel_rfl
  have HKL := Lib.hid hkl
  have hwd := pn_word h
  have HH := Lib.hid h
  have HZ := Lib.hid zeroE
  clear hkl h zeroE hp ht
  go_enter Tryd.func14, Tryd.ntmps14
  go_wp2_with fail
  refine (follow_any s l _).mono ?_
  rintro e w1 ⟨g, n, D, rfl, hown, hD, hn, hg, hb⟩
  obtain ⟨h1, h2⟩ := hD.2 p t kl HKL.out
  have h3 := h2 c HH.out
  have h4 : Maps.has D kl = true := by rw [h1]; exact congrArg Option.isSome HH.out
  have H3 := Lib.hid h3
  clear h1 h2 h3 hD
  go_wp2_with (at_lookup; refine wpList_lookup_own_ok_int _ rfl _ _ 50 rfl 53 3 .i64 evLaw Tryd.underlying50 Tryd.underlying3 (HZ.out _) _ _ _ rfl hown _ _ rfl HKL.out ?_; intro cc hat hwc; rw [h4])
  obtain rfl : cc = c := by rw [H3.out] at hat; simpa using hat.symm
  clear hat
  go_wp2_with fail
  refine (word_any p _ (hw.past hb)).mono ?_
  rintro e w' ⟨rfl, rfl⟩
  go_wp2_with fail
  go_ret2
  exact ⟨rfl, hb⟩

set_option maxHeartbeats 1000000 in
theorem pnext_none (p t : Int) (s l : Bool) (h : pn s l p t = none) (hp : (Lit.int .i64 p).wf = true) (ht : (Lit.int .i64 t).wf = true) (w : World) :
    Calls Tryd.prog 14 #[.int .i64 p, .int .i64 t, .bool s, .bool l] w fun e w' => e = .returned (.tuple #[.int .i64 0, .int .i64 11]) ∧ Below w.heap.size w w' := by
  obtain ⟨kl, hkl⟩ : ∃ kl, keyOf Tryd.prog 53 (.agg #[.int .i64 p, .int .i64 t]) = some kl := ev_key p t hp ht
  have zeroE : ∀ w : World, (zeroValue 3).run Tryd.prog w = .ok (.int .i64 0) w := fun w => by kernel_rfl
  have HKL := Lib.hid hkl
  have HH := Lib.hid h
  have HZ := Lib.hid zeroE
  clear hkl h zeroE hp ht
  go_enter Tryd.func14, Tryd.ntmps14
  go_wp2_with fail
  refine (follow_any s l _).mono ?_
  rintro e w1 ⟨g, n, D, rfl, hown, hD, hn, hg, hb⟩
  have h1 := (hD.2 p t kl HKL.out).1
  have h4 : Maps.has D kl = false := by rw [h1]; exact congrArg Option.isSome HH.out
  clear h1 hD
  go_wp2_with (at_lookup; refine wpList_lookup_own_ok_int _ rfl _ _ 50 rfl 53 3 .i64 evLaw Tryd.underlying50 Tryd.underlying3 (HZ.out _) _ _ _ rfl hown _ _ rfl HKL.out ?_; intro cc hat hwc; rw [h4])
  go_ret2
  exact ⟨rfl, hb⟩

/-- What Next tells. -/
def pv (s l : Bool) (p t : Int) : Int := (pn s l p t).getD 0
def pe (s l : Bool) (p t : Int) : Int := if (pn s l p t).isSome then 0 else 11
theorem pnext_any (p t : Int) (s l : Bool) (hp : (Lit.int .i64 p).wf = true) (ht : (Lit.int .i64 t).wf = true) (w : World) (hw : WdOk w) :
    Calls Tryd.prog 14 #[.int .i64 p, .int .i64 t, .bool s, .bool l] w fun e w' => e = .returned (.tuple #[.int .i64 (pv s l p t), .int .i64 (pe s l p t)]) ∧ Below w.heap.size w w' := by
  unfold pv pe
  cases h : pn s l p t with
  | none => exact pnext_none p t s l h hp ht w
  | some c => exact pnext_some p t s l c h hp ht w hw

/-- What the document's Next tells. -/
def rn (s l : Bool) (p t : Int) : Int := (pn s l p t).getD (-1)
set_option maxHeartbeats 1000000 in
theorem refNext_any (p t : Int) (s l : Bool) (w : World) :
    Calls Tryd.prog 15 #[.int .i64 p, .int .i64 t, .bool s, .bool l] w fun e w' => e = .returned (.int .i64 (rn s l p t)) ∧ w = w' := by
  go_enter Tryd.func15, Tryd.ntmps15
  go_wp2_with fail
  all_goals
    go_ret
    refine ⟨ret_int ?_, rfl⟩
    simp_all [rn, pn, tab]

/-! ### Which command may come -/
def openB (p : Int) : Bool := decide (1 ≤ p) && decide (p ≤ 4)
/-- The phase that a kind of command asks for; -2: any that is open; -1: there is no such kind. -/
def mayI (p k : Int) : Bool :=
  if k = 1 then p == 0 else if k = 2 ∨ k = 3 then p == 1 else if k = 4 ∨ k = 5 ∨ k = 6 then p == 2 else if k = 7 then p == 3 else if k = 8 ∨ k = 9 ∨ k = 10 then openB p else false
theorem ret_bool {a b : Bool} (h : a = b) : Ending.returned (.bool a) = .returned (.bool b) := by rw [h]

set_option maxHeartbeats 400000 in
theorem open_any (p : Int) (w : World) : Calls Tryd.prog 22 #[.int .i64 p] w fun e w' => e = .returned (.bool (openB p)) ∧ w = w' := by
  by_cases h : 1 ≤ p
  · have q := dct h
    go_enter Tryd.func22, Tryd.ntmps22
    go_wp2_with fail
    go_ret
    exact ⟨ret_bool (by simp [openB, h]), rfl⟩
  · have q := dcf h
    go_enter Tryd.func22, Tryd.ntmps22
    go_wp2_with fail
    go_ret
    exact ⟨ret_bool (by unfold openB; rw [q]; rfl), rfl⟩

set_option maxHeartbeats 1000000 in
theorem may_any (p k : Int) (w : World) : Calls Tryd.prog 21 #[.int .i64 p, .int .i64 k] w fun e w' => e = .returned (.bool (mayI p k)) ∧ w = w' := by
  go_enter Tryd.func21, Tryd.ntmps21
  go_wp2_with (go_at_call 22; refine (open_any p _).mono ?_; rintro e w' ⟨rfl, rfl⟩)
  all_goals
    go_ret
    refine ⟨ret_bool ?_, rfl⟩
    simp_all [mayI]

set_option maxHeartbeats 1000000 in
theorem refMay_any (p k : Int) (w : World) : Calls Tryd.prog 20 #[.int .i64 p, .int .i64 k] w fun e w' => e = .returned (.bool (mayI p k)) ∧ Below w.heap.size w w' := by
  have hB0 := (Below.refl w.heap.size w).alloc (Nat.le_refl _) (.cells #[.int .i64 (-1), .int .i64 0, .int .i64 1, .int .i64 1, .int .i64 2, .int .i64 2, .int .i64 2, .int .i64 3, .int .i64 (-2), .int .i64 (-2), .int .i64 (-2)] 3)
  by_cases h1 : k < 1
  · have q := dct h1
    go_enter Tryd.func20, Tryd.ntmps20
    go_wp2_with fail
    go_ret
    exact ⟨ret_bool (by unfold mayI; rw [if_neg (by omega), if_neg (by omega), if_neg (by omega), if_neg (by omega), if_neg (by omega)]), hB0⟩
  by_cases h2 : 10 < k
  · have q := dcf h1
    have q2 := dct h2
    go_enter Tryd.func20, Tryd.ntmps20
    go_wp2_with fail
    go_ret
    exact ⟨ret_bool (by unfold mayI; rw [if_neg (by omega), if_neg (by omega), if_neg (by omega), if_neg (by omega), if_neg (by omega)]), hB0⟩
  have hk : k = 1 ∨ k = 2 ∨ k = 3 ∨ k = 4 ∨ k = 5 ∨ k = 6 ∨ k = 7 ∨ k = 8 ∨ k = 9 ∨ k = 10 := by omega
  clear h1 h2
  rcases hk with rfl | rfl | rfl | rfl | rfl | rfl | rfl | rfl | rfl | rfl
  all_goals
    go_enter Tryd.func20, Tryd.ntmps20
    go_wp2_with fail
  all_goals
    go_ret
    refine ⟨ret_bool ?_, hB0⟩
    rw [Bool.eq_iff_iff]
    simp [mayI, openB]
    try omega
end Go.Proofs.YtfilpmmimpkfmabDoor
