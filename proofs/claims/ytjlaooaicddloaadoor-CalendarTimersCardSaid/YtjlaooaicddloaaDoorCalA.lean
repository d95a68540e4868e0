import Derived.Test.YtjlaooaicddloaaDoorConfD
import Derived.Test.YtjlaooaicddloaaDoorBas2
namespace Go.Proofs.YtjlaooaicddloaaDoor
open Go.RowKit

/-! ### The phases' words -/
def wdL : Nat → List UInt8
  | 0 => [115, 104, 117, 116]
  | 1 => [116, 114, 97, 100, 101]
  | 2 => [102, 117, 110, 100]
  | 3 => [98, 117, 121, 105, 110]
  | 4 => [112, 97, 121, 111, 117, 116]
  | 5 => [99, 108, 111, 115, 101, 100]
  | _ => []
/-- The words' variable, as the program's text lays it. -/
def WdOk (w : World) : Prop := w.cell? ⟨0, 0, none⟩ = some (.string ⟨#[115, 104, 117, 116]⟩) ∧ w.cell? ⟨0, 1, none⟩ = some (.string ⟨#[116, 114, 97, 100, 101]⟩) ∧ w.cell? ⟨0, 2, none⟩ = some (.string ⟨#[102, 117, 110, 100]⟩) ∧ w.cell? ⟨0, 3, none⟩ = some (.string ⟨#[98, 117, 121, 105, 110]⟩) ∧ w.cell? ⟨0, 4, none⟩ = some (.string ⟨#[112, 97, 121, 111, 117, 116]⟩) ∧ w.cell? ⟨0, 5, none⟩ = some (.string ⟨#[99, 108, 111, 115, 101, 100]⟩) ∧ 0 < w.heap.size
theorem WdOk.past {w w' : World} (h : WdOk w) (hb : Below w.heap.size w w') : WdOk w' := by
  obtain ⟨h0, h1, h2, h3, h4, h5, hg⟩ := h
  have hs := hb.size
  exact ⟨(hb.cell hg).trans h0, (hb.cell hg).trans h1, (hb.cell hg).trans h2, (hb.cell hg).trans h3, (hb.cell hg).trans h4, (hb.cell hg).trans h5, by omega⟩
/-- A phase's word. -/
def wdI (i : Int) : List UInt8 := if 0 ≤ i ∧ i < 6 then wdL i.toNat else []

theorem dct {p : Prop} [Decidable p] (h : p) : decide p = true := decide_eq_true h
theorem dcf {p : Prop} [Decidable p] (h : ¬ p) : decide p = false := decide_eq_false h

set_option maxHeartbeats 1000000 in
theorem word_any (i : Int) (w : World) (h : WdOk w) : Calls Tryd.prog 14 #[.int .i64 i] w fun e w' => e = .returned (.string ⟨(wdI i).toArray⟩) ∧ w = w' := by
  obtain ⟨h0, h1, h2, h3, h4, h5, hg⟩ := h
  by_cases a : i < 0
  · have q := dct a
    have HN : Hid (wdI i = []) := Lib.hid (by unfold wdI; rw [if_neg (by omega)])
    go_enter Tryd.func14, Tryd.ntmps14
    go_wp2_with fail
    go_ret
    rw [HN.out]
    exact ⟨rfl, rfl⟩
  · have q := dcf a
    by_cases b : 6 ≤ i
    · have q2 := dct b
      have HN : Hid (wdI i = []) := Lib.hid (by unfold wdI; rw [if_neg (by omega)])
      go_enter Tryd.func14, Tryd.ntmps14
      go_wp2_with fail
      go_ret
      rw [HN.out]
      exact ⟨rfl, rfl⟩
    · obtain rfl | rfl | rfl | rfl | rfl | rfl : i = 0 ∨ i = 1 ∨ i = 2 ∨ i = 3 ∨ i = 4 ∨ i = 5 := by omega
      all_goals
        clear q a b
        go_enter Tryd.func14, Tryd.ntmps14
        go_wp2_with fail
        go_ret
        exact ⟨rfl, rfl⟩

/-- The place of a word; -1: it is none. -/
def plI (l : List UInt8) : Int := if [115, 104, 117, 116] = l then 0 else if [116, 114, 97, 100, 101] = l then 1 else if [102, 117, 110, 100] = l then 2 else if [98, 117, 121, 105, 110] = l then 3 else if [112, 97, 121, 111, 117, 116] = l then 4 else if [99, 108, 111, 115, 101, 100] = l then 5 else -1
theorem plI_not (l : List UInt8) (h : ∀ j, j < 6 → wdL j ≠ l) : plI l = -1 := by
  unfold plI
  rw [if_neg (show ¬ ([115, 104, 117, 116] : List UInt8) = l from h 0 (by omega)), if_neg (show ¬ ([116, 114, 97, 100, 101] : List UInt8) = l from h 1 (by omega)), if_neg (show ¬ ([102, 117, 110, 100] : List UInt8) = l from h 2 (by omega)), if_neg (show ¬ ([98, 117, 121, 105, 110] : List UInt8) = l from h 3 (by omega)), if_neg (show ¬ ([112, 97, 121, 111, 117, 116] : List UInt8) = l from h 4 (by omega)), if_neg (show ¬ ([99, 108, 111, 115, 101, 100] : List UInt8) = l from h 5 (by omega))]
theorem plI_at (j : Nat) (hj : j < 6) : plI (wdL j) = j := by
  obtain rfl | rfl | rfl | rfl | rfl | rfl : j = 0 ∨ j = 1 ∨ j = 2 ∨ j = 3 ∨ j = 4 ∨ j = 5 := by omega
  all_goals decide

end Go.Proofs.YtjlaooaicddloaaDoor
