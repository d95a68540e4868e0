import Derived.Test.YtfilpmmimpkfmabDoorConfB
namespace Go.Proofs.YtfilpmmimpkfmabDoor
open Go.RowKit

theorem wk0 {cf : Conf} (h : badAt cf 0 = true) : wrongK cf = 0 := by simp [wrongK, h]
theorem wk1 {cf : Conf} (h0 : badAt cf 0 = false) (h : badAt cf 1 = true) : wrongK cf = 1 := by simp [wrongK, h0, h]
theorem wk2 {cf : Conf} (h0 : badAt cf 0 = false) (h1 : badAt cf 1 = false) (h : badAt cf 2 = true) : wrongK cf = 2 := by simp [wrongK, h0, h1, h]

/-- The document's look at cycles, one by one. -/
def Cyc.badFrom (at_ : Int) (x : Cyc) : Bool := decide (x.cut ≤ at_) || decide (x.fund ≤ x.cut) || decide (x.buyin ≤ x.fund) || decide (x.close ≤ x.buyin) || decide (1000 < x.close)
def cycsFrom : Int → List Cyc → Bool
  | _, [] => true
  | at_, x :: l => !x.badFrom at_ && cycsFrom x.close l
def closeOf : Int → List Cyc → Int
  | at_, [] => at_
  | _, x :: l => closeOf x.close l
theorem closeOf_snoc (l : List Cyc) (x : Cyc) : ∀ a, closeOf a (l ++ [x]) = x.close := by
  induction l with
  | nil => intro a; rfl
  | cons y l ih => intro a; exact ih _
theorem cycsFrom_pre (l m : List Cyc) : ∀ a, cycsFrom a (l ++ m) = (cycsFrom a l && cycsFrom (closeOf a l) m) := by
  induction l with
  | nil => intro a; simp [cycsFrom, closeOf]
  | cons y l ih => intro a; rw [List.cons_append, cycsFrom, cycsFrom, ih, closeOf, Bool.and_assoc]
theorem lastOf_ge (l : List Int) : ∀ a, risesB a l = true → a ≤ lastOf a l := by
  induction l with
  | nil => intro a _; exact Int.le_refl _
  | cons x l ih => intro a h; rw [risesB, Bool.and_eq_true] at h; have := ih x h.2; have h1 := of_decide_eq_true h.1; rw [lastOf]; omega
theorem cycs_same (l : List Cyc) : ∀ a, a ≤ 1000 → (risesB a (ticksOf l) && decide (lastOf a (ticksOf l) ≤ 1000)) = cycsFrom a l := by
  induction l with
  | nil => intro a ha; simp [ticksOf, risesB, lastOf, cycsFrom, ha]
  | cons x l ih =>
    intro a ha
    have e2 : lastOf a (ticksOf (x :: l)) = lastOf x.close (ticksOf l) := rfl
    have e3 : risesB a (ticksOf (x :: l)) = (decide (a < x.cut) && (decide (x.cut < x.fund) && (decide (x.fund < x.buyin) && (decide (x.buyin < x.close) && risesB x.close (ticksOf l))))) := rfl
    rw [e2, e3, cycsFrom]
    by_cases hc : x.close ≤ 1000
    · rw [← ih x.close hc]
      generalize risesB x.close (ticksOf l) = r
      generalize decide (lastOf x.close (ticksOf l) ≤ 1000) = z
      have h1 : x.badFrom a = !(decide (a < x.cut) && decide (x.cut < x.fund) && decide (x.fund < x.buyin) && decide (x.buyin < x.close)) := by
        rw [Bool.eq_iff_iff]; simp [Cyc.badFrom]; omega
      rw [h1]
      cases r <;> cases z <;> simp [Bool.and_assoc]
    · have h2 : x.badFrom a = true := by simp [Cyc.badFrom]; omega
      rw [h2]
      by_cases h : risesB x.close (ticksOf l) = true
      · have := lastOf_ge _ _ h
        rw [decide_eq_false (p := lastOf x.close (ticksOf l) ≤ 1000) (by omega)]
        simp
      · rw [Bool.eq_false_iff.2 h]; simp
theorem cycsOk_eq (l : List Cyc) : cycsOk l = (inB l.length 1 4 && cycsFrom 0 l) := by
  rw [← cycs_same l 0 (by omega), cycsOk]
  cases risesB 0 (ticksOf l) <;> cases inB l.length 1 4 <;> simp

end Go.Proofs.YtfilpmmimpkfmabDoor
