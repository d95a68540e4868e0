import Derived.Test.YtjlaooaicddloaaDoorCalB
import Derived.Test.YtjlaooaicddloaaDoorConfH
namespace Go.Proofs.YtjlaooaicddloaaDoor
open Go.RowKit

/-- The place of the first tick behind one; -1: there is none. -/
def idxGt (t : Int) : List Int → Nat → Int
  | [], _ => -1
  | x :: r, i => if t < x then i else idxGt t r (i + 1)
/-- The first tick behind one. -/
def nextT (t : Int) : List Int → Option Int
  | [] => none
  | x :: r => if t < x then some x else nextT t r
theorem idxGt_none (t : Int) (l : List Int) (i : Nat) (h : nextT t l = none) : idxGt t l i = -1 := by
  induction l generalizing i with
  | nil => rfl
  | cons x r ih =>
    rw [nextT] at h
    by_cases c : t < x
    · rw [if_pos c] at h; cases h
    · rw [if_neg c] at h; rw [idxGt, if_neg c]; exact ih _ h
theorem idxGt_some (t v : Int) (l : List Int) (i : Nat) (h : nextT t l = some v) : ∃ k : Nat, idxGt t l i = ((i + k : Nat) : Int) ∧ l[k]? = some v := by
  induction l generalizing i with
  | nil => cases h
  | cons x r ih =>
    rw [nextT] at h
    by_cases c : t < x
    · rw [if_pos c] at h; cases h
      exact ⟨0, by rw [idxGt, if_pos c]; rfl, rfl⟩
    · rw [if_neg c] at h
      obtain ⟨k, h1, h2⟩ := ih (i + 1) h
      exact ⟨k + 1, by rw [idxGt, if_neg c, h1]; congr 1; omega, by simpa using h2⟩

set_option maxHeartbeats 400000 in
theorem gt_any (x t : Int) (b : Nat) (w : World) (hc : w.cell? ⟨b, 0, none⟩ = some (.int .i64 t)) :
    Calls Tryd.prog 18 #[.int .i64 x, .pointer (some ⟨b, 0, none⟩)] w fun e w' => e = .returned (.bool (decide (t < x))) ∧ w = w' := by
  go_enter Tryd.func18, Tryd.ntmps18
  go_wp2_with fail
  go_ret
  exact ⟨rfl, rfl⟩

set_option maxHeartbeats 1000000 in
theorem indexGt_any (A : Option Addr) (n c : Nat) (l : List Int) (t : Int) (b : Nat) (w : World) (hr : Rd w w.heap.size 1 A n (l.flatMap intCells)) (hn : n ≤ 5000) (hc : w.cell? ⟨b, 0, none⟩ = some (.int .i64 t)) :
    Calls Tryd.prog 17 #[.slice A n c, .func (Fn.func 18) #[] #[.pointer (some ⟨b, 0, none⟩)]] w fun e w' => e = .returned (.int .i64 (idxGt t l 0)) ∧ w = w' := by
  have HL := Lib.hid (hr.len intCells_len (by omega))
  obtain ⟨v, hv⟩ : ∃ v, Hid (idxGt t l 0 = v) := ⟨_, Lib.hid rfl⟩
  rw [hv.out]
  go_enter Tryd.func17, Tryd.ntmps17
  go_wp2_with fail
  go_loop [8] (fun i => ∃ k : Nat, k ≤ n ∧ i = .int .i64 k ∧ Hid (idxGt t (l.drop k) k = v)) (fun i => n - (intOf i).toNat)
  case atStart => exact ⟨0, Nat.zero_le _, rfl, hv⟩
  case round =>
    obtain ⟨k, hk, rfl, hA⟩ := hrel
    by_cases hlt : k < n
    · have q3 : decide (k < n) = true := dct hlt
      have hg_f : l[k]? = some (l[k]'(by have := HL.out; omega)) := List.getElem?_eq_getElem _
      obtain ⟨b_f, off_f, rfl, hbb_f, hc_f⟩ := (hr).elem intCells_len hg_f hlt
      have HT_f := Lib.hid (show l.take (k + 1) = l.take k ++ [(l[k]'(by have := HL.out; omega))] from List.take_succ_eq_append_getElem (by have := HL.out; omega))
      have HD_f := Lib.hid (show l.drop k = (l[k]'(by have := HL.out; omega)) :: l.drop (k + 1) from List.drop_eq_getElem_cons (by have := HL.out; omega))
      have HM_f := Lib.hid (show (l[k]'(by have := HL.out; omega)) ∈ l from List.getElem_mem _)
      generalize (l[k]'(by have := HL.out; omega)) = f at *
      have c0 := hc_f 0 _ rfl
      clear hc_f hg_f
      simp only [Nat.add_zero, Nat.mul_one] at c0
      by_cases h : t < f
      · have HV : Hid (v = k) := Lib.hid (by rw [← hA.out, HD_f.out, idxGt, if_pos h])
        have q := dct h
        go_wp2_with fail
        refine (gt_any f t b _ hc).mono ?_
        rintro e w' ⟨rfl, rfl⟩
        go_wp2_with fail
        go_ret
        rw [HV.out]
        exact ⟨rfl, rfl⟩
      · have HV : Hid (idxGt t (l.drop (k + 1)) (k + 1) = v) := Lib.hid (by rw [← hA.out, HD_f.out, idxGt, if_neg h])
        have q := dcf h
        go_wp2_with fail
        refine (gt_any f t b _ hc).mono ?_
        rintro e w' ⟨rfl, rfl⟩
        go_wp2_with fail
        go_round
        case rel => exact ⟨k + 1, by omega, by go_num, HV⟩
        case measure => simp [intOf]; omega
    · obtain rfl : n = k := by omega
      have HV : Hid (v = -1) := Lib.hid (by rw [← hA.out, List.drop_of_length_le (by have := HL.out; omega), idxGt])
      go_wp2_with fail
      go_ret
      rw [HV.out]
      exact ⟨rfl, rfl⟩

/-- The next tick at which something is due. -/
def nextC (cf : Conf) (t : Int) : Option Int := if wrongK cf = 8 then nextT t (ticksOf cf.cycles) else none

set_option maxRecDepth 10000 in
set_option maxHeartbeats 2000000 in
theorem next_any (A1 A2 A3 : Option Addr) (n1 n2 n3 cp1 cp2 cp3 : Nat) (cf : Conf) (t : Int) (w : World) (hr : CfRd w A1 n1 A2 n2 A3 n3 cf) :
    Calls Tryd.prog 7 #[.agg #[.slice A1 n1 cp1, .slice A2 n2 cp2, .slice A3 n3 cp3, .int .i64 cf.line, .int .i64 cf.capital, .int .i64 cf.lead, .int .i64 cf.trades, .int .i64 cf.bids], .int .i64 t] w fun e w' => e = .returned (.tuple #[.int .i64 ((nextC cf t).getD 0), .bool (nextC cf t).isSome]) ∧ Below w.heap.size w w' := by
  have hB0 := ((Below.refl w.heap.size w).alloc (Nat.le_refl _) (.cells #[.slice A1 n1 cp1, .slice A2 n2 cp2, .slice A3 n3 cp3, .int .i64 cf.line, .int .i64 cf.capital, .int .i64 cf.lead, .int .i64 cf.trades, .int .i64 cf.bids] 26)).alloc (by simp) (.cells #[.int .i64 t] 3)
  have hr0 := hr.past hB0
  have bc0 := (Blk.new w 26 #[.slice A1 n1 cp1, .slice A2 n2 cp2, .slice A3 n3 cp3, .int .i64 cf.line, .int .i64 cf.capital, .int .i64 cf.lead, .int .i64 cf.trades, .int .i64 cf.bids] w.heap.size rfl).alloc (.cells #[.int .i64 t] 3)
  have bt0 := Blk.new (w.alloc (.cells #[.slice A1 n1 cp1, .slice A2 n2 cp2, .slice A3 n3 cp3, .int .i64 cf.line, .int .i64 cf.capital, .int .i64 cf.lead, .int .i64 cf.trades, .int .i64 cf.bids] 26)) 3 #[.int .i64 t] (w.heap.size + 1) (by simp)
  obtain ⟨c, hc⟩ : ∃ c, Hid (checkC cf = c) := ⟨_, Lib.hid rfl⟩
  have hcn := hr.hc
  by_cases h8 : wrongK cf = 8
  · obtain rfl : 0 = c := by rw [← hc.out, checkC, if_pos h8]
    obtain ⟨P, hP⟩ : ∃ P, Hid (nextT t (ticksOf cf.cycles) = P) := ⟨_, Lib.hid rfl⟩
    have HN : Hid (nextC cf t = P) := Lib.hid (by rw [nextC, if_pos h8, hP.out])
    rw [HN.out]
    clear h8
    go_enter Tryd.func7, Tryd.ntmps7
    go_wp2_with fail
    refine (checkC_any A1 A2 A3 n1 n2 n3 cp1 cp2 cp3 cf _ hr0).mono ?_
    rw [hc.out]
    rintro e w1 ⟨rfl, hb1⟩
    have hr1 := hr0.past hb1
    have bc1 := bc0.past hb1
    have bt1 := bt0.past hb1
    have hB1 := Below.past hB0 hb1 hB0.size
    have e0 := (bc1).cell 0
    have e1 := (bc1).cell 1
    have e2 := (bc1).cell 2
    have e3 := (bc1).cell 3
    have e4 := (bc1).cell 4
    have e5 := (bc1).cell 5
    have e6 := (bc1).cell 6
    have e7 := (bc1).cell 7
    simp at e0 e1 e2 e3 e4 e5 e6 e7
    go_wp2_with fail
    refine (ticks_any A1 A2 A3 n1 n2 n3 cp1 cp2 cp3 cf _ hr1).mono ?_
    rintro e w2 ⟨v, rfl, hown, hb2⟩
    have bt2 := bt1.past hb2
    have hB2 := Below.next hB1 hb2
    obtain ⟨A, cc, rfl⟩ := own_form hown
    have hrd := Rd.of_own hown
    have ct := bt2.cell 0
    simp at ct
    clear e0 e1 e2 e3 e4 e5 e6 e7
    obtain ⟨ix, hix⟩ : ∃ i, Hid (idxGt t (ticksOf cf.cycles) 0 = i) := ⟨_, Lib.hid rfl⟩
    go_wp2_with fail
    refine (indexGt_any A (4 * n3) cc (ticksOf cf.cycles) t (w.heap.size + 1) _ hrd (by omega) ct).mono ?_
    rw [hix.out]
    rintro e w' ⟨rfl, rfl⟩
    cases P with
    | none =>
      have hi : ix = -1 := by rw [← hix.out]; exact idxGt_none _ _ _ hP.out
      subst hi
      go_wp2_with fail
      go_ret2
      exact ⟨rfl, hB2⟩
    | some u =>
      obtain ⟨k, h1, h2⟩ := idxGt_some t u (ticksOf cf.cycles) 0 hP.out
      rw [hix.out, Nat.zero_add] at h1
      subst h1
      have hk4 : k < 4 * n3 := by
        have := (List.getElem?_eq_some_iff.1 h2).1
        have := hrd.len intCells_len (by omega)
        omega
      obtain ⟨b, off, hA, hbb, hcel⟩ := hrd.elem intCells_len h2 hk4
      subst hA
      have c0 := hcel 0 _ rfl
      simp only [Nat.add_zero, Nat.mul_one] at c0
      have q0 : decide ((k : Int) < 0) = false := dcf (by omega)
      clear hcel h2
      go_wp2_with fail
      go_ret2
      exact ⟨rfl, hB2⟩
  · obtain rfl : 1 = c := by rw [← hc.out, checkC, if_neg h8]
    have HN : Hid (nextC cf t = none) := Lib.hid (by rw [nextC, if_neg h8])
    rw [HN.out]
    clear h8
    go_enter Tryd.func7, Tryd.ntmps7
    go_wp2_with fail
    refine (checkC_any A1 A2 A3 n1 n2 n3 cp1 cp2 cp3 cf _ hr0).mono ?_
    rw [hc.out]
    rintro e w1 ⟨rfl, hb1⟩
    go_wp2_with fail
    go_ret2
    exact ⟨rfl, Below.past hB0 hb1 hB0.size⟩
end Go.Proofs.YtjlaooaicddloaaDoor
