import Derived.Test.YtelbolhckhdioaaConfA
namespace Go.Proofs.Ytelbolhckhdioaa
open Go.RowKit

theorem decF {p : Prop} [Decidable p] (h : ¬ p) : decide p = false := decide_eq_false h

set_option maxHeartbeats 1000000 in
theorem member_yes (A1 A2 A3 : Option Addr) (n1 n2 n3 cp1 cp2 cp3 : Nat) (cf : Conf) (i : Int) (w : World) (hr : CfRd w A1 n1 A2 n2 A3 n3 cf) (h1 : 1 ≤ i) (h2 : i ≤ n1) (x : Memb) (hx : cf.members[(i - 1).toNat]? = some x) :
    Calls Try.prog 151 #[.agg #[.slice A1 n1 cp1, .slice A2 n2 cp2, .slice A3 n3 cp3, .int .i64 cf.line, .int .i64 cf.capital, .int .i64 cf.lead, .int .i64 cf.trades, .int .i64 cf.bids], .int .i64 i] w fun e w' => e = .returned (.tuple #[.agg #[.int .i64 x.coll, .int .i64 x.fund], .int .i64 0]) ∧ Below w.heap.size w w' := by
  have hn := hr.hm
  have hlt : (i - 1).toNat < n1 := by omega
  obtain ⟨b, off, hA, hbb, hc⟩ := (hr.m).elem Memb.cells_len hx hlt
  subst hA
  have c0 := hc 0 _ rfl
  have c1 := hc 1 _ rfl
  rw [show (i - 1).toNat = i.toNat - 1 by omega] at c0 c1
  simp only [Nat.add_zero] at c0
  clear hc hx
  have q1 := decF (show ¬ i < 1 by omega)
  have q2 := decF (show ¬ (n1 : Int) < i by omega)
  go_enter Try.func151, Try.ntmps151
  go_wp2_with fail
  refine bodyPost_ret (v := .tuple #[.agg #[.int .i64 x.coll, .int .i64 x.fund], .int .i64 0]) (by simp [results, Try.results151, go_sem]) rfl ⟨rfl, ?_⟩
  exact ((Below.refl _ _).alloc (Nat.le_refl _) _).alloc (by simp) _

set_option maxHeartbeats 1000000 in
theorem member_no (A1 A2 A3 : Option Addr) (n1 n2 n3 cp1 cp2 cp3 : Nat) (cf : Conf) (i : Int) (w : World) (h : i < 1 ∨ (n1 : Int) < i) :
    Calls Try.prog 151 #[.agg #[.slice A1 n1 cp1, .slice A2 n2 cp2, .slice A3 n3 cp3, .int .i64 cf.line, .int .i64 cf.capital, .int .i64 cf.lead, .int .i64 cf.trades, .int .i64 cf.bids], .int .i64 i] w fun e w' => e = .returned (.tuple #[.agg #[.int .i64 0, .int .i64 0], .int .i64 9]) ∧ Below w.heap.size w w' := by
  by_cases h1 : i < 1
  · clear h
    go_enter Try.func151, Try.ntmps151
    go_wp2_with fail
    refine bodyPost_ret (v := .tuple #[.agg #[.int .i64 0, .int .i64 0], .int .i64 9]) (by simp [results, Try.results151, go_sem]) rfl ⟨rfl, ?_⟩
    exact ((Below.refl _ _).alloc (Nat.le_refl _) _).alloc (by simp) _
  · have h2 : (n1 : Int) < i := by omega
    clear h
    go_enter Try.func151, Try.ntmps151
    go_wp2_with fail
    refine bodyPost_ret (v := .tuple #[.agg #[.int .i64 0, .int .i64 0], .int .i64 9]) (by simp [results, Try.results151, go_sem]) rfl ⟨rfl, ?_⟩
    exact ((Below.refl _ _).alloc (Nat.le_refl _) _).alloc (by simp) _

set_option maxHeartbeats 1000000 in
theorem sec_yes (A1 A2 A3 : Option Addr) (n1 n2 n3 cp1 cp2 cp3 : Nat) (cf : Conf) (i : Int) (w : World) (hr : CfRd w A1 n1 A2 n2 A3 n3 cf) (h1 : 1 ≤ i) (h2 : i ≤ n2) (x : Secu) (hx : cf.secs[(i - 1).toNat]? = some x) :
    Calls Try.prog 129 #[.agg #[.slice A1 n1 cp1, .slice A2 n2 cp2, .slice A3 n3 cp3, .int .i64 cf.line, .int .i64 cf.capital, .int .i64 cf.lead, .int .i64 cf.trades, .int .i64 cf.bids], .int .i64 i] w fun e w' => e = .returned (.tuple #[.agg #[.int .i64 x.price, .int .i64 x.cap], .int .i64 0]) ∧ Below w.heap.size w w' := by
  have hn := hr.hs
  have hlt : (i - 1).toNat < n2 := by omega
  obtain ⟨b, off, hA, hbb, hc⟩ := (hr.s).elem Secu.cells_len hx hlt
  subst hA
  have c0 := hc 0 _ rfl
  have c1 := hc 1 _ rfl
  rw [show (i - 1).toNat = i.toNat - 1 by omega] at c0 c1
  simp only [Nat.add_zero] at c0
  clear hc hx
  have q1 := decF (show ¬ i < 1 by omega)
  have q2 := decF (show ¬ (n2 : Int) < i by omega)
  go_enter Try.func129, Try.ntmps129
  go_wp2_with fail
  refine bodyPost_ret (v := .tuple #[.agg #[.int .i64 x.price, .int .i64 x.cap], .int .i64 0]) (by simp [results, Try.results129, go_sem]) rfl ⟨rfl, ?_⟩
  exact ((Below.refl _ _).alloc (Nat.le_refl _) _).alloc (by simp) _

set_option maxHeartbeats 1000000 in
theorem sec_no (A1 A2 A3 : Option Addr) (n1 n2 n3 cp1 cp2 cp3 : Nat) (cf : Conf) (i : Int) (w : World) (h : i < 1 ∨ (n2 : Int) < i) :
    Calls Try.prog 129 #[.agg #[.slice A1 n1 cp1, .slice A2 n2 cp2, .slice A3 n3 cp3, .int .i64 cf.line, .int .i64 cf.capital, .int .i64 cf.lead, .int .i64 cf.trades, .int .i64 cf.bids], .int .i64 i] w fun e w' => e = .returned (.tuple #[.agg #[.int .i64 0, .int .i64 0], .int .i64 10]) ∧ Below w.heap.size w w' := by
  by_cases h1 : i < 1
  · clear h
    go_enter Try.func129, Try.ntmps129
    go_wp2_with fail
    refine bodyPost_ret (v := .tuple #[.agg #[.int .i64 0, .int .i64 0], .int .i64 10]) (by simp [results, Try.results129, go_sem]) rfl ⟨rfl, ?_⟩
    exact ((Below.refl _ _).alloc (Nat.le_refl _) _).alloc (by simp) _
  · have h2 : (n2 : Int) < i := by omega
    clear h
    go_enter Try.func129, Try.ntmps129
    go_wp2_with fail
    refine bodyPost_ret (v := .tuple #[.agg #[.int .i64 0, .int .i64 0], .int .i64 10]) (by simp [results, Try.results129, go_sem]) rfl ⟨rfl, ?_⟩
    exact ((Below.refl _ _).alloc (Nat.le_refl _) _).alloc (by simp) _

end Go.Proofs.Ytelbolhckhdioaa
