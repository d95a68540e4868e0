import Derived.Test.YtndhhnfhookeaaaBidA
import Derived.Maps.AppendAt
import Derived.Deep.RegionLaw
import Derived.IntWalk
namespace Go.Proofs.Ytndhhnfhookeaaa
open Go.RowKit

/-! ### The document's check -/
set_option maxHeartbeats 2000000 in
theorem refCheckB_any (A1 A2 A3 : Option Addr) (n1 n2 n3 cp1 cp2 cp3 : Nat) (cf : Conf) (b : BidV) (w : World) (hr : CfRd w A1 n1 A2 n2 A3 n3 cf) :
    Calls Try.prog 51 #[.agg #[.slice A1 n1 cp1, .slice A2 n2 cp2, .slice A3 n3 cp3, .int .i64 cf.line, .int .i64 cf.capital, .int .i64 cf.lead, .int .i64 cf.trades, .int .i64 cf.bids], .agg #[.int .i64 b.seq, .int .i64 b.mem, .int .i64 b.sec, .int .i64 b.qty, .int .i64 b.price]] w fun e w' => e = .returned (.int .i64 (checkB cf n1 n2 b)) ∧ Below w.heap.size w w' := by
  have hB0 : Below w.heap.size w ((w.alloc (.cells #[.slice A1 n1 cp1, .slice A2 n2 cp2, .slice A3 n3 cp3, .int .i64 cf.line, .int .i64 cf.capital, .int .i64 cf.lead, .int .i64 cf.trades, .int .i64 cf.bids] 51)).alloc (.cells #[.int .i64 b.seq, .int .i64 b.mem, .int .i64 b.sec, .int .i64 b.qty, .int .i64 b.price] 90)) := ((Below.refl _ _).alloc (Nat.le_refl _) _).alloc (by simp) _
  have hr0 := hr.past hB0
  have HR0 := Lib.hid hr0
  have HLS := Lib.hid (hr.s.len Secu.cells_len (by omega))
  clear hr hr0
  by_cases a1 : b.mem < 1
  · have HN : Hid (checkB cf n1 n2 b = 9) := Lib.hid (by have hz : inN n1 b.mem = false := decide_eq_false (by omega); simp [checkB, bidC, hz])
    have q1 := decide_eq_true a1
    go_enter Try.func51, Try.ntmps51
    go_wp2_with fail
    go_ret
    rw [HN.out]; exact ⟨rfl, hB0⟩
  have q1 := decide_eq_false a1
  by_cases a2 : (n1 : Int) < b.mem
  · have HN : Hid (checkB cf n1 n2 b = 9) := Lib.hid (by have hz : inN n1 b.mem = false := decide_eq_false (by omega); simp [checkB, bidC, hz])
    have q2 := decide_eq_true a2
    go_enter Try.func51, Try.ntmps51
    go_wp2_with fail
    go_ret
    rw [HN.out]; exact ⟨rfl, hB0⟩
  have q2 := decide_eq_false a2
  have z1 : Hid (inN n1 b.mem = true) := Lib.hid (decide_eq_true (by omega))
  clear a1 a2
  by_cases a3 : b.sec < 1
  · have HN : Hid (checkB cf n1 n2 b = 10) := Lib.hid (by have hz : inN n2 b.sec = false := decide_eq_false (by omega); simp [checkB, bidC, z1.out, hz])
    have q3 := decide_eq_true a3
    go_enter Try.func51, Try.ntmps51
    go_wp2_with fail
    go_ret
    rw [HN.out]; exact ⟨rfl, hB0⟩
  have q3 := decide_eq_false a3
  by_cases a4 : (n2 : Int) < b.sec
  · have HN : Hid (checkB cf n1 n2 b = 10) := Lib.hid (by have hz : inN n2 b.sec = false := decide_eq_false (by omega); simp [checkB, bidC, z1.out, hz])
    have q4 := decide_eq_true a4
    go_enter Try.func51, Try.ntmps51
    go_wp2_with fail
    go_ret
    rw [HN.out]; exact ⟨rfl, hB0⟩
  have q4 := decide_eq_false a4
  have z2 : Hid (inN n2 b.sec = true) := Lib.hid (decide_eq_true (by omega))
  have hlt : (b.sec - 1).toNat < n2 := by omega
  obtain ⟨x, hx⟩ : ∃ x, cf.secs[(b.sec - 1).toNat]? = some x := ⟨_, List.getElem?_eq_getElem (by rw [HLS.out]; exact hlt)⟩
  have zc : Hid (capOf cf n2 b.sec = x.cap) := Lib.hid (by rw [capOf, if_pos z2.out, hx]; rfl)
  by_cases a5 : b.qty < 1
  · have HN : Hid (checkB cf n1 n2 b = 1) := Lib.hid (by simp [checkB, bidC, z1.out, z2.out, a5])
    have q5 := decide_eq_true a5
    clear a3 a4 a5 hx
    go_enter Try.func51, Try.ntmps51
    go_wp2_with fail
    go_ret
    rw [HN.out]; exact ⟨rfl, hB0⟩
  have q5 := decide_eq_false a5
  by_cases a6 : b.price < 1
  · have HN : Hid (checkB cf n1 n2 b = 1) := Lib.hid (by simp [checkB, bidC, z1.out, z2.out, a6])
    have q6 := decide_eq_true a6
    clear a3 a4 a5 a6 hx
    go_enter Try.func51, Try.ntmps51
    go_wp2_with fail
    go_ret
    rw [HN.out]; exact ⟨rfl, hB0⟩
  have q6 := decide_eq_false a6
  by_cases a7 : 274877906944 < b.qty
  · have HN : Hid (checkB cf n1 n2 b = 2) := Lib.hid (by simp [checkB, bidC, z1.out, z2.out, a5, a6, a7])
    have q7 := decide_eq_true a7
    clear a3 a4 a5 a6 a7 hx
    go_enter Try.func51, Try.ntmps51
    go_wp2_with fail
    go_ret
    rw [HN.out]; exact ⟨rfl, hB0⟩
  have q7 := decide_eq_false a7
  obtain ⟨bA, off, hA, hbb, hc⟩ := (HR0.out.s).elem Secu.cells_len hx hlt
  subst hA
  have c0 := hc 0 _ rfl
  have c1 := hc 1 _ rfl
  simp only [Nat.add_zero] at c0
  have e1 : (b.sec - 1).toNat = b.sec.toNat - 1 := by omega
  rw [e1] at c0 c1
  have hn2 : (n2 : Int) ≤ 1000 := by have := HR0.out.hs; omega
  have s1 : IntKind.i64.wrap (b.sec - 1) = b.sec - 1 := IntWalk.i64_in _ (by omega)
  have s2 : 0 ≤ b.sec - 1 := by omega
  have s3 : b.sec - 1 < (n2 : Int) := by omega
  by_cases a8 : x.cap < b.price
  · have HN : Hid (checkB cf n1 n2 b = 15) := Lib.hid (by simp [checkB, bidC, z1.out, z2.out, a5, a6, a7, zc.out, a8])
    have q8 := decide_eq_true a8
    clear a3 a4 a5 a6 a7 a8 hx hc e1 hlt
    go_enter Try.func51, Try.ntmps51
    go_wp2_with fail
    go_quiet (fail)
    clear s1
    go_wp2_with fail
    go_ret
    rw [HN.out]; exact ⟨rfl, below_drewN hB0 nq⟩
  · have HN : Hid (checkB cf n1 n2 b = 0) := Lib.hid (by simp [checkB, bidC, z1.out, z2.out, a5, a6, a7, zc.out, a8])
    have q8 := decide_eq_false a8
    clear a3 a4 a5 a6 a7 a8 hx hc e1 hlt
    go_enter Try.func51, Try.ntmps51
    go_wp2_with fail
    go_quiet (fail)
    clear s1
    go_wp2_with fail
    go_ret
    rw [HN.out]; exact ⟨rfl, below_drewN hB0 nq⟩

/-! ### The bid of a command -/
structure CommB where
  kind : Int
  id : Int
  member : Int
  other : Int
  sec : Int
  qty : Int
  price : Int
set_option maxHeartbeats 1000000 in
theorem ofB_yes (x : CommB) (w : World) (h : x.kind = 7) :
    Calls Try.prog 52 #[.agg #[.int .i64 x.kind, .int .i64 x.id, .int .i64 x.member, .int .i64 x.other, .int .i64 x.sec, .int .i64 x.qty, .int .i64 x.price]] w fun e w' =>
      e = .returned (.tuple #[.agg #[.int .i64 0, .int .i64 x.member, .int .i64 x.sec, .int .i64 x.qty, .int .i64 x.price], .int .i64 0]) ∧ Below w.heap.size w w' := by
  have q : (x.kind != 7) = false := by simpa using h
  clear h
  go_enter Try.func52, Try.ntmps52
  go_wp2_with fail
  refine bodyPost_ret (v := .tuple #[.agg #[.int .i64 0, .int .i64 x.member, .int .i64 x.sec, .int .i64 x.qty, .int .i64 x.price], .int .i64 0]) (by simp [results, Try.results52, go_sem]) rfl ⟨rfl, ?_⟩
  exact ((Below.refl _ _).alloc (Nat.le_refl _) _).alloc (by simp) _
set_option maxHeartbeats 1000000 in
theorem ofB_no (x : CommB) (w : World) (h : x.kind ≠ 7) :
    Calls Try.prog 52 #[.agg #[.int .i64 x.kind, .int .i64 x.id, .int .i64 x.member, .int .i64 x.other, .int .i64 x.sec, .int .i64 x.qty, .int .i64 x.price]] w fun e w' =>
      e = .returned (.tuple #[.agg #[.int .i64 0, .int .i64 0, .int .i64 0, .int .i64 0, .int .i64 0], .int .i64 3]) ∧ Below w.heap.size w w' := by
  have q : (x.kind != 7) = true := by simpa using h
  clear h
  go_enter Try.func52, Try.ntmps52
  go_wp2_with fail
  refine bodyPost_ret (v := .tuple #[.agg #[.int .i64 0, .int .i64 0, .int .i64 0, .int .i64 0, .int .i64 0], .int .i64 3]) (by simp [results, Try.results52, go_sem]) rfl ⟨rfl, ?_⟩
  exact ((Below.refl _ _).alloc (Nat.le_refl _) _).alloc (by simp) _
end Go.Proofs.Ytndhhnfhookeaaa
