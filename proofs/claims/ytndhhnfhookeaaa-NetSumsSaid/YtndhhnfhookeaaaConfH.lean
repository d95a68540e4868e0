import Derived.Test.YtndhhnfhookeaaaConfG
namespace Go.Proofs.Ytndhhnfhookeaaa
open Go.RowKit

theorem plain_ok (a b c : Nat) (ha : 2 ≤ a) (ha' : a ≤ 16) (hb : 1 ≤ b) (hb' : b ≤ 8) (hc : 1 ≤ c) (hc' : c ≤ 4) : wrongK (plainCf a b c) = 8 := by
  have h0 : badAt (plainCf a b c) 0 = false := by
    have : (List.replicate a pMemb).all Memb.ok = true := by rw [List.all_eq_true]; intro x hx; rw [List.eq_of_mem_replicate hx]; decide
    simp only [badAt, membsOk, plainCf, this, List.length_replicate, inB]; simp; omega
  have h1 : badAt (plainCf a b c) 1 = false := by
    have : (List.replicate b pSec).all Secu.ok = true := by rw [List.all_eq_true]; intro x hx; rw [List.eq_of_mem_replicate hx]; decide
    simp only [badAt, secsOk, plainCf, this, List.length_replicate, inB]; simp; omega
  have h2 : badAt (plainCf a b c) 2 = false := by
    obtain rfl | rfl | rfl | rfl : c = 1 ∨ c = 2 ∨ c = 3 ∨ c = 4 := by omega
    all_goals rfl
  unfold wrongK
  rw [h0, h1, h2, show badAt (plainCf a b c) 3 = false from rfl, show badAt (plainCf a b c) 4 = false from rfl, show badAt (plainCf a b c) 5 = false from rfl, show badAt (plainCf a b c) 6 = false from rfl, show badAt (plainCf a b c) 7 = false from rfl]
  rfl

/-- What a plain config's value is, and its memory. -/
def IsPlain (m s c : Int) (w : World) (e : Ending) (w' : World) : Prop :=
  ∃ (A1 A2 A3 : Option Addr) (cp1 cp2 cp3 : Nat), e = .returned (.agg #[.slice A1 (nearI m 2 16).toNat cp1, .slice A2 (nearI s 1 8).toNat cp2, .slice A3 (nearI c 1 4).toNat cp3, .int .i64 500, .int .i64 200, .int .i64 1, .int .i64 64, .int .i64 32]) ∧
    CfRd w' A1 (nearI m 2 16).toNat A2 (nearI s 1 8).toNat A3 (nearI c 1 4).toNat (plainCf (nearI m 2 16).toNat (nearI s 1 8).toNat (nearI c 1 4).toNat) ∧ Below w.heap.size w w'

theorem plain_is (m s c : Int) (w : World) : Calls Try.prog 70 #[.int .i64 m, .int .i64 s, .int .i64 c] w (IsPlain m s c w) := by
  have b1 := nearI_bd m 2 16 (by omega)
  have b2 := nearI_bd s 1 8 (by omega)
  have b3 := nearI_bd c 1 4 (by omega)
  refine (plain_any m s c w).mono ?_
  rintro e w' ⟨va, vb, vc, rfl, h1, h2, h3, hb⟩
  obtain ⟨A1, c1, rfl⟩ := own_form h1
  obtain ⟨A2, c2, rfl⟩ := own_form h2
  obtain ⟨A3, c3, rfl⟩ := own_form h3
  exact ⟨A1, A2, A3, c1, c2, c3, rfl, ⟨Rd.of_own h1, Rd.of_own h2, Rd.of_own h3, by omega, by omega, by omega⟩, hb⟩
theorem CfRd.drew {w : World} {A1 : Option Addr} {n1 : Nat} {A2 : Option Addr} {n2 : Nat} {A3 : Option Addr} {n3 : Nat} {cf : Conf} (h : CfRd w A1 n1 A2 n2 A3 n3 cf) : CfRd w.drew A1 n1 A2 n2 A3 n3 cf :=
  ⟨h.m, h.s, h.c, h.hm, h.hs, h.hc⟩
def pageCf : Conf := plainCf 2 1 1
theorem page_ticks : ticksOf pageCf.cycles = [4, 7, 9, 10] := rfl
theorem page_check : checkC pageCf = 0 := by rw [checkC, pageCf, if_pos (plain_ok 2 1 1 (by omega) (by omega) (by omega) (by omega) (by omega) (by omega))]
theorem page_last : lastC pageCf = 10 := rfl

set_option maxRecDepth 100000 in
set_option maxHeartbeats 1000000 in
theorem awake10 (w : World) : Calls Try.prog 41 #[] w fun e w' => e = .returned (.bool true) ∧ Below w.heap.size w w' := by
  go_enter Try.func41, Try.ntmps41
  go_wp2_with fail
  refine (plain_is 2 1 1 _).mono ?_
  rintro e w1 ⟨A1, A2, A3, cp1, cp2, cp3, rfl, hr, hb1⟩
  have q1 : (nearI 2 2 16).toNat = 2 := rfl
  have q2 : (nearI 1 1 8).toNat = 1 := rfl
  have q3 : (nearI 1 1 4).toNat = 1 := rfl
  rw [q1, q2, q3] at hr ⊢
  clear q1 q2 q3
  have hr : CfRd w1 A1 2 A2 1 A3 1 pageCf := hr
  have hs1 := hb1.size
  have hr1 := hr.alloc (.cells #[.slice A1 2 cp1, .slice A2 1 cp2, .slice A3 1 cp3, .int .i64 500, .int .i64 200, .int .i64 1, .int .i64 64, .int .i64 32] 51)
  have bx := Blk.new w1 51 #[.slice A1 2 cp1, .slice A2 1 cp2, .slice A3 1 cp3, .int .i64 500, .int .i64 200, .int .i64 1, .int .i64 64, .int .i64 32] w1.heap.size rfl
  go_wp2_with fail
  refine (ticks_any A1 A2 A3 2 1 1 cp1 cp2 cp3 pageCf _ hr1).mono ?_
  rintro e w2 ⟨v, rfl, hown, hb2⟩
  rw [page_ticks] at hown
  have hown : w2.ownsRow _ 3 1 v 4 [.int .i64 4, .int .i64 7, .int .i64 9, .int .i64 10] := hown
  obtain ⟨g, cap, rfl, _, hlt⟩ := hown.form (by decide)
  have hcs := hown.cells (g := g) rfl
  have t0 := hcs 0 _ rfl
  have t3 := hcs 3 _ rfl
  simp only [Addr.add, Nat.reduceEqDiff, if_false, if_true, Nat.zero_add] at t0 t3
  clear hcs hown
  have bx2 := bx.past hb2
  have hr2 := hr1.past hb2
  have hs2 : w1.heap.size + 1 ≤ w2.heap.size := by have := hb2.size; simpa using this
  have e0 := bx2.cell 0
  have e1 := bx2.cell 1
  have e2 := bx2.cell 2
  have e3 := bx2.cell 3
  have e4 := bx2.cell 4
  have e5 := bx2.cell 5
  have e6 := bx2.cell 6
  have e7 := bx2.cell 7
  simp at e0 e1 e2 e3 e4 e5 e6 e7
  go_wp2_with fail
  refine (checkC_any A1 A2 A3 2 1 1 cp1 cp2 cp3 pageCf _ hr2).mono ?_
  rintro e w3 ⟨rfl, hb3⟩
  rw [page_check]
  have bx3 := bx2.past hb3
  have hr3 := hr2.past hb3
  clear e0 e1 e2 e3 e4 e5 e6 e7
  have e0 := bx3.cell 0
  have e1 := bx3.cell 1
  have e2 := bx3.cell 2
  have e3 := bx3.cell 3
  have e4 := bx3.cell 4
  have e5 := bx3.cell 5
  have e6 := bx3.cell 6
  have e7 := bx3.cell 7
  simp at e0 e1 e2 e3 e4 e5 e6 e7
  go_wp2_with fail
  refine (lastC_any A1 A2 A3 2 1 1 cp1 cp2 cp3 pageCf _ hr3).mono ?_
  rintro e w4 ⟨rfl, hb4⟩
  rw [page_last]
  go_wp2_with fail
  go_ret
  refine ⟨rfl, ?_⟩
  have h2 : Below w.heap.size w w2 := Below.past (hb1.alloc hs1 _) hb2 (by simp; omega)
  have h3 := Below.past h2 hb3 (by omega)
  exact Below.past h3 hb4 (by have := hb3.size; omega)

end Go.Proofs.Ytndhhnfhookeaaa
