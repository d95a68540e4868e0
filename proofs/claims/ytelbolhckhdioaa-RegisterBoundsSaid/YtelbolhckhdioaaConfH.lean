import Derived.Test.YtelbolhckhdioaaConfG
namespace Go.Proofs.Ytelbolhckhdioaa
open Go.RowKit

theorem plain_ok (a b c : Nat) (ha : 2 ≤ a) (ha' : a ≤ 16) (hb : 1 ≤ b) (hb' : b ≤ 8) (hc : 1 ≤ c) (hc' : c ≤ 4) : wrongK (plainCf a b c) = 8 := by
  have h0 : badAt (plainCf a b c) 0 = false := by
    have : (List.replicate a pMemb).all Memb.ok = true := by rw [List.all_eq_true]; intro x hx; rw [List.eq_of_mem_replicate hx]; decide
    simp only [badAt, membsOk, plainCf, this, List.length_replicate, inB]; simp; omega
  have h1 : badAt (plainCf a b c) 1 = false := by
    have : (List.replicate b pSec).all Secu.ok = true := by rw [List.all_eq_true]; intro x hx; rw [List.eq_of_mem_replicate hx]; decide
    simp only [badAt, secsOk, plainCf, this, List.length_replicate, inB]; simp; omega
  have h2 : badAt (plainCf a b c) 2 = false := by
    obtain rfl | rfl | rfl | rfl : c = 1 ∨ c = 2 ∨ c = 3 ∨ c = 4 := by omega
    all_goals rfl
  unfold wrongK
  rw [h0, h1, h2, show badAt (plainCf a b c) 3 = false from rfl, show badAt (plainCf a b c) 4 = false from rfl, show badAt (plainCf a b c) 5 = false from rfl, show badAt (plainCf a b c) 6 = false from rfl, show badAt (plainCf a b c) 7 = false from rfl]
  rfl

/-- What a plain config's value is, and its memory. -/
def IsPlain (m s c : Int) (w : World) (e : Ending) (w' : World) : Prop :=
  ∃ (A1 A2 A3 : Option Addr) (cp1 cp2 cp3 : Nat), e = .returned (.agg #[.slice A1 (nearI m 2 16).toNat cp1, .slice A2 (nearI s 1 8).toNat cp2, .slice A3 (nearI c 1 4).toNat cp3, .int .i64 500, .int .i64 200, .int .i64 1, .int .i64 64, .int .i64 32]) ∧
    CfRd w' A1 (nearI m 2 16).toNat A2 (nearI s 1 8).toNat A3 (nearI c 1 4).toNat (plainCf (nearI m 2 16).toNat (nearI s 1 8).toNat (nearI c 1 4).toNat) ∧ Below w.heap.size w w'

theorem plain_is (m s c : Int) (w : World) : Calls Try.prog 88 #[.int .i64 m, .int .i64 s, .int .i64 c] w (IsPlain m s c w) := by
  have b1 := nearI_bd m 2 16 (by omega)
  have b2 := nearI_bd s 1 8 (by omega)
  have b3 := nearI_bd c 1 4 (by omega)
  refine (plain_any m s c w).mono ?_
  rintro e w' ⟨va, vb, vc, rfl, h1, h2, h3, hb⟩
  obtain ⟨A1, c1, rfl⟩ := own_form h1
  obtain ⟨A2, c2, rfl⟩ := own_form h2
  obtain ⟨A3, c3, rfl⟩ := own_form h3
  exact ⟨A1, A2, A3, c1, c2, c3, rfl, ⟨Rd.of_own h1, Rd.of_own h2, Rd.of_own h3, by omega, by omega, by omega⟩, hb⟩
theorem CfRd.drew {w : World} {A1 : Option Addr} {n1 : Nat} {A2 : Option Addr} {n2 : Nat} {A3 : Option Addr} {n3 : Nat} {cf : Conf} (h : CfRd w A1 n1 A2 n2 A3 n3 cf) : CfRd w.drew A1 n1 A2 n2 A3 n3 cf :=
  ⟨h.m, h.s, h.c, h.hm, h.hs, h.hc⟩
def pageCf : Conf := plainCf 2 1 1
theorem page_ticks : ticksOf pageCf.cycles = [4, 7, 9, 10] := rfl
theorem page_check : checkC pageCf = 0 := by rw [checkC, pageCf, if_pos (plain_ok 2 1 1 (by omega) (by omega) (by omega) (by omega) (by omega) (by omega))]
theorem page_last : lastC pageCf = 10 := rfl

end Go.Proofs.Ytelbolhckhdioaa
