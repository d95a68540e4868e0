import Derived.Test.YtjlaooaicddloaaDoorCalP
import Derived.Test.YtjlaooaicddloaaDoorConfH
namespace Go.Proofs.YtjlaooaicddloaaDoor
open Go.RowKit

theorem r2 {a b a' b' : Int} {k k' : IntKind} (h1 : a = a') (h2 : b = b') : Ending.returned (.tuple #[.int k a, .int k' b]) = .returned (.tuple #[.int k a', .int k' b']) := by rw [h1, h2]
theorem span_still {f : Cyc} {k : Nat} {p : Int} (h1 : (k + 1 : Int) ≠ f.cut) (h2 : (k + 1 : Int) ≠ f.fund) (h3 : (k + 1 : Int) ≠ f.buyin) (h : p = spanI f k) : p = spanI f (k + 1) := by
  rw [h, spanI, spanI]
  repeat' split
  all_goals omega
/-- The document's cycle and span at a tick. -/
def refAtC (cf : Conf) (t : Int) : Int × Int := if t < 0 then (0, 0) else atL cf.cycles 0 t

set_option maxRecDepth 10000 in
set_option maxHeartbeats 4000000 in
theorem refAt_any (A1 A2 A3 : Option Addr) (n1 n2 n3 cp1 cp2 cp3 : Nat) (cf : Conf) (t : Int) (w : World) (hr : CfRd w A1 n1 A2 n2 A3 n3 cf) (h8 : wrongK cf = 8) :
    Calls Tryd.prog 11 #[.agg #[.slice A1 n1 cp1, .slice A2 n2 cp2, .slice A3 n3 cp3, .int .i64 cf.line, .int .i64 cf.capital, .int .i64 cf.lead, .int .i64 cf.trades, .int .i64 cf.bids], .int .i64 t] w fun e w' => e = .returned (.tuple #[.int .i64 (refAtC cf t).1, .int .i64 (refAtC cf t).2]) ∧ Below w.heap.size w w' := by
  have hB0 := (Below.refl w.heap.size w).alloc (Nat.le_refl _) (.cells #[.slice A1 n1 cp1, .slice A2 n2 cp2, .slice A3 n3 cp3, .int .i64 cf.line, .int .i64 cf.capital, .int .i64 cf.lead, .int .i64 cf.trades, .int .i64 cf.bids] 26)
  have hr0 := hr.past hB0
  have bc0 := Blk.new w 26 #[.slice A1 n1 cp1, .slice A2 n2 cp2, .slice A3 n3 cp3, .int .i64 cf.line, .int .i64 cf.capital, .int .i64 cf.lead, .int .i64 cf.trades, .int .i64 cf.bids] w.heap.size rfl
  by_cases ht : t < 0
  · have q1 := dct ht
    have HN : Hid (refAtC cf t = (0, 0)) := Lib.hid (by rw [refAtC, if_pos ht])
    rw [HN.out]
    clear h8
    go_enter Tryd.func11, Tryd.ntmps11
    go_wp2_with fail
    go_ret2
    exact ⟨rfl, hB0⟩
  · have q1 := dcf ht
    obtain ⟨P, hP⟩ : ∃ P, Hid (atL cf.cycles 0 t = P) := ⟨_, Lib.hid rfl⟩
    have HN : Hid (refAtC cf t = P) := Lib.hid (by rw [refAtC, if_neg ht, hP.out])
    rw [HN.out]
    have HL := Lib.hid (hr.c.len Cyc.cells_len (by have := hr.hc; omega))
    have OK := Lib.hid (cycs_of_ok h8)
    have hcn := hr.hc
    have ST := Lib.hid (Stand.start OK.out.1 OK.out.2.1 t)
    rw [hP.out] at ST
    clear h8
    go_enter Tryd.func11, Tryd.ntmps11
    go_wp2_with fail
    go_loopw [6, 7, 8] (fun c p i wr => ∃ (k cc : Nat) (pp T : Int), Hid (T = k + 1) ∧ 1 ≤ T ∧ T ≤ 1001 ∧ c = .int .i64 cc ∧ p = .int .i64 pp ∧ i = .int .i64 T ∧ T ≤ t + 1 ∧ Hid (Stand cf.cycles t P k cc pp) ∧ Below w.heap.size w wr ∧ Blk wr w.heap.size 26 #[.slice A1 n1 cp1, .slice A2 n2 cp2, .slice A3 n3 cp3, .int .i64 cf.line, .int .i64 cf.capital, .int .i64 cf.lead, .int .i64 cf.trades, .int .i64 cf.bids]) (fun _ _ i _ => 2000 - (intOf i).toNat)
    case atStart => exact ⟨0, 0, 1, 1, Lib.hid rfl, by omega, by omega, rfl, rfl, rfl, by omega, ST, hB0, bc0⟩
    case round =>
      obtain ⟨k, cc, pp, T, hT, hT1, hT2, rfl, rfl, rfl, hTt, hS, hb, bc⟩ := hrel
      have hs := hb.size
      by_cases hle : T ≤ t
      · have q2 := dct hle
        by_cases hp : pp < 5
        · have q3 := dct hp
          have hlt : cc < n3 := by have := hS.out.cyc hp; have := HL.out; omega
          have e0 := (bc).cell 0
          have e1 := (bc).cell 1
          have e2 := (bc).cell 2
          have e3 := (bc).cell 3
          have e4 := (bc).cell 4
          have e5 := (bc).cell 5
          have e6 := (bc).cell 6
          have e7 := (bc).cell 7
          simp at e0 e1 e2 e3 e4 e5 e6 e7
          have hg_f : cf.cycles[cc]? = some (cf.cycles[cc]'(by have := HL.out; omega)) := List.getElem?_eq_getElem _
          obtain ⟨b_f, off_f, rfl, hbb_f, hc_f⟩ := (hr.c.below hb).elem Cyc.cells_len hg_f hlt
          have HT_f := Lib.hid (show cf.cycles.take (cc + 1) = cf.cycles.take cc ++ [(cf.cycles[cc]'(by have := HL.out; omega))] from List.take_succ_eq_append_getElem (by have := HL.out; omega))
          have HD_f := Lib.hid (show cf.cycles.drop cc = (cf.cycles[cc]'(by have := HL.out; omega)) :: cf.cycles.drop (cc + 1) from List.drop_eq_getElem_cons (by have := HL.out; omega))
          have HM_f := Lib.hid (show (cf.cycles[cc]'(by have := HL.out; omega)) ∈ cf.cycles from List.getElem_mem _)
          generalize (cf.cycles[cc]'(by have := HL.out; omega)) = f at *
          have c0 := hc_f 0 _ rfl
          have c1 := hc_f 1 _ rfl
          have c2 := hc_f 2 _ rfl
          have c3 := hc_f 3 _ rfl
          clear hc_f hg_f
          simp only [Nat.add_zero] at c0
          have HX : Hid (cf.cycles[cc]? = some f) := Lib.hid (by have := congrArg List.head? HD_f.out; simpa [List.head?_drop] using this)
          have C := Lib.hid (cyc_at OK.out.1 HX.out)
          have S2 := Lib.hid (hS.out.le OK.out.1 hp HX.out)
          have bcn := bc.alloc (.cells #[.int .i64 f.cut, .int .i64 f.fund, .int .i64 f.buyin, .int .i64 f.close] 49)
          have hbn := hb.alloc hs (.cells #[.int .i64 f.cut, .int .i64 f.fund, .int .i64 f.buyin, .int .i64 f.close] 49)
          have e2n := bcn.cell 2
          simp only [List.getElem?_toArray, List.getElem?_cons_succ, List.getElem?_cons_zero] at e2n
          have K := C.out
          have K2 := S2.out
          have K3 := hT.out
          by_cases d1 : T = f.close
          · have z1 : (T == f.cut) = false := by simp; omega
            have z2 : (T == f.fund) = false := by simp; omega
            have z3 : (T == f.buyin) = false := by simp; omega
            have z4 : (T == f.close) = true := by simp; omega
            by_cases d2 : cc + 1 = n3
            · have z5 : ((cc : Int) + 1 == (n3 : Int)) = true := by simp; omega
              have NS := Lib.hid (hS.out.next OK.out.1 HX.out (by omega) (by omega) (q := 5) (by rw [if_pos (by rw [HL.out]; exact d2)]))
              clear K K2 K3 d1 d2
              go_wp2_with fail
              go_roundw
              case rel => exact ⟨k + 1, cc + 1, 5, T + 1, Lib.hid (by have := hT.out; omega), by omega, by have := S2.out; have := hT.out; omega, by go_num, rfl, by go_num, by omega, NS, hbn, bcn⟩
              case measure => simp [intOf]; omega
            · have z5 : ((cc : Int) + 1 == (n3 : Int)) = false := by simp; omega
              have NS := Lib.hid (hS.out.next OK.out.1 HX.out (by omega) (by omega) (q := 1) (by rw [if_neg (by rw [HL.out]; exact d2)]))
              clear K K2 K3 d1 d2
              go_wp2_with fail
              go_roundw
              case rel => exact ⟨k + 1, cc + 1, 1, T + 1, Lib.hid (by have := hT.out; omega), by omega, by have := S2.out; have := hT.out; omega, by go_num, rfl, by go_num, by omega, NS, hbn, bcn⟩
              case measure => simp [intOf]; omega
          · have z4 : (T == f.close) = false := by simp; omega
            by_cases d2 : T = f.cut
            · have z_cut : (T == f.cut) = true := by simp; omega
              have z_fund : (T == f.fund) = false := by simp; omega
              have z_buyin : (T == f.buyin) = false := by simp; omega
              have NS := Lib.hid (hS.out.same hp HX.out (by omega) (q := 2) (by rw [spanI, if_neg (by omega), if_pos (by omega)]))
              clear K K2 K3 d1 d2
              go_wp2_with fail
              go_roundw
              case rel => exact ⟨k + 1, cc, 2, T + 1, Lib.hid (by have := hT.out; omega), by omega, by have := S2.out; have := hT.out; have := C.out; omega, rfl, rfl, by go_num, by omega, NS, hbn, bcn⟩
              case measure => simp [intOf]; omega
            by_cases d3 : T = f.fund
            · have z_cut : (T == f.cut) = false := by simp; omega
              have z_fund : (T == f.fund) = true := by simp; omega
              have z_buyin : (T == f.buyin) = false := by simp; omega
              have NS := Lib.hid (hS.out.same hp HX.out (by omega) (q := 3) (by rw [spanI, if_neg (by omega), if_neg (by omega), if_pos (by omega)]))
              clear K K2 K3 d1 d2 d3
              go_wp2_with fail
              go_roundw
              case rel => exact ⟨k + 1, cc, 3, T + 1, Lib.hid (by have := hT.out; omega), by omega, by have := S2.out; have := hT.out; have := C.out; omega, rfl, rfl, by go_num, by omega, NS, hbn, bcn⟩
              case measure => simp [intOf]; omega
            by_cases d4 : T = f.buyin
            · have z_cut : (T == f.cut) = false := by simp; omega
              have z_fund : (T == f.fund) = false := by simp; omega
              have z_buyin : (T == f.buyin) = true := by simp; omega
              have NS := Lib.hid (hS.out.same hp HX.out (by omega) (q := 4) (by rw [spanI, if_neg (by omega), if_neg (by omega), if_neg (by omega)]))
              clear K K2 K3 d1 d2 d3 d4
              go_wp2_with fail
              go_roundw
              case rel => exact ⟨k + 1, cc, 4, T + 1, Lib.hid (by have := hT.out; omega), by omega, by have := S2.out; have := hT.out; have := C.out; omega, rfl, rfl, by go_num, by omega, NS, hbn, bcn⟩
              case measure => simp [intOf]; omega
            have z_cut : (T == f.cut) = false := by simp; omega
            have z_fund : (T == f.fund) = false := by simp; omega
            have z_buyin : (T == f.buyin) = false := by simp; omega
            have NS := Lib.hid (hS.out.same hp HX.out (by omega) (q := pp) (span_still (by omega) (by omega) (by omega) K2.2.2))
            clear K K2 K3 d1 d2 d3 d4
            go_wp2_with fail
            go_roundw
            case rel => exact ⟨k + 1, cc, pp, T + 1, Lib.hid (by have := hT.out; omega), by omega, by have := S2.out; have := hT.out; have := C.out; omega, rfl, rfl, by go_num, by omega, NS, hbn, bcn⟩
            case measure => simp [intOf]; omega
        · have q3 := dcf hp
          have HP1 := Lib.hid (hS.out.over hp)
          clear hp
          go_wp2_with fail
          go_ret2
          exact ⟨r2 (by rw [HP1.out]) (by rw [HP1.out]), hb⟩
      · have q2 := dcf hle
        have HP1 : Hid (P = ((cc : Int), pp)) := Lib.hid (by have h1 := hS.out; have h2 := hT.out; obtain rfl : t = k := (by omega); exact h1.done)
        go_wp2_with fail
        go_ret2
        exact ⟨r2 (by rw [HP1.out]) (by rw [HP1.out]), hb⟩
end Go.Proofs.YtjlaooaicddloaaDoor
