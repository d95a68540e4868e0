import Derived.Test.YtjlaooaicddloaaDoorCalQ
import Derived.Test.YtjlaooaicddloaaDoorCalD
import Derived.StillTailTactics
namespace Go.Proofs.YtjlaooaicddloaaDoor
open Go.RowKit

theorem foldl_take {t : Int} {l : List Cyc} {k : Nat} {x : Cyc} (h : l.take (k + 1) = l.take k ++ [x]) : (l.take (k + 1)).foldl (dueX t) (0, 0) = dueX t ((l.take k).foldl (dueX t) (0, 0)) x := by
  rw [h, List.foldl_append]; rfl

set_option maxRecDepth 10000 in
set_option maxHeartbeats 4000000 in
theorem refDue_any (A1 A2 A3 : Option Addr) (n1 n2 n3 cp1 cp2 cp3 : Nat) (cf : Conf) (t : Int) (w : World) (hr : CfRd w A1 n1 A2 n2 A3 n3 cf) :
    Calls Tryd.prog 10 #[.agg #[.slice A1 n1 cp1, .slice A2 n2 cp2, .slice A3 n3 cp3, .int .i64 cf.line, .int .i64 cf.capital, .int .i64 cf.lead, .int .i64 cf.trades, .int .i64 cf.bids], .int .i64 t] w fun e w' => e = .returned (.tuple #[.int .i64 (dueL t cf.cycles).1, .int .i64 (dueL t cf.cycles).2]) ∧ Below w.heap.size w w' := by
  have hB0 := (Below.refl w.heap.size w).alloc (Nat.le_refl _) (.cells #[.slice A1 n1 cp1, .slice A2 n2 cp2, .slice A3 n3 cp3, .int .i64 cf.line, .int .i64 cf.capital, .int .i64 cf.lead, .int .i64 cf.trades, .int .i64 cf.bids] 26)
  have bc0 := Blk.new w 26 #[.slice A1 n1 cp1, .slice A2 n2 cp2, .slice A3 n3 cp3, .int .i64 cf.line, .int .i64 cf.capital, .int .i64 cf.lead, .int .i64 cf.trades, .int .i64 cf.bids] w.heap.size rfl
  have HL := Lib.hid (hr.c.len Cyc.cells_len (by have := hr.hc; omega))
  have hcn := hr.hc
  go_enter Tryd.func10, Tryd.ntmps10
  go_wp2_with fail
  go_loopw [6, 7, 8] (fun n kd i wr => ∃ (k : Nat) (N D : Int), k ≤ n3 ∧ n = .int .i64 N ∧ kd = .int .i64 D ∧ i = .int .i64 k ∧ 0 ≤ N ∧ N ≤ 4 * k ∧ Hid ((cf.cycles.take k).foldl (dueX t) (0, 0) = (N, D)) ∧ Below w.heap.size w wr ∧ Blk wr w.heap.size 26 #[.slice A1 n1 cp1, .slice A2 n2 cp2, .slice A3 n3 cp3, .int .i64 cf.line, .int .i64 cf.capital, .int .i64 cf.lead, .int .i64 cf.trades, .int .i64 cf.bids]) (fun _ _ i _ => n3 - (intOf i).toNat)
  case atStart => exact ⟨0, 0, 0, by omega, rfl, rfl, rfl, by omega, by omega, Lib.hid rfl, hB0, bc0⟩
  case round =>
    obtain ⟨k, N, D, hk, rfl, rfl, rfl, hN0, hN1, hF, hb, bc⟩ := hrel
    have hs := hb.size
    have e0 := (bc).cell 0
    have e1 := (bc).cell 1
    have e2 := (bc).cell 2
    have e3 := (bc).cell 3
    have e4 := (bc).cell 4
    have e5 := (bc).cell 5
    have e6 := (bc).cell 6
    have e7 := (bc).cell 7
    simp at e0 e1 e2 e3 e4 e5 e6 e7
    by_cases hlt : k < n3
    · have q1 : decide (k < n3) = true := dct hlt
      have hg_f : cf.cycles[k]? = some (cf.cycles[k]'(by have := HL.out; omega)) := List.getElem?_eq_getElem _
      obtain ⟨b_f, off_f, rfl, hbb_f, hc_f⟩ := (hr.c.below hb).elem Cyc.cells_len hg_f hlt
      have HT_f := Lib.hid (show cf.cycles.take (k + 1) = cf.cycles.take k ++ [(cf.cycles[k]'(by have := HL.out; omega))] from List.take_succ_eq_append_getElem (by have := HL.out; omega))
      have HD_f := Lib.hid (show cf.cycles.drop k = (cf.cycles[k]'(by have := HL.out; omega)) :: cf.cycles.drop (k + 1) from List.drop_eq_getElem_cons (by have := HL.out; omega))
      have HM_f := Lib.hid (show (cf.cycles[k]'(by have := HL.out; omega)) ∈ cf.cycles from List.getElem_mem _)
      generalize (cf.cycles[k]'(by have := HL.out; omega)) = f at *
      have c0 := hc_f 0 _ rfl
      have c1 := hc_f 1 _ rfl
      have c2 := hc_f 2 _ rfl
      have c3 := hc_f 3 _ rfl
      clear hc_f hg_f
      simp only [Nat.add_zero] at c0
      have HF2 := Lib.hid (foldl_take (t := t) HT_f.out)
      rw [hF.out] at HF2
      go_wp2_with fail
      go_still_tail 24, (by kernel_rfl)
      change wpList _ _ _ _ _ wr.drew
      have hbV := hb.drew
      have bcV : Blk wr.drew w.heap.size 26 #[.slice A1 n1 cp1, .slice A2 n2 cp2, .slice (some ⟨b_f, off_f, none⟩) n3 cp3, .int .i64 cf.line, .int .i64 cf.capital, .int .i64 cf.lead, .int .i64 cf.trades, .int .i64 cf.bids] := bc
      clear e0 e1 e2 e3 e4 e5 e6 e7 c0 c1 c2 c3 bc hb hs
      generalize wr.drew = V at hbV bcV ⊢
      have hs := hbV.size
      have bl1 := (Blk.new V 3 #[.int .i64 f.cut, .int .i64 f.fund, .int .i64 f.buyin, .int .i64 f.close] V.heap.size rfl).alloc (.cells #[.int .i64 1, .int .i64 3, .int .i64 4, .int .i64 5] 3)
      have bl2 := Blk.new (V.alloc (.cells #[.int .i64 f.cut, .int .i64 f.fund, .int .i64 f.buyin, .int .i64 f.close] 3)) 3 #[.int .i64 1, .int .i64 3, .int .i64 4, .int .i64 5] (V.heap.size + 1) (by simp)
      have hbX := (hbV.alloc hs (.cells #[.int .i64 f.cut, .int .i64 f.fund, .int .i64 f.buyin, .int .i64 f.close] 3)).alloc (by simp; omega) (.cells #[.int .i64 1, .int .i64 3, .int .i64 4, .int .i64 5] 3)
      have bcX := (bcV.alloc (.cells #[.int .i64 f.cut, .int .i64 f.fund, .int .i64 f.buyin, .int .i64 f.close] 3)).alloc (.cells #[.int .i64 1, .int .i64 3, .int .i64 4, .int .i64 5] 3)
      go_wp2_with fail
      obtain ⟨X, hX⟩ : ∃ X, Hid ((V.alloc (.cells #[.int .i64 f.cut, .int .i64 f.fund, .int .i64 f.buyin, .int .i64 f.close] 3)).alloc (.cells #[.int .i64 1, .int .i64 3, .int .i64 4, .int .i64 5] 3) = X) := ⟨_, Lib.hid rfl⟩
      rw [hX.out] at bl1 bl2 hbX bcX ⊢
      have c0 := (bl1).cell 0
      have c1 := (bl1).cell 1
      have c2 := (bl1).cell 2
      have c3 := (bl1).cell 3
      simp at c0 c1 c2 c3
      have d0 := (bl2).cell 0
      have d1 := (bl2).cell 1
      have d2 := (bl2).cell 2
      have d3 := (bl2).cell 3
      simp at d0 d1 d2 d3
      clear bl1 bl2 bcV hbV hs
      go_loop [6, 7, 11] (fun n kd i => ∃ (j : Nat) (N' D' : Int), j ≤ 4 ∧ n = .int .i64 N' ∧ kd = .int .i64 D' ∧ i = .int .i64 j ∧ 0 ≤ N' ∧ N' ≤ N + j ∧ Hid (dueK t f (N, D) j = (N', D'))) (fun _ _ i => 4 - (intOf i).toNat)
      case atStart => exact ⟨0, N, D, by omega, rfl, rfl, rfl, by omega, by omega, Lib.hid rfl⟩
      case round =>
        obtain ⟨j, N', D', hj, rfl, rfl, rfl, hN2, hN3, hG⟩ := hrel
        by_cases hj4 : j < 4
        · by_cases he : tickK f j = t
          · have hbd : N' + 1 ≤ N + ((j + 1 : Nat) : Int) := by omega
            have HBD := Lib.hid hbd
            clear hbd
            have HG2 : Hid (dueK t f (N, D) (j + 1) = (N' + 1, kindK j)) := Lib.hid (by rw [dueK, hG.out, hit, if_pos he])
            obtain rfl | rfl | rfl | rfl : j = 0 ∨ j = 1 ∨ j = 2 ∨ j = 3 := by omega
            all_goals
              simp only [tickK] at he
              have q := show (_ == t) = true from beq_iff_eq.2 he
              clear he
              go_wp2_with fail
              go_round
              case rel => exact ⟨_, _, _, by decide, rfl, rfl, rfl, by omega, HBD.out, HG2⟩
              case measure => simp [intOf]
          · have hbd : N' ≤ N + ((j + 1 : Nat) : Int) := by omega
            have HBD := Lib.hid hbd
            clear hbd
            have HG2 : Hid (dueK t f (N, D) (j + 1) = (N', D')) := Lib.hid (by rw [dueK, hG.out, hit, if_neg he])
            obtain rfl | rfl | rfl | rfl : j = 0 ∨ j = 1 ∨ j = 2 ∨ j = 3 := by omega
            all_goals
              simp only [tickK] at he
              have q := show (_ == t) = false from beq_eq_false_iff_ne.2 he
              clear he
              go_wp2_with fail
              go_round
              case rel => exact ⟨_, _, _, by decide, rfl, rfl, rfl, by omega, HBD.out, HG2⟩
              case measure => simp [intOf]
        · obtain rfl : 4 = j := by omega
          go_wp2_with fail
          go_roundw
          case rel => exact ⟨k + 1, N', D', by omega, rfl, rfl, by go_num, by omega, by omega, Lib.hid (by rw [HF2.out, dueX, hG.out]), hbX, bcX⟩
          case measure => simp [intOf]; omega
    · obtain rfl : n3 = k := by omega
      have HV : Hid (dueL t cf.cycles = (N, D)) := Lib.hid (by rw [dueL, ← hF.out, List.take_of_length_le (by have := HL.out; omega)])
      go_wp2_with fail
      go_ret2
      rw [HV.out]
      exact ⟨rfl, hb⟩
end Go.Proofs.YtjlaooaicddloaaDoor
