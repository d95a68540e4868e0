import Derived.Test.YtjlaooaicddloaaDoorCalA
namespace Go.Proofs.YtjlaooaicddloaaDoor
open Go.RowKit

/-- A cycle's span at a tick. -/
def spanI (x : Cyc) (t : Int) : Int := if t < x.cut then 1 else if t < x.fund then 2 else if t < x.buyin then 3 else 4
/-- The cycle, and the span, at a tick. -/
def atL : List Cyc → Nat → Int → Int × Int
  | [], i, _ => (i, 5)
  | x :: r, i, t => if t < x.close then (i, spanI x t) else atL r (i + 1) t

set_option maxHeartbeats 1000000 in
theorem span_any (x : Cyc) (t : Int) (w : World) :
    Calls Tryd.prog 21 #[.agg #[.int .i64 x.cut, .int .i64 x.fund, .int .i64 x.buyin, .int .i64 x.close], .int .i64 t] w fun e w' => e = .returned (.int .i64 (spanI x t)) ∧ Below w.heap.size w w' := by
  have hB0 := (Below.refl w.heap.size w).alloc (Nat.le_refl _) (.cells #[.int .i64 x.cut, .int .i64 x.fund, .int .i64 x.buyin, .int .i64 x.close] 49)
  by_cases a1 : t < x.cut
  · have q1 := dct a1
    have HN : Hid (spanI x t = 1) := Lib.hid (if_pos a1)
    go_enter Tryd.func21, Tryd.ntmps21
    go_wp2_with fail
    go_ret
    rw [HN.out]
    exact ⟨rfl, hB0⟩
  · have q1 := dcf a1
    by_cases a2 : t < x.fund
    · have q2 := dct a2
      have HN : Hid (spanI x t = 2) := Lib.hid (by rw [spanI, if_neg a1, if_pos a2])
      go_enter Tryd.func21, Tryd.ntmps21
      go_wp2_with fail
      go_ret
      rw [HN.out]
      exact ⟨rfl, hB0⟩
    · have q2 := dcf a2
      by_cases a3 : t < x.buyin
      · have q3 := dct a3
        have HN : Hid (spanI x t = 3) := Lib.hid (by rw [spanI, if_neg a1, if_neg a2, if_pos a3])
        go_enter Tryd.func21, Tryd.ntmps21
        go_wp2_with fail
        go_ret
        rw [HN.out]
        exact ⟨rfl, hB0⟩
      · have q3 := dcf a3
        have HN : Hid (spanI x t = 4) := Lib.hid (by rw [spanI, if_neg a1, if_neg a2, if_neg a3])
        go_enter Tryd.func21, Tryd.ntmps21
        go_wp2_with fail
        go_ret
        rw [HN.out]
        exact ⟨rfl, hB0⟩

theorem r3 {a b c a' b' c' : Int} {k k' k'' : IntKind} (h1 : a = a') (h2 : b = b') (h3 : c = c') : Ending.returned (.tuple #[.int k a, .int k' b, .int k'' c]) = .returned (.tuple #[.int k a', .int k' b', .int k'' c']) := by rw [h1, h2, h3]

def atC (cf : Conf) (t : Int) : Int × Int × Int := if wrongK cf = 8 then (if t < 0 then (0, 0, 0) else ((atL cf.cycles 0 t).1, (atL cf.cycles 0 t).2, 0)) else (0, 0, 1)

set_option maxRecDepth 10000 in
set_option maxHeartbeats 2000000 in
theorem at_any (A1 A2 A3 : Option Addr) (n1 n2 n3 cp1 cp2 cp3 : Nat) (cf : Conf) (t : Int) (w : World) (hr : CfRd w A1 n1 A2 n2 A3 n3 cf) :
    Calls Tryd.prog 13 #[.agg #[.slice A1 n1 cp1, .slice A2 n2 cp2, .slice A3 n3 cp3, .int .i64 cf.line, .int .i64 cf.capital, .int .i64 cf.lead, .int .i64 cf.trades, .int .i64 cf.bids], .int .i64 t] w fun e w' => e = .returned (.tuple #[.int .i64 (atC cf t).1, .int .i64 (atC cf t).2.1, .int .i64 (atC cf t).2.2]) ∧ Below w.heap.size w w' := by
  have hB0 := (Below.refl w.heap.size w).alloc (Nat.le_refl _) (.cells #[.slice A1 n1 cp1, .slice A2 n2 cp2, .slice A3 n3 cp3, .int .i64 cf.line, .int .i64 cf.capital, .int .i64 cf.lead, .int .i64 cf.trades, .int .i64 cf.bids] 26)
  have hr0 := hr.past hB0
  have bc0 := Blk.new w 26 #[.slice A1 n1 cp1, .slice A2 n2 cp2, .slice A3 n3 cp3, .int .i64 cf.line, .int .i64 cf.capital, .int .i64 cf.lead, .int .i64 cf.trades, .int .i64 cf.bids] w.heap.size rfl
  obtain ⟨c, hc⟩ : ∃ c, Hid (checkC cf = c) := ⟨_, Lib.hid rfl⟩
  by_cases h8 : wrongK cf = 8
  · obtain rfl : 0 = c := by rw [← hc.out, checkC, if_pos h8]
    by_cases ht : t < 0
    · have q1 := dct ht
      have HN : Hid (atC cf t = (0, 0, 0)) := Lib.hid (by rw [atC, if_pos h8, if_pos ht])
      rw [HN.out]
      clear h8
      go_enter Tryd.func13, Tryd.ntmps13
      go_wp2_with fail
      refine (checkC_any A1 A2 A3 n1 n2 n3 cp1 cp2 cp3 cf _ hr0).mono ?_
      rw [hc.out]
      rintro e w1 ⟨rfl, hb1⟩
      go_wp2_with fail
      go_ret3
      exact ⟨rfl, Below.past hB0 hb1 hB0.size⟩
    · have q1 := dcf ht
      obtain ⟨P, hP⟩ : ∃ P, Hid (atL cf.cycles 0 t = P) := ⟨_, Lib.hid rfl⟩
      have HN : Hid (atC cf t = (P.1, P.2, 0)) := Lib.hid (by rw [atC, if_pos h8, if_neg ht, hP.out])
      rw [HN.out]
      have HL := Lib.hid (hr.c.len Cyc.cells_len (by omega))
      clear h8
      go_enter Tryd.func13, Tryd.ntmps13
      go_wp2_with fail
      refine (checkC_any A1 A2 A3 n1 n2 n3 cp1 cp2 cp3 cf _ hr0).mono ?_
      rw [hc.out]
      rintro e w1 ⟨rfl, hb1⟩
      have hr1 := hr0.past hb1
      have bc1 := bc0.past hb1
      have hB1 := Below.past hB0 hb1 hB0.size
      have hcn := hr.hc
      have e0 := (bc1).cell 0
      have e1 := (bc1).cell 1
      have e2 := (bc1).cell 2
      have e3 := (bc1).cell 3
      have e4 := (bc1).cell 4
      have e5 := (bc1).cell 5
      have e6 := (bc1).cell 6
      have e7 := (bc1).cell 7
      simp at e0 e1 e2 e3 e4 e5 e6 e7
      go_wp2_with fail
      go_loopw [19] (fun i wr => ∃ k : Nat, k ≤ n3 ∧ i = .int .i64 k ∧ Hid (atL (cf.cycles.drop k) k t = P) ∧ Below w1.heap.size w1 wr) (fun i _ => n3 - (intOf i).toNat)
      case atStart => exact ⟨0, by omega, rfl, hP, Below.refl _ _⟩
      case round =>
        obtain ⟨k, hk, rfl, hA, hb⟩ := hrel
        have bc2 := bc1.past hb
        have hB2 := Below.past hB1 hb hB1.size
        clear e0 e1 e2 e3 e4 e5 e6 e7
        have e0 := (bc2).cell 0
        have e1 := (bc2).cell 1
        have e2 := (bc2).cell 2
        have e3 := (bc2).cell 3
        have e4 := (bc2).cell 4
        have e5 := (bc2).cell 5
        have e6 := (bc2).cell 6
        have e7 := (bc2).cell 7
        simp at e0 e1 e2 e3 e4 e5 e6 e7
        by_cases hlt : k < n3
        · have q3 : decide (k < n3) = true := dct hlt
          have hg_f : cf.cycles[k]? = some (cf.cycles[k]'(by have := HL.out; omega)) := List.getElem?_eq_getElem _
          obtain ⟨b_f, off_f, rfl, hbb_f, hc_f⟩ := (hr1.c.below hb).elem Cyc.cells_len hg_f hlt
          have HT_f := Lib.hid (show cf.cycles.take (k + 1) = cf.cycles.take k ++ [(cf.cycles[k]'(by have := HL.out; omega))] from List.take_succ_eq_append_getElem (by have := HL.out; omega))
          have HD_f := Lib.hid (show cf.cycles.drop k = (cf.cycles[k]'(by have := HL.out; omega)) :: cf.cycles.drop (k + 1) from List.drop_eq_getElem_cons (by have := HL.out; omega))
          have HM_f := Lib.hid (show (cf.cycles[k]'(by have := HL.out; omega)) ∈ cf.cycles from List.getElem_mem _)
          generalize (cf.cycles[k]'(by have := HL.out; omega)) = f at *
          have c0 := hc_f 0 _ rfl
          have c1 := hc_f 1 _ rfl
          have c2 := hc_f 2 _ rfl
          have c3 := hc_f 3 _ rfl
          clear hc_f hg_f
          simp only [Nat.add_zero] at c0
          by_cases hc2 : t < f.close
          · have q2 := dct hc2
            have HP1 : Hid (P = (((k : Nat) : Int), spanI f t)) := Lib.hid (by rw [← hA.out, HD_f.out, atL, if_pos hc2])
            obtain ⟨sp, hsp⟩ : ∃ s, Hid (spanI f t = s) := ⟨_, Lib.hid rfl⟩
            rw [hsp.out] at HP1
            go_wp2_with fail
            refine (span_any f t _).mono ?_
            rw [hsp.out]
            rintro e w3 ⟨rfl, hb3⟩
            go_wp2_with fail
            go_ret3
            refine ⟨r3 (by rw [HP1.out]) (by rw [HP1.out]) rfl, ?_⟩
            exact Below.past (hB2.alloc hB2.size _) hb3 (by have := hB2.size; simp; omega)
          · have q2 := dcf hc2
            have HP1 : Hid (atL (cf.cycles.drop (k + 1)) (k + 1) t = P) := Lib.hid (by rw [← hA.out, HD_f.out, atL, if_neg hc2])
            go_wp2_with fail
            go_roundw
            case rel => exact ⟨k + 1, by omega, by go_num, HP1, hb.alloc hb.size _⟩
            case measure => simp [intOf]; omega
        · obtain rfl : n3 = k := by omega
          have HP1 : Hid (P = (((n3 : Nat) : Int), 5)) := Lib.hid (by rw [← hA.out, List.drop_of_length_le (by have := HL.out; omega), atL])
          go_wp2_with fail
          go_ret3
          exact ⟨r3 (by rw [HP1.out]) (by rw [HP1.out]) rfl, hB2⟩
  · obtain rfl : 1 = c := by rw [← hc.out, checkC, if_neg h8]
    have HN : Hid (atC cf t = (0, 0, 1)) := Lib.hid (by rw [atC, if_neg h8])
    rw [HN.out]
    clear h8
    go_enter Tryd.func13, Tryd.ntmps13
    go_wp2_with fail
    refine (checkC_any A1 A2 A3 n1 n2 n3 cp1 cp2 cp3 cf _ hr0).mono ?_
    rw [hc.out]
    rintro e w1 ⟨rfl, hb1⟩
    go_wp2_with fail
    go_ret3
    exact ⟨rfl, Below.past hB0 hb1 hB0.size⟩
end Go.Proofs.YtjlaooaicddloaaDoor
