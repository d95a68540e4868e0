import Derived.Test.YtelbolhckhdioaaGreatRpT
import Derived.Test.YtelbolhckhdioaaGreatTwoR
import Derived.Test.YtelbolhckhdioaaGreatConfH
import Derived.Test.YtelbolhckhdioaaGreatRpW
import Derived.Test.YtelbolhckhdioaaGreatRgF
import Derived.Test.YtelbolhckhdioaaGreatRgG
/-! ## from RpL -/
namespace Go.Proofs.YtelbolhckhdioaaGreat
open Go.RowKit Go.ChangeShapes

def LegsOwn (t : Trad) (w : World) (e : Ending) (w' : World) : Prop := ∃ A c, e = .returned (.tuple #[.slice A 4 c, .int .i64 0]) ∧ w'.ownsRow w.heap.size 97 3 (.slice A 4 c) 4 ((legsOf t).flatMap Leg.cells) ∧ Below w.heap.size w w'

set_option maxRecDepth 10000 in
set_option maxHeartbeats 2000000 in
theorem refLegs_own (t : Trad) (hq : inI t.qty) (hp : inI t.price) (h : legsIn t = true) (w : World) : Calls Tryz.prog 51 #[.agg #[.int .i64 t.id, .int .i64 t.buyer, .int .i64 t.seller, .int .i64 t.sec, .int .i64 t.qty, .int .i64 t.price]] w (LegsOwn t w) := by
  have hh : inI (t.qty * t.price) ∧ inI (-(t.qty * t.price)) ∧ inI (-t.qty) := by simpa [legsIn] using h
  obtain ⟨h1, h2, h3⟩ := hh
  have A1 := Lib.hid (amount_in h1)
  have n1 : (t.qty == -9223372036854775808) = false := by have := (negI _ hq).1 h3; simpa using this
  have n2 : (t.qty * t.price == -9223372036854775808) = false := by have := (negI _ h1).1 h2; simpa using this
  obtain ⟨i0, hi0, hz0, hz1, hz2⟩ := info_parts leg_info
  clear h
  have hB0 := (Below.refl w.heap.size w).alloc (Nat.le_refl _) (.cells #[.int .i64 t.id, .int .i64 t.buyer, .int .i64 t.seller, .int .i64 t.sec, .int .i64 t.qty, .int .i64 t.price] 38)
  have bx0 := Blk.new w 38 #[.int .i64 t.id, .int .i64 t.buyer, .int .i64 t.seller, .int .i64 t.sec, .int .i64 t.qty, .int .i64 t.price] w.heap.size rfl
  obtain ⟨v, hv⟩ : ∃ v, Hid (t.qty * t.price = v) := ⟨_, rfl⟩
  rw [hv.out] at A1 n2 h1 h2
  obtain ⟨v1, v2⟩ := h2
  obtain ⟨u1, u2⟩ := h3
  obtain ⟨q1, q2⟩ := hq
  clear h1
  go_enter Tryz.func51, Tryz.ntmps51
  go_wp2_with fail
  refine (refMul_any _ _ ⟨q1, q2⟩ hp _).mono ?_
  rintro e w1 ⟨rfl, hb1⟩
  rw [hv.out, A1.out.1, A1.out.2]
  have bx1 := bx0.past hb1
  have hB1 := Below.past hB0 hb1 hB0.size
  have hs1 := hB1.size
  have e0 := (bx1).cell 0
  have e1 := (bx1).cell 1
  have e2 := (bx1).cell 2
  have e3 := (bx1).cell 3
  have e4 := (bx1).cell 4
  have e5 := (bx1).cell 5
  simp at e0 e1 e2 e3 e4 e5
  go_wp2_with (first
    | (at_builtin; refine wpList_append_lit _ _ rfl (.tmp 29) (.tmp 34) 41 rfl w.heap.size 97 i0 _ 3 24 Tryz.underlying41 hi0 hz0 hz1 hz2 rfl (by decide) (.slice none 0 0) 0 [] rfl (World.ownsRow_nil _ _ _ _) _ 1 1 rfl (by first | rfl | simp) rfl (by simp [Value.oneCell']) (by omega) (by omega) (by omega) ?_; intro v1 w2 hown1 hg1; have bx2 := (bx1.alloc _).grown hg1 (by simp [Value.ownBlock]); have hB2 : Below w.heap.size w w2 := below_own (hB1.alloc hs1 _) hg1 (World.ownsRow_nil w1 w.heap.size 97 3) (by simp; omega) (Nat.le_refl _); have hs2 := hB2.size; clear e0 e1 e2 e3 e4 e5; have e0 := bx2.cell 0; have e1 := bx2.cell 1; have e2 := bx2.cell 2; have e3 := bx2.cell 3; have e4 := bx2.cell 4; have e5 := bx2.cell 5; simp at e0 e1 e2 e3 e4 e5)
    | (at_builtin; refine wpList_append_lit _ _ rfl (.tmp 36) (.tmp 45) 41 rfl w.heap.size 97 i0 _ 3 24 Tryz.underlying41 hi0 hz0 hz1 hz2 rfl (by decide) v1 1 _ rfl hown1 _ 1 1 rfl (by first | rfl | simp) rfl (by simp [Value.oneCell']) (by omega) (by omega) (by omega) ?_; intro v2 w3 hown2 hg2; have bx3 := (bx2.alloc _).grown hg2 (own_blk_ne hown1 bx2 (by decide)); have hB3 : Below w.heap.size w w3 := below_own (hB2.alloc hs2 _) hg2 hown1 (by simp; omega) (Nat.le_refl _); have hs3 := hB3.size; clear e0 e1 e2 e3 e4 e5; have e0 := bx3.cell 0; have e1 := bx3.cell 1; have e2 := bx3.cell 2; have e3 := bx3.cell 3; have e4 := bx3.cell 4; have e5 := bx3.cell 5; simp at e0 e1 e2 e3 e4 e5)
    | (at_builtin; refine wpList_append_lit _ _ rfl (.tmp 47) (.tmp 53) 41 rfl w.heap.size 97 i0 _ 3 24 Tryz.underlying41 hi0 hz0 hz1 hz2 rfl (by decide) v2 2 _ rfl hown2 _ 1 1 rfl (by first | rfl | simp) rfl (by simp [Value.oneCell']) (by omega) (by omega) (by omega) ?_; intro v3 w4 hown3 hg3; have bx4 := (bx3.alloc _).grown hg3 (own_blk_ne hown2 bx3 (by decide)); have hB4 : Below w.heap.size w w4 := below_own (hB3.alloc hs3 _) hg3 hown2 (by simp; omega) (Nat.le_refl _); have hs4 := hB4.size; clear e0 e1 e2 e3 e4 e5; have e0 := bx4.cell 0; have e1 := bx4.cell 1; have e2 := bx4.cell 2; have e3 := bx4.cell 3; have e4 := bx4.cell 4; have e5 := bx4.cell 5; simp at e0 e1 e2 e3 e4 e5)
    | (at_builtin; refine wpList_append_lit _ _ rfl (.tmp 55) (.tmp 63) 41 rfl w.heap.size 97 i0 _ 3 24 Tryz.underlying41 hi0 hz0 hz1 hz2 rfl (by decide) v3 3 _ rfl hown3 _ 1 1 rfl (by first | rfl | simp) rfl (by simp [Value.oneCell']) (by omega) (by omega) (by omega) ?_; intro v4 w5 hown4 hg4; have bx5 := (bx4.alloc _).grown hg4 (own_blk_ne hown3 bx4 (by decide)); have hB5 : Below w.heap.size w w5 := below_own (hB4.alloc hs4 _) hg4 hown3 (by simp; omega) (Nat.le_refl _); have hs5 := hB5.size; clear e0 e1 e2 e3 e4 e5; have e0 := bx5.cell 0; have e1 := bx5.cell 1; have e2 := bx5.cell 2; have e3 := bx5.cell 3; have e4 := bx5.cell 4; have e5 := bx5.cell 5; simp at e0 e1 e2 e3 e4 e5))
  go_ret2
  obtain ⟨A, c, rfl⟩ := own_form hown4
  refine ⟨_, _, rfl, ?_, hB5⟩
  rw [show (legsOf t).flatMap Leg.cells = [.int .i64 t.buyer, .int .i64 0, .int .i64 v, .int .i64 t.buyer, .int .i64 t.sec, .int .i64 (-t.qty), .int .i64 t.seller, .int .i64 0, .int .i64 (-v), .int .i64 t.seller, .int .i64 t.sec, .int .i64 t.qty] by rw [← hv.out]; rfl]
  simpa using hown4


/-! ### The document's Legs of a register -/
theorem legsOf_len (t : Trad) : (legsOf t).length = 4 := rfl
theorem legsT_len : ∀ ts : List Trad, (ts.flatMap legsOf).length = 4 * ts.length
  | [] => rfl
  | x :: S => by
    have ih := legsT_len S
    rw [List.flatMap_cons, List.length_append, ih, legsOf_len, List.length_cons]; omega
theorem tC_flat (S : List TRow) : S.flatMap tC = (tradesS S).flatMap trD := by
  rw [tradesS, List.flatMap_map]; rfl
set_option maxHeartbeats 8000000 in
set_option maxRecDepth 100000 in
theorem refLegs17_any (g base : Nat) (B1 : Option Addr) (n1 d1 : Nat) (B2 : Option Addr) (n2 d2 : Nat) (B3 : Option Addr) (n3 d3 : Nat) (cf : Conf) (c : Int) (v : Value) (l : List RowR) (w : World) (hx : RegV w g base B1 n1 d1 B2 n2 d2 B3 n3 d3 cf c v l) (hl : l.length ≤ 200) (hin : ∀ x ∈ TTbR.rowsD (curR c l), TrdIn x.v ∧ legsIn x.v = true) :
    Calls Tryz.prog 27 #[.pointer (some ⟨g, 0, none⟩)] w fun e w' => ∃ v, e = .returned v ∧ w'.ownsRow w.heap.size 97 3 v (4 * (curR c l).length) ((legsS (TTbR.rowsD (curR c l))).flatMap Leg.cells) ∧ Below w.heap.size w w' := by
  have HTR := Lib.hid (refTrades_any g base B1 n1 d1 B2 n2 d2 B3 n3 d3 cf c v l w hx (by omega))
  obtain ⟨ts, hts⟩ : ∃ ts, Hid (tradesS (TTbR.rowsD (curR c l)) = ts) := ⟨_, Lib.hid rfl⟩
  obtain ⟨n, hn⟩ : ∃ n, Hid ((curR c l).length = n) := ⟨_, Lib.hid rfl⟩
  have hn2 : n ≤ 200 := by rw [← hn.out, curR, List.length_map]; exact Nat.le_trans (List.length_filter_le _ _) hl
  have HLT : Hid (ts.length = n) := Lib.hid (by rw [← hts.out, tradesS, List.length_map, (TTbR.rowsD_perm _).length_eq, hn.out])
  have HTI : Hid (∀ t ∈ ts, TrdIn t ∧ legsIn t = true) := Lib.hid fun t ht => by
    rw [← hts.out] at ht
    obtain ⟨r, hr, rfl⟩ := List.mem_map.1 ht
    exact hin r hr
  have HLS : Hid (legsS (TTbR.rowsD (curR c l)) = ts.flatMap legsOf) := Lib.hid (by unfold legsS; rw [hts.out])
  rw [hn.out, tC_flat, hts.out] at HTR
  rw [hn.out, HLS.out]
  obtain ⟨j0, hj0, jz0, jz1, jz2⟩ := info_parts legInfo
  clear hx hin
  go_enter Tryz.func27, Tryz.ntmps27
  go_wp2_with fail
  refine HTR.out.mono ?_
  rintro e w1 ⟨v1, rfl, hov, hb1⟩
  obtain ⟨A1, c1', rfl⟩ := own_form hov
  have HR := Lib.hid (Rd.of_own hov)
  have HB1 := Lib.hid hb1
  have hs1 := hb1.size
  clear hov hb1 HTR
  go_wp2_with fail
  go_loopw [3, 5] (fun v i wr => ∃ k : Nat, k ≤ n ∧ i = .int .i64 k ∧ Hid (wr.ownsRow w1.heap.size 97 3 v (4 * k) (((ts.take k).flatMap legsOf).flatMap Leg.cells)) ∧ Hid (Below w1.heap.size w1 wr)) (fun _ i _ => n - (intOf i).toNat)
  case atStart => exact ⟨0, Nat.zero_le _, rfl, Lib.hid (World.ownsRow_nil _ _ _ _), Lib.hid (Below.refl _ _)⟩
  case round =>
    obtain ⟨k, hk, rfl, HOUT, HB⟩ := hrel
    have hs := HB.out.size
    by_cases hlt : k < n
    · have hlz : (k : Int) < (n : Int) := by omega
      have hg_t : ts[k]? = some (ts[k]'(by have := HLT.out; omega)) := List.getElem?_eq_getElem _
      obtain ⟨b_t, off_t, rfl, hbb_t, hc_t⟩ := (HR.out.below HB.out).elem trD_len hg_t hlt
      have HT_t := Lib.hid (show ts.take (k + 1) = ts.take k ++ [(ts[k]'(by have := HLT.out; omega))] from List.take_succ_eq_append_getElem (by have := HLT.out; omega))
      have HM_t := Lib.hid (show (ts[k]'(by have := HLT.out; omega)) ∈ ts from List.getElem_mem _)
      generalize (ts[k]'(by have := HLT.out; omega)) = t at *
      have c0 := hc_t 0 _ rfl
      have c1 := hc_t 1 _ rfl
      have c2 := hc_t 2 _ rfl
      have c3 := hc_t 3 _ rfl
      have c4 := hc_t 4 _ rfl
      have c5 := hc_t 5 _ rfl
      clear hc_t hg_t
      simp only [Nat.add_zero] at c0
      have hti := HTI.out t HM_t.out
      have HLG := Lib.hid (refLegs_own t hti.1.1 hti.1.2.1 hti.2 wr)
      unfold LegsOwn at HLG
      clear hti
      go_wp2_with fail
      refine HLG.out.mono ?_
      rintro e w4 ⟨AL, cL, rfl, hol, hb4⟩
      have HOUT4 := Lib.hid (own_past' HOUT.out hb4)
      have HB4 := Lib.hid (Below.past HB.out hb4 hs)
      have hs4 := hb4.size
      obtain ⟨L, hL⟩ : ∃ L, Hid (legsOf t = L) := ⟨_, Lib.hid rfl⟩
      rw [hL.out] at hol
      have HLL : Hid (L.length = 4) := Lib.hid (by rw [← hL.out]; rfl)
      obtain ⟨O, hO⟩ : ∃ O, Hid ((ts.take k).flatMap legsOf = O) := ⟨_, Lib.hid rfl⟩
      have hOl : O.length = 4 * k := by rw [← hO.out, legsT_len, List.length_take, HLT.out]; omega
      have HNX : Hid ((ts.take (k + 1)).flatMap legsOf = O ++ L) := Lib.hid (by rw [HT_t.out, List.flatMap_append, hO.out, ← hL.out]; simp)
      rw [hO.out, ← hOl] at HOUT4
      have HAP : Hid (ApartVN u3 (.slice AL 4 cL)) := Lib.hid fun j e1 e2 => by
        have := (HOUT.out.lt _ e1).2; have := (hol.lt _ e2).1; omega
      have HOL := Lib.hid (own_mono' hol (show w1.heap.size ≤ wr.heap.size from hs))
      clear hol hb4 HLG HOUT HB c0 c1 c2 c3 c4 c5
      go_wp2_with fail
      go_loopw [3, 8] (fun v i w5 => ∃ j : Nat, j ≤ 4 ∧ i = .int .i64 j ∧ Hid (w5.ownsRow w1.heap.size 97 3 v (O ++ L.take j).length ((O ++ L.take j).flatMap Leg.cells)) ∧ Hid (w5.ownsRow w1.heap.size 97 3 (.slice AL 4 cL) 4 (L.flatMap Leg.cells)) ∧ Hid (ApartVN v (.slice AL 4 cL)) ∧ Hid (Below w1.heap.size w1 w5)) (fun _ i _ => 4 - (intOf i).toNat)
      case atStart => exact ⟨0, by omega, rfl, by simpa using HOUT4, HOL, HAP, HB4⟩
      case round =>
        obtain ⟨j, hj, rfl, HV, HY, HAPJ, HBJ⟩ := hrel
        have hsj := HBJ.out.size
        by_cases hj4 : j < 4
        · have hjz : (j : Int) < (4 : Int) := by omega
          have hg_f : L[j]? = some (L[j]'(by have := HLL.out; omega)) := List.getElem?_eq_getElem _
          obtain ⟨b_f, off_f, rfl, hbb_f, hc_f⟩ := (Rd.of_own HY.out).elem Leg.cells_len hg_f hj4
          have HT_f := Lib.hid (show L.take (j + 1) = L.take j ++ [(L[j]'(by have := HLL.out; omega))] from List.take_succ_eq_append_getElem (by have := HLL.out; omega))
          have HM_f := Lib.hid (show (L[j]'(by have := HLL.out; omega)) ∈ L from List.getElem_mem _)
          generalize (L[j]'(by have := HLL.out; omega)) = f at *
          have c0 := hc_f 0 _ rfl
          have c1 := hc_f 1 _ rfl
          have c2 := hc_f 2 _ rfl
          clear hc_f hg_f
          simp only [Nat.add_zero] at c0
          have hbo := (Below.refl wr.heap.size wr).alloc (Nat.le_refl _) (.cells #[.int .i64 f.member, .int .i64 f.asset, .int .i64 f.amount] 97)
          have HB1' := Lib.hid (Below.past HBJ.out hbo hsj)
          have HV1 := Lib.hid (own_past' HV.out hbo)
          have HY1 := Lib.hid (own_past' HY.out hbo)
          obtain ⟨m, hm⟩ : ∃ m, Hid ((O ++ L.take j).length = m) := ⟨_, Lib.hid rfl⟩
          have hml : m ≤ 1010 := by rw [← hm.out, List.length_append, List.length_take]; omega
          rw [hm.out] at HV1 HV
          have hbW : w1.heap.size ≤ wr.heap.size := hsj
          have HOA : Hid (O ++ L.take (j + 1) = (O ++ L.take j) ++ [f]) := Lib.hid (by rw [HT_f.out, List.append_assoc])
          clear hbo
          go_wp2_with (at_builtin; refine wpList_append_lit_atN _ _ rfl (.tmp 31) (.tmp 36) 41 rfl w1.heap.size 97 j0 _ 3 24 Tryz.underlying41 hj0 jz0 jz1 jz2 rfl (by decide) _ _ _ rfl HV.out _ 1 1 rfl (by first | rfl | simp) rfl (by simp [Value.oneCell']) (by omega) (by omega) (by omega) ?_; intro v' w' hown' hg' hd; have HOWN := Lib.hid hown'; have HGR := Lib.hid hg'; have HDD := Lib.hid hd; clear hown' hg' hd)
          have HOW2 : Hid (w'.ownsRow w1.heap.size 97 3 v' (O ++ L.take (j + 1)).length ((O ++ L.take (j + 1)).flatMap Leg.cells)) := Lib.hid (by rw [HOA.out, List.length_append, hm.out, List.flatMap_append]; exact HOWN.out)
          have HY2 := Lib.hid (own_grownN HY1.out HGR.out HAPJ.out)
          have HAP2 := Lib.hid (apart_grownN HAPJ.out HY.out HDD.out)
          have HB2 := Lib.hid (below_own HB1'.out HGR.out HV1.out HB1'.out.size (Nat.le_refl _))
          clear HOWN HGR HDD HV HY HV1 HY1 HB1' HAPJ HBJ c0 c1 c2
          go_wp2_with fail
          go_roundw
          case rel => exact ⟨j + 1, by omega, by go_num, HOW2, HY2, HAP2, HB2⟩
          case measure => simp [intOf]; omega
        · have hjz : ¬ (j : Int) < (4 : Int) := by omega
          obtain rfl : j = 4 := by omega
          rw [show L.take 4 = L from List.take_of_length_le (by rw [HLL.out]; exact Nat.le_refl _)] at HV
          have HVF : Hid (wr.ownsRow w1.heap.size 97 3 u3 (4 * (k + 1)) (((ts.take (k + 1)).flatMap legsOf).flatMap Leg.cells)) := Lib.hid (by
            have h := HV.out
            rw [show (O ++ L).length = 4 * (k + 1) from by rw [List.length_append, hOl, HLL.out]; omega] at h
            rw [HNX.out]; exact h)
          clear HV HY HAPJ
          go_wp2_with fail
          go_roundw
          case rel => exact ⟨k + 1, by omega, by go_num, HVF, HBJ⟩
          case measure => simp [intOf]; omega
    · have hlz : ¬ (k : Int) < (n : Int) := by omega
      obtain rfl : n = k := by omega
      have hT : ts.take n = ts := List.take_of_length_le (by rw [HLT.out]; exact Nat.le_refl _)
      rw [hT] at HOUT
      have HFIN : Hid (wr.ownsRow w.heap.size 97 3 u3 (4 * n) ((ts.flatMap legsOf).flatMap Leg.cells) ∧ Below w.heap.size w wr) := Lib.hid ⟨own_mono' HOUT.out hs1, Below.past HB1.out HB.out hs1⟩
      clear hT HOUT
      go_wp2_with fail
      go_ret
      exact ⟨_, rfl, HFIN.out.1, HFIN.out.2⟩
end Go.Proofs.YtelbolhckhdioaaGreat

/-! ## from RpC -/
namespace Go.Proofs.YtelbolhckhdioaaGreat
open Go.RowKit

/-! ### The document's Cancel -/
def hitR (c id : Int) (r : RowR) : Prop := hereR c r = true ∧ r.t.id = id
def goneR (f : RowR) : RowR := ⟨f.t, f.cyc, true⟩
def qbad (g : Nat) (v : Value) (k : Nat) : Prop := k = g ∨ v.ownBlock = some k
theorem set_gone : ∀ (l : List RowR) (i : Nat) (f : RowR), l[i]? = some f → (l.flatMap RowR.cells).set (i * 8 + 7) (.bool true) = (l.set i (goneR f)).flatMap RowR.cells
  | [], i, f, h => by simp at h
  | x :: l, 0, f, h => by
    obtain rfl : x = f := by simpa using h
    simp [RowR.cells, goneR]
  | x :: l, i + 1, f, h => by
    have ih := set_gone l i f (by simpa using h)
    rw [List.set_cons_succ, List.flatMap_cons, List.flatMap_cons, ← ih]
    simp only [RowR.cells, List.cons_append, List.nil_append, show (i + 1) * 8 + 7 = i * 8 + 7 + 8 from by omega, List.set_cons_succ]
theorem RegV.off {w w' : World} {g base : Nat} {B1 : Option Addr} {n1 d1 : Nat} {B2 : Option Addr} {n2 d2 : Nat} {B3 : Option Addr} {n3 d3 : Nat} {cf : Conf} {c : Int} {v : Value} {l : List RowR} {zb : Nat} {t : TypeId} {arr : Array Value} (hx : RegV w g base B1 n1 d1 B2 n2 d2 B3 n3 d3 cf c v l) (hz : Blk w zb t arr) (ho : OnlyS (fun k => k = zb) w w') (h1 : 49 ≠ t) (h2 : 92 ≠ t) : RegV w' g base B1 n1 d1 B2 n2 d2 B3 n3 d3 cf c v l :=
  ⟨hx.form, ho.blk hx.blk (blk_neZ hx.blk hz h1), ho.own hx.row (fun k e e2 => own_blk_ne hx.row hz h2 (e2 ▸ e))⟩
def CanRPost (g base : Nat) (B1 : Option Addr) (n1 d1 : Nat) (B2 : Option Addr) (n2 d2 : Nat) (B3 : Option Addr) (n3 d3 : Nat) (cf : Conf) (c : Int) (v : Value) (l : List RowR) (id : Int) (w : World) (e : Ending) (w' : World) : Prop :=
  (∃ k f, l[k]? = some f ∧ hitR c id f ∧ e = .returned (.tuple #[.agg #[.int .i64 f.t.id, .int .i64 f.t.buyer, .int .i64 f.t.seller, .int .i64 f.t.sec, .int .i64 f.t.qty, .int .i64 f.t.price], .int .i64 0]) ∧ RegV w' g base B1 n1 d1 B2 n2 d2 B3 n3 d3 cf c v (l.set k (goneR f)) ∧ OnlyS (qbad g v) w w') ∨ ((∀ x ∈ l, ¬ hitR c id x) ∧ e = .returned (.tuple #[.agg #[.int .i64 0, .int .i64 0, .int .i64 0, .int .i64 0, .int .i64 0, .int .i64 0], .int .i64 8]) ∧ Below w.heap.size w w')
set_option maxHeartbeats 8000000 in
set_option maxRecDepth 100000 in
theorem refCancel_any (g base : Nat) (B1 : Option Addr) (n1 d1 : Nat) (B2 : Option Addr) (n2 d2 : Nat) (B3 : Option Addr) (n3 d3 : Nat) (cf : Conf) (c : Int) (v : Value) (l : List RowR) (id : Int) (w : World) (hx : RegV w g base B1 n1 d1 B2 n2 d2 B3 n3 d3 cf c v l) (hl : l.length ≤ 1000) :
    Calls Tryz.prog 16 #[.pointer (some ⟨g, 0, none⟩), .int .i64 id] w (CanRPost g base B1 n1 d1 B2 n2 d2 B3 n3 d3 cf c v l id w) := by
  obtain ⟨A, cp, hv⟩ := hx.form
  subst hv
  have hB0 := (Below.refl w.heap.size w).alloc (Nat.le_refl _) (.cells #[.int .i64 0, .int .i64 0, .int .i64 0, .int .i64 0, .int .i64 0, .int .i64 0] 38)
  have bz0 := Blk.new w 38 #[.int .i64 0, .int .i64 0, .int .i64 0, .int .i64 0, .int .i64 0, .int .i64 0] w.heap.size rfl
  obtain ⟨W, hW⟩ : ∃ W, Hid (w.alloc (.cells #[.int .i64 0, .int .i64 0, .int .i64 0, .int .i64 0, .int .i64 0, .int .i64 0] 38) = W) := ⟨_, Lib.hid rfl⟩
  obtain ⟨zb, hzb⟩ : ∃ zb, Hid (w.heap.size = zb) := ⟨_, Lib.hid rfl⟩
  rw [hW.out] at hB0 bz0
  rw [hzb.out] at bz0
  have HX := Lib.hid (hx.past hB0)
  have HZ := Lib.hid bz0
  have HB0 := Lib.hid hB0
  obtain ⟨n, hn⟩ : ∃ n, Hid (l.length = n) := ⟨_, Lib.hid rfl⟩
  have HXB := Lib.hid HX.out.blk
  have HL := hn
  rw [hn.out] at HXB hl
  have HRD := Lib.hid (Rd.of_own HX.out.row)
  rw [hn.out] at HRD
  clear hx hB0 bz0
  go_enter Tryz.func16, Tryz.ntmps16
  go_upto_region 1 with fail
  rw [hW.out, hzb.out]
  go_wp2_with fail
  go_loopw [6] (fun i wr => ∃ k : Nat, k ≤ n ∧ i = .int .i64 k ∧ Hid (∀ x ∈ l.take k, ¬ hitR c id x) ∧ Hid (Below W.heap.size W wr)) (fun i _ => n - (intOf i).toNat)
  case atStart => exact ⟨0, Nat.zero_le _, rfl, Lib.hid (by simp), Lib.hid (Below.refl _ _)⟩
  case round =>
    obtain ⟨k, hk, rfl, HNO, HB⟩ := hrel
    have bg := HXB.out.past HB.out
    have p8 := bg.cell 8
    simp at p8
    by_cases hlt : k < n
    · have hlz : (k : Int) < (n : Int) := by omega
      have hg_f : l[k]? = some (l[k]'(by have := HL.out; omega)) := List.getElem?_eq_getElem _
      obtain ⟨b_f, off_f, rfl, hbb_f, hc_f⟩ := (HRD.out.below HB.out).elem RowR.cells_len hg_f hlt
      have HT_f := Lib.hid (show l.take (k + 1) = l.take k ++ [(l[k]'(by have := HL.out; omega))] from List.take_succ_eq_append_getElem (by have := HL.out; omega))
      have HM_f := Lib.hid (show (l[k]'(by have := HL.out; omega)) ∈ l from List.getElem_mem _)
      have HG_f := Lib.hid hg_f
      generalize (l[k]'(by have := HL.out; omega)) = f at *
      have c0 := hc_f 0 _ rfl
      have c1 := hc_f 1 _ rfl
      have c2 := hc_f 2 _ rfl
      have c3 := hc_f 3 _ rfl
      have c4 := hc_f 4 _ rfl
      have c5 := hc_f 5 _ rfl
      have c6 := hc_f 6 _ rfl
      have c7 := hc_f 7 _ rfl
      clear hc_f hg_f
      simp only [Nat.add_zero] at c0
      have HH := Lib.hid (hereR_any g base B1 n1 d1 B2 n2 d2 B3 n3 d3 cf c _ l k f wr (HX.out.past HB.out) HG_f.out)
      have hs := HB.out.size
      clear bg
      go_wp2_with fail
      refine HH.out.mono ?_
      rintro e w2 ⟨rfl, hb2⟩
      have HB2 := Lib.hid (Below.past HB.out hb2 hs)
      cases hh : hereR c f with
      | true =>
        have bg2 := HXB.out.past HB2.out
        obtain ⟨b2, o2, he2, hb2e, hd⟩ := (HRD.out.below HB2.out).elem RowR.cells_len HG_f.out hlt
        cases he2
        clear p8 c0 c1 c2 c3 c4 c5 c6 c7
        have p8 := bg2.cell 8
        simp at p8
        have c0 := hd 0 _ rfl
        simp only [Nat.add_zero] at c0
        clear hb2 HH
        by_cases hid : f.t.id = id
        · have q1 : (f.t.id == id) = true := by simpa using hid
          have HX2 := Lib.hid (HX.out.past HB2.out)
          have HZ2 := Lib.hid (HZ.out.past HB2.out)
          obtain ⟨cs, hoff, hBk, hov⟩ : ∃ cs, off_f = 0 ∧ Blk w2 b_f 92 cs ∧ Hid ((Value.slice (some ⟨b_f, off_f, none⟩) n cp).ownBlock = some b_f) := by
            rcases HX2.out.row.2 with ⟨_, h0⟩ | ⟨gg, cap, cs, e, h1, h2, _⟩
            · have := hn.out; omega
            · injection e with e1 e2 e3
              injection e1 with e4
              injection e4 with e5 e6
              subst e5
              subst e6
              exact ⟨cs, rfl, h2, Lib.hid rfl⟩
          subst hoff
          have f7 := hBk.frozen (k * 8 + 7)
          have c7 := hd 7 _ rfl
          simp only [Nat.zero_add] at c0 c7
          have HIT : Hid (hitR c id f) := Lib.hid ⟨hh, hid⟩
          have hgl := hBk.lt
          obtain ⟨V, hV⟩ : ∃ V, Hid (w2.setCell ⟨b_f, k * 8 + 7, none⟩ (.bool true) = V) := ⟨_, Lib.hid rfl⟩
          have HXV : Hid (RegV V g base B1 n1 d1 B2 n2 d2 B3 n3 d3 cf c (.slice (some ⟨b_f, 0, none⟩) n cp) (l.set k (goneR f))) := Lib.hid (by
            have hr := own_setZ (j := k * 8 + 7) (hn.out ▸ HX2.out.row) (by omega) (.bool true)
            rw [set_gone l k f HG_f.out] at hr
            rw [← hV.out]
            refine ⟨⟨_, cp, by rw [List.length_set, hn.out]⟩, ?_, by rw [List.length_set, hn.out]; exact hr⟩
            exact (hn.out ▸ HX2.out.blk).far (p := ⟨b_f, k * 8 + 7, none⟩) (blk_neZ HX2.out.blk hBk (by decide)) _)
          have HZV : Hid (Blk V zb 38 #[.int .i64 0, .int .i64 0, .int .i64 0, .int .i64 0, .int .i64 0, .int .i64 0]) := Lib.hid (by
            rw [← hV.out]
            exact HZ2.out.far (p := ⟨b_f, k * 8 + 7, none⟩) (blk_neZ HZ2.out hBk (by decide)) _)
          have HOV : Hid (OnlyS (qbad g (.slice (some ⟨b_f, 0, none⟩) n cp)) w V) := Lib.hid (by
            rw [← hV.out]
            have h1 : Below w.heap.size w w2 := Below.past HB0.out HB2.out HB0.out.size
            exact (OnlyS.of_below (bad := qbad g (.slice (some ⟨b_f, 0, none⟩) n cp)) h1).set ⟨b_f, k * 8 + 7, none⟩ (fun _ => .inr hov.out) _)
          have HGV : Hid ((l.set k (goneR f))[k]? = some (goneR f)) := Lib.hid (by rw [List.getElem?_set_self (by rw [hn.out]; exact hlt)])
          clear hBk hd bg2 hid hh
          go_upto_region 6 with fail
          rw [hV.out]
          have hbV := HXV.out.blk
          have v8 := hbV.cell 8
          simp at v8
          have hrow3 := HXV.out.row
          rw [show (l.set k (goneR f)).length = n from by rw [List.length_set, hn.out]] at hrow3
          obtain ⟨b3, o3, he3, hb3e, he⟩ := (Rd.of_own hrow3).elem RowR.cells_len HGV.out hlt
          injection he3 with he4
          injection he4 with he5 he6
          subst he5
          subst he6
          have e0 := he 0 (.int .i64 f.t.id) rfl
          have e1 := he 1 (.int .i64 f.t.buyer) rfl
          have e2 := he 2 (.int .i64 f.t.seller) rfl
          have e3 := he 3 (.int .i64 f.t.sec) rfl
          have e4 := he 4 (.int .i64 f.t.qty) rfl
          have e5 := he 5 (.int .i64 f.t.price) rfl
          simp only [Nat.add_zero, Nat.zero_add] at e0 e1 e2 e3 e4 e5
          have z0 := (HZV.out).cell 0
          have z1 := (HZV.out).cell 1
          have z2 := (HZV.out).cell 2
          have z3 := (HZV.out).cell 3
          have z4 := (HZV.out).cell 4
          have z5 := (HZV.out).cell 5
          simp at z0 z1 z2 z3 z4 z5
          have g0 := HZV.out.frozen 0
          have g1 := HZV.out.frozen 1
          have g2 := HZV.out.frozen 2
          have g3 := HZV.out.frozen 3
          have g4 := HZV.out.frozen 4
          have g5 := HZV.out.frozen 5
          have hzl := HZV.out.lt
          have hzw : ¬ zb < w.heap.size := by have := hzb.out; omega
          have HZS : Hid (OnlyS (fun k => k = zb) V ((((((V.setCell ⟨zb, 0, none⟩ (.int .i64 f.t.id)).setCell ⟨zb, 1, none⟩ (.int .i64 f.t.buyer)).setCell ⟨zb, 2, none⟩ (.int .i64 f.t.seller)).setCell ⟨zb, 3, none⟩ (.int .i64 f.t.sec)).setCell ⟨zb, 4, none⟩ (.int .i64 f.t.qty)).setCell ⟨zb, 5, none⟩ (.int .i64 f.t.price))) := Lib.hid ((((((((OnlyS.of_below (bad := fun k => k = zb) (Below.refl _ _)).set ⟨zb, 0, none⟩ (fun _ => rfl) _).set ⟨zb, 1, none⟩ (fun _ => rfl) _).set ⟨zb, 2, none⟩ (fun _ => rfl) _).set ⟨zb, 3, none⟩ (fun _ => rfl) _).set ⟨zb, 4, none⟩ (fun _ => rfl) _).set ⟨zb, 5, none⟩ (fun _ => rfl) _))
          have HFIN : Hid (CanRPost g base B1 n1 d1 B2 n2 d2 B3 n3 d3 cf c (.slice (some ⟨b_f, 0, none⟩) n cp) l id w (.returned (.tuple #[.agg #[.int .i64 f.t.id, .int .i64 f.t.buyer, .int .i64 f.t.seller, .int .i64 f.t.sec, .int .i64 f.t.qty, .int .i64 f.t.price], .int .i64 0])) ((((((V.setCell ⟨zb, 0, none⟩ (.int .i64 f.t.id)).setCell ⟨zb, 1, none⟩ (.int .i64 f.t.buyer)).setCell ⟨zb, 2, none⟩ (.int .i64 f.t.seller)).setCell ⟨zb, 3, none⟩ (.int .i64 f.t.sec)).setCell ⟨zb, 4, none⟩ (.int .i64 f.t.qty)).setCell ⟨zb, 5, none⟩ (.int .i64 f.t.price))) := Lib.hid (.inl ⟨k, f, HG_f.out, HIT.out, rfl, HXV.out.off HZV.out HZS.out (by decide) (by decide), HOV.out.trans HZS.out (fun _ _ e => e) (fun k hk e => absurd (e ▸ hk) hzw)⟩)
          clear he hbV hrow3 c0 c7 f7 p8
          go_wp2_with fail
          refine bodyPost_ret (v := .tuple #[.agg #[.int .i64 f.t.id, .int .i64 f.t.buyer, .int .i64 f.t.seller, .int .i64 f.t.sec, .int .i64 f.t.qty, .int .i64 f.t.price], .int .i64 0]) (by simp [results, Tryz.results16, go_sem, z0, z1, z2, z3, z4, z5, hzl]) rfl ?_
          rw [hn.out]
          exact HFIN.out
        · have q1 : (f.t.id == id) = false := by simpa using hid
          have HE : Hid (∀ x ∈ l.take (k + 1), ¬ hitR c id x) := Lib.hid (by
            intro x hx
            rw [HT_f.out] at hx
            rcases List.mem_append.1 hx with h | h
            · exact HNO.out x h
            · obtain rfl : x = f := by simpa using h
              exact fun h => hid h.2)
          clear hid hd bg2
          go_wp2_with fail
          go_roundw
          case rel => exact ⟨k + 1, by omega, by go_num, HE, HB2⟩
          case measure => simp [intOf]; omega
      | false =>
        have HE : Hid (∀ x ∈ l.take (k + 1), ¬ hitR c id x) := Lib.hid (by
          intro x hx
          rw [HT_f.out] at hx
          rcases List.mem_append.1 hx with h | h
          · exact HNO.out x h
          · obtain rfl : x = f := by simpa using h
            exact fun h => by rw [h.1] at hh; cases hh)
        clear hb2 p8 c0 c1 c2 c3 c4 c5 c6 c7
        go_wp2_with fail
        go_roundw
        case rel => exact ⟨k + 1, by omega, by go_num, HE, HB2⟩
        case measure => simp [intOf]; omega
    · have hlz : ¬ (k : Int) < (n : Int) := by omega
      have HE : Hid (∀ x ∈ l, ¬ hitR c id x) := Lib.hid (by have h := HNO.out; rwa [List.take_of_length_le (by rw [hn.out]; omega)] at h)
      have HZ2 := Lib.hid (HZ.out.past HB.out)
      have z0 := (HZ2.out).cell 0
      have z1 := (HZ2.out).cell 1
      have z2 := (HZ2.out).cell 2
      have z3 := (HZ2.out).cell 3
      have z4 := (HZ2.out).cell 4
      have z5 := (HZ2.out).cell 5
      simp at z0 z1 z2 z3 z4 z5
      have g0 := HZ2.out.frozen 0
      have g1 := HZ2.out.frozen 1
      have g2 := HZ2.out.frozen 2
      have g3 := HZ2.out.frozen 3
      have g4 := HZ2.out.frozen 4
      have g5 := HZ2.out.frozen 5
      have hzl := HZ2.out.lt
      have HFIN : Hid (Below w.heap.size w ((((((wr.setCell ⟨zb, 0, none⟩ (.int .i64 0)).setCell ⟨zb, 1, none⟩ (.int .i64 0)).setCell ⟨zb, 2, none⟩ (.int .i64 0)).setCell ⟨zb, 3, none⟩ (.int .i64 0)).setCell ⟨zb, 4, none⟩ (.int .i64 0)).setCell ⟨zb, 5, none⟩ (.int .i64 0))) := Lib.hid (by
        have h1 : Below w.heap.size w wr := Below.past HB0.out HB.out HB0.out.size
        have hz : w.heap.size ≤ zb := Nat.le_of_eq hzb.out
        exact (((((h1.setCell (p := ⟨zb, 0, none⟩) hz _).setCell (p := ⟨zb, 1, none⟩) hz _).setCell (p := ⟨zb, 2, none⟩) hz _).setCell (p := ⟨zb, 3, none⟩) hz _).setCell (p := ⟨zb, 4, none⟩) hz _).setCell (p := ⟨zb, 5, none⟩) hz _)
      clear bg
      go_wp2_with fail
      refine bodyPost_ret (v := .tuple #[.agg #[.int .i64 0, .int .i64 0, .int .i64 0, .int .i64 0, .int .i64 0, .int .i64 0], .int .i64 8]) (by simp [results, Tryz.results16, go_sem, z0, z1, z2, z3, z4, z5]) rfl ?_
      exact .inr ⟨HE.out, rfl, HFIN.out⟩
end Go.Proofs.YtelbolhckhdioaaGreat

/-! ## from RpA -/
namespace Go.Proofs.YtelbolhckhdioaaGreat
open Go.RowKit

/-! ### A register that is none -/
theorem addR_nil (t : Trad) (w : World) : Calls Tryz.prog 8 #[.pointer none, .agg #[.int .i64 t.id, .int .i64 t.buyer, .int .i64 t.seller, .int .i64 t.sec, .int .i64 t.qty, .int .i64 t.price]] w fun e w' => e = .returned (.int .i64 8) ∧ Below w.heap.size w w' := by
  have hB0 := (Below.refl w.heap.size w).alloc (Nat.le_refl _) (.cells #[.int .i64 t.id, .int .i64 t.buyer, .int .i64 t.seller, .int .i64 t.sec, .int .i64 t.qty, .int .i64 t.price] 38)
  obtain ⟨W, hW⟩ : ∃ W, Hid (w.alloc (.cells #[.int .i64 t.id, .int .i64 t.buyer, .int .i64 t.seller, .int .i64 t.sec, .int .i64 t.qty, .int .i64 t.price] 38) = W) := ⟨_, Lib.hid rfl⟩
  rw [hW.out] at hB0
  go_enter Tryz.func8, Tryz.ntmps8
  go_upto_region 1 with fail
  rw [hW.out]
  go_wp2_with fail
  go_ret
  exact ⟨rfl, hB0⟩
theorem tradesR_nil (w : World) : Calls Tryz.prog 9 #[.pointer none] w fun e w' => e = .returned (.slice none 0 0) ∧ w = w' := by
  go_enter Tryz.func9, Tryz.ntmps9
  go_wp2_with fail
  go_ret
  exact ⟨rfl, rfl⟩
theorem grossR_nil (w : World) : Calls Tryz.prog 11 #[.pointer none] w fun e w' => e = .returned (.int .i64 0) ∧ w = w' := by
  go_enter Tryz.func11, Tryz.ntmps11
  go_wp2_with fail
  go_ret
  exact ⟨rfl, rfl⟩
theorem usedR_nil (id : Int) (w : World) : Calls Tryz.prog 13 #[.pointer none, .int .i64 id] w fun e w' => e = .returned (.bool false) ∧ w = w' := by
  go_enter Tryz.func13, Tryz.ntmps13
  go_wp2_with fail
  go_ret
  exact ⟨rfl, rfl⟩
theorem copyRg_nil (w : World) : Calls Tryz.prog 12 #[.pointer none] w fun e w' => e = .returned (.pointer none) ∧ w = w' := by
  go_enter Tryz.func12, Tryz.ntmps12
  go_wp2_with fail
  go_ret
  exact ⟨rfl, rfl⟩
set_option maxHeartbeats 2000000 in
theorem legsR_nil (w : World) : Calls Tryz.prog 10 #[.pointer none] w fun e w' => e = .returned (.slice none 0 0) ∧ Below w.heap.size w w' := by
  have HT := Lib.hid (fun w => tradesR_nil w)
  go_enter Tryz.func10, Tryz.ntmps10
  go_wp2_with fail
  refine (HT.out _).mono ?_
  rintro e w1 ⟨rfl, rfl⟩
  go_wp2_with fail
  go_loopw [3, 11] (fun v i wr => v = .slice none 0 0 ∧ i = .int .i64 0 ∧ Below w.heap.size w wr) (fun _ _ _ => 0)
  case atStart => exact ⟨rfl, rfl, Below.refl _ _⟩
  case round =>
    obtain ⟨rfl, rfl, hb⟩ := hrel
    go_wp2_with fail
    go_ret
    exact ⟨rfl, hb⟩

section
variable {g gt gu base : Nat} {B1 : Option Addr} {n1 d1 : Nat} {B2 : Option Addr} {n2 d2 : Nat} {B3 : Option Addr} {n3 d3 : Nat} {cf : Conf} {vt vu : Value} {ac : Int} {S : List TRow} {U : List URow}
/-! ### Units -/
set_option maxHeartbeats 1000000 in
theorem unitsG_any (s : Int) (w : World) (hx : RgsV w g gt gu base B1 n1 d1 B2 n2 d2 B3 n3 d3 cf vt vu ac S U) (hin : ∀ r ∈ S, TrdIn r.v) (hl : S.length ≤ 900) (hs : inI (sumU s S)) :
    Calls Tryz.prog 21 #[.pointer (some ⟨g, 0, none⟩), .int .i64 s] w fun e w' => e = .returned (.int .i64 (sumU s S)) ∧ Below w.heap.size w w' := by
  have HG := Lib.hid (sumU_any 0 s w hx hin (by simp [inI]) hl)
  rw [Int.zero_add, show amount (sumU s S) = sumU s S from if_pos hs] at HG
  obtain ⟨o, ho⟩ : ∃ o, Hid (over (sumU s S) = o) := ⟨_, Lib.hid rfl⟩
  rw [ho.out] at HG
  clear hx hin hl hs
  go_enter Tryz.func21, Tryz.ntmps21
  go_wp2_with fail
  refine HG.out.mono ?_
  rintro e w1 ⟨rfl, hb⟩
  have HB := Lib.hid hb
  clear hb HG
  go_wp2_with fail
  go_ret
  exact ⟨rfl, HB.out⟩

/-! ### Next -/
theorem RgsV.setTab {w : World} {gn : Nat} (hx : RgsV w g gt gu base B1 n1 d1 B2 n2 d2 B3 n3 d3 cf vt vu ac S U) (hn : Blk w gn 103 #[.int .i64 cf.trades, .slice none 0 0]) (hb' : base ≤ gn) : RgsV (w.setCell ⟨g, 8, none⟩ (.pointer (some ⟨gn, 0, none⟩))) g gn gu base B1 n1 d1 B2 n2 d2 B3 n3 d3 cf (.slice none 0 0) vu ac [] U ∧ OnlyG g (.slice none 0 0) w (w.setCell ⟨g, 8, none⟩ (.pointer (some ⟨gn, 0, none⟩))) := by
  have hb : ∀ {b0 : Nat} {e : TypeId} {sz n : Nat} {v : Value} {xs : List Value}, w.ownsRow b0 e sz v n xs → e ≠ 67 → (w.setCell ⟨g, 8, none⟩ (.pointer (some ⟨gn, 0, none⟩))).ownsRow b0 e sz v n xs := fun h h1 => own_far (p := ⟨g, 8, none⟩) h (own_blk_ne h hx.blk h1) _
  exact ⟨⟨hx.blk.put 8 _, ⟨⟨none, 0, rfl⟩, hn.far (p := ⟨g, 8, none⟩) (blk_neZ hn hx.blk (by decide)) _, World.ownsRow_nil _ _ _ _, fun i j a b _ e => by simp at e, by simp, hx.tab.rm⟩, ⟨hx.use.form, hx.use.blk.far (p := ⟨g, 8, none⟩) (blk_neZ hx.use.blk hx.blk (by decide)) _, hb hx.use.row (by decide), hx.use.ris, hx.use.len, hx.use.rm⟩, ⟨hb hx.cfo.m (by decide), hb hx.cfo.s (by decide), hb hx.cfo.c (by decide), hx.cfo.hm, hx.cfo.hs, hx.cfo.hc⟩, hx.hg, hb', hx.hu⟩, (OnlyG.of_below (Below.refl _ _)).setCell ⟨g, 8, none⟩ rfl _⟩
def NextPost (g gu base : Nat) (B1 : Option Addr) (n1 d1 : Nat) (B2 : Option Addr) (n2 d2 : Nat) (B3 : Option Addr) (n3 d3 : Nat) (cf : Conf) (vu : Value) (U : List URow) (w : World) (e : Ending) (w' : World) : Prop :=
  e = .returned (.tuple #[]) ∧ ∃ gt', RgsV w' g gt' gu base B1 n1 d1 B2 n2 d2 B3 n3 d3 cf (.slice none 0 0) vu 0 [] U ∧ w.heap.size ≤ gt' ∧ OnlyG g (.slice none 0 0) w w'
set_option maxHeartbeats 2000000 in
theorem nextR_any (w : World) (hx : RgsV w g gt gu base B1 n1 d1 B2 n2 d2 B3 n3 d3 cf vt vu ac S U) (hbase : base ≤ w.heap.size) :
    Calls Tryz.prog 17 #[.pointer (some ⟨g, 0, none⟩)] w (NextPost g gu base B1 n1 d1 B2 n2 d2 B3 n3 d3 cf vu U w) := by
  have HX := Lib.hid hx
  have hrm := hx.tab.rm
  have HN := Lib.hid (TTbR.newT_any cf.trades (by omega) w)
  rw [show max cf.trades 0 = cf.trades from by omega] at HN
  have hbk := hx.blk
  have p6 := hbk.cell 6
  simp at p6
  clear hx hbk hrm
  go_enter Tryz.func17, Tryz.ntmps17
  go_wp2_with fail
  refine HN.out.mono ?_
  rintro e w1 ⟨gn, rfl, hgn, htab, hb⟩
  have HX1 := Lib.hid (HX.out.past hb)
  have hbk := HX1.out.blk
  have q8 := hbk.cell 8
  have q10 := hbk.cell 10
  have f8 := hbk.frozen 8
  have f10 := hbk.frozen 10
  simp at q8 q10
  have HFIN : Hid (NextPost g gu base B1 n1 d1 B2 n2 d2 B3 n3 d3 cf vu U w (.returned (.tuple #[])) ((w1.setCell ⟨g, 8, none⟩ (.pointer (some ⟨gn, 0, none⟩))).setCell ⟨g, 10, none⟩ (.int .i64 0))) := Lib.hid (by
    obtain ⟨h1, h2⟩ := HX1.out.setTab htab.blk (Nat.le_trans hbase hgn)
    obtain ⟨h3, h4⟩ := h1.setAc 0
    exact ⟨rfl, gn, h3, hgn, ((OnlyG.of_below hb).setCell ⟨g, 8, none⟩ rfl _).setCell ⟨g, 10, none⟩ rfl _⟩)
  clear hbk htab hgn p6 hb
  go_wp2_with fail
  go_end0
  exact HFIN.out
end
end Go.Proofs.YtelbolhckhdioaaGreat
