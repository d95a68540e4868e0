import Derived.Test.YtelbolhckhdioaaTbRS
import Derived.Test.YtelbolhckhdioaaTbIJ
import Derived.Test.YtelbolhckhdioaaTradM
import Derived.Test.YtelbolhckhdioaaConfO
import Derived.Test.YtelbolhckhdioaaMonB
import Derived.Test.YtelbolhckhdioaaOnlyS
namespace Go.Proofs.Ytelbolhckhdioaa
open Go.RowKit

/-! ### A register in memory -/
abbrev TRow := TTbR.RowT
abbrev URow := TTbI.RowT
structure RgsV (w : World) (g gt gu base : Nat) (B1 : Option Addr) (n1 d1 : Nat) (B2 : Option Addr) (n2 d2 : Nat) (B3 : Option Addr) (n3 d3 : Nat) (cf : Conf) (vt vu : Value) (ac : Int) (S : List TRow) (U : List URow) : Prop where
  blk : Blk w g 149 #[.slice B1 n1 d1, .slice B2 n2 d2, .slice B3 n3 d3, .int .i64 cf.line, .int .i64 cf.capital, .int .i64 cf.lead, .int .i64 cf.trades, .int .i64 cf.bids, .pointer (some ⟨gt, 0, none⟩), .pointer (some ⟨gu, 0, none⟩), .int .i64 ac]
  tab : TTbR.TabV w gt base cf.trades vt S
  use : TTbI.TabV w gu base (cf.trades * (n3 : Nat)) vu U
  cfo : CfOwn w base B1 n1 d1 B2 n2 d2 B3 n3 d3 cf
  hg : base ≤ g
  ht : base ≤ gt
  hu : base ≤ gu
theorem RgsV.past {w w' : World} {g gt gu base : Nat} {B1 : Option Addr} {n1 d1 : Nat} {B2 : Option Addr} {n2 d2 : Nat} {B3 : Option Addr} {n3 d3 : Nat} {cf : Conf} {vt vu : Value} {ac : Int} {S : List TRow} {U : List URow} (h : RgsV w g gt gu base B1 n1 d1 B2 n2 d2 B3 n3 d3 cf vt vu ac S U) (hb : Below w.heap.size w w') : RgsV w' g gt gu base B1 n1 d1 B2 n2 d2 B3 n3 d3 cf vt vu ac S U :=
  ⟨h.blk.past hb, h.tab.past hb, h.use.past hb, h.cfo.past hb, h.hg, h.ht, h.hu⟩
def valOf (t : Trad) : Int := t.qty * t.price
def unitOf (s : Int) (t : Trad) : Int := if t.sec = s then t.qty else 0
def sumV (S : List TRow) : Int := (S.map fun r => valOf r.v).sum
def sumU (s : Int) (S : List TRow) : Int := (S.map fun r => unitOf s r.v).sum
def TrdIn (t : Trad) : Prop := inI t.qty ∧ inI t.price ∧ inI (valOf t)
set_option maxHeartbeats 1000000 in
theorem valueR_any (t : Trad) (h : TrdIn t) (w : World) : Calls Try.prog 103 #[.agg #[.int .i64 t.id, .int .i64 t.buyer, .int .i64 t.seller, .int .i64 t.sec, .int .i64 t.qty, .int .i64 t.price]] w fun e w' => e = .returned (.int .i64 (valOf t)) ∧ Below w.heap.size w w' := by
  have hB0 := (Below.refl w.heap.size w).alloc (Nat.le_refl _) (.cells #[.int .i64 t.id, .int .i64 t.buyer, .int .i64 t.seller, .int .i64 t.sec, .int .i64 t.qty, .int .i64 t.price] 87)
  have HB0 := Lib.hid hB0
  have HV := Lib.hid (fun w => value_any t h.1 h.2.1 w)
  rw [show amount (t.qty * t.price) = valOf t from if_pos h.2.2] at HV
  clear hB0 h
  go_enter Try.func103, Try.ntmps103
  go_wp2_with fail
  refine (HV.out _).mono ?_
  rintro e w1 ⟨rfl, hb1⟩
  have HB1 := Lib.hid (Below.past HB0.out hb1 HB0.out.size)
  clear hb1
  go_wp2_with fail
  go_ret
  exact ⟨rfl, HB1.out⟩
set_option maxHeartbeats 1000000 in
theorem unitsS_any (s : Int) (t : Trad) (w : World) : Calls Try.prog 131 #[.agg #[.int .i64 s], .agg #[.int .i64 t.id, .int .i64 t.buyer, .int .i64 t.seller, .int .i64 t.sec, .int .i64 t.qty, .int .i64 t.price]] w fun e w' => e = .returned (.int .i64 (unitOf s t)) ∧ Below w.heap.size w w' := by
  have hB0 := ((Below.refl w.heap.size w).alloc (Nat.le_refl _) (.cells #[.int .i64 s] 202)).alloc (by simp) (.cells #[.int .i64 t.id, .int .i64 t.buyer, .int .i64 t.seller, .int .i64 t.sec, .int .i64 t.qty, .int .i64 t.price] 87)
  by_cases h : t.sec = s
  · have HU : Hid (unitOf s t = t.qty) := Lib.hid (if_pos h)
    have hq : (t.sec != s) = false := by simpa using h
    rw [HU.out]
    clear h
    go_enter Try.func131, Try.ntmps131
    go_wp2_with fail
    go_ret
    exact ⟨rfl, hB0⟩
  · have HU : Hid (unitOf s t = 0) := Lib.hid (if_neg h)
    have hq : (t.sec != s) = true := by simpa using h
    rw [HU.out]
    clear h
    go_enter Try.func131, Try.ntmps131
    go_wp2_with fail
    go_ret
    exact ⟨rfl, hB0⟩
section
variable {g gt gu base : Nat} {B1 : Option Addr} {n1 d1 : Nat} {B2 : Option Addr} {n2 d2 : Nat} {B3 : Option Addr} {n3 d3 : Nat} {cf : Conf} {vt vu : Value} {ac : Int} {S : List TRow} {U : List URow}
set_option maxHeartbeats 4000000 in
set_option maxRecDepth 100000 in
theorem sumV_any (more : Int) (w : World) (hx : RgsV w g gt gu base B1 n1 d1 B2 n2 d2 B3 n3 d3 cf vt vu ac S U) (hin : ∀ r ∈ S, TrdIn r.v) (hm : inI more) (hl : S.length ≤ 900) :
    Calls Try.prog 102 #[.pointer (some ⟨g, 0, none⟩), .func (.func 103) #[] #[], .int .i64 more] w fun e w' => e = .returned (.tuple #[.int .i64 (amount (more + sumV S)), .int .i64 (over (more + sumV S))]) ∧ Below w.heap.size w w' := by
  obtain ⟨i0, hi0, hz0, hz1, hz2⟩ := info_parts i64_info
  have HSUM : Hid ((more :: S.map fun r => valOf r.v).sum = more + sumV S) := Lib.hid (List.sum_cons ..)
  have HIN : Hid (∀ z ∈ (more :: S.map fun r => valOf r.v), inI z) := Lib.hid fun z hz => by
    rcases List.mem_cons.1 hz with rfl | hz
    · exact hm
    · obtain ⟨r, hr, rfl⟩ := List.mem_map.1 hz
      exact (hin r hr).2.2
  have HTI := Lib.hid hin
  have hB0 := (Below.refl w.heap.size w).alloc (Nat.le_refl _) (.cells #[.int .i64 more] 2)
  have HO0 : Hid ((w.alloc (.cells #[.int .i64 more] 2)).ownsRow w.heap.size 2 1 (.slice (some ⟨w.heap.size, 0, none⟩) 1 1) 1 ((more :: (S.take 0).map fun r => valOf r.v).flatMap i64Cells)) := Lib.hid (World.ownsRow_lit w #[.int .i64 more] 1 (Nat.le_refl _) (by unfold maxLen; decide) rfl)
  have hx0 := hx.past hB0
  have HRW := Lib.hid (TTbR.rowsT_any gt base cf.trades vt S _ hx0.tab)
  have p8 := hx0.blk.cell 8
  simp at p8
  have HB0 := Lib.hid hB0
  obtain ⟨W, hW⟩ : ∃ W, Hid (w.alloc (.cells #[.int .i64 more] 2) = W) := ⟨_, Lib.hid rfl⟩
  obtain ⟨xb, hxb⟩ : ∃ xb, Hid (w.heap.size = xb) := ⟨_, Lib.hid rfl⟩
  obtain ⟨n, hn⟩ : ∃ n, Hid (S.length = n) := ⟨_, Lib.hid rfl⟩
  rw [hW.out] at HO0 HRW p8 HB0
  rw [hn.out] at HRW hl
  clear hx hx0 hB0 hin hm
  go_enter Try.func102, Try.ntmps102
  go_upto_region 2 with fail
  rw [hW.out]
  go_wp2_with fail
  refine HRW.out.mono ?_
  rintro e w1 ⟨v1, rfl, hov, hb1⟩
  have hs0 := HB0.out.size
  have HR1 := Lib.hid (own_monoZ hov hs0)
  have HO1 := Lib.hid (own_pastZ HO0.out hb1)
  have HB1 := Lib.hid (Below.past HB0.out hb1 hs0)
  obtain ⟨A1, c1, rfl⟩ := own_form hov
  clear hov hb1 HRW p8 HO0
  go_wp2_with fail
  go_loopw [8, 19] (fun q i wr => ∃ k : Nat, k ≤ n ∧ i = .int .i64 k ∧ Hid (wr.ownsRow w.heap.size 2 1 q (k + 1) ((more :: (S.take k).map fun r => valOf r.v).flatMap i64Cells)) ∧ Hid (wr.ownsRow w.heap.size 156 7 (.slice A1 n c1) n (S.flatMap TTbR.RowT.cells)) ∧ Hid (Below w.heap.size w wr)) (fun _ i _ => n - (intOf i).toNat)
  case atStart => exact ⟨0, Nat.zero_le _, rfl, HO1, HR1, HB1⟩
  case round =>
    clear HO1 HR1 HB1
    obtain ⟨k, hk, rfl, HO, HR, HB⟩ := hrel
    have hs := HB.out.size
    by_cases hlt : k < n
    · have hlz : (k : Int) < (n : Int) := by omega
      have hg_f : S[k]? = some (S[k]'(by have := hn.out; omega)) := List.getElem?_eq_getElem _
      obtain ⟨b_f, off_f, rfl, hbb_f, hc_f⟩ := (Rd.of_own HR.out).elem TTbR.RowT.cells_len hg_f hlt
      have HT_f := Lib.hid (show S.take (k + 1) = S.take k ++ [(S[k]'(by have := hn.out; omega))] from List.take_succ_eq_append_getElem (by have := hn.out; omega))
      have HM_f := Lib.hid (show (S[k]'(by have := hn.out; omega)) ∈ S from List.getElem_mem _)
      generalize (S[k]'(by have := hn.out; omega)) = f at *
      have c0 := hc_f 0 _ rfl
      have c1 := hc_f 1 _ rfl
      have c2 := hc_f 2 _ rfl
      have c3 := hc_f 3 _ rfl
      have c4 := hc_f 4 _ rfl
      have c5 := hc_f 5 _ rfl
      have c6 := hc_f 6 _ rfl
      clear hc_f hg_f
      simp only [Nat.add_zero] at c0
      have HE : Hid ((more :: (S.take (k + 1)).map fun r => valOf r.v).flatMap i64Cells = (more :: (S.take k).map fun r => valOf r.v).flatMap i64Cells ++ [.int .i64 (valOf f.v)]) := Lib.hid (by
        rw [HT_f.out, List.map_append, ← List.cons_append, List.flatMap_append]; rfl)
      have hba := (Below.refl wr.heap.size wr).alloc (Nat.le_refl _) (.cells #[.int .i64 f.id, .int .i64 f.v.id, .int .i64 f.v.buyer, .int .i64 f.v.seller, .int .i64 f.v.sec, .int .i64 f.v.qty, .int .i64 f.v.price] 156)
      have bx := Blk.new wr 156 #[.int .i64 f.id, .int .i64 f.v.id, .int .i64 f.v.buyer, .int .i64 f.v.seller, .int .i64 f.v.sec, .int .i64 f.v.qty, .int .i64 f.v.price] wr.heap.size rfl
      obtain ⟨W2, hW2⟩ : ∃ W2, Hid (wr.alloc (.cells #[.int .i64 f.id, .int .i64 f.v.id, .int .i64 f.v.buyer, .int .i64 f.v.seller, .int .i64 f.v.sec, .int .i64 f.v.qty, .int .i64 f.v.price] 156) = W2) := ⟨_, Lib.hid rfl⟩
      obtain ⟨yb, hyb⟩ : ∃ yb, Hid (wr.heap.size = yb) := ⟨_, Lib.hid rfl⟩
      have HB2 := Lib.hid (Below.past HB.out hba hs)
      have HO2 := Lib.hid (own_pastZ HO.out hba)
      have HR2 := Lib.hid (own_pastZ HR.out hba)
      rw [hW2.out] at HB2 HO2 HR2 bx
      rw [hyb.out] at bx
      have x0 := (bx).cell 0
      have x1 := (bx).cell 1
      have x2 := (bx).cell 2
      have x3 := (bx).cell 3
      have x4 := (bx).cell 4
      have x5 := (bx).cell 5
      have x6 := (bx).cell 6
      simp at x0 x1 x2 x3 x4 x5 x6
      have HCL := Lib.hid (valueR_any f.v (HTI.out f HM_f.out) W2)
      obtain ⟨z, hz⟩ : ∃ z, Hid (valOf f.v = z) := ⟨_, Lib.hid rfl⟩
      rw [hz.out] at HCL HE
      clear hba bx
      go_upto_region 5 with fail
      rw [hW2.out, hyb.out]
      clear c0 c1 c2 c3 c4 c5 c6
      go_wp2_with fail
      refine HCL.out.mono ?_
      rintro e w3 ⟨rfl, hb3⟩
      have HB3 := Lib.hid (Below.past HB2.out hb3 HB2.out.size)
      have HO3 := Lib.hid (own_pastZ HO2.out hb3)
      have HR3 := Lib.hid (own_pastZ HR2.out hb3)
      have hs3 := HB3.out.size
      clear hb3 x0 x1 x2 x3 x4 x5 x6 HCL
      go_wp2_with (at_builtin; refine wpList_append_lit_atN _ _ rfl (.tmp 23) (.tmp 28) 71 rfl w.heap.size 2 i0 _ 1 8 Try.underlying71 hi0 hz0 hz1 hz2 rfl (by decide) _ _ _ rfl HO3.out _ 1 1 rfl (by first | rfl | simp) rfl (by simp [Value.oneCell']) (by omega) (by omega) (by omega) ?_; intro v' w' hown' hg' hdd; have HOWN := Lib.hid hown'; have HRN := Lib.hid (own_grownN (HR3.out.alloc _) hg' (fun q e1 e2 => own_neZ HR3.out HO3.out (by decide) q e1 e2)); have HBW := Lib.hid (below_own (HB3.out.alloc hs3 _) hg' HO3.out (by simp; omega) (Nat.le_refl _)); clear hown' hg' hdd)
      go_roundw
      case rel => exact ⟨k + 1, by omega, by go_num, Lib.hid (by rw [HE.out]; exact HOWN.out), HRN, HBW⟩
      case measure => simp [intOf]; omega
    · have hlz : ¬ (k : Int) < (n : Int) := by omega
      obtain rfl : n = k := by omega
      have hT : S.take n = S := List.take_of_length_le (by rw [hn.out]; exact Nat.le_refl _)
      rw [hT] at HO
      obtain ⟨Aq, cq, rfl⟩ := own_form HO.out
      have HSM := Lib.hid (sum_any Aq (n + 1) cq _ wr (Rd.of_own HO.out) (by omega) HIN.out)
      rw [HSUM.out] at HSM
      clear hT
      go_wp2_with fail
      refine HSM.out.mono ?_
      rintro e w3 ⟨rfl, hb3⟩
      have HBE := Lib.hid (Below.past HB.out hb3 hs)
      clear hb3 HSM
      go_wp2_with fail
      go_ret2
      exact ⟨rfl, HBE.out⟩
set_option maxHeartbeats 4000000 in
set_option maxRecDepth 100000 in
theorem sumU_any (more : Int) (s : Int) (w : World) (hx : RgsV w g gt gu base B1 n1 d1 B2 n2 d2 B3 n3 d3 cf vt vu ac S U) (hin : ∀ r ∈ S, TrdIn r.v) (hm : inI more) (hl : S.length ≤ 900) :
    Calls Try.prog 102 #[.pointer (some ⟨g, 0, none⟩), .func (.func 131) #[.agg #[.int .i64 s]] #[], .int .i64 more] w fun e w' => e = .returned (.tuple #[.int .i64 (amount (more + sumU s S)), .int .i64 (over (more + sumU s S))]) ∧ Below w.heap.size w w' := by
  obtain ⟨i0, hi0, hz0, hz1, hz2⟩ := info_parts i64_info
  have HSUM : Hid ((more :: S.map fun r => unitOf s r.v).sum = more + sumU s S) := Lib.hid (List.sum_cons ..)
  have HIN : Hid (∀ z ∈ (more :: S.map fun r => unitOf s r.v), inI z) := Lib.hid fun z hz => by
    rcases List.mem_cons.1 hz with rfl | hz
    · exact hm
    · obtain ⟨r, hr, rfl⟩ := List.mem_map.1 hz
      unfold unitOf; split
      · exact (hin r hr).1
      · simp [inI]
  have HTI := Lib.hid hin
  have hB0 := (Below.refl w.heap.size w).alloc (Nat.le_refl _) (.cells #[.int .i64 more] 2)
  have HO0 : Hid ((w.alloc (.cells #[.int .i64 more] 2)).ownsRow w.heap.size 2 1 (.slice (some ⟨w.heap.size, 0, none⟩) 1 1) 1 ((more :: (S.take 0).map fun r => unitOf s r.v).flatMap i64Cells)) := Lib.hid (World.ownsRow_lit w #[.int .i64 more] 1 (Nat.le_refl _) (by unfold maxLen; decide) rfl)
  have hx0 := hx.past hB0
  have HRW := Lib.hid (TTbR.rowsT_any gt base cf.trades vt S _ hx0.tab)
  have p8 := hx0.blk.cell 8
  simp at p8
  have HB0 := Lib.hid hB0
  obtain ⟨W, hW⟩ : ∃ W, Hid (w.alloc (.cells #[.int .i64 more] 2) = W) := ⟨_, Lib.hid rfl⟩
  obtain ⟨xb, hxb⟩ : ∃ xb, Hid (w.heap.size = xb) := ⟨_, Lib.hid rfl⟩
  obtain ⟨n, hn⟩ : ∃ n, Hid (S.length = n) := ⟨_, Lib.hid rfl⟩
  rw [hW.out] at HO0 HRW p8 HB0
  rw [hn.out] at HRW hl
  clear hx hx0 hB0 hin hm
  go_enter Try.func102, Try.ntmps102
  go_upto_region 2 with fail
  rw [hW.out]
  go_wp2_with fail
  refine HRW.out.mono ?_
  rintro e w1 ⟨v1, rfl, hov, hb1⟩
  have hs0 := HB0.out.size
  have HR1 := Lib.hid (own_monoZ hov hs0)
  have HO1 := Lib.hid (own_pastZ HO0.out hb1)
  have HB1 := Lib.hid (Below.past HB0.out hb1 hs0)
  obtain ⟨A1, c1, rfl⟩ := own_form hov
  clear hov hb1 HRW p8 HO0
  go_wp2_with fail
  go_loopw [8, 19] (fun q i wr => ∃ k : Nat, k ≤ n ∧ i = .int .i64 k ∧ Hid (wr.ownsRow w.heap.size 2 1 q (k + 1) ((more :: (S.take k).map fun r => unitOf s r.v).flatMap i64Cells)) ∧ Hid (wr.ownsRow w.heap.size 156 7 (.slice A1 n c1) n (S.flatMap TTbR.RowT.cells)) ∧ Hid (Below w.heap.size w wr)) (fun _ i _ => n - (intOf i).toNat)
  case atStart => exact ⟨0, Nat.zero_le _, rfl, HO1, HR1, HB1⟩
  case round =>
    clear HO1 HR1 HB1
    obtain ⟨k, hk, rfl, HO, HR, HB⟩ := hrel
    have hs := HB.out.size
    by_cases hlt : k < n
    · have hlz : (k : Int) < (n : Int) := by omega
      have hg_f : S[k]? = some (S[k]'(by have := hn.out; omega)) := List.getElem?_eq_getElem _
      obtain ⟨b_f, off_f, rfl, hbb_f, hc_f⟩ := (Rd.of_own HR.out).elem TTbR.RowT.cells_len hg_f hlt
      have HT_f := Lib.hid (show S.take (k + 1) = S.take k ++ [(S[k]'(by have := hn.out; omega))] from List.take_succ_eq_append_getElem (by have := hn.out; omega))
      have HM_f := Lib.hid (show (S[k]'(by have := hn.out; omega)) ∈ S from List.getElem_mem _)
      generalize (S[k]'(by have := hn.out; omega)) = f at *
      have c0 := hc_f 0 _ rfl
      have c1 := hc_f 1 _ rfl
      have c2 := hc_f 2 _ rfl
      have c3 := hc_f 3 _ rfl
      have c4 := hc_f 4 _ rfl
      have c5 := hc_f 5 _ rfl
      have c6 := hc_f 6 _ rfl
      clear hc_f hg_f
      simp only [Nat.add_zero] at c0
      have HE : Hid ((more :: (S.take (k + 1)).map fun r => unitOf s r.v).flatMap i64Cells = (more :: (S.take k).map fun r => unitOf s r.v).flatMap i64Cells ++ [.int .i64 (unitOf s f.v)]) := Lib.hid (by
        rw [HT_f.out, List.map_append, ← List.cons_append, List.flatMap_append]; rfl)
      have hba := (Below.refl wr.heap.size wr).alloc (Nat.le_refl _) (.cells #[.int .i64 f.id, .int .i64 f.v.id, .int .i64 f.v.buyer, .int .i64 f.v.seller, .int .i64 f.v.sec, .int .i64 f.v.qty, .int .i64 f.v.price] 156)
      have bx := Blk.new wr 156 #[.int .i64 f.id, .int .i64 f.v.id, .int .i64 f.v.buyer, .int .i64 f.v.seller, .int .i64 f.v.sec, .int .i64 f.v.qty, .int .i64 f.v.price] wr.heap.size rfl
      obtain ⟨W2, hW2⟩ : ∃ W2, Hid (wr.alloc (.cells #[.int .i64 f.id, .int .i64 f.v.id, .int .i64 f.v.buyer, .int .i64 f.v.seller, .int .i64 f.v.sec, .int .i64 f.v.qty, .int .i64 f.v.price] 156) = W2) := ⟨_, Lib.hid rfl⟩
      obtain ⟨yb, hyb⟩ : ∃ yb, Hid (wr.heap.size = yb) := ⟨_, Lib.hid rfl⟩
      have HB2 := Lib.hid (Below.past HB.out hba hs)
      have HO2 := Lib.hid (own_pastZ HO.out hba)
      have HR2 := Lib.hid (own_pastZ HR.out hba)
      rw [hW2.out] at HB2 HO2 HR2 bx
      rw [hyb.out] at bx
      have x0 := (bx).cell 0
      have x1 := (bx).cell 1
      have x2 := (bx).cell 2
      have x3 := (bx).cell 3
      have x4 := (bx).cell 4
      have x5 := (bx).cell 5
      have x6 := (bx).cell 6
      simp at x0 x1 x2 x3 x4 x5 x6
      have HCL := Lib.hid (unitsS_any s f.v W2)
      obtain ⟨z, hz⟩ : ∃ z, Hid (unitOf s f.v = z) := ⟨_, Lib.hid rfl⟩
      rw [hz.out] at HCL HE
      clear hba bx
      go_upto_region 5 with fail
      rw [hW2.out, hyb.out]
      clear c0 c1 c2 c3 c4 c5 c6
      go_wp2_with fail
      refine HCL.out.mono ?_
      rintro e w3 ⟨rfl, hb3⟩
      have HB3 := Lib.hid (Below.past HB2.out hb3 HB2.out.size)
      have HO3 := Lib.hid (own_pastZ HO2.out hb3)
      have HR3 := Lib.hid (own_pastZ HR2.out hb3)
      have hs3 := HB3.out.size
      clear hb3 x0 x1 x2 x3 x4 x5 x6 HCL
      go_wp2_with (at_builtin; refine wpList_append_lit_atN _ _ rfl (.tmp 23) (.tmp 28) 71 rfl w.heap.size 2 i0 _ 1 8 Try.underlying71 hi0 hz0 hz1 hz2 rfl (by decide) _ _ _ rfl HO3.out _ 1 1 rfl (by first | rfl | simp) rfl (by simp [Value.oneCell']) (by omega) (by omega) (by omega) ?_; intro v' w' hown' hg' hdd; have HOWN := Lib.hid hown'; have HRN := Lib.hid (own_grownN (HR3.out.alloc _) hg' (fun q e1 e2 => own_neZ HR3.out HO3.out (by decide) q e1 e2)); have HBW := Lib.hid (below_own (HB3.out.alloc hs3 _) hg' HO3.out (by simp; omega) (Nat.le_refl _)); clear hown' hg' hdd)
      go_roundw
      case rel => exact ⟨k + 1, by omega, by go_num, Lib.hid (by rw [HE.out]; exact HOWN.out), HRN, HBW⟩
      case measure => simp [intOf]; omega
    · have hlz : ¬ (k : Int) < (n : Int) := by omega
      obtain rfl : n = k := by omega
      have hT : S.take n = S := List.take_of_length_le (by rw [hn.out]; exact Nat.le_refl _)
      rw [hT] at HO
      obtain ⟨Aq, cq, rfl⟩ := own_form HO.out
      have HSM := Lib.hid (sum_any Aq (n + 1) cq _ wr (Rd.of_own HO.out) (by omega) HIN.out)
      rw [HSUM.out] at HSM
      clear hT
      go_wp2_with fail
      refine HSM.out.mono ?_
      rintro e w3 ⟨rfl, hb3⟩
      have HBE := Lib.hid (Below.past HB.out hb3 hs)
      clear hb3 HSM
      go_wp2_with fail
      go_ret2
      exact ⟨rfl, HBE.out⟩
end
end Go.Proofs.Ytelbolhckhdioaa
