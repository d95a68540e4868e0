import Derived.Test.YtelbolhckhdioaaGreatRpU
import Derived.IntWalk
namespace Go.Proofs.YtelbolhckhdioaaGreat
open Go.RowKit

/-! ### What a register tells of its rows -/
def RowR.known (_ : RowR) : Bool := true
theorem refValue17_any (t : Trad) (hq : inI t.qty) (hp : inI t.price) (w : World) :
    Calls Tryz.prog 47 #[.agg #[.int .i64 t.id, .int .i64 t.buyer, .int .i64 t.seller, .int .i64 t.sec, .int .i64 t.qty, .int .i64 t.price]] w fun e w' => e = .returned (.int .i64 (amount (t.qty * t.price))) ∧ Below w.heap.size w w' := by
  have hB0 := (Below.refl w.heap.size w).alloc (Nat.le_refl _) (.cells #[.int .i64 t.id, .int .i64 t.buyer, .int .i64 t.seller, .int .i64 t.sec, .int .i64 t.qty, .int .i64 t.price] 38)
  have bt0 := Blk.new w 38 #[.int .i64 t.id, .int .i64 t.buyer, .int .i64 t.seller, .int .i64 t.sec, .int .i64 t.qty, .int .i64 t.price] w.heap.size rfl
  obtain ⟨W, hW⟩ : ∃ W, Hid (w.alloc (.cells #[.int .i64 t.id, .int .i64 t.buyer, .int .i64 t.seller, .int .i64 t.sec, .int .i64 t.qty, .int .i64 t.price] 38) = W) := ⟨_, Lib.hid rfl⟩
  rw [hW.out] at hB0 bt0
  have e0 := (bt0).cell 0
  have e1 := (bt0).cell 1
  have e2 := (bt0).cell 2
  have e3 := (bt0).cell 3
  have e4 := (bt0).cell 4
  have e5 := (bt0).cell 5
  simp at e0 e1 e2 e3 e4 e5
  have HM := Lib.hid (refMul_any t.qty t.price hq hp W)
  go_enter Tryz.func47, Tryz.ntmps47
  go_upto_region 1 with fail
  rw [hW.out]
  go_wp2_with fail
  refine HM.out.mono ?_
  rintro e w1 ⟨rfl, hb1⟩
  have hb2 := Below.past hB0 hb1 hB0.size
  go_wp2_with fail
  go_ret
  exact ⟨rfl, hb2⟩

set_option maxHeartbeats 2000000 in
set_option maxRecDepth 100000 in
theorem hereR_any (g base : Nat) (B1 : Option Addr) (n1 d1 : Nat) (B2 : Option Addr) (n2 d2 : Nat) (B3 : Option Addr) (n3 d3 : Nat) (cf : Conf) (c : Int) (v : Value) (l : List RowR) (k : Nat) (f : RowR) (w : World) (hx : RegV w g base B1 n1 d1 B2 n2 d2 B3 n3 d3 cf c v l) (hf : l[k]? = some f) :
    Calls Tryz.prog 49 #[.pointer (some ⟨g, 0, none⟩), .int .i64 (k : Int)] w fun e w' => e = .returned (.bool (hereR c f)) ∧ Below w.heap.size w w' := by
  obtain ⟨⟨A, cp, rfl⟩, bg, hrow⟩ := hx
  have hlt : k < l.length := (List.getElem?_eq_some_iff.1 hf).1
  have hrd := Rd.of_own hrow
  obtain ⟨b1, o1, rfl, hb1, hc1⟩ := hrd.elem RowR.cells_len hf hlt
  have c6 := hc1 6 _ rfl
  have c7 := hc1 7 _ rfl
  have p8 := bg.cell 8
  have p9 := bg.cell 9
  simp at p8 p9
  obtain ⟨n, hn⟩ : ∃ n, Hid (l.length = n) := ⟨_, Lib.hid rfl⟩
  rw [hn.out] at p8 hlt
  have hkz : (k : Int) < (n : Int) := by omega
  have hbb := Below.refl w.heap.size w
  obtain ⟨R, hR⟩ : ∃ R, Hid (hereR c f = R) := ⟨_, Lib.hid rfl⟩
  have hR2 : R = (f.cyc == c && !f.gone) := by rw [← hR.out]; rfl
  rw [hR.out]
  clear hrd hc1 hrow bg hf hlt
  cases hcy : f.cyc == c with
  | false =>
    obtain rfl : R = false := by rw [hR2, hcy]; rfl
    clear hR2
    go_enter Tryz.func49, Tryz.ntmps49
    go_wp2_with fail
    go_quiet (fail)
    have hb2 := below_drewN hbb nq
    go_wp2_with fail
    go_ret
    exact ⟨rfl, hb2⟩
  | true =>
    obtain rfl : R = !f.gone := by rw [hR2, hcy]; rfl
    clear hR2
    go_enter Tryz.func49, Tryz.ntmps49
    go_wp2_with fail
    go_quiet (fail)
    have hb2 := below_drewN hbb nq
    go_wp2_with fail
    go_ret
    exact ⟨rfl, hb2⟩

set_option maxHeartbeats 2000000 in
set_option maxRecDepth 100000 in
theorem grossR_any (g base : Nat) (B1 : Option Addr) (n1 d1 : Nat) (B2 : Option Addr) (n2 d2 : Nat) (B3 : Option Addr) (n3 d3 : Nat) (cf : Conf) (c : Int) (v : Value) (l : List RowR) (w : World) (hx : RegV w g base B1 n1 d1 B2 n2 d2 B3 n3 d3 cf c v l) (hok : RowsOk n1 n2 c l) (hl : l.length ≤ 1000) :
    Calls Tryz.prog 18 #[.pointer (some ⟨g, 0, none⟩)] w fun e w' => e = .returned (.int .i64 (grossR c l)) ∧ Below w.heap.size w w' := by
  obtain ⟨A, cp, hv⟩ := hx.form
  subst hv
  have HX := Lib.hid hx
  have HO := Lib.hid hok
  obtain ⟨n, hn⟩ : ∃ n, Hid (l.length = n) := ⟨_, Lib.hid rfl⟩
  have HXB := Lib.hid hx.blk
  have HL := hn
  rw [hn.out] at HXB hl
  have HRD := Lib.hid (Rd.of_own hx.row)
  rw [hn.out] at HRD
  clear hx hok
  have HNN : Hid (∀ r ∈ l, 0 ≤ valR r) := Lib.hid fun r hr => by
    have h1 := (checkT_ok (HO.out.ok r hr)).1
    have := h1.le; have := h1.q; unfold valR; omega
  go_enter Tryz.func18, Tryz.ntmps18
  go_wp2_with fail
  go_loopw [3, 4] (fun s i wr => ∃ k : Nat, k ≤ n ∧ i = .int .i64 k ∧ s = .int .i64 (grossR c (l.take k)) ∧ Hid (Below w.heap.size w wr)) (fun _ i _ => n - (intOf i).toNat)
  case atStart => exact ⟨0, Nat.zero_le _, rfl, rfl, Lib.hid (Below.refl _ _)⟩
  case round =>
    obtain ⟨k, hk, rfl, rfl, HB⟩ := hrel
    have bg := HXB.out.past HB.out
    have p8 := bg.cell 8
    simp at p8
    by_cases hlt : k < n
    · have hlz : (k : Int) < (n : Int) := by omega
      have hg_f : l[k]? = some (l[k]'(by have := HL.out; omega)) := List.getElem?_eq_getElem _
      obtain ⟨b_f, off_f, rfl, hbb_f, hc_f⟩ := (HRD.out.below HB.out).elem RowR.cells_len hg_f hlt
      have HT_f := Lib.hid (show l.take (k + 1) = l.take k ++ [(l[k]'(by have := HL.out; omega))] from List.take_succ_eq_append_getElem (by have := HL.out; omega))
      have HM_f := Lib.hid (show (l[k]'(by have := HL.out; omega)) ∈ l from List.getElem_mem _)
      have HG_f := Lib.hid hg_f
      generalize (l[k]'(by have := HL.out; omega)) = f at *
      have c0 := hc_f 0 _ rfl
      have c1 := hc_f 1 _ rfl
      have c2 := hc_f 2 _ rfl
      have c3 := hc_f 3 _ rfl
      have c4 := hc_f 4 _ rfl
      have c5 := hc_f 5 _ rfl
      have c6 := hc_f 6 _ rfl
      have c7 := hc_f 7 _ rfl
      clear hc_f hg_f
      simp only [Nat.add_zero] at c0
      have hck := HO.out.ok f HM_f.out
      have hq1 := checkT_ok hck
      have HT := Lib.hid (sum_take_le HNN.out (hereR c) k)
      have hg1 := HO.out.top
      have HH := Lib.hid (hereR_any g base B1 n1 d1 B2 n2 d2 B3 n3 d3 cf c _ l k f wr (HX.out.past HB.out) HG_f.out)
      have HV := Lib.hid (fun w => refValue17_any f.t (by have := hq1.1.q; have := hq1.1.le; have := hq1.2.2.2; unfold inI at *; omega) (by
        have h1 := hq1.1.q; have h2 := hq1.1.p; have h3 := hq1.2.1
        have h4 := Int.mul_le_mul_of_nonneg_right (show 1 ≤ f.t.qty from h1) (show 0 ≤ f.t.price from Int.le_of_lt h2)
        unfold inI; omega) w)
      rw [show amount (f.t.qty * f.t.price) = valR f from if_pos hq1.2.2.2] at HV
      have HVL : Hid (0 ≤ valR f ∧ valR f ≤ 288230376151711744) := Lib.hid ⟨HNN.out f HM_f.out, hq1.2.1⟩
      have HGT : Hid (0 ≤ grossR c (l.take k) ∧ grossR c (l.take k) ≤ 288230376151711744) := Lib.hid ⟨HT.out.1, Int.le_trans HT.out.2 hg1⟩
      have hs := HB.out.size
      clear hck hq1 hg1 HT bg
      go_wp2_with fail
      refine HH.out.mono ?_
      rintro e w2 ⟨rfl, hb2⟩
      have HB2 := Lib.hid (Below.past HB.out hb2 hs)
      cases hh : hereR c f with
      | true =>
        have bg2 := HXB.out.past HB2.out
        obtain ⟨b2, o2, he2, _, hd⟩ := (HRD.out.below HB2.out).elem RowR.cells_len HG_f.out hlt
        cases he2
        clear p8 c0 c1 c2 c3 c4 c5 c6 c7
        have p8 := bg2.cell 8
        simp at p8
        have c0 := hd 0 _ rfl
        have c1 := hd 1 _ rfl
        have c2 := hd 2 _ rfl
        have c3 := hd 3 _ rfl
        have c4 := hd 4 _ rfl
        have c5 := hd 5 _ rfl
        simp only [Nat.add_zero] at c0
        have HE := Lib.hid (gross_yes HT_f.out hh)
        have hw1 : IntKind.i64.wrap (grossR c (l.take k) + valR f) = grossR c (l.take k) + valR f := IntWalk.i64_in _ (by have := HGT.out; have := HVL.out; omega)
        have hs2 := HB2.out.size
        clear hd bg2 hb2
        go_wp2_with fail
        refine (HV.out _).mono ?_
        rintro e w3 ⟨rfl, hb3⟩
        have HB3 := Lib.hid (Below.past HB2.out hb3 hs2)
        clear hb3
        go_wp2_with fail
        go_roundw
        case rel => exact ⟨k + 1, by omega, by go_num, by rw [HE.out], HB3⟩
        case measure => simp [intOf]; omega
      | false =>
        have HE := Lib.hid (gross_no HT_f.out hh)
        clear hb2 p8 c0 c1 c2 c3 c4 c5 c6 c7
        go_wp2_with fail
        go_roundw
        case rel => exact ⟨k + 1, by omega, by go_num, by rw [HE.out], HB2⟩
        case measure => simp [intOf]; omega
    · have hlz : ¬ (k : Int) < (n : Int) := by omega
      have HE : Hid (grossR c (l.take k) = grossR c l) := Lib.hid (by rw [List.take_of_length_le (by rw [hn.out]; omega)])
      rw [HE.out]
      go_wp2_with fail
      go_ret
      exact ⟨rfl, HB.out⟩

set_option maxHeartbeats 2000000 in
set_option maxRecDepth 100000 in
theorem unitsR_any (g base : Nat) (B1 : Option Addr) (n1 d1 : Nat) (B2 : Option Addr) (n2 d2 : Nat) (B3 : Option Addr) (n3 d3 : Nat) (cf : Conf) (c : Int) (v : Value) (l : List RowR) (sec : Int) (w : World) (hx : RegV w g base B1 n1 d1 B2 n2 d2 B3 n3 d3 cf c v l) (hok : RowsOk n1 n2 c l) (hl : l.length ≤ 1000) :
    Calls Tryz.prog 22 #[.pointer (some ⟨g, 0, none⟩), .int .i64 sec] w fun e w' => e = .returned (.int .i64 (unitsR c sec l)) ∧ Below w.heap.size w w' := by
  obtain ⟨A, cp, hv⟩ := hx.form
  subst hv
  have HX := Lib.hid hx
  have HO := Lib.hid hok
  obtain ⟨n, hn⟩ : ∃ n, Hid (l.length = n) := ⟨_, Lib.hid rfl⟩
  have HXB := Lib.hid hx.blk
  have HL := hn
  rw [hn.out] at HXB hl
  have HRD := Lib.hid (Rd.of_own hx.row)
  rw [hn.out] at HRD
  clear hx hok
  have HNN : Hid (∀ r ∈ l, 0 ≤ r.t.qty) := Lib.hid fun r hr => by
    have h1 := (checkT_ok (HO.out.ok r hr)).1
    have := h1.q; omega
  have HUT : Hid (unitsR c sec l ≤ 288230376151711744) := Lib.hid (Int.le_trans (units_le HO.out.ok).1 HO.out.top)
  go_enter Tryz.func22, Tryz.ntmps22
  go_wp2_with fail
  go_loopw [5, 6] (fun s i wr => ∃ k : Nat, k ≤ n ∧ i = .int .i64 k ∧ s = .int .i64 (unitsR c sec (l.take k)) ∧ Hid (Below w.heap.size w wr)) (fun _ i _ => n - (intOf i).toNat)
  case atStart => exact ⟨0, Nat.zero_le _, rfl, rfl, Lib.hid (Below.refl _ _)⟩
  case round =>
    obtain ⟨k, hk, rfl, rfl, HB⟩ := hrel
    have bg := HXB.out.past HB.out
    have p8 := bg.cell 8
    simp at p8
    by_cases hlt : k < n
    · have hlz : (k : Int) < (n : Int) := by omega
      have hg_f : l[k]? = some (l[k]'(by have := HL.out; omega)) := List.getElem?_eq_getElem _
      obtain ⟨b_f, off_f, rfl, hbb_f, hc_f⟩ := (HRD.out.below HB.out).elem RowR.cells_len hg_f hlt
      have HT_f := Lib.hid (show l.take (k + 1) = l.take k ++ [(l[k]'(by have := HL.out; omega))] from List.take_succ_eq_append_getElem (by have := HL.out; omega))
      have HM_f := Lib.hid (show (l[k]'(by have := HL.out; omega)) ∈ l from List.getElem_mem _)
      have HG_f := Lib.hid hg_f
      generalize (l[k]'(by have := HL.out; omega)) = f at *
      have c0 := hc_f 0 _ rfl
      have c1 := hc_f 1 _ rfl
      have c2 := hc_f 2 _ rfl
      have c3 := hc_f 3 _ rfl
      have c4 := hc_f 4 _ rfl
      have c5 := hc_f 5 _ rfl
      have c6 := hc_f 6 _ rfl
      have c7 := hc_f 7 _ rfl
      clear hc_f hg_f
      simp only [Nat.add_zero] at c0
      have hck := HO.out.ok f HM_f.out
      have hq1 := checkT_ok hck
      have HT := Lib.hid (sum_take_le HNN.out (fun r => hereR c r && r.t.sec == sec) k)
      have hg1 := HUT.out
      have HH := Lib.hid (hereR_any g base B1 n1 d1 B2 n2 d2 B3 n3 d3 cf c _ l k f wr (HX.out.past HB.out) HG_f.out)
      have HVL : Hid (0 ≤ f.t.qty ∧ f.t.qty ≤ 274877906944) := Lib.hid ⟨HNN.out f HM_f.out, hq1.2.2.1⟩
      have HGT : Hid (0 ≤ unitsR c sec (l.take k) ∧ unitsR c sec (l.take k) ≤ 288230376151711744) := Lib.hid ⟨HT.out.1, Int.le_trans HT.out.2 hg1⟩
      have hs := HB.out.size
      clear hck hq1 hg1 HT bg
      go_wp2_with fail
      refine HH.out.mono ?_
      rintro e w2 ⟨rfl, hb2⟩
      have HB2 := Lib.hid (Below.past HB.out hb2 hs)
      cases hh : hereR c f with
      | true =>
        have bg2 := HXB.out.past HB2.out
        obtain ⟨b2, o2, he2, _, hd⟩ := (HRD.out.below HB2.out).elem RowR.cells_len HG_f.out hlt
        cases he2
        clear p8 c0 c1 c2 c3 c4 c5 c6 c7
        have p8 := bg2.cell 8
        simp at p8
        have c3 := hd 3 _ rfl
        have c4 := hd 4 _ rfl
        clear hd bg2 hb2
        by_cases hsec : f.t.sec = sec
        · have q1 : (f.t.sec == sec) = true := by simpa using hsec
          have HE := Lib.hid (units_yes HT_f.out hh hsec)
          have hw1 : IntKind.i64.wrap (unitsR c sec (l.take k) + f.t.qty) = unitsR c sec (l.take k) + f.t.qty := IntWalk.i64_in _ (by have := HGT.out; have := HVL.out; omega)
          clear hsec
          go_wp2_with fail
          go_roundw
          case rel => exact ⟨k + 1, by omega, by go_num, by rw [HE.out], HB2⟩
          case measure => simp [intOf]; omega
        · have q1 : (f.t.sec == sec) = false := by simpa using hsec
          have HE := Lib.hid (units_no HT_f.out (s := sec) (c := c) (fun h => hsec h.2))
          clear hsec
          go_wp2_with fail
          go_roundw
          case rel => exact ⟨k + 1, by omega, by go_num, by rw [HE.out], HB2⟩
          case measure => simp [intOf]; omega
      | false =>
        have HE := Lib.hid (units_no HT_f.out (s := sec) (c := c) (fun h => by rw [hh] at h; cases h.1))
        clear hb2 p8 c0 c1 c2 c3 c4 c5 c6 c7
        go_wp2_with fail
        go_roundw
        case rel => exact ⟨k + 1, by omega, by go_num, by rw [HE.out], HB2⟩
        case measure => simp [intOf]; omega
    · have hlz : ¬ (k : Int) < (n : Int) := by omega
      have HE : Hid (unitsR c sec (l.take k) = unitsR c sec l) := Lib.hid (by rw [List.take_of_length_le (by rw [hn.out]; omega)])
      rw [HE.out]
      go_wp2_with fail
      go_ret
      exact ⟨rfl, HB.out⟩

set_option maxHeartbeats 2000000 in
set_option maxRecDepth 100000 in
theorem usedR_any (g base : Nat) (B1 : Option Addr) (n1 d1 : Nat) (B2 : Option Addr) (n2 d2 : Nat) (B3 : Option Addr) (n3 d3 : Nat) (cf : Conf) (c : Int) (v : Value) (l : List RowR) (id : Int) (w : World) (hx : RegV w g base B1 n1 d1 B2 n2 d2 B3 n3 d3 cf c v l) (hl : l.length ≤ 1000) :
    Calls Tryz.prog 23 #[.pointer (some ⟨g, 0, none⟩), .int .i64 id] w fun e w' => e = .returned (.bool (usedR id l)) ∧ Below w.heap.size w w' := by
  obtain ⟨A, cp, hv⟩ := hx.form
  subst hv
  obtain ⟨n, hn⟩ : ∃ n, Hid (l.length = n) := ⟨_, Lib.hid rfl⟩
  have HL := hn
  have HXB := Lib.hid hx.blk
  rw [hn.out] at HXB hl
  have HRD := Lib.hid (Rd.of_own hx.row)
  rw [hn.out] at HRD
  clear hx
  go_enter Tryz.func23, Tryz.ntmps23
  go_wp2_with fail
  go_loopw [5] (fun i wr => ∃ k : Nat, k ≤ n ∧ i = .int .i64 k ∧ Hid (usedR id (l.take k) = false) ∧ Hid (Below w.heap.size w wr)) (fun i _ => n - (intOf i).toNat)
  case atStart => exact ⟨0, Nat.zero_le _, rfl, Lib.hid rfl, Lib.hid (Below.refl _ _)⟩
  case round =>
    obtain ⟨k, hk, rfl, HU, HB⟩ := hrel
    have bg := HXB.out.past HB.out
    have p8 := bg.cell 8
    simp at p8
    clear bg
    by_cases hlt : k < n
    · have hlz : (k : Int) < (n : Int) := by omega
      have hg_f : l[k]? = some (l[k]'(by have := HL.out; omega)) := List.getElem?_eq_getElem _
      obtain ⟨b_f, off_f, rfl, hbb_f, hc_f⟩ := (HRD.out.below HB.out).elem RowR.cells_len hg_f hlt
      have HT_f := Lib.hid (show l.take (k + 1) = l.take k ++ [(l[k]'(by have := HL.out; omega))] from List.take_succ_eq_append_getElem (by have := HL.out; omega))
      have HM_f := Lib.hid (show (l[k]'(by have := HL.out; omega)) ∈ l from List.getElem_mem _)
      generalize (l[k]'(by have := HL.out; omega)) = f at *
      have c0 := hc_f 0 _ rfl
      have c1 := hc_f 1 _ rfl
      have c2 := hc_f 2 _ rfl
      have c3 := hc_f 3 _ rfl
      have c4 := hc_f 4 _ rfl
      have c5 := hc_f 5 _ rfl
      have c6 := hc_f 6 _ rfl
      have c7 := hc_f 7 _ rfl
      clear hc_f hg_f
      simp only [Nat.add_zero] at c0
      clear c1 c2 c3 c4 c5 c6 c7
      by_cases hid : f.t.id = id
      · have q1 : (f.t.id == id) = true := by simpa using hid
        have HE : Hid (usedR id l = true) := Lib.hid (List.any_eq_true.2 ⟨f, HM_f.out, q1⟩)
        clear hid
        go_wp2_with fail
        go_ret
        exact ⟨by rw [HE.out]; rfl, HB.out⟩
      · have q1 : (f.t.id == id) = false := by simpa using hid
        have HE : Hid (usedR id (l.take (k + 1)) = false) := Lib.hid (by
          have h := HU.out
          unfold usedR at h ⊢
          rw [HT_f.out, List.any_append, h]; simp [hid])
        clear hid
        go_wp2_with fail
        go_roundw
        case rel => exact ⟨k + 1, by omega, by go_num, HE, HB⟩
        case measure => simp [intOf]; omega
    · have hlz : ¬ (k : Int) < (n : Int) := by omega
      have HE : Hid (usedR id l = false) := Lib.hid (by have h := HU.out; rwa [List.take_of_length_le (by rw [hn.out]; omega)] at h)
      go_wp2_with fail
      go_ret
      exact ⟨by rw [HE.out]; rfl, HB.out⟩

set_option maxHeartbeats 2000000 in
set_option maxRecDepth 100000 in
theorem accR_any (g base : Nat) (B1 : Option Addr) (n1 d1 : Nat) (B2 : Option Addr) (n2 d2 : Nat) (B3 : Option Addr) (n3 d3 : Nat) (cf : Conf) (c : Int) (v : Value) (l : List RowR) (w : World) (hx : RegV w g base B1 n1 d1 B2 n2 d2 B3 n3 d3 cf c v l) (hl : l.length ≤ 1000) :
    Calls Tryz.prog 20 #[.pointer (some ⟨g, 0, none⟩)] w fun e w' => e = .returned (.int .i64 (accR c l : Nat)) ∧ Below w.heap.size w w' := by
  obtain ⟨A, cp, hv⟩ := hx.form
  subst hv
  obtain ⟨n, hn⟩ : ∃ n, Hid (l.length = n) := ⟨_, Lib.hid rfl⟩
  have HL := hn
  have HXB := Lib.hid hx.blk
  rw [hn.out] at HXB hl
  have HRD := Lib.hid (Rd.of_own hx.row)
  rw [hn.out] at HRD
  clear hx
  go_enter Tryz.func20, Tryz.ntmps20
  go_wp2_with fail
  go_loopw [3, 4] (fun s i wr => ∃ k : Nat, k ≤ n ∧ i = .int .i64 k ∧ s = .int .i64 (accR c (l.take k) : Nat) ∧ Hid (Below w.heap.size w wr)) (fun _ i _ => n - (intOf i).toNat)
  case atStart => exact ⟨0, Nat.zero_le _, rfl, rfl, Lib.hid (Below.refl _ _)⟩
  case round =>
    obtain ⟨k, hk, rfl, rfl, HB⟩ := hrel
    have bg := HXB.out.past HB.out
    have p8 := bg.cell 8
    have p9 := bg.cell 9
    simp at p8 p9
    clear bg
    obtain ⟨a, ha⟩ : ∃ a, Hid (accR c (l.take k) = a) := ⟨_, Lib.hid rfl⟩
    have ha2 : a ≤ 1000 := by rw [← ha.out]; exact Nat.le_trans (acc_le _ _) (by rw [List.length_take]; omega)
    rw [ha.out]
    by_cases hlt : k < n
    · have hlz : (k : Int) < (n : Int) := by omega
      have hg_f : l[k]? = some (l[k]'(by have := HL.out; omega)) := List.getElem?_eq_getElem _
      obtain ⟨b_f, off_f, rfl, hbb_f, hc_f⟩ := (HRD.out.below HB.out).elem RowR.cells_len hg_f hlt
      have HT_f := Lib.hid (show l.take (k + 1) = l.take k ++ [(l[k]'(by have := HL.out; omega))] from List.take_succ_eq_append_getElem (by have := HL.out; omega))
      have HM_f := Lib.hid (show (l[k]'(by have := HL.out; omega)) ∈ l from List.getElem_mem _)
      generalize (l[k]'(by have := HL.out; omega)) = f at *
      have c0 := hc_f 0 _ rfl
      have c1 := hc_f 1 _ rfl
      have c2 := hc_f 2 _ rfl
      have c3 := hc_f 3 _ rfl
      have c4 := hc_f 4 _ rfl
      have c5 := hc_f 5 _ rfl
      have c6 := hc_f 6 _ rfl
      have c7 := hc_f 7 _ rfl
      clear hc_f hg_f
      simp only [Nat.add_zero] at c0
      clear c0 c1 c2 c3 c4 c5 c7
      by_cases hid : f.cyc = c
      · have q1 : (f.cyc == c) = true := by simpa using hid
        have HE := Lib.hid (acc_yes HT_f.out hid)
        rw [ha.out] at HE
        clear hid
        go_wp2_with fail
        go_quiet (fail)
        have HB2 := Lib.hid (below_drewN HB.out nq)
        clear c6 p8 p9
        go_wp2_with fail
        go_roundw
        case rel => exact ⟨k + 1, by omega, by go_num, by rw [HE.out]; go_num, HB2⟩
        case measure => simp [intOf]; omega
      · have q1 : (f.cyc == c) = false := by simpa using hid
        have HE := Lib.hid (acc_no HT_f.out hid)
        rw [ha.out] at HE
        clear hid
        go_wp2_with fail
        go_quiet (fail)
        have HB2 := Lib.hid (below_drewN HB.out nq)
        clear c6 p8 p9
        go_wp2_with fail
        go_roundw
        case rel => exact ⟨k + 1, by omega, by go_num, by rw [HE.out], HB2⟩
        case measure => simp [intOf]; omega
    · have hlz : ¬ (k : Int) < (n : Int) := by omega
      have HE : Hid (a = accR c l) := Lib.hid (by rw [← ha.out, List.take_of_length_le (by rw [hn.out]; omega)])
      go_wp2_with fail
      go_ret
      exact ⟨by rw [HE.out]; rfl, HB.out⟩
end Go.Proofs.YtelbolhckhdioaaGreat
