import Derived.Test.YtelbolhckhdioaaRgA
import Derived.Test.YtelbolhckhdioaaTradB
import Derived.Test.YtelbolhckhdioaaAppRd
namespace Go.Proofs.Ytelbolhckhdioaa
open Go.RowKit

/-! ### What a register tells -/
def trD (t : Trad) : List Value := [.int .i64 t.id, .int .i64 t.buyer, .int .i64 t.seller, .int .i64 t.sec, .int .i64 t.qty, .int .i64 t.price]
theorem trD_len (t : Trad) : (trD t).length = 6 := rfl
def tradesS (S : List TRow) : List Trad := S.map fun r => r.v
def muchS (S : List TRow) (t : Trad) : Bool := decide (288230376151711744 < valOf t + sumV S) || decide (274877906944 < t.qty + sumU t.sec S)
theorem tradeInfo : (Try.prog.info? 87).map (fun i => (i.zero, i.size, i.bytes)) = some (some (.agg #[.int .i64 0, .int .i64 0, .int .i64 0, .int .i64 0, .int .i64 0, .int .i64 0]), 6, 48) := by kernel_rfl
theorem legInfo : (Try.prog.info? 158).map (fun i => (i.zero, i.size, i.bytes)) = some (some (.agg #[.int .i64 0, .int .i64 0, .int .i64 0]), 3, 24) := by kernel_rfl
section
variable {g gt gu base : Nat} {B1 : Option Addr} {n1 d1 : Nat} {B2 : Option Addr} {n2 d2 : Nat} {B3 : Option Addr} {n3 d3 : Nat} {cf : Conf} {vt vu : Value} {ac : Int} {S : List TRow} {U : List URow}
set_option maxHeartbeats 1000000 in
theorem usedG_any (id : Int) (w : World) (hx : RgsV w g gt gu base B1 n1 d1 B2 n2 d2 B3 n3 d3 cf vt vu ac S U) :
    Calls Try.prog 89 #[.pointer (some ⟨g, 0, none⟩), .int .i64 id] w fun e w' => e = .returned (.bool (TTbI.isT U id)) ∧ Below w.heap.size w w' := by
  have p9 := hx.blk.cell 9
  simp at p9
  cases hi : TTbI.isT U id with
  | true =>
    obtain ⟨r, hr, _⟩ := TTbI.at_is hx.use.ris hi
    have HG := Lib.hid (TTbI.getT_yes gu base (cf.trades * (n3 : Nat)) vu U id w hx.use hi r hr)
    clear hx hi hr
    go_enter Try.func89, Try.ntmps89
    go_wp2_with fail
    refine HG.out.mono ?_
    rintro e w1 ⟨rfl, hb⟩
    have HB := Lib.hid hb
    clear hb HG
    go_wp2_with fail
    go_ret
    exact ⟨rfl, HB.out⟩
  | false =>
    have HG := Lib.hid (TTbI.getT_no gu base (cf.trades * (n3 : Nat)) vu U id w hx.use hi)
    clear hx hi
    go_enter Try.func89, Try.ntmps89
    go_wp2_with fail
    refine HG.out.mono ?_
    rintro e w1 ⟨rfl, hb⟩
    have HB := Lib.hid hb
    clear hb HG
    go_wp2_with fail
    go_ret
    exact ⟨rfl, HB.out⟩
theorem accG_any (w : World) (hx : RgsV w g gt gu base B1 n1 d1 B2 n2 d2 B3 n3 d3 cf vt vu ac S U) :
    Calls Try.prog 90 #[.pointer (some ⟨g, 0, none⟩)] w fun e w' => e = .returned (.int .i64 ac) ∧ w = w' := by
  have p9 := hx.blk.cell 10
  simp at p9
  clear hx
  go_enter Try.func90, Try.ntmps90
  go_wp2_with fail
  go_ret
  exact ⟨rfl, rfl⟩
set_option maxHeartbeats 1000000 in
theorem grossG_any (w : World) (hx : RgsV w g gt gu base B1 n1 d1 B2 n2 d2 B3 n3 d3 cf vt vu ac S U) (hin : ∀ r ∈ S, TrdIn r.v) (hl : S.length ≤ 900) (hs : inI (sumV S)) :
    Calls Try.prog 48 #[.pointer (some ⟨g, 0, none⟩)] w fun e w' => e = .returned (.int .i64 (sumV S)) ∧ Below w.heap.size w w' := by
  have HG := Lib.hid (sumV_any 0 w hx hin (by simp [inI]) hl)
  rw [Int.zero_add, show amount (sumV S) = sumV S from if_pos hs] at HG
  obtain ⟨o, ho⟩ : ∃ o, Hid (over (sumV S) = o) := ⟨_, Lib.hid rfl⟩
  rw [ho.out] at HG
  clear hx hin hl hs
  go_enter Try.func48, Try.ntmps48
  go_wp2_with fail
  refine HG.out.mono ?_
  rintro e w1 ⟨rfl, hb⟩
  have HB := Lib.hid hb
  clear hb HG
  go_wp2_with fail
  go_ret
  exact ⟨rfl, HB.out⟩
set_option maxHeartbeats 4000000 in
set_option maxRecDepth 100000 in
theorem room_any (t : Trad) (w : World) (hx : RgsV w g gt gu base B1 n1 d1 B2 n2 d2 B3 n3 d3 cf vt vu ac S U) (hin : ∀ r ∈ S, TrdIn r.v) (ht : TrdIn t) (hl : S.length ≤ 900) (h1 : inI (valOf t + sumV S)) (h2 : inI (t.qty + sumU t.sec S)) :
    Calls Try.prog 97 #[.pointer (some ⟨g, 0, none⟩), .agg #[.int .i64 t.id, .int .i64 t.buyer, .int .i64 t.seller, .int .i64 t.sec, .int .i64 t.qty, .int .i64 t.price]] w fun e w' => e = .returned (.int .i64 (if muchS S t = true then 2 else 0)) ∧ Below w.heap.size w w' := by
  have hB0 := (Below.refl w.heap.size w).alloc (Nat.le_refl _) (.cells #[.int .i64 t.id, .int .i64 t.buyer, .int .i64 t.seller, .int .i64 t.sec, .int .i64 t.qty, .int .i64 t.price] 87)
  have bt0 := Blk.new w 87 #[.int .i64 t.id, .int .i64 t.buyer, .int .i64 t.seller, .int .i64 t.sec, .int .i64 t.qty, .int .i64 t.price] w.heap.size rfl
  obtain ⟨W, hW⟩ : ∃ W, Hid (w.alloc (.cells #[.int .i64 t.id, .int .i64 t.buyer, .int .i64 t.seller, .int .i64 t.sec, .int .i64 t.qty, .int .i64 t.price] 87) = W) := ⟨_, Lib.hid rfl⟩
  obtain ⟨xb, hxb⟩ : ∃ xb, Hid (w.heap.size = xb) := ⟨_, Lib.hid rfl⟩
  rw [hW.out] at hB0 bt0
  rw [hxb.out] at bt0
  have HX := Lib.hid (hx.past hB0)
  have HT := Lib.hid bt0
  have HB0 := Lib.hid hB0
  have HVL := Lib.hid (valueR_any t ht W)
  have HSV := Lib.hid (fun w1 h => sumV_any (valOf t) w1 h hin ht.2.2 hl (g := g) (gt := gt) (gu := gu) (base := base) (B1 := B1) (n1 := n1) (d1 := d1) (B2 := B2) (n2 := n2) (d2 := d2) (B3 := B3) (n3 := n3) (d3 := d3) (cf := cf) (vt := vt) (vu := vu) (ac := ac) (U := U))
  have HSU := Lib.hid (fun w1 h => sumU_any t.qty t.sec w1 h hin ht.1 hl (g := g) (gt := gt) (gu := gu) (base := base) (B1 := B1) (n1 := n1) (d1 := d1) (B2 := B2) (n2 := n2) (d2 := d2) (B3 := B3) (n3 := n3) (d3 := d3) (cf := cf) (vt := vt) (vu := vu) (ac := ac) (U := U))
  rw [show amount (valOf t + sumV S) = valOf t + sumV S from if_pos h1, show over (valOf t + sumV S) = 0 from if_pos h1] at HSV
  rw [show amount (t.qty + sumU t.sec S) = t.qty + sumU t.sec S from if_pos h2, show over (t.qty + sumU t.sec S) = 0 from if_pos h2] at HSU
  have HM : Hid (muchS S t = (decide (288230376151711744 < valOf t + sumV S) || decide (274877906944 < t.qty + sumU t.sec S))) := Lib.hid rfl
  obtain ⟨zv, hzv⟩ : ∃ z, Hid (valOf t = z) := ⟨_, Lib.hid rfl⟩
  rw [hzv.out] at HVL HSV HM
  obtain ⟨sv, hsv⟩ : ∃ z, Hid (zv + sumV S = z) := ⟨_, Lib.hid rfl⟩
  obtain ⟨su, hsu⟩ : ∃ z, Hid (t.qty + sumU t.sec S = z) := ⟨_, Lib.hid rfl⟩
  rw [hsv.out] at HSV HM
  rw [hsu.out] at HSU HM
  obtain ⟨R, hR⟩ : ∃ R, Hid ((if muchS S t = true then (2 : Int) else 0) = R) := ⟨_, Lib.hid rfl⟩
  rw [hR.out]
  have x0 := (HT.out).cell 0
  have x1 := (HT.out).cell 1
  have x2 := (HT.out).cell 2
  have x3 := (HT.out).cell 3
  have x4 := (HT.out).cell 4
  have x5 := (HT.out).cell 5
  simp at x0 x1 x2 x3 x4 x5
  clear hx hin ht hl h1 h2 hB0 bt0
  go_enter Try.func97, Try.ntmps97
  go_upto_region 1 with fail
  rw [hW.out, hxb.out]
  go_wp2_with fail
  refine HVL.out.mono ?_
  rintro e w1 ⟨rfl, hb1⟩
  have HX1 := Lib.hid (HX.out.past hb1)
  have HT1 := Lib.hid (HT.out.past hb1)
  have HB1 := Lib.hid (Below.past HB0.out hb1 HB0.out.size)
  have HS1 := Lib.hid (HSV.out w1 HX1.out)
  clear hb1 x0 x1 x2 x3 x4 x5 HVL HSV
  go_wp2_with fail
  refine HS1.out.mono ?_
  rintro e w2 ⟨rfl, hb2⟩
  have HX2 := Lib.hid (HX1.out.past hb2)
  have HT2 := Lib.hid (HT1.out.past hb2)
  have HB2 := Lib.hid (Below.past HB1.out hb2 HB1.out.size)
  have HS2 := Lib.hid (HSU.out w2 HX2.out)
  clear hb2 HS1 HSU
  have x0 := (HT2.out).cell 0
  have x1 := (HT2.out).cell 1
  have x2 := (HT2.out).cell 2
  have x3 := (HT2.out).cell 3
  have x4 := (HT2.out).cell 4
  have x5 := (HT2.out).cell 5
  simp at x0 x1 x2 x3 x4 x5
  go_wp2_with fail
  refine HS2.out.mono ?_
  rintro e w3 ⟨rfl, hb3⟩
  have HB3 := Lib.hid (Below.past HB2.out hb3 HB2.out.size)
  clear hb3 HS2 x0 x1 x2 x3 x4 x5
  by_cases q1 : 288230376151711744 < sv
  · have HRR : Hid (R = 2) := Lib.hid (by rw [← hR.out, HM.out, decide_eq_true q1]; rfl)
    go_wp2_with fail
    go_ret
    exact ⟨by rw [HRR.out]; rfl, HB3.out⟩
  · by_cases q2 : 274877906944 < su
    · have HRR : Hid (R = 2) := Lib.hid (by rw [← hR.out, HM.out, decide_eq_true q2, Bool.or_true]; rfl)
      go_wp2_with fail
      go_ret
      exact ⟨by rw [HRR.out]; rfl, HB3.out⟩
    · have HRR : Hid (R = 0) := Lib.hid (by rw [← hR.out, HM.out, decide_eq_false q1, decide_eq_false q2]; rfl)
      go_wp2_with fail
      go_ret
      exact ⟨by rw [HRR.out]; rfl, HB3.out⟩
set_option maxHeartbeats 4000000 in
set_option maxRecDepth 100000 in
theorem tradesG_any (w : World) (hx : RgsV w g gt gu base B1 n1 d1 B2 n2 d2 B3 n3 d3 cf vt vu ac S U) :
    Calls Try.prog 45 #[.pointer (some ⟨g, 0, none⟩)] w fun e w' => ∃ v, e = .returned v ∧ w'.ownsRow w.heap.size 87 6 v S.length ((tradesS S).flatMap trD) ∧ Below w.heap.size w w' := by
  have HRW := Lib.hid (TTbR.rowsT_any gt base cf.trades vt S w hx.tab)
  have hln := hx.tab.len
  obtain ⟨n, hn⟩ : ∃ n, Hid (S.length = n) := ⟨_, Lib.hid rfl⟩
  rw [hn.out] at HRW hln ⊢
  obtain ⟨j0, hj0, jz0, jz1, jz2⟩ := info_parts tradeInfo
  have p1 := hx.blk.cell 8
  simp at p1
  clear hx
  go_enter Try.func45, Try.ntmps45
  go_wp2_with fail
  refine HRW.out.mono ?_
  rintro e w1 ⟨v1, rfl, hov, hb1⟩
  obtain ⟨A1, c1, rfl⟩ := own_form hov
  have HR := Lib.hid (Rd.of_own hov)
  have HB1 := Lib.hid hb1
  have hs1 := hb1.size
  clear hov hb1 HRW p1
  go_wp2_with fail
  go_loopw [3, 14] (fun v i wr => ∃ k : Nat, k ≤ n ∧ i = .int .i64 k ∧ Hid (wr.ownsRow w1.heap.size 87 6 v k ((tradesS (S.take k)).flatMap trD)) ∧ Hid (Below w1.heap.size w1 wr)) (fun _ i _ => n - (intOf i).toNat)
  case atStart => exact ⟨0, Nat.zero_le _, rfl, Lib.hid (World.ownsRow_nil _ _ _ _), Lib.hid (Below.refl _ _)⟩
  case round =>
    obtain ⟨k, hk, rfl, HO, HB⟩ := hrel
    by_cases hlt : k < n
    · have hlz : (k : Int) < (n : Int) := by omega
      have hg_f : S[k]? = some (S[k]'(by have := hn.out; omega)) := List.getElem?_eq_getElem _
      obtain ⟨b_f, off_f, rfl, hbb_f, hc_f⟩ := (HR.out.past HB.out).elem TTbR.RowT.cells_len hg_f hlt
      have HT_f := Lib.hid (show S.take (k + 1) = S.take k ++ [(S[k]'(by have := hn.out; omega))] from List.take_succ_eq_append_getElem (by have := hn.out; omega))
      have HM_f := Lib.hid (show (S[k]'(by have := hn.out; omega)) ∈ S from List.getElem_mem _)
      generalize (S[k]'(by have := hn.out; omega)) = f at *
      have c0 := hc_f 0 _ rfl
      have c1 := hc_f 1 _ rfl
      have c2 := hc_f 2 _ rfl
      have c3 := hc_f 3 _ rfl
      have c4 := hc_f 4 _ rfl
      have c5 := hc_f 5 _ rfl
      have c6 := hc_f 6 _ rfl
      clear hc_f hg_f
      simp only [Nat.add_zero] at c0
      have HT : Hid ((tradesS (S.take (k + 1))).flatMap trD = (tradesS (S.take k)).flatMap trD ++ trD f.v) := Lib.hid (by rw [HT_f.out]; unfold tradesS; rw [List.map_append, List.flatMap_append]; simp)
      have hba := (Below.refl wr.heap.size wr).alloc (Nat.le_refl _) (.cells #[.int .i64 f.id, .int .i64 f.v.id, .int .i64 f.v.buyer, .int .i64 f.v.seller, .int .i64 f.v.sec, .int .i64 f.v.qty, .int .i64 f.v.price] 156)
      have HB2 := Lib.hid (Below.past HB.out hba HB.out.size)
      have HO2 := Lib.hid (own_pastZ HO.out hba)
      obtain ⟨W2, hW2⟩ : ∃ W2, Hid (wr.alloc (.cells #[.int .i64 f.id, .int .i64 f.v.id, .int .i64 f.v.buyer, .int .i64 f.v.seller, .int .i64 f.v.sec, .int .i64 f.v.qty, .int .i64 f.v.price] 156) = W2) := ⟨_, Lib.hid rfl⟩
      have bx := Blk.new wr 156 #[.int .i64 f.id, .int .i64 f.v.id, .int .i64 f.v.buyer, .int .i64 f.v.seller, .int .i64 f.v.sec, .int .i64 f.v.qty, .int .i64 f.v.price] wr.heap.size rfl
      obtain ⟨xb, hxb⟩ : ∃ xb, Hid (wr.heap.size = xb) := ⟨_, Lib.hid rfl⟩
      rw [hW2.out] at HB2 HO2 bx
      rw [hxb.out] at bx
      have x0 := (bx).cell 0
      have x1 := (bx).cell 1
      have x2 := (bx).cell 2
      have x3 := (bx).cell 3
      have x4 := (bx).cell 4
      have x5 := (bx).cell 5
      have x6 := (bx).cell 6
      simp at x0 x1 x2 x3 x4 x5 x6
      have hs2 : w1.heap.size ≤ W2.heap.size := HB2.out.size
      clear hba bx
      go_upto_region 7 with fail
      rw [hW2.out, hxb.out]
      clear c0 c1 c2 c3 c4 c5 c6
      go_wp2_with (at_builtin; refine wpList_append_lit _ _ rfl (.tmp 18) (.tmp 21) 79 rfl w1.heap.size 87 j0 _ 6 48 Try.underlying79 hj0 jz0 jz1 jz2 rfl (by decide) _ _ _ rfl HO2.out _ 1 1 rfl (by first | rfl | simp) rfl (by simp [Value.oneCell']) (by omega) (by omega) (by omega) ?_; intro v' w' hown' hg'; have HOWN := Lib.hid hown'; have HBW := Lib.hid (below_own (HB2.out.alloc HB2.out.size _) hg' HO2.out (by have := HB2.out.size; simp; omega) (Nat.le_refl _)); clear hown' hg')
      go_wp2_with fail
      go_roundw
      case rel => exact ⟨k + 1, by omega, by go_num, Lib.hid (by rw [HT.out]; exact HOWN.out), HBW⟩
      case measure => simp [intOf]; omega
    · have hlz : ¬ (k : Int) < (n : Int) := by omega
      obtain rfl : n = k := by omega
      have hT : S.take n = S := List.take_of_length_le (by rw [hn.out]; exact Nat.le_refl _)
      rw [hT] at HO
      clear hT
      go_wp2_with fail
      go_ret
      exact ⟨_, rfl, own_monoZ HO.out hs1, Below.past HB1.out HB.out hs1⟩
def legsS (S : List TRow) : List Leg := (tradesS S).flatMap legsOf
theorem legsS_len : ∀ S : List TRow, (legsS S).length = 4 * S.length
  | [] => rfl
  | x :: S => by
    have ih := legsS_len S
    have e : legsS (x :: S) = legsOf x.v ++ legsS S := rfl
    rw [e, List.length_append, ih, List.length_cons, show (legsOf x.v).length = 4 from rfl]; omega
set_option maxHeartbeats 4000000 in
set_option maxRecDepth 100000 in
theorem legsG_any (w : World) (hx : RgsV w g gt gu base B1 n1 d1 B2 n2 d2 B3 n3 d3 cf vt vu ac S U) (hin : ∀ r ∈ S, TrdIn r.v ∧ legsIn r.v = true) :
    Calls Try.prog 47 #[.pointer (some ⟨g, 0, none⟩)] w fun e w' => ∃ v, e = .returned v ∧ w'.ownsRow w.heap.size 158 3 v (4 * S.length) ((legsS S).flatMap Leg.cells) ∧ Below w.heap.size w w' := by
  have HTR := Lib.hid (tradesG_any w hx)
  have HIN := Lib.hid hin
  have hln := hx.tab.len
  obtain ⟨n, hn⟩ : ∃ n, Hid (S.length = n) := ⟨_, Lib.hid rfl⟩
  obtain ⟨ts, hts⟩ : ∃ ts, Hid (tradesS S = ts) := ⟨_, Lib.hid rfl⟩
  have HLT : Hid (ts.length = n) := Lib.hid (by rw [← hts.out, tradesS, List.length_map, hn.out])
  have HTI : Hid (∀ t ∈ ts, TrdIn t ∧ legsIn t = true) := Lib.hid fun t ht => by
    rw [← hts.out] at ht
    obtain ⟨r, hr, rfl⟩ := List.mem_map.1 ht
    exact HIN.out r hr
  have HLS : Hid (legsS S = ts.flatMap legsOf) := Lib.hid (by unfold legsS; rw [hts.out])
  rw [hn.out] at HTR hln ⊢
  rw [hts.out] at HTR
  rw [HLS.out]
  obtain ⟨j0, hj0, jz0, jz1, jz2⟩ := info_parts legInfo
  clear hx hin
  go_enter Try.func47, Try.ntmps47
  go_wp2_with fail
  refine HTR.out.mono ?_
  rintro e w1 ⟨v1, rfl, hov, hb1⟩
  obtain ⟨A1, c1, rfl⟩ := own_form hov
  have HR := Lib.hid (Rd.of_own hov)
  have HB1 := Lib.hid hb1
  have hs1 := hb1.size
  clear hov hb1 HTR
  go_wp2_with fail
  go_loopw [3, 11] (fun v i wr => ∃ k : Nat, k ≤ n ∧ i = .int .i64 k ∧ Hid (wr.ownsRow w1.heap.size 158 3 v (4 * k) (((ts.take k).flatMap legsOf).flatMap Leg.cells)) ∧ Hid (Below w1.heap.size w1 wr)) (fun _ i _ => n - (intOf i).toNat)
  case atStart => exact ⟨0, Nat.zero_le _, rfl, Lib.hid (World.ownsRow_nil _ _ _ _), Lib.hid (Below.refl _ _)⟩
  case round =>
    obtain ⟨k, hk, rfl, HO, HB⟩ := hrel
    by_cases hlt : k < n
    · have hlz : (k : Int) < (n : Int) := by omega
      have hg_f : ts[k]? = some (ts[k]'(by have := HLT.out; omega)) := List.getElem?_eq_getElem _
      obtain ⟨b_f, off_f, rfl, hbb_f, hc_f⟩ := (HR.out.past HB.out).elem trD_len hg_f hlt
      have HT_f := Lib.hid (show ts.take (k + 1) = ts.take k ++ [(ts[k]'(by have := HLT.out; omega))] from List.take_succ_eq_append_getElem (by have := HLT.out; omega))
      have HM_f := Lib.hid (show (ts[k]'(by have := HLT.out; omega)) ∈ ts from List.getElem_mem _)
      generalize (ts[k]'(by have := HLT.out; omega)) = f at *
      have c0 := hc_f 0 _ rfl
      have c1 := hc_f 1 _ rfl
      have c2 := hc_f 2 _ rfl
      have c3 := hc_f 3 _ rfl
      have c4 := hc_f 4 _ rfl
      have c5 := hc_f 5 _ rfl
      clear hc_f hg_f
      simp only [Nat.add_zero] at c0
      have HT : Hid (((ts.take (k + 1)).flatMap legsOf).flatMap Leg.cells = ((ts.take k).flatMap legsOf).flatMap Leg.cells ++ (legsOf f).flatMap Leg.cells) := Lib.hid (by rw [HT_f.out, List.flatMap_append, List.flatMap_append]; simp)
      have hba := (Below.refl wr.heap.size wr).alloc (Nat.le_refl _) (.cells #[.int .i64 f.id, .int .i64 f.buyer, .int .i64 f.seller, .int .i64 f.sec, .int .i64 f.qty, .int .i64 f.price] 87)
      have HB2 := Lib.hid (Below.past HB.out hba HB.out.size)
      have HO2 := Lib.hid (own_pastZ HO.out hba)
      obtain ⟨W2, hW2⟩ : ∃ W2, Hid (wr.alloc (.cells #[.int .i64 f.id, .int .i64 f.buyer, .int .i64 f.seller, .int .i64 f.sec, .int .i64 f.qty, .int .i64 f.price] 87) = W2) := ⟨_, Lib.hid rfl⟩
      have bx := Blk.new wr 87 #[.int .i64 f.id, .int .i64 f.buyer, .int .i64 f.seller, .int .i64 f.sec, .int .i64 f.qty, .int .i64 f.price] wr.heap.size rfl
      obtain ⟨xb, hxb⟩ : ∃ xb, Hid (wr.heap.size = xb) := ⟨_, Lib.hid rfl⟩
      rw [hW2.out] at HB2 HO2 bx
      rw [hxb.out] at bx
      have x0 := (bx).cell 0
      have x1 := (bx).cell 1
      have x2 := (bx).cell 2
      have x3 := (bx).cell 3
      have x4 := (bx).cell 4
      have x5 := (bx).cell 5
      simp at x0 x1 x2 x3 x4 x5
      have htf := HTI.out f HM_f.out
      have HLG := Lib.hid (legs_yes f htf.1.1 htf.1.2.1 htf.2 W2)
      unfold LegsRes at HLG
      clear hba bx htf
      go_upto_region 5 with fail
      rw [hW2.out, hxb.out]
      clear c0 c1 c2 c3 c4 c5
      go_wp2_with fail
      refine HLG.out.mono ?_
      rintro e w3 ⟨A3, c3, rfl, hr3, hb3⟩
      have HB3 := Lib.hid (Below.past HB2.out hb3 HB2.out.size)
      have HO3 := Lib.hid (own_pastZ HO2.out hb3)
      have HR3 := Lib.hid hr3
      have hs3 := HB3.out.size
      have HNN : Hid (A3 = none → 4 = 0 ∧ c3 = 0) := Lib.hid fun e => by
        obtain ⟨b, off, e', _⟩ := HR3.out.2 (by omega)
        rw [e] at e'; cases e'
      clear hb3 hr3 HLG x0 x1 x2 x3 x4 x5
      go_wp2_with (at_builtin; refine wpList_append_rd _ rfl (.tmp 20) (.tmp 21) 91 rfl w1.heap.size 158 j0 _ 3 24 Try.underlying91 hj0 jz0 jz1 jz2 rfl (by decide) _ _ _ rfl HO3.out A3 4 c3 _ rfl HR3.out HNN.out (by intro u hu; obtain ⟨x, _, hx⟩ := List.mem_flatMap.1 hu; simp [Leg.cells] at hx; rcases hx with rfl | rfl | rfl <;> rfl) (by omega) (by omega) hs3 HB3.out (Nat.le_refl _) ?_; intro v' w' hown' hbw'; have HOWN := Lib.hid hown'; have HBW := Lib.hid hbw'; clear hown' hbw')
      go_wp2_with fail
      go_roundw
      case rel => exact ⟨k + 1, by omega, by go_num, Lib.hid (by rw [HT.out, Nat.mul_add, Nat.mul_one]; exact HOWN.out), HBW⟩
      case measure => simp [intOf]; omega
    · have hlz : ¬ (k : Int) < (n : Int) := by omega
      obtain rfl : n = k := by omega
      have hT : ts.take n = ts := List.take_of_length_le (by rw [HLT.out]; exact Nat.le_refl _)
      rw [hT] at HO
      clear hT
      go_wp2_with fail
      go_ret
      exact ⟨_, rfl, own_monoZ HO.out hs1, Below.past HB1.out HB.out hs1⟩
end
end Go.Proofs.Ytelbolhckhdioaa
