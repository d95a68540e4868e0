import Derived.Test.YtfnhffcjhdeleaaNetH
import Derived.Test.YtfnhffcjhdeleaaConfH
namespace Go.Proofs.Ytfnhffcjhdeleaa
open Go.RowKit Go.ChangeShapes

def LegsOwn (t : Trad) (w : World) (e : Ending) (w' : World) : Prop := ∃ A c, e = .returned (.tuple #[.slice A 4 c, .int .i64 0]) ∧ w'.ownsRow w.heap.size 97 3 (.slice A 4 c) 4 ((legsOf t).flatMap Leg.cells) ∧ Below w.heap.size w w'

set_option maxRecDepth 10000 in
set_option maxHeartbeats 2000000 in
theorem refLegs_own (t : Trad) (hq : inI t.qty) (hp : inI t.price) (h : legsIn t = true) (w : World) : Calls Try.prog 90 #[.agg #[.int .i64 t.id, .int .i64 t.buyer, .int .i64 t.seller, .int .i64 t.sec, .int .i64 t.qty, .int .i64 t.price]] w (LegsOwn t w) := by
  have hh : inI (t.qty * t.price) ∧ inI (-(t.qty * t.price)) ∧ inI (-t.qty) := by simpa [legsIn] using h
  obtain ⟨h1, h2, h3⟩ := hh
  have A1 := Lib.hid (amount_in h1)
  have n1 : (t.qty == -9223372036854775808) = false := by have := (negI _ hq).1 h3; simpa using this
  have n2 : (t.qty * t.price == -9223372036854775808) = false := by have := (negI _ h1).1 h2; simpa using this
  obtain ⟨i0, hi0, hz0, hz1, hz2⟩ := info_parts leg_info
  clear h
  have hB0 := (Below.refl w.heap.size w).alloc (Nat.le_refl _) (.cells #[.int .i64 t.id, .int .i64 t.buyer, .int .i64 t.seller, .int .i64 t.sec, .int .i64 t.qty, .int .i64 t.price] 155)
  have bx0 := Blk.new w 155 #[.int .i64 t.id, .int .i64 t.buyer, .int .i64 t.seller, .int .i64 t.sec, .int .i64 t.qty, .int .i64 t.price] w.heap.size rfl
  obtain ⟨v, hv⟩ : ∃ v, Hid (t.qty * t.price = v) := ⟨_, rfl⟩
  rw [hv.out] at A1 n2 h1 h2
  obtain ⟨v1, v2⟩ := h2
  obtain ⟨u1, u2⟩ := h3
  obtain ⟨q1, q2⟩ := hq
  clear h1
  go_enter Try.func90, Try.ntmps90
  go_wp2_with fail
  refine (refMul_any _ _ ⟨q1, q2⟩ hp _).mono ?_
  rintro e w1 ⟨rfl, hb1⟩
  rw [hv.out, A1.out.1, A1.out.2]
  have bx1 := bx0.past hb1
  have hB1 := Below.past hB0 hb1 hB0.size
  have hs1 := hB1.size
  have e0 := (bx1).cell 0
  have e1 := (bx1).cell 1
  have e2 := (bx1).cell 2
  have e3 := (bx1).cell 3
  have e4 := (bx1).cell 4
  have e5 := (bx1).cell 5
  simp at e0 e1 e2 e3 e4 e5
  go_wp2_with (first
    | (at_builtin; refine wpList_append_lit _ _ rfl (.tmp 29) (.tmp 34) 90 rfl w.heap.size 97 i0 _ 3 24 Try.underlying90 hi0 hz0 hz1 hz2 rfl (by decide) (.slice none 0 0) 0 [] rfl (World.ownsRow_nil _ _ _ _) _ 1 1 rfl (by first | rfl | simp) rfl (by simp [Value.oneCell']) (by omega) (by omega) (by omega) ?_; intro v1 w2 hown1 hg1; have bx2 := (bx1.alloc _).grown hg1 (by simp [Value.ownBlock]); have hB2 : Below w.heap.size w w2 := below_own (hB1.alloc hs1 _) hg1 (World.ownsRow_nil w1 w.heap.size 97 3) (by simp; omega) (Nat.le_refl _); have hs2 := hB2.size; clear e0 e1 e2 e3 e4 e5; have e0 := bx2.cell 0; have e1 := bx2.cell 1; have e2 := bx2.cell 2; have e3 := bx2.cell 3; have e4 := bx2.cell 4; have e5 := bx2.cell 5; simp at e0 e1 e2 e3 e4 e5)
    | (at_builtin; refine wpList_append_lit _ _ rfl (.tmp 36) (.tmp 45) 90 rfl w.heap.size 97 i0 _ 3 24 Try.underlying90 hi0 hz0 hz1 hz2 rfl (by decide) v1 1 _ rfl hown1 _ 1 1 rfl (by first | rfl | simp) rfl (by simp [Value.oneCell']) (by omega) (by omega) (by omega) ?_; intro v2 w3 hown2 hg2; have bx3 := (bx2.alloc _).grown hg2 (own_blk_ne hown1 bx2 (by decide)); have hB3 : Below w.heap.size w w3 := below_own (hB2.alloc hs2 _) hg2 hown1 (by simp; omega) (Nat.le_refl _); have hs3 := hB3.size; clear e0 e1 e2 e3 e4 e5; have e0 := bx3.cell 0; have e1 := bx3.cell 1; have e2 := bx3.cell 2; have e3 := bx3.cell 3; have e4 := bx3.cell 4; have e5 := bx3.cell 5; simp at e0 e1 e2 e3 e4 e5)
    | (at_builtin; refine wpList_append_lit _ _ rfl (.tmp 47) (.tmp 53) 90 rfl w.heap.size 97 i0 _ 3 24 Try.underlying90 hi0 hz0 hz1 hz2 rfl (by decide) v2 2 _ rfl hown2 _ 1 1 rfl (by first | rfl | simp) rfl (by simp [Value.oneCell']) (by omega) (by omega) (by omega) ?_; intro v3 w4 hown3 hg3; have bx4 := (bx3.alloc _).grown hg3 (own_blk_ne hown2 bx3 (by decide)); have hB4 : Below w.heap.size w w4 := below_own (hB3.alloc hs3 _) hg3 hown2 (by simp; omega) (Nat.le_refl _); have hs4 := hB4.size; clear e0 e1 e2 e3 e4 e5; have e0 := bx4.cell 0; have e1 := bx4.cell 1; have e2 := bx4.cell 2; have e3 := bx4.cell 3; have e4 := bx4.cell 4; have e5 := bx4.cell 5; simp at e0 e1 e2 e3 e4 e5)
    | (at_builtin; refine wpList_append_lit _ _ rfl (.tmp 55) (.tmp 63) 90 rfl w.heap.size 97 i0 _ 3 24 Try.underlying90 hi0 hz0 hz1 hz2 rfl (by decide) v3 3 _ rfl hown3 _ 1 1 rfl (by first | rfl | simp) rfl (by simp [Value.oneCell']) (by omega) (by omega) (by omega) ?_; intro v4 w5 hown4 hg4; have bx5 := (bx4.alloc _).grown hg4 (own_blk_ne hown3 bx4 (by decide)); have hB5 : Below w.heap.size w w5 := below_own (hB4.alloc hs4 _) hg4 hown3 (by simp; omega) (Nat.le_refl _); have hs5 := hB5.size; clear e0 e1 e2 e3 e4 e5; have e0 := bx5.cell 0; have e1 := bx5.cell 1; have e2 := bx5.cell 2; have e3 := bx5.cell 3; have e4 := bx5.cell 4; have e5 := bx5.cell 5; simp at e0 e1 e2 e3 e4 e5))
  go_ret2
  obtain ⟨A, c, rfl⟩ := own_form hown4
  refine ⟨_, _, rfl, ?_, hB5⟩
  rw [show (legsOf t).flatMap Leg.cells = [.int .i64 t.buyer, .int .i64 0, .int .i64 v, .int .i64 t.buyer, .int .i64 t.sec, .int .i64 (-t.qty), .int .i64 t.seller, .int .i64 0, .int .i64 (-v), .int .i64 t.seller, .int .i64 t.sec, .int .i64 t.qty] by rw [← hv.out]; rfl]
  simpa using hown4

/-! ### Of -/
def ofL : List Leg → Int → Int → Int
  | [], _, _ => 0
  | x :: l, m, a => if x.member = m ∧ x.asset = a then x.amount else ofL l m a
set_option maxHeartbeats 2000000 in
set_option maxRecDepth 10000 in
theorem netOf_any (A : Option Addr) (n c : Nat) (l : List Leg) (m a : Int) (w : World) (hr : Rd w w.heap.size 3 A n (l.flatMap Leg.cells)) (hn : n ≤ 1000) :
    Calls Try.prog 63 #[.slice A n c, .int .i64 m, .int .i64 a] w fun e w' => e = .returned (.int .i64 (ofL l m a)) ∧ Below w.heap.size w w' := by
  have HL := Lib.hid (hr.len Leg.cells_len (by omega))
  obtain ⟨R, hR⟩ : ∃ R, Hid (ofL l m a = R) := ⟨_, Lib.hid rfl⟩
  rw [hR.out]
  go_enter Try.func63, Try.ntmps63
  go_wp2_with fail
  go_loopw [11] (fun i wr => ∃ k : Nat, k ≤ n ∧ i = .int .i64 k ∧ Hid (ofL (l.drop k) m a = R) ∧ Hid (Below w.heap.size w wr)) (fun i _ => n - (intOf i).toNat)
  case atStart => exact ⟨0, Nat.zero_le _, rfl, hR, Lib.hid (Below.refl _ _)⟩
  case round =>
    obtain ⟨k, hk, rfl, HO, HB⟩ := hrel
    have hs := HB.out.size
    by_cases hlt : k < n
    · have hlz : (k : Int) < (n : Int) := by omega
      have hg_f : l[k]? = some (l[k]'(by have := HL.out; omega)) := List.getElem?_eq_getElem _
      obtain ⟨b_f, off_f, rfl, hbb_f, hc_f⟩ := (hr.below HB.out).elem Leg.cells_len hg_f hlt
      have HT_f := Lib.hid (show l.take (k + 1) = l.take k ++ [(l[k]'(by have := HL.out; omega))] from List.take_succ_eq_append_getElem (by have := HL.out; omega))
      have HD_f := Lib.hid (show l.drop k = (l[k]'(by have := HL.out; omega)) :: l.drop (k + 1) from List.drop_eq_getElem_cons (by have := HL.out; omega))
      have HM_f := Lib.hid (show (l[k]'(by have := HL.out; omega)) ∈ l from List.getElem_mem _)
      generalize (l[k]'(by have := HL.out; omega)) = f at *
      have c0 := hc_f 0 _ rfl
      have c1 := hc_f 1 _ rfl
      have c2 := hc_f 2 _ rfl
      clear hc_f hg_f
      simp only [Nat.add_zero] at c0
      have HB1 := Lib.hid (HB.out.alloc hs (.cells #[.int .i64 f.member, .int .i64 f.asset, .int .i64 f.amount] 97))
      have HS := Lib.hid (show ofL (f :: l.drop (k + 1)) m a = R by rw [← HD_f.out]; exact HO.out)
      by_cases h1 : f.member = m
      · have q1 : (f.member == m) = true := by simp [h1]
        by_cases h2 : f.asset = a
        · have q2 : (f.asset == a) = true := by simp [h2]
          have HE : Hid (f.amount = R) := Lib.hid (by have := HS.out; rw [ofL, if_pos ⟨h1, h2⟩] at this; exact this)
          clear h1 h2
          go_wp2_with fail
          go_ret
          exact ⟨by rw [← HE.out]; rfl, HB1.out⟩
        · have q2 : (f.asset == a) = false := by simpa using h2
          have HN : Hid (ofL (l.drop (k + 1)) m a = R) := Lib.hid (by have := HS.out; rw [ofL, if_neg (fun h => h2 h.2)] at this; exact this)
          clear h1 h2
          go_wp2_with fail
          go_roundw
          case rel => exact ⟨k + 1, by omega, by go_num, HN, HB1⟩
          case measure => simp [intOf]; omega
      · have q1 : (f.member == m) = false := by simpa using h1
        have HN : Hid (ofL (l.drop (k + 1)) m a = R) := Lib.hid (by have := HS.out; rw [ofL, if_neg (fun h => h1 h.1)] at this; exact this)
        clear h1
        go_wp2_with fail
        go_roundw
        case rel => exact ⟨k + 1, by omega, by go_num, HN, HB1⟩
        case measure => simp [intOf]; omega
    · have hlz : ¬ (k : Int) < (n : Int) := by omega
      obtain rfl : n = k := by omega
      have HE : Hid (0 = R) := Lib.hid (by have := HO.out; rw [List.drop_of_length_le (by rw [HL.out]; exact Nat.le_refl _)] at this; exact this)
      go_wp2_with fail
      go_ret
      exact ⟨by rw [← HE.out]; rfl, HB.out⟩

/-! ### The examples asked first -/
def awT1 : Trad := ⟨0, 1, 2, 1, 10, 3⟩
def awT2 : Trad := ⟨0, 2, 3, 1, 10, 3⟩
def awL : List Leg := legsOf awT1 ++ legsOf awT2
def awR : List Leg := [⟨1, 0, 30⟩, ⟨1, 1, -10⟩, ⟨3, 0, -30⟩, ⟨3, 1, 10⟩]
theorem awK_is : netK 3 1 awL = 0 := by decide
theorem awR_is : netR 3 1 awL = awR := by rfl
theorem awL_ok : ∀ x ∈ awL, inI x.amount := by
  intro x hx
  simp [awL, legsOf, awT1, awT2] at hx
  rcases hx with rfl | rfl | rfl | rfl | rfl | rfl | rfl | rfl <;> (unfold inI; simp only; omega)
theorem awOf_is : ofL awR 3 1 = 10 := by rfl
set_option maxRecDepth 100000 in
set_option maxHeartbeats 8000000 in
theorem awake18 (w : World) : Calls Try.prog 50 #[] w fun e w' => e = .returned (.bool true) ∧ Below w.heap.size w w' := by
  obtain ⟨j0, hj0, jz0, jz1, jz2⟩ := info_parts legInfoN
  go_enter Try.func50, Try.ntmps50
  go_wp2_with fail
  refine (refLegs_own awT1 (by decide) (by decide) (by decide) _).mono ?_
  rintro e w1 ⟨A1, c1, rfl, ho1, hb1⟩
  have HO1 := Lib.hid ho1
  have hs1 := hb1.size
  clear ho1
  go_wp2_with fail
  refine (refLegs_own awT2 (by decide) (by decide) (by decide) _).mono ?_
  rintro e w2 ⟨A2, c2, rfl, ho2, hb2⟩
  have hB2 := Below.past hb1 hb2 hs1
  have HO1' := Lib.hid (own_past' HO1.out hb2)
  have HO2 := Lib.hid ho2
  have hs2 := hb2.size
  clear ho2 hb2 hb1 HO1
  go_wp2_with fail
  refine (plain_any 3 1 1 _).mono ?_
  rintro e w3 ⟨va, vb, vc, rfl, h1, h2, h3, hb3⟩
  have q1 : (nearI 3 2 16).toNat = 3 := rfl
  have q2 : (nearI 1 1 8).toNat = 1 := rfl
  have q3 : (nearI 1 1 4).toNat = 1 := rfl
  rw [q1, q2, q3] at h1 h2 h3
  clear q1 q2 q3
  obtain ⟨B1, d1, rfl⟩ := own_form h1
  obtain ⟨B2, d2, rfl⟩ := own_form h2
  obtain ⟨B3, d3, rfl⟩ := own_form h3
  have hB3 := Below.past hB2 hb3 hB2.size
  have HO13 := Lib.hid (own_past' HO1'.out hb3)
  have HO23 := Lib.hid (own_past' HO2.out hb3)
  have HP1 := Lib.hid h1
  have HP2 := Lib.hid h2
  have HP3 := Lib.hid h3
  have hs3 := hb3.size
  have hs03 := hB3.size
  clear h1 h2 h3 hb3 HO1' HO2 hB2
  obtain ⟨b2, o2, hA2, hbb2, hc2⟩ := (Rd.of_own HO23.out).2 (by omega)
  cases hA2
  have HCL := Lib.hid hc2
  clear hc2
  go_wp2_with (at_builtin; refine wpList_append_own _ rfl (.tmp 19) (.tmp 20) 90 rfl w.heap.size 97 j0 _ 3 24 Try.underlying90 hj0 jz0 jz1 jz2 rfl (by decide) _ 4 _ rfl HO13.out ⟨b2, o2, none⟩ 4 c2 ((legsOf awT2).flatMap Leg.cells) rfl rfl (fun j u hu => (by rw [Go.WideShapes.add_plain]; exact HCL.out j u hu)) (by simp [legsOf, Leg.cells, Value.oneCell']) (by simp only [maxLen]; omega) (by omega) (by omega) (fun v' w4 hown' hg' _ => ?_); obtain ⟨A4, c4, rfl⟩ := own_form hown'; have HO4 := Lib.hid hown'; have HG4 := Lib.hid hg'; clear hown' hg')
  have hcf : CfRd w4 B1 3 B2 1 B3 1 (plainCf 3 1 1) := ⟨Rd.of_own (HP1.out.kept HG4.out (own_ne HP1.out HO13.out (by decide))), Rd.of_own (HP2.out.kept HG4.out (own_ne HP2.out HO13.out (by decide))), Rd.of_own (HP3.out.kept HG4.out (own_ne HP3.out HO13.out (by decide))), by omega, by omega, by omega⟩
  have hrd : Rd w4 w4.heap.size 3 A4 8 (awL.flatMap Leg.cells) := (by
    have := Rd.of_own HO4.out
    rw [← List.flatMap_append] at this
    exact this)
  have HN := Lib.hid (nets_any B1 B2 B3 3 1 1 d1 d2 d3 (plainCf 3 1 1) A4 8 c4 awL w4 hcf hrd (by omega) awL_ok)
  have HB4 := Lib.hid (below_own hB3 HG4.out HO13.out (by omega) (Nat.le_refl _))
  rw [awK_is, awR_is] at HN
  clear hcf hrd HP1 HP2 HP3 HO13 HO23 HO4 HCL
  refine HN.out.mono ?_
  rintro e w5 ⟨v5, rfl, ho5, hb5⟩
  obtain ⟨A5, c5, rfl⟩ := own_form ho5
  have HB5 := Lib.hid (Below.past HB4.out hb5 HB4.out.size)
  have HO5 := Lib.hid ho5
  have hs5 := hb5.size
  have hs05 := HB5.out.size
  have hlit := (Below.refl w5.heap.size w5).alloc (Nat.le_refl _) (.cells #[.int .i64 1, .int .i64 0, .int .i64 30, .int .i64 1, .int .i64 1, .int .i64 (-10), .int .i64 3, .int .i64 0, .int .i64 (-30), .int .i64 3, .int .i64 1, .int .i64 10] 97)
  have HR6 := Lib.hid (Rd.lit w5 #[.int .i64 1, .int .i64 0, .int .i64 30, .int .i64 1, .int .i64 1, .int .i64 (-10), .int .i64 3, .int .i64 0, .int .i64 (-30), .int .i64 3, .int .i64 1, .int .i64 10] 97 w5.heap.size rfl (n := 4) (sz := 3) rfl)
  have HR5 := Lib.hid ((Rd.of_own HO5.out).past hlit)
  have hB6 := Lib.hid (Below.past HB5.out hlit hs05)
  clear hb5 ho5 hlit HN
  go_wp2_with fail
  refine (sameLegs A5 _ 4 c5 4 awR _ HR5.out HR6.out (by omega)).mono ?_
  rintro e w7 ⟨rfl, hb7⟩
  have HB7 := Lib.hid (Below.past hB6.out hb7 hB6.out.size)
  have HR7 := Lib.hid (HR5.out.past hb7)
  clear hb7
  go_wp2_with fail
  refine (netOf_any A5 4 c5 awR 3 1 _ HR7.out (by omega)).mono ?_
  rw [awOf_is]
  rintro e w8 ⟨rfl, hb8⟩
  have HB8 := Lib.hid (Below.past HB7.out hb8 HB7.out.size)
  clear hb8
  go_wp2_with fail
  go_ret
  exact ⟨rfl, HB8.out⟩
end Go.Proofs.Ytfnhffcjhdeleaa
