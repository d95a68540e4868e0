import Derived.Test.YtndhhnfhookeaaaConfP
import Derived.IntWalk
namespace Go.Proofs.Ytndhhnfhookeaaa
open Go.RowKit

set_option maxHeartbeats 1000000 in
theorem confHas_many (A1 A2 A3 : Option Addr) (n1 n2 n3 cp1 cp2 cp3 : Nat) (cf : Conf) (i : Int) (w : World) (hf : fewB n1 n2 n3 = false) : Calls Try.prog 9 #[.agg #[.slice A1 n1 cp1, .slice A2 n2 cp2, .slice A3 n3 cp3, .int .i64 cf.line, .int .i64 cf.capital, .int .i64 cf.lead, .int .i64 cf.trades, .int .i64 cf.bids], .int .i64 i] w fun e w' => e = .returned (.bool true) ∧ Below w.heap.size w w' := by
  have Hhf := Lib.hid hf
  clear hf
  go_enter Try.func9, Try.ntmps9
  go_wp2_with fail
  refine (few_any A1 A2 A3 n1 n2 n3 cp1 cp2 cp3 cf _).mono ?_
  rw [Hhf.out]
  rintro e w1 ⟨rfl, hb1⟩
  go_wp2_with fail
  refine (awake10 _).mono ?_
  rintro e w2 ⟨rfl, hb2⟩
  go_wp2_with fail
  go_ret
  have hB1 := Below.past ((Below.refl w.heap.size w).alloc (Nat.le_refl _) (.cells #[.slice A1 n1 cp1, .slice A2 n2 cp2, .slice A3 n3 cp3, .int .i64 cf.line, .int .i64 cf.capital, .int .i64 cf.lead, .int .i64 cf.trades, .int .i64 cf.bids] 51)) hb1 (by simp)
  exact ⟨rfl, Below.past hB1 hb2 hB1.size⟩

/-- The head of a config whose lists are B1, B2, B3. -/
def headC (cf : Conf) (B1 : Option Addr) (n1 d1 : Nat) (B2 : Option Addr) (n2 d2 : Nat) (B3 : Option Addr) (n3 d3 : Nat) : Array Value := #[.slice B1 n1 d1, .slice B2 n2 d2, .slice B3 n3 d3, .int .i64 cf.line, .int .i64 cf.capital, .int .i64 cf.lead, .int .i64 cf.trades, .int .i64 cf.bids]

set_option maxRecDepth 100000 in
set_option maxHeartbeats 40000000 in
theorem confHas_few (A1 A2 A3 : Option Addr) (n1 n2 n3 cp1 cp2 cp3 : Nat) (cf : Conf) (i : Int) (w : World) (hr : CfRd w A1 n1 A2 n2 A3 n3 cf) (hf : fewB n1 n2 n3 = true) : Calls Try.prog 9 #[.agg #[.slice A1 n1 cp1, .slice A2 n2 cp2, .slice A3 n3 cp3, .int .i64 cf.line, .int .i64 cf.capital, .int .i64 cf.lead, .int .i64 cf.trades, .int .i64 cf.bids], .int .i64 i] w fun e w' => e = .returned (.bool true) ∧ Below w.heap.size w w' := by
  have hf' := hf
  simp [fewB] at hf'
  have bx0 := Blk.new w 51 #[.slice A1 n1 cp1, .slice A2 n2 cp2, .slice A3 n3 cp3, .int .i64 cf.line, .int .i64 cf.capital, .int .i64 cf.lead, .int .i64 cf.trades, .int .i64 cf.bids] w.heap.size rfl
  have hB0 := (Below.refl w.heap.size w).alloc (Nat.le_refl _) (.cells #[.slice A1 n1 cp1, .slice A2 n2 cp2, .slice A3 n3 cp3, .int .i64 cf.line, .int .i64 cf.capital, .int .i64 cf.lead, .int .i64 cf.trades, .int .i64 cf.bids] 51)
  have HR0 := Lib.hid hr
  have HL1 := Lib.hid (hr.m.len Memb.cells_len (by omega))
  have HL2 := Lib.hid (hr.s.len Secu.cells_len (by omega))
  have hn1 := hr.hm
  have hn2 := hr.hs
  have hn3 := hr.hc
  have HX0 := Lib.hid bx0
  have HB0 := Lib.hid hB0
  clear hr bx0 hB0 hf'
  have Hhf := Lib.hid hf
  clear hf
  go_enter Try.func9, Try.ntmps9
  go_wp2_with fail
  refine (few_any A1 A2 A3 n1 n2 n3 cp1 cp2 cp3 cf _).mono ?_
  rw [Hhf.out]
  rintro e w1 ⟨rfl, hb1⟩
  have hb1' := Below.past HB0.out hb1 HB0.out.size
  have HX1 := Lib.hid (HX0.out.past hb1)
  obtain ⟨m, km, hm, hcm⟩ := member_any A1 A2 A3 n1 n2 n3 cp1 cp2 cp3 cf i w1 (HR0.out.past hb1')
  have HCM := Lib.hid hcm
  have p0 := HX1.out.cell 0
  have p1 := HX1.out.cell 1
  have p2 := HX1.out.cell 2
  have p3 := HX1.out.cell 3
  have p4 := HX1.out.cell 4
  have p5 := HX1.out.cell 5
  have p6 := HX1.out.cell 6
  have p7 := HX1.out.cell 7
  simp at p0 p1 p2 p3 p4 p5 p6 p7
  have hs1 := hb1'.size
  clear hb1 hcm
  go_wp2_with fail
  refine HCM.out.mono ?_
  rintro e w2 ⟨rfl, hb2⟩
  have hbz2 := (Below.refl w2.heap.size w2).alloc (Nat.le_refl _) (.cells #[.int .i64 m.coll, .int .i64 m.fund] 76)
  have bm2 := Blk.new w2 76 #[.int .i64 m.coll, .int .i64 m.fund] w2.heap.size rfl
  have hb3 := Below.past (Below.past hb1' hb2 hs1) hbz2 (by have := hb2.size; omega)
  have HX3 := Lib.hid ((HX1.out.past hb2).past hbz2)
  obtain ⟨s, ks, hsc, hcs⟩ := sec_any A1 A2 A3 n1 n2 n3 cp1 cp2 cp3 cf i _ (HR0.out.past hb3)
  have HCS := Lib.hid hcs
  have HM3 := Lib.hid bm2
  clear hcs p0 p1 p2 p3 p4 p5 p6 p7 bm2 hbz2
  obtain ⟨W3, hW3⟩ : ∃ W, Hid (w2.alloc (.cells #[.int .i64 m.coll, .int .i64 m.fund] 76) = W) := ⟨_, Lib.hid rfl⟩
  rw [hW3.out] at hb3 HX3 HCS HM3
  have p0 := HX3.out.cell 0
  have p1 := HX3.out.cell 1
  have p2 := HX3.out.cell 2
  have p3 := HX3.out.cell 3
  have p4 := HX3.out.cell 4
  have p5 := HX3.out.cell 5
  have p6 := HX3.out.cell 6
  have p7 := HX3.out.cell 7
  simp at p0 p1 p2 p3 p4 p5 p6 p7
  have hs3 := hb3.size
  have hm2 : w2.heap.size < W3.heap.size := HM3.out.lt
  have hx2 : w.heap.size < w2.heap.size := Nat.lt_of_lt_of_le (HX1.out.lt) hb2.size
  clear hb2 hb1'
  go_upto_region 4 with fail
  rw [hW3.out]
  go_wp2_with fail
  refine HCS.out.mono ?_
  rintro e w4 ⟨rfl, hb4⟩
  have hbz4 := (Below.refl w4.heap.size w4).alloc (Nat.le_refl _) (.cells #[.int .i64 s.price, .int .i64 s.cap] 80)
  have bs4 := Blk.new w4 80 #[.int .i64 s.price, .int .i64 s.cap] w4.heap.size rfl
  have hb5 := Below.past (Below.past hb3 hb4 hs3) hbz4 (by have := hb4.size; omega)
  have HX5 := Lib.hid ((HX3.out.past hb4).past hbz4)
  have HM5 := Lib.hid ((HM3.out.past hb4).past hbz4)
  have HS5 := Lib.hid bs4
  clear bs4 hbz4 p0 p1 p2 p3 p4 p5 p6 p7
  obtain ⟨W5, hW5⟩ : ∃ W, Hid (w4.alloc (.cells #[.int .i64 s.price, .int .i64 s.cap] 80) = W) := ⟨_, Lib.hid rfl⟩
  rw [hW5.out] at hb5 HX5 HM5 HS5
  have HR5 := Lib.hid (HR0.out.past hb5)
  have hs5 := hb5.size
  have p0 := HX5.out.cell 0
  have p1 := HX5.out.cell 1
  have p2 := HX5.out.cell 2
  simp at p0 p1 p2
  have z0 := HM5.out.cell 0
  have z1 := HM5.out.cell 1
  have y0 := HS5.out.cell 0
  have y1 := HS5.out.cell 1
  simp at z0 z1 y0 y1
  clear hb4 hb3 hs3 hs1
  go_upto_region 5 with fail
  rw [hW5.out]
  go_cut [38] from 30 to 38 (fun v w' => v = .bool (decide (1 ≤ i ∧ i ≤ (n1 : Int))) ∧ W5 = w')
  case first =>
    by_cases h3 : 1 ≤ i
    · by_cases h4 : i ≤ (n1 : Int)
      · have h5 : decide (1 ≤ i ∧ i ≤ (n1 : Int)) = true := decide_eq_true ⟨h3, h4⟩
        have H5 := Lib.hid h5
        clear h5
        go_wp2_with fail
        go_meet
        exact ⟨by rw [H5.out], rfl⟩
      · have h5 : decide (1 ≤ i ∧ i ≤ (n1 : Int)) = false := decide_eq_false (fun h => h4 h.2)
        have H5 := Lib.hid h5
        clear h5
        go_wp2_with fail
        go_meet
        exact ⟨by rw [H5.out], rfl⟩
    · have h5 : decide (1 ≤ i ∧ i ≤ (n1 : Int)) = false := decide_eq_false (fun h => h3 h.1)
      have H5 := Lib.hid h5
      clear h5
      go_wp2_with fail
      go_meet
      exact ⟨by rw [H5.out], rfl⟩
  case rest =>
  obtain ⟨rfl, rfl⟩ := hcut
  go_upto_if 38 with fail
  go_cut [] from 38 to 57 (fun w' => Hid (Below W5.heap.size W5 w'))
  case first =>
    rcases hm with ⟨h1, h2, rfl, hx⟩ | ⟨h1, rfl, rfl⟩
    · have h5 : decide (1 ≤ i ∧ i ≤ (n1 : Int)) = true := decide_eq_true ⟨h1, h2⟩
      rw [h5]
      have hlt : (i - 1).toNat < n1 := by omega
      obtain ⟨b, off, hA, hbb, hc⟩ := (HR5.out.m).elem Memb.cells_len hx hlt
      subst hA
      have c0 := hc 0 _ rfl
      have c1 := hc 1 _ rfl
      simp only [Nat.add_zero] at c0
      have e1 : (i - 1).toNat = i.toNat - 1 := by omega
      rw [e1] at c0 c1
      have q3 : 0 ≤ i - 1 := by omega
      have q4 : i - 1 < (n1 : Int) := by omega
      have q5 : IntKind.i64.wrap (i - 1) = i - 1 := IntWalk.i64_in _ (by omega)
      clear hc hx h5 h1 h2
      go_wp2_with fail
      go_quiet (fail)
      clear q5
      go_wp2_with fail
      go_meet
      exact Lib.hid (below_drewN (Below.refl _ _) _)
    · have h5 : decide (1 ≤ i ∧ i ≤ (n1 : Int)) = false := decide_eq_false (by omega)
      rw [h5]
      clear h5
      go_wp2_with fail
      go_meet
      exact Lib.hid (Below.refl _ _)
  case rest =>
  have hb6 := hcut.out
  have hb7 := Below.past hb5 hb6 hs5
  have hs7 := hb7.size
  have HR7 := Lib.hid (HR0.out.past hb7)
  have HX7 := Lib.hid (HX5.out.past hb6)
  have HS7 := Lib.hid (HS5.out.past hb6)
  clear hcut hb6 p0 p1 p2 z0 z1 y0 y1 hm
  have p0 := HX7.out.cell 0
  have p1 := HX7.out.cell 1
  have p2 := HX7.out.cell 2
  have y0 := HS7.out.cell 0
  have y1 := HS7.out.cell 1
  simp at p0 p1 p2 y0 y1
  go_upto_region 10 with fail
  go_cut [66] from 58 to 66 (fun v w' => v = .bool (decide (1 ≤ i ∧ i ≤ (n2 : Int))) ∧ wc = w')
  case first =>
    by_cases h3 : 1 ≤ i
    · by_cases h4 : i ≤ (n2 : Int)
      · have H5 := Lib.hid (show decide (1 ≤ i ∧ i ≤ (n2 : Int)) = true from decide_eq_true ⟨h3, h4⟩)
        go_wp2_with fail
        go_meet
        exact ⟨by rw [H5.out], rfl⟩
      · have H5 := Lib.hid (show decide (1 ≤ i ∧ i ≤ (n2 : Int)) = false from decide_eq_false (fun h => h4 h.2))
        go_wp2_with fail
        go_meet
        exact ⟨by rw [H5.out], rfl⟩
    · have H5 := Lib.hid (show decide (1 ≤ i ∧ i ≤ (n2 : Int)) = false from decide_eq_false (fun h => h3 h.1))
      go_wp2_with fail
      go_meet
      exact ⟨by rw [H5.out], rfl⟩
  case rest =>
  obtain ⟨rfl, rfl⟩ := hcut
  go_upto_if 66 with fail
  go_cut [] from 66 to 85 (fun w' => Hid (Below wc.heap.size wc w'))
  case first =>
    rcases hsc with ⟨h1, h2, rfl, hx⟩ | ⟨h1, rfl, rfl⟩
    · have h5 : decide (1 ≤ i ∧ i ≤ (n2 : Int)) = true := decide_eq_true ⟨h1, h2⟩
      rw [h5]
      have hlt : (i - 1).toNat < n2 := by omega
      obtain ⟨b, off, hA, hbb, hc⟩ := (HR7.out.s).elem Secu.cells_len hx hlt
      subst hA
      have c0 := hc 0 _ rfl
      have c1 := hc 1 _ rfl
      simp only [Nat.add_zero] at c0
      have e1 : (i - 1).toNat = i.toNat - 1 := by omega
      rw [e1] at c0 c1
      have q3 : 0 ≤ i - 1 := by omega
      have q4 : i - 1 < (n2 : Int) := by omega
      have q5 : IntKind.i64.wrap (i - 1) = i - 1 := IntWalk.i64_in _ (by omega)
      clear hc hx h5 h1 h2
      go_wp2_with fail
      go_quiet (fail)
      clear q5
      go_wp2_with fail
      go_meet
      exact Lib.hid (below_drewN (Below.refl _ _) _)
    · have h5 : decide (1 ≤ i ∧ i ≤ (n2 : Int)) = false := decide_eq_false (by omega)
      rw [h5]
      clear h5
      go_wp2_with fail
      go_meet
      exact Lib.hid (Below.refl _ _)
  case rest =>
  have hb8 := hcut.out
  clear hcut p0 p1 p2 y0 y1 hsc
  have hb9 := Below.past hb7 hb8 hs7
  have HX9 := Lib.hid (HX7.out.past hb8)
  have HR9 := Lib.hid (HR0.out.past hb9)
  have HCp := Lib.hid (confCopy_any A1 A2 A3 n1 n2 n3 cp1 cp2 cp3 cf wc HR9.out)
  have hs9 := hb9.size
  have p0 := HX9.out.cell 0
  have p1 := HX9.out.cell 1
  have p2 := HX9.out.cell 2
  have p3 := HX9.out.cell 3
  have p4 := HX9.out.cell 4
  have p5 := HX9.out.cell 5
  have p6 := HX9.out.cell 6
  have p7 := HX9.out.cell 7
  simp at p0 p1 p2 p3 p4 p5 p6 p7
  clear hb8 hb7 hb5
  go_wp2_with fail
  refine HCp.out.mono ?_
  rintro e w8 ⟨B1, B2, B3, d1, d2, d3, rfl, hown8, hb10⟩
  have hbz8 := (Below.refl w8.heap.size w8).alloc (Nat.le_refl _) (.cells #[.slice B1 n1 d1, .slice B2 n2 d2, .slice B3 n3 d3, .int .i64 cf.line, .int .i64 cf.capital, .int .i64 cf.lead, .int .i64 cf.trades, .int .i64 cf.bids] 51)
  have bd8 := Blk.new w8 51 #[.slice B1 n1 d1, .slice B2 n2 d2, .slice B3 n3 d3, .int .i64 cf.line, .int .i64 cf.capital, .int .i64 cf.lead, .int .i64 cf.trades, .int .i64 cf.bids] w8.heap.size rfl
  have hx8 := (HX9.out.past hb10).past hbz8
  have hb11 := Below.past (Below.past hb9 hb10 hs9) hbz8 (by have := hb10.size; omega)
  have hown9 := hown8.past hbz8
  obtain ⟨W9, hW9⟩ : ∃ W, Hid (w8.alloc (.cells #[.slice B1 n1 d1, .slice B2 n2 d2, .slice B3 n3 d3, .int .i64 cf.line, .int .i64 cf.capital, .int .i64 cf.lead, .int .i64 cf.trades, .int .i64 cf.bids] 51) = W) := ⟨_, Lib.hid rfl⟩
  rw [hW9.out] at bd8 hx8 hb11 hown9
  have HD9 := Lib.hid bd8
  have HX10 := Lib.hid hx8
  have HO9 := Lib.hid hown9
  have hsw8 : w.heap.size + 1 ≤ wc.heap.size := HX9.out.lt
  have hs11 := hb11.size
  have HSm := Lib.hid (same_true B1 B2 B3 n1 n2 n3 d1 d2 d3 cf A1 A2 A3 cp1 cp2 cp3 W9 hown9.rd (HR0.out.past hb11))
  clear p0 p1 p2 p3 p4 p5 p6 p7 hown8 hb10 hbz8 bd8 hx8 hb9 hown9
  have p0 := HX10.out.cell 0
  have p1 := HX10.out.cell 1
  have p2 := HX10.out.cell 2
  have p3 := HX10.out.cell 3
  have p4 := HX10.out.cell 4
  have p5 := HX10.out.cell 5
  have p6 := HX10.out.cell 6
  have p7 := HX10.out.cell 7
  simp at p0 p1 p2 p3 p4 p5 p6 p7
  have e0 := HD9.out.cell 0
  have e1 := HD9.out.cell 1
  have e2 := HD9.out.cell 2
  have e3 := HD9.out.cell 3
  have e4 := HD9.out.cell 4
  have e5 := HD9.out.cell 5
  have e6 := HD9.out.cell 6
  have e7 := HD9.out.cell 7
  simp at e0 e1 e2 e3 e4 e5 e6 e7
  go_upto_region 16 with fail
  rw [hW9.out]
  go_wp2_with fail
  refine HSm.out.mono ?_
  rintro e w10 ⟨rfl, hb12⟩
  have HD10 := Lib.hid (HD9.out.past hb12)
  have HX11 := Lib.hid (HX10.out.past hb12)
  have HO10 := Lib.hid (HO9.out.past hb12)
  have hb13 := Below.past hb11 hb12 hs11
  have hs13 := hb13.size
  have HCq := Lib.hid (confCopy_any B1 B2 B3 n1 n2 n3 d1 d2 d3 cf w10 HO10.out.rd)
  clear p0 p1 p2 p3 p4 p5 p6 p7 e0 e1 e2 e3 e4 e5 e6 e7 hb12 hb11
  have e0 := HD10.out.cell 0
  have e1 := HD10.out.cell 1
  have e2 := HD10.out.cell 2
  have e3 := HD10.out.cell 3
  have e4 := HD10.out.cell 4
  have e5 := HD10.out.cell 5
  have e6 := HD10.out.cell 6
  have e7 := HD10.out.cell 7
  simp at e0 e1 e2 e3 e4 e5 e6 e7
  go_wp2_with fail
  refine HCq.out.mono ?_
  rintro e w12 ⟨C1, C2, C3, c1, c2, c3, rfl, hown12, hb14⟩
  have hbz12 := (Below.refl w12.heap.size w12).alloc (Nat.le_refl _) (.cells #[.slice C1 n1 c1, .slice C2 n2 c2, .slice C3 n3 c3, .int .i64 cf.line, .int .i64 cf.capital, .int .i64 cf.lead, .int .i64 cf.trades, .int .i64 cf.bids] 51)
  have HREL : Hid (HasRel w #[.slice A1 n1 cp1, .slice A2 n2 cp2, .slice A3 n3 cp3, .int .i64 cf.line, .int .i64 cf.capital, .int .i64 cf.lead, .int .i64 cf.trades, .int .i64 cf.bids] cf w8.heap.size w12.heap.size (w10.heap.size + 2) #[.slice B1 n1 d1, .slice B2 n2 d2, .slice B3 n3 d3, .int .i64 cf.line, .int .i64 cf.capital, .int .i64 cf.lead, .int .i64 cf.trades, .int .i64 cf.bids] #[.slice C1 n1 c1, .slice C2 n2 c2, .slice C3 n3 c3, .int .i64 cf.line, .int .i64 cf.capital, .int .i64 cf.lead, .int .i64 cf.trades, .int .i64 cf.bids] B1 n1 d1 B2 n2 d2 B3 n3 d3 C1 C2 C3 c1 c2 c3 (w12.alloc (.cells #[.slice C1 n1 c1, .slice C2 n2 c2, .slice C3 n3 c3, .int .i64 cf.line, .int .i64 cf.capital, .int .i64 cf.lead, .int .i64 cf.trades, .int .i64 cf.bids] 51))) :=
    Lib.hid ⟨(HX11.out.past hb14).past hbz12, (HD10.out.past hb14).past hbz12, Blk.new w12 51 _ w12.heap.size rfl,
      ((IntRow.of (own_mono' HO10.out.m (by omega)) (by omega) (membInts _)).past hb14).past hbz12,
      ((IntRow.of (own_mono' HO10.out.s (by omega)) (by omega) (secuInts _)).past hb14).past hbz12,
      ((IntRow.of (own_mono' HO10.out.c (by omega)) (by omega) (cycInts _)).past hb14).past hbz12,
      hown12.past hbz12, Below.past (Below.past hb13 hb14 hs13) hbz12 (by have := hb14.size; omega)⟩
  obtain ⟨W13, hW13⟩ : ∃ W, Hid (w12.alloc (.cells #[.slice C1 n1 c1, .slice C2 n2 c2, .slice C3 n3 c3, .int .i64 cf.line, .int .i64 cf.capital, .int .i64 cf.lead, .int .i64 cf.trades, .int .i64 cf.bids] 51) = W) := ⟨_, Lib.hid rfl⟩
  rw [hW13.out] at HREL
  clear e0 e1 e2 e3 e4 e5 e6 e7 hown12 hb14 hbz12 hb13 HCq HCp HSm
  go_upto_region 19 with fail
  rw [hW13.out]
  go_wp2_with fail
  go_loopw [11] (fun v wr => ∃ j : Nat, j ≤ n1 ∧ v = .int .i64 j ∧ Hid (HasRel w #[.slice A1 n1 cp1, .slice A2 n2 cp2, .slice A3 n3 cp3, .int .i64 cf.line, .int .i64 cf.capital, .int .i64 cf.lead, .int .i64 cf.trades, .int .i64 cf.bids] cf w8.heap.size w12.heap.size (w10.heap.size + 2) #[.slice B1 n1 d1, .slice B2 n2 d2, .slice B3 n3 d3, .int .i64 cf.line, .int .i64 cf.capital, .int .i64 cf.lead, .int .i64 cf.trades, .int .i64 cf.bids] #[.slice C1 n1 c1, .slice C2 n2 c2, .slice C3 n3 c3, .int .i64 cf.line, .int .i64 cf.capital, .int .i64 cf.lead, .int .i64 cf.trades, .int .i64 cf.bids] B1 n1 d1 B2 n2 d2 B3 n3 d3 C1 C2 C3 c1 c2 c3 wr)) (fun v _ => n1 - (intOf v).toNat)
  case atStart => exact ⟨0, Nat.zero_le _, rfl, HREL⟩
  case round =>
    clear HREL
    obtain ⟨j, hj, rfl, HR⟩ := hrel
    have e0 := HR.out.d.cell 0
    simp at e0
    by_cases hlt : j < n1
    · as_aux_lemma =>
      have hlz : (j : Int) < (n1 : Int) := by omega
      obtain ⟨g, off, z, hA, hoff, hBg, hgT, hgl, hc, hf⟩ := HR.out.r1.at (j := j * 2 + 1) (by omega)
      subst hA
      rw [← Nat.add_assoc] at hc hf
      go_wp2_with fail
      go_roundw
      case rel => exact ⟨j + 1, by omega, by go_num, by have h0 := hoff.out; subst h0; exact Lib.hid (HR.out.set1 (j := 0 + j * 2 + 1) (by omega) _)⟩
      case measure => simp [intOf]; omega
    have hlz : ¬ (j : Int) < (n1 : Int) := by omega
    go_wp2_with fail
    go_loopw [12] (fun v wr => ∃ j : Nat, j ≤ n2 ∧ v = .int .i64 j ∧ Hid (HasRel w #[.slice A1 n1 cp1, .slice A2 n2 cp2, .slice A3 n3 cp3, .int .i64 cf.line, .int .i64 cf.capital, .int .i64 cf.lead, .int .i64 cf.trades, .int .i64 cf.bids] cf w8.heap.size w12.heap.size (w10.heap.size + 2) #[.slice B1 n1 d1, .slice B2 n2 d2, .slice B3 n3 d3, .int .i64 cf.line, .int .i64 cf.capital, .int .i64 cf.lead, .int .i64 cf.trades, .int .i64 cf.bids] #[.slice C1 n1 c1, .slice C2 n2 c2, .slice C3 n3 c3, .int .i64 cf.line, .int .i64 cf.capital, .int .i64 cf.lead, .int .i64 cf.trades, .int .i64 cf.bids] B1 n1 d1 B2 n2 d2 B3 n3 d3 C1 C2 C3 c1 c2 c3 wr)) (fun v _ => n2 - (intOf v).toNat)
    case atStart => exact ⟨0, Nat.zero_le _, rfl, HR⟩
    case round =>
      clear HR e0 hlz hlt hj
      obtain ⟨j2, hj2, rfl, HR⟩ := hrel
      have e0 := HR.out.d.cell 1
      simp at e0
      by_cases hlt : j2 < n2
      · as_aux_lemma =>
        have hlz : (j2 : Int) < (n2 : Int) := by omega
        obtain ⟨g, off, z, hA, hoff, hBg, hgT, hgl, hc, hf⟩ := HR.out.r2.at (j := j2 * 2) (by omega)
        subst hA
        go_wp2_with fail
        go_roundw
        case rel => exact ⟨j2 + 1, by omega, by go_num, by have h0 := hoff.out; subst h0; exact Lib.hid (HR.out.set2 (j := 0 + j2 * 2) (by omega) _)⟩
        case measure => simp [intOf]; omega
      have hlz : ¬ (j2 : Int) < (n2 : Int) := by omega
      go_wp2_with fail
      go_loopw [13] (fun v wr => ∃ j : Nat, j ≤ n3 ∧ v = .int .i64 j ∧ Hid (HasRel w #[.slice A1 n1 cp1, .slice A2 n2 cp2, .slice A3 n3 cp3, .int .i64 cf.line, .int .i64 cf.capital, .int .i64 cf.lead, .int .i64 cf.trades, .int .i64 cf.bids] cf w8.heap.size w12.heap.size (w10.heap.size + 2) #[.slice B1 n1 d1, .slice B2 n2 d2, .slice B3 n3 d3, .int .i64 cf.line, .int .i64 cf.capital, .int .i64 cf.lead, .int .i64 cf.trades, .int .i64 cf.bids] #[.slice C1 n1 c1, .slice C2 n2 c2, .slice C3 n3 c3, .int .i64 cf.line, .int .i64 cf.capital, .int .i64 cf.lead, .int .i64 cf.trades, .int .i64 cf.bids] B1 n1 d1 B2 n2 d2 B3 n3 d3 C1 C2 C3 c1 c2 c3 wr)) (fun v _ => n3 - (intOf v).toNat)
      case atStart => exact ⟨0, Nat.zero_le _, rfl, HR⟩
      case round =>
        clear HR e0 hlz hlt hj2
        obtain ⟨j3, hj3, rfl, HR⟩ := hrel
        have e0 := HR.out.d.cell 2
        simp at e0
        by_cases hlt : j3 < n3
        · as_aux_lemma =>
          have hlz : (j3 : Int) < (n3 : Int) := by omega
          obtain ⟨g, off, z, hA, hoff, hBg, hgT, hgl, hc, hf⟩ := HR.out.r3.at (j := j3 * 4) (by omega)
          subst hA
          go_wp2_with fail
          go_roundw
          case rel => exact ⟨j3 + 1, by omega, by go_num, by have h0 := hoff.out; subst h0; exact Lib.hid (HR.out.set3 (j := 0 + j3 * 4) (by omega) _)⟩
          case measure => simp [intOf]; omega
        have hlz : ¬ (j3 : Int) < (n3 : Int) := by omega
        have hbl := HR.out.below
        have hsl := hbl.size
        go_wp2_with fail
        refine (awake10 _).mono ?_
        rintro e w20 ⟨rfl, hb20⟩
        clear e0
        have hb21 := Below.past hbl hb20 hsl
        have HP := Lib.hid (HR.out.p.past hb20)
        have HXX := Lib.hid (HR.out.x.past hb20)
        have HSn := Lib.hid (same_true C1 C2 C3 n1 n2 n3 c1 c2 c3 cf A1 A2 A3 cp1 cp2 cp3 w20 (HR.out.own.past hb20).rd (HR0.out.past hb21))
        have hs21 := hb21.size
        clear hb20 hbl
        have p0 := HP.out.cell 0
        have p1 := HP.out.cell 1
        have p2 := HP.out.cell 2
        have p3 := HP.out.cell 3
        have p4 := HP.out.cell 4
        have p5 := HP.out.cell 5
        have p6 := HP.out.cell 6
        have p7 := HP.out.cell 7
        simp at p0 p1 p2 p3 p4 p5 p6 p7
        have e0 := HXX.out.cell 0
        have e1 := HXX.out.cell 1
        have e2 := HXX.out.cell 2
        have e3 := HXX.out.cell 3
        have e4 := HXX.out.cell 4
        have e5 := HXX.out.cell 5
        have e6 := HXX.out.cell 6
        have e7 := HXX.out.cell 7
        simp at e0 e1 e2 e3 e4 e5 e6 e7
        go_wp2_with fail
        refine HSn.out.mono ?_
        rintro e w22 ⟨rfl, hb22⟩
        have hb23 := Below.past hb21 hb22 hs21
        clear hb21 hb22
        go_wp2_with fail
        go_ret
        exact ⟨rfl, hb23⟩
end Go.Proofs.Ytndhhnfhookeaaa
