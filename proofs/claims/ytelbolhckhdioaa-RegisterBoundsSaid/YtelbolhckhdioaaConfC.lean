import Derived.Test.YtelbolhckhdioaaConfB
namespace Go.Proofs.Ytelbolhckhdioaa
open Go.RowKit

theorem in_at (n lo hi : Int) (v : Bool) (w : World) (h : inB n lo hi = v) : Calls Try.prog 87 #[.int .i64 n, .int .i64 lo, .int .i64 hi] w fun e w' => e = .returned (.bool v) ∧ w = w' := by
  rw [← h]; exact in_any n lo hi w

theorem wk0 {cf : Conf} (h : badAt cf 0 = true) : wrongK cf = 0 := by simp [wrongK, h]
theorem wk1 {cf : Conf} (h0 : badAt cf 0 = false) (h : badAt cf 1 = true) : wrongK cf = 1 := by simp [wrongK, h0, h]
theorem wk2 {cf : Conf} (h0 : badAt cf 0 = false) (h1 : badAt cf 1 = false) (h : badAt cf 2 = true) : wrongK cf = 2 := by simp [wrongK, h0, h1, h]

/-- The document's look at cycles, one by one. -/
def Cyc.badFrom (at_ : Int) (x : Cyc) : Bool := decide (x.cut ≤ at_) || decide (x.fund ≤ x.cut) || decide (x.buyin ≤ x.fund) || decide (x.close ≤ x.buyin) || decide (1000 < x.close)
def cycsFrom : Int → List Cyc → Bool
  | _, [] => true
  | at_, x :: l => !x.badFrom at_ && cycsFrom x.close l
def closeOf : Int → List Cyc → Int
  | at_, [] => at_
  | _, x :: l => closeOf x.close l
theorem closeOf_snoc (l : List Cyc) (x : Cyc) : ∀ a, closeOf a (l ++ [x]) = x.close := by
  induction l with
  | nil => intro a; rfl
  | cons y l ih => intro a; exact ih _
theorem cycsFrom_pre (l m : List Cyc) : ∀ a, cycsFrom a (l ++ m) = (cycsFrom a l && cycsFrom (closeOf a l) m) := by
  induction l with
  | nil => intro a; simp [cycsFrom, closeOf]
  | cons y l ih => intro a; rw [List.cons_append, cycsFrom, cycsFrom, ih, closeOf, Bool.and_assoc]
theorem lastOf_ge (l : List Int) : ∀ a, risesB a l = true → a ≤ lastOf a l := by
  induction l with
  | nil => intro a _; exact Int.le_refl _
  | cons x l ih => intro a h; rw [risesB, Bool.and_eq_true] at h; have := ih x h.2; have h1 := of_decide_eq_true h.1; rw [lastOf]; omega
theorem cycs_same (l : List Cyc) : ∀ a, a ≤ 1000 → (risesB a (ticksOf l) && decide (lastOf a (ticksOf l) ≤ 1000)) = cycsFrom a l := by
  induction l with
  | nil => intro a ha; simp [ticksOf, risesB, lastOf, cycsFrom, ha]
  | cons x l ih =>
    intro a ha
    have e2 : lastOf a (ticksOf (x :: l)) = lastOf x.close (ticksOf l) := rfl
    have e3 : risesB a (ticksOf (x :: l)) = (decide (a < x.cut) && (decide (x.cut < x.fund) && (decide (x.fund < x.buyin) && (decide (x.buyin < x.close) && risesB x.close (ticksOf l))))) := rfl
    rw [e2, e3, cycsFrom]
    by_cases hc : x.close ≤ 1000
    · rw [← ih x.close hc]
      generalize risesB x.close (ticksOf l) = r
      generalize decide (lastOf x.close (ticksOf l) ≤ 1000) = z
      have h1 : x.badFrom a = !(decide (a < x.cut) && decide (x.cut < x.fund) && decide (x.fund < x.buyin) && decide (x.buyin < x.close)) := by
        rw [Bool.eq_iff_iff]; simp [Cyc.badFrom]; omega
      rw [h1]
      cases r <;> cases z <;> simp [Bool.and_assoc]
    · have h2 : x.badFrom a = true := by simp [Cyc.badFrom]; omega
      rw [h2]
      by_cases h : risesB x.close (ticksOf l) = true
      · have := lastOf_ge _ _ h
        rw [decide_eq_false (p := lastOf x.close (ticksOf l) ≤ 1000) (by omega)]
        simp
      · rw [Bool.eq_false_iff.2 h]; simp
theorem cycsOk_eq (l : List Cyc) : cycsOk l = (inB l.length 1 4 && cycsFrom 0 l) := by
  rw [← cycs_same l 0 (by omega), cycsOk]
  cases risesB 0 (ticksOf l) <;> cases inB l.length 1 4 <;> simp

set_option maxRecDepth 100000 in
set_option maxHeartbeats 4000000 in
theorem refWrong_any (A1 A2 A3 : Option Addr) (n1 n2 n3 cp1 cp2 cp3 : Nat) (cf : Conf) (w : World) (hr : CfRd w A1 n1 A2 n2 A3 n3 cf) :
    Calls Try.prog 40 #[.agg #[.slice A1 n1 cp1, .slice A2 n2 cp2, .slice A3 n3 cp3, .int .i64 cf.line, .int .i64 cf.capital, .int .i64 cf.lead, .int .i64 cf.trades, .int .i64 cf.bids]] w fun e w' => e = .returned (.string (word (wrongK cf))) ∧ Below w.heap.size w w' := by
  have hm := hr.m
  have hse := hr.s
  have hcy := hr.c
  have hn1 := hr.hm
  have hn2 := hr.hs
  have hn3 := hr.hc
  have HL1 := Lib.hid (hm.len Memb.cells_len (by omega))
  have HL2 := Lib.hid (hse.len Secu.cells_len (by omega))
  have HL3 := Lib.hid (hcy.len Cyc.cells_len (by omega))
  have hm' := hm.below ((Below.refl _ _).alloc (Nat.le_refl _) (.cells #[.slice A1 n1 cp1, .slice A2 n2 cp2, .slice A3 n3 cp3, .int .i64 cf.line, .int .i64 cf.capital, .int .i64 cf.lead, .int .i64 cf.trades, .int .i64 cf.bids] 78))
  have hse' := hse.below ((Below.refl _ _).alloc (Nat.le_refl _) (.cells #[.slice A1 n1 cp1, .slice A2 n2 cp2, .slice A3 n3 cp3, .int .i64 cf.line, .int .i64 cf.capital, .int .i64 cf.lead, .int .i64 cf.trades, .int .i64 cf.bids] 78))
  have hcy' := hcy.below ((Below.refl _ _).alloc (Nat.le_refl _) (.cells #[.slice A1 n1 cp1, .slice A2 n2 cp2, .slice A3 n3 cp3, .int .i64 cf.line, .int .i64 cf.capital, .int .i64 cf.lead, .int .i64 cf.trades, .int .i64 cf.bids] 78))
  have hB := (Below.refl w.heap.size w).alloc (Nat.le_refl _) (.cells #[.slice A1 n1 cp1, .slice A2 n2 cp2, .slice A3 n3 cp3, .int .i64 cf.line, .int .i64 cf.capital, .int .i64 cf.lead, .int .i64 cf.trades, .int .i64 cf.bids] 78)
  obtain ⟨x_I1, I1⟩ : ∃ x, Hid (inB n1 2 16 = x) := ⟨_, rfl⟩
  cases x_I1
  · go_enter Try.func40, Try.ntmps40
    go_wp2_with fail
    refine (in_any _ _ _ _).mono ?_
    rw [I1.out]
    rintro e w' ⟨rfl, rfl⟩
    go_wp2_with fail
    go_ret
    exact ⟨by rw [wk0 (by rw [badAt, membsOk, HL1.out, I1.out]; simp)]; rfl, hB⟩
  go_enter Try.func40, Try.ntmps40
  go_wp2_with fail
  refine (in_any _ _ _ _).mono ?_
  rw [I1.out]
  rintro e w' ⟨rfl, rfl⟩
  go_wp2_with fail
  go_loop [3] (fun i => ∃ k : Nat, k ≤ n1 ∧ i = .int .i64 k ∧ (cf.members.take k).all Memb.ok = true) (fun i => n1 - (intOf i).toNat)
  case atStart => exact ⟨0, Nat.zero_le _, rfl, rfl⟩
  case round =>
    obtain ⟨k, hk, rfl, hok⟩ := hrel
    have Hhok := Lib.hid hok
    clear hok
    by_cases hlt : k < n1
    · have hg_f : cf.members[k]? = some (cf.members[k]'(by have := HL1.out; omega)) := List.getElem?_eq_getElem _
      obtain ⟨b_f, off_f, rfl, hbb_f, hc_f⟩ := (hm').elem Memb.cells_len hg_f hlt
      have HT_f := Lib.hid (show cf.members.take (k + 1) = cf.members.take k ++ [(cf.members[k]'(by have := HL1.out; omega))] from List.take_succ_eq_append_getElem (by have := HL1.out; omega))
      have HM_f := Lib.hid (show (cf.members[k]'(by have := HL1.out; omega)) ∈ cf.members from List.getElem_mem _)
      generalize (cf.members[k]'(by have := HL1.out; omega)) = f at *
      have c0 := hc_f 0 _ rfl
      have c1 := hc_f 1 _ rfl
      clear hc_f hg_f
      simp only [Nat.add_zero] at c0
      obtain ⟨x_H1, H1⟩ : ∃ x, Hid (inB f.coll 0 1099511627776 = x) := ⟨_, rfl⟩
      cases x_H1
      · go_wp2_with fail
        refine (in_any _ _ _ _).mono ?_
        rw [H1.out]
        rintro e w' ⟨rfl, rfl⟩
        go_wp2_with fail
        go_ret
        have hno : cf.members.all Memb.ok = false := List.all_eq_false.2 ⟨f, HM_f.out, by simp [Memb.ok, H1.out]⟩
        exact ⟨by rw [wk0 (by rw [badAt, membsOk, hno]; rfl)]; rfl, hB⟩
      obtain ⟨x_H2, H2⟩ : ∃ x, Hid (inB f.fund 0 1099511627776 = x) := ⟨_, rfl⟩
      cases x_H2
      · go_wp2_with fail
        refine (in_any _ _ _ _).mono ?_
        rw [H1.out]
        rintro e w' ⟨rfl, rfl⟩
        go_wp2_with fail
        refine (in_any _ _ _ _).mono ?_
        rw [H2.out]
        rintro e w' ⟨rfl, rfl⟩
        go_wp2_with fail
        go_ret
        have hno : cf.members.all Memb.ok = false := List.all_eq_false.2 ⟨f, HM_f.out, by simp [Memb.ok, H2.out]⟩
        exact ⟨by rw [wk0 (by rw [badAt, membsOk, hno]; rfl)]; rfl, hB⟩
      · go_wp2_with fail
        refine (in_any _ _ _ _).mono ?_
        rw [H1.out]
        rintro e w' ⟨rfl, rfl⟩
        go_wp2_with fail
        refine (in_any _ _ _ _).mono ?_
        rw [H2.out]
        rintro e w' ⟨rfl, rfl⟩
        go_wp2_with fail
        go_round
        case rel => exact ⟨k + 1, by omega, by go_num, by rw [HT_f.out, List.all_append, Hhok.out]; simp [Memb.ok, H1.out, H2.out]⟩
        case measure => simp [intOf]; omega
    have hk' := Hhok.out
    rw [List.take_of_length_le (by have := HL1.out; omega)] at hk'
    have B0 := Lib.hid (show badAt cf 0 = false by rw [badAt, membsOk, hk', HL1.out, I1.out]; rfl)
    clear hk'
    obtain ⟨x_I2, I2⟩ : ∃ x, Hid (inB n2 1 8 = x) := ⟨_, rfl⟩
    cases x_I2
    · go_wp2_with fail
      refine (in_any _ _ _ _).mono ?_
      rw [I2.out]
      rintro e w' ⟨rfl, rfl⟩
      go_wp2_with fail
      go_ret
      exact ⟨by rw [wk1 B0.out (by rw [badAt, secsOk, HL2.out, I2.out]; simp)]; rfl, hB⟩
    go_wp2_with fail
    refine (in_any _ _ _ _).mono ?_
    rw [I2.out]
    rintro e w' ⟨rfl, rfl⟩
    go_wp2_with fail
    go_loopw [4] (fun i wr => ∃ k : Nat, k ≤ n2 ∧ i = .int .i64 k ∧ (cf.secs.take k).all Secu.ok = true ∧ Below (w.heap.size + 1) (w.alloc (.cells #[.slice A1 n1 cp1, .slice A2 n2 cp2, .slice A3 n3 cp3, .int .i64 cf.line, .int .i64 cf.capital, .int .i64 cf.lead, .int .i64 cf.trades, .int .i64 cf.bids] 78)) wr) (fun i _ => n2 - (intOf i).toNat)
    case atStart => exact ⟨0, Nat.zero_le _, rfl, rfl, Below.refl _ _⟩
    case round =>
      obtain ⟨k2, hk2, rfl, hok2, hb2⟩ := hrel
      have Hhok2 := Lib.hid hok2
      clear hok2
      have hB2 : Below w.heap.size w wr := hB.trans (hb2.mono (by omega))
      have b1 : wr.cell? ⟨w.heap.size, 1, none⟩ = some (.slice A2 n2 cp2) := (hb2.cell (p := ⟨w.heap.size, 1, none⟩) (by simp)).trans (by go_simp)
      have b2 : wr.cell? ⟨w.heap.size, 2, none⟩ = some (.slice A3 n3 cp3) := (hb2.cell (p := ⟨w.heap.size, 2, none⟩) (by simp)).trans (by go_simp)
      by_cases hlt2 : k2 < n2
      · have hg_f : cf.secs[k2]? = some (cf.secs[k2]'(by have := HL2.out; omega)) := List.getElem?_eq_getElem _
        obtain ⟨b_f, off_f, rfl, hbb_f, hc_f⟩ := (hse.below hB2).elem Secu.cells_len hg_f hlt2
        have HT_f := Lib.hid (show cf.secs.take (k2 + 1) = cf.secs.take k2 ++ [(cf.secs[k2]'(by have := HL2.out; omega))] from List.take_succ_eq_append_getElem (by have := HL2.out; omega))
        have HM_f := Lib.hid (show (cf.secs[k2]'(by have := HL2.out; omega)) ∈ cf.secs from List.getElem_mem _)
        generalize (cf.secs[k2]'(by have := HL2.out; omega)) = f at *
        have c0 := hc_f 0 _ rfl
        have c1 := hc_f 1 _ rfl
        clear hc_f hg_f
        simp only [Nat.add_zero] at c0
        obtain ⟨x_H1, H1⟩ : ∃ x, Hid (inB f.price 1 1048576 = x) := ⟨_, rfl⟩
        cases x_H1
        · go_wp2_with fail
          go_quiet ((go_at_call 87; exact quiet_left (in_at _ _ _ _ _ H1.out)))
          go_wp2_with fail
          go_ret
          have hno : cf.secs.all Secu.ok = false := List.all_eq_false.2 ⟨f, HM_f.out, by simp [Secu.ok, H1.out]⟩
          exact ⟨by rw [wk1 B0.out (by rw [badAt, secsOk, hno]; rfl)]; rfl, below_drewN hB2 _⟩
        obtain ⟨x_H2, H2⟩ : ∃ x, Hid (inB f.cap f.price 1048576 = x) := ⟨_, rfl⟩
        cases x_H2
        · go_wp2_with fail
          go_quiet ((go_at_call 87; first | (with_reducible exact quiet_left (in_at _ 1 _ _ _ H1.out)) | (with_reducible exact quiet_left (in_at _ f.price _ _ _ H2.out))))
          go_wp2_with fail
          go_ret
          have hno : cf.secs.all Secu.ok = false := List.all_eq_false.2 ⟨f, HM_f.out, by simp [Secu.ok, H2.out]⟩
          exact ⟨by rw [wk1 B0.out (by rw [badAt, secsOk, hno]; rfl)]; rfl, below_drewN hB2 _⟩
        · go_wp2_with fail
          go_quiet ((go_at_call 87; first | (with_reducible exact quiet_left (in_at _ 1 _ _ _ H1.out)) | (with_reducible exact quiet_left (in_at _ f.price _ _ _ H2.out))))
          go_wp2_with fail
          go_roundw
          case rel => exact ⟨k2 + 1, by omega, by go_num, by rw [HT_f.out, List.all_append, Hhok2.out]; simp [Secu.ok, H1.out, H2.out], below_drewN hb2 _⟩
          case measure => simp [intOf]; omega
      have hk2' := Hhok2.out
      rw [List.take_of_length_le (by have := HL2.out; omega)] at hk2'
      have B1 := Lib.hid (show badAt cf 1 = false by rw [badAt, secsOk, hk2', HL2.out, I2.out]; rfl)
      clear hk2'
      have b3 : wr.cell? ⟨w.heap.size, 3, none⟩ = some (.int .i64 cf.line) := (hb2.cell (p := ⟨w.heap.size, 3, none⟩) (by simp)).trans (by go_simp)
      have b4 : wr.cell? ⟨w.heap.size, 4, none⟩ = some (.int .i64 cf.capital) := (hb2.cell (p := ⟨w.heap.size, 4, none⟩) (by simp)).trans (by go_simp)
      have b5 : wr.cell? ⟨w.heap.size, 5, none⟩ = some (.int .i64 cf.lead) := (hb2.cell (p := ⟨w.heap.size, 5, none⟩) (by simp)).trans (by go_simp)
      have b6 : wr.cell? ⟨w.heap.size, 6, none⟩ = some (.int .i64 cf.trades) := (hb2.cell (p := ⟨w.heap.size, 6, none⟩) (by simp)).trans (by go_simp)
      have b7 : wr.cell? ⟨w.heap.size, 7, none⟩ = some (.int .i64 cf.bids) := (hb2.cell (p := ⟨w.heap.size, 7, none⟩) (by simp)).trans (by go_simp)
      have hws : w.heap.size < wr.heap.size := by have := hb2.size; simp at this; omega
      obtain ⟨x_I3, I3⟩ : ∃ x, Hid (inB n3 1 4 = x) := ⟨_, rfl⟩
      cases x_I3
      · go_wp2_with fail
        refine (in_any _ _ _ _).mono ?_
        rw [I3.out]
        rintro e w' ⟨rfl, rfl⟩
        go_wp2_with fail
        go_ret
        exact ⟨by rw [wk2 B0.out B1.out (by rw [badAt, cycsOk_eq, HL3.out, I3.out]; rfl)]; rfl, hB2⟩
      go_wp2_with fail
      refine (in_any _ _ _ _).mono ?_
      rw [I3.out]
      rintro e w' ⟨rfl, rfl⟩
      obtain ⟨w2, hw2⟩ : ∃ w2 : World, w2 = wr := ⟨_, rfl⟩
      subst hw2
      go_wp2_with fail
      go_loopw [5, 6] (fun a i wr => ∃ k : Nat, k ≤ n3 ∧ i = .int .i64 k ∧ a = .int .i64 (closeOf 0 (cf.cycles.take k)) ∧ cycsFrom 0 (cf.cycles.take k) = true ∧ Below w2.heap.size w2 wr) (fun _ i _ => n3 - (intOf i).toNat)
      case atStart => exact ⟨0, Nat.zero_le _, rfl, rfl, rfl, Below.refl _ _⟩
      case round =>
        obtain ⟨k3, hk3, rfl, rfl, hok3, hb3⟩ := hrel
        have Hhok3 := Lib.hid hok3
        clear hok3
        have hs3 := hb3.size
        have hB3 : Below w.heap.size w wr := hB2.trans (hb3.mono (by omega))
        have b2' := (hb3.cell (p := ⟨w.heap.size, 2, none⟩) hws).trans b2
        have b3' := (hb3.cell (p := ⟨w.heap.size, 3, none⟩) hws).trans b3
        have b4' := (hb3.cell (p := ⟨w.heap.size, 4, none⟩) hws).trans b4
        have b5' := (hb3.cell (p := ⟨w.heap.size, 5, none⟩) hws).trans b5
        have b6' := (hb3.cell (p := ⟨w.heap.size, 6, none⟩) hws).trans b6
        have b7' := (hb3.cell (p := ⟨w.heap.size, 7, none⟩) hws).trans b7
        by_cases hlt3 : k3 < n3
        · have hg_f : cf.cycles[k3]? = some (cf.cycles[k3]'(by have := HL3.out; omega)) := List.getElem?_eq_getElem _
          obtain ⟨b_f, off_f, rfl, hbb_f, hc_f⟩ := (hcy.below hB3).elem Cyc.cells_len hg_f hlt3
          have HT_f := Lib.hid (show cf.cycles.take (k3 + 1) = cf.cycles.take k3 ++ [(cf.cycles[k3]'(by have := HL3.out; omega))] from List.take_succ_eq_append_getElem (by have := HL3.out; omega))
          have HD_f := Lib.hid (show cf.cycles.drop k3 = (cf.cycles[k3]'(by have := HL3.out; omega)) :: cf.cycles.drop (k3 + 1) from List.drop_eq_getElem_cons (by have := HL3.out; omega))
          have HM_f := Lib.hid (show (cf.cycles[k3]'(by have := HL3.out; omega)) ∈ cf.cycles from List.getElem_mem _)
          generalize (cf.cycles[k3]'(by have := HL3.out; omega)) = f at *
          have c0 := hc_f 0 _ rfl
          have c1 := hc_f 1 _ rfl
          have c2 := hc_f 2 _ rfl
          have c3 := hc_f 3 _ rfl
          clear hc_f hg_f
          simp only [Nat.add_zero] at c0
          have HQ := Lib.hid (show cycsFrom 0 cf.cycles = (!f.badFrom (closeOf 0 (cf.cycles.take k3)) && cycsFrom f.close (cf.cycles.drop (k3 + 1))) by
            conv => lhs; rw [← List.take_append_drop k3 cf.cycles]
            rw [cycsFrom_pre, Hhok3.out, HD_f.out, cycsFrom]; rfl)
          have HN := Lib.hid (show cycsFrom 0 (cf.cycles.take (k3 + 1)) = !f.badFrom (closeOf 0 (cf.cycles.take k3)) by
            rw [HT_f.out, cycsFrom_pre, Hhok3.out, cycsFrom, cycsFrom]; simp)
          generalize closeOf 0 (cf.cycles.take k3) = at_ at *
          by_cases hbad : f.cut ≤ at_ ∨ f.fund ≤ f.cut ∨ f.buyin ≤ f.fund ∨ f.close ≤ f.buyin ∨ 1000 < f.close
          · have HB := Lib.hid (show f.badFrom at_ = true by simp [Cyc.badFrom]; omega)
            go_wp2_with fail
            all_goals first
              | (go_ret; exact ⟨by rw [wk2 B0.out B1.out (by rw [badAt, cycsOk_eq, HQ.out, HB.out]; simp)]; rfl, hB3.alloc (by omega) _⟩)
              | (exfalso; omega)
          · have HB := Lib.hid (show f.badFrom at_ = false by simp [Cyc.badFrom]; omega)
            have g1 : ¬ f.cut ≤ at_ := by omega
            have g2 : ¬ f.fund ≤ f.cut := by omega
            have g3 : ¬ f.buyin ≤ f.fund := by omega
            have g4 : ¬ f.close ≤ f.buyin := by omega
            have g5 : ¬ 1000 < f.close := by omega
            clear hbad
            go_wp2_with fail
            go_roundw
            case rel => exact ⟨k3 + 1, by omega, by go_num, by rw [HT_f.out, closeOf_snoc], by rw [HN.out, HB.out]; rfl, hb3.alloc (by omega) _⟩
            case measure => simp [intOf]; omega
        have hk3' := Hhok3.out
        rw [List.take_of_length_le (by have := HL3.out; omega)] at hk3'
        have B2 := Lib.hid (show badAt cf 2 = false by rw [badAt, cycsOk_eq, hk3', HL3.out, I3.out]; rfl)
        clear hk3'
        clear b3 b4 b5 b6 b7 b1 b2
        obtain ⟨x_J3, J3⟩ : ∃ x, Hid (inB cf.line 0 1099511627776 = x) := ⟨_, rfl⟩
        cases x_J3
        · go_wp2_with fail
          refine (in_any _ _ _ _).mono ?_
          rw [J3.out]
          rintro e w' ⟨rfl, rfl⟩
          go_wp2_with fail
          go_ret
          exact ⟨by rw [show wrongK cf = 3 from by simp [wrongK, B0.out, B1.out, B2.out, show badAt cf 3 = true by rw [badAt, J3.out]; rfl]]; rfl, hB3⟩
        go_wp2_with fail
        refine (in_any _ _ _ _).mono ?_
        rw [J3.out]
        rintro e w' ⟨rfl, rfl⟩
        have B3 := Lib.hid (show badAt cf 3 = false by rw [badAt, J3.out]; rfl)
        obtain ⟨x_J4, J4⟩ : ∃ x, Hid (inB cf.capital 0 1099511627776 = x) := ⟨_, rfl⟩
        cases x_J4
        · go_wp2_with fail
          refine (in_any _ _ _ _).mono ?_
          rw [J4.out]
          rintro e w' ⟨rfl, rfl⟩
          go_wp2_with fail
          go_ret
          exact ⟨by rw [show wrongK cf = 4 from by simp [wrongK, B0.out, B1.out, B2.out, B3.out, show badAt cf 4 = true by rw [badAt, J4.out]; rfl]]; rfl, hB3⟩
        go_wp2_with fail
        refine (in_any _ _ _ _).mono ?_
        rw [J4.out]
        rintro e w' ⟨rfl, rfl⟩
        have B4 := Lib.hid (show badAt cf 4 = false by rw [badAt, J4.out]; rfl)
        obtain ⟨x_J5, J5⟩ : ∃ x, Hid (inB cf.lead 0 1000 = x) := ⟨_, rfl⟩
        cases x_J5
        · go_wp2_with fail
          refine (in_any _ _ _ _).mono ?_
          rw [J5.out]
          rintro e w' ⟨rfl, rfl⟩
          go_wp2_with fail
          go_ret
          exact ⟨by rw [show wrongK cf = 5 from by simp [wrongK, B0.out, B1.out, B2.out, B3.out, B4.out, show badAt cf 5 = true by rw [badAt, J5.out]; rfl]]; rfl, hB3⟩
        go_wp2_with fail
        refine (in_any _ _ _ _).mono ?_
        rw [J5.out]
        rintro e w' ⟨rfl, rfl⟩
        have B5 := Lib.hid (show badAt cf 5 = false by rw [badAt, J5.out]; rfl)
        obtain ⟨x_J6, J6⟩ : ∃ x, Hid (inB cf.trades 1 64 = x) := ⟨_, rfl⟩
        cases x_J6
        · go_wp2_with fail
          refine (in_any _ _ _ _).mono ?_
          rw [J6.out]
          rintro e w' ⟨rfl, rfl⟩
          go_wp2_with fail
          go_ret
          exact ⟨by rw [show wrongK cf = 6 from by simp [wrongK, B0.out, B1.out, B2.out, B3.out, B4.out, B5.out, show badAt cf 6 = true by rw [badAt, J6.out]; rfl]]; rfl, hB3⟩
        go_wp2_with fail
        refine (in_any _ _ _ _).mono ?_
        rw [J6.out]
        rintro e w' ⟨rfl, rfl⟩
        have B6 := Lib.hid (show badAt cf 6 = false by rw [badAt, J6.out]; rfl)
        obtain ⟨x_J7, J7⟩ : ∃ x, Hid (inB cf.bids 1 32 = x) := ⟨_, rfl⟩
        cases x_J7
        · go_wp2_with fail
          refine (in_any _ _ _ _).mono ?_
          rw [J7.out]
          rintro e w' ⟨rfl, rfl⟩
          go_wp2_with fail
          go_ret
          exact ⟨by rw [show wrongK cf = 7 from by simp [wrongK, B0.out, B1.out, B2.out, B3.out, B4.out, B5.out, B6.out, show badAt cf 7 = true by rw [badAt, J7.out]; rfl]]; rfl, hB3⟩
        go_wp2_with fail
        refine (in_any _ _ _ _).mono ?_
        rw [J7.out]
        rintro e w' ⟨rfl, rfl⟩
        have B7 := Lib.hid (show badAt cf 7 = false by rw [badAt, J7.out]; rfl)
        go_wp2_with fail
        go_ret
        exact ⟨by rw [show wrongK cf = 8 from by simp [wrongK, B0.out, B1.out, B2.out, B3.out, B4.out, B5.out, B6.out, B7.out]]; rfl, hB3⟩
end Go.Proofs.Ytelbolhckhdioaa
