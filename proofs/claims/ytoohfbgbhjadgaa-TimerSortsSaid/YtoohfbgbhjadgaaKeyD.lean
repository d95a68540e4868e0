import Derived.Test.YtoohfbgbhjadgaaKeyC
namespace Go.Proofs.Ytoohfbgbhjadgaa
open Go.RowKit

/-- Later by draws alone. -/
def Drawn (w w' : World) : Prop := ∃ q, w' = w.drewN q
theorem Drawn.refl (w : World) : Drawn w w := ⟨0, rfl⟩
theorem Drawn.next {w w' : World} (h : Drawn w w') (n : Nat) : Drawn w (w'.drewN n) := by
  obtain ⟨q, rfl⟩ := h
  exact ⟨q + n, by rw [World.drewN_drewN]⟩
theorem Drawn.keep {w w' : World} (h : Drawn w w') (p : Addr) : w'.cell? p = w.cell? p := by
  obtain ⟨q, rfl⟩ := h; rfl
theorem Drawn.below {B : Nat} {a w w' : World} (h : Drawn w w') (hb : Below B a w) : Below B a w' := by
  obtain ⟨q, rfl⟩ := h; exact below_drewN hb q
theorem Drawn.size {w w' : World} (h : Drawn w w') : w'.heap.size = w.heap.size := by
  obtain ⟨q, rfl⟩ := h; rfl
theorem Drawn.trans {w w' w'' : World} (h : Drawn w w') (k : Drawn w' w'') : Drawn w w'' := by
  obtain ⟨q, rfl⟩ := k; exact h.next q
theorem Drawn.blk {w w' : World} {g : Nat} {t : TypeId} {cs : Array Value} (h : Drawn w w') (hb : Blk w g t cs) : Blk w' g t cs := by
  obtain ⟨q, rfl⟩ := h; exact hb
theorem Drawn.bel {w w' : World} (h : Drawn w w') : Below w.heap.size w w' := h.below (Below.refl _ _)

theorem cmpL_end1 {xs ys : List Int} {k : Nat} {a : Int} (ha : xs.drop k = a :: xs.drop (k + 1)) (hy : ys.length ≤ k) (h : cmpL xs ys = cmpL (xs.drop k) (ys.drop k)) : cmpL xs ys = 1 := by
  rw [h, ha, List.drop_eq_nil_of_le hy, cmpL]
theorem cmpL_end2 {xs ys : List Int} {k : Nat} (hx : xs.length ≤ k) (hy : k < ys.length) (h : cmpL xs ys = cmpL (xs.drop k) (ys.drop k)) : cmpL xs ys = -1 := by
  rw [h, List.drop_eq_nil_of_le hx, List.drop_eq_getElem_cons hy, cmpL]
theorem cmpL_end3 {xs ys : List Int} {k : Nat} (hx : xs.length ≤ k) (hy : ys.length ≤ k) (h : cmpL xs ys = cmpL (xs.drop k) (ys.drop k)) : cmpL xs ys = 0 := by
  rw [h, List.drop_eq_nil_of_le hx, List.drop_eq_nil_of_le hy, cmpL]

set_option maxHeartbeats 2000000 in
theorem refCmp_any (A1 : Option Addr) (n1 c1 : Nat) (A2 : Option Addr) (n2 c2 : Nat) (xs ys : List Int) (B1 B2 : Nat) (w : World) (hr1 : Rd w B1 1 A1 n1 (xs.flatMap iC)) (hr2 : Rd w B2 1 A2 n2 (ys.flatMap iC)) (hn1 : n1 ≤ 1000000) (hn2 : n2 ≤ 1000000) :
    Calls Try.prog 17 #[.slice A1 n1 c1, .slice A2 n2 c2] w fun e w' => e = .returned (.int .i64 (cmpL xs ys)) ∧ Drawn w w' := by
  have HL := Lib.hid (hr1.len iC_len (by omega))
  have HM := Lib.hid (hr2.len iC_len (by omega))
  go_enter Try.func17, Try.ntmps17
  go_wp2_with fail
  go_loopw [5] (fun i wr => ∃ k : Nat, k ≤ n1 ∧ k ≤ n2 ∧ i = .int .i64 k ∧ Hid (cmpL xs ys = cmpL (xs.drop k) (ys.drop k)) ∧ Hid (Drawn w wr)) (fun i _ => n1 - (intOf i).toNat)
  case atStart => exact ⟨0, Nat.zero_le _, Nat.zero_le _, rfl, Lib.hid (by simp), Drawn.refl w⟩
  case round =>
    obtain ⟨k, hk, hk2, rfl, HC, HD⟩ := hrel
    by_cases hlt : k < n1
    · have hlz : (k : Int) < (n1 : Int) := by omega
      have hg_f : xs[k]? = some (xs[k]'(by have := HL.out; omega)) := List.getElem?_eq_getElem _
      obtain ⟨b_f, off_f, rfl, hbb_f, hc_f⟩ := (hr1.keep fun p _ => HD.out.keep p).elem iC_len hg_f hlt
      have HT_f := Lib.hid (show xs.take (k + 1) = xs.take k ++ [(xs[k]'(by have := HL.out; omega))] from List.take_succ_eq_append_getElem (by have := HL.out; omega))
      have HD_f := Lib.hid (show xs.drop k = (xs[k]'(by have := HL.out; omega)) :: xs.drop (k + 1) from List.drop_eq_getElem_cons (by have := HL.out; omega))
      have HM_f := Lib.hid (show (xs[k]'(by have := HL.out; omega)) ∈ xs from List.getElem_mem _)
      generalize (xs[k]'(by have := HL.out; omega)) = f at *
      have c0 := hc_f 0 _ rfl
      clear hc_f hg_f
      simp only [Nat.add_zero, Nat.mul_one] at c0
      by_cases hlt2 : k < n2
      · have hlz2 : (k : Int) < (n2 : Int) := by omega
        have bb : decide ((n2 : Int) ≤ (k : Int)) = false := decide_eq_false (by omega)
        have hg_g : ys[k]? = some (ys[k]'(by have := HM.out; omega)) := List.getElem?_eq_getElem _
        obtain ⟨b_g, off_g, rfl, hbb_g, hc_g⟩ := (hr2.keep fun p _ => HD.out.keep p).elem iC_len hg_g hlt2
        have HT_g := Lib.hid (show ys.take (k + 1) = ys.take k ++ [(ys[k]'(by have := HM.out; omega))] from List.take_succ_eq_append_getElem (by have := HM.out; omega))
        have HD_g := Lib.hid (show ys.drop k = (ys[k]'(by have := HM.out; omega)) :: ys.drop (k + 1) from List.drop_eq_getElem_cons (by have := HM.out; omega))
        have HM_g := Lib.hid (show (ys[k]'(by have := HM.out; omega)) ∈ ys from List.getElem_mem _)
        generalize (ys[k]'(by have := HM.out; omega)) = g at *
        have d0 := hc_g 0 _ rfl
        clear hc_g hg_g
        simp only [Nat.add_zero, Nat.mul_one] at d0
        have HX := Lib.hid (cmpL_drop HD_f.out HD_g.out HC.out)
        by_cases h1 : g < f
        · have HV := Lib.hid (show cmpL xs ys = 1 by rw [HX.out, cmpI, if_neg (by omega), if_pos h1, if_neg (by omega)])
          go_wp2_with fail
          go_quiet (fail)
          go_wp2_with fail
          go_ret
          exact ⟨ret_int HV.out.symm, HD.out.next _⟩
        · have h1' : ¬ f > g := by omega
          by_cases h2 : f < g
          · have HV := Lib.hid (show cmpL xs ys = -1 by rw [HX.out, cmpI, if_pos h2, if_neg (by omega)])
            go_wp2_with fail
            go_quiet (fail)
            go_wp2_with fail
            go_quiet (fail)
            go_wp2_with fail
            go_ret
            exact ⟨ret_int HV.out.symm, (HD.out.next _).next _⟩
          · have HV := Lib.hid (show cmpL xs ys = cmpL (xs.drop (k + 1)) (ys.drop (k + 1)) by rw [HX.out, cmpI, if_neg h2, if_neg h1, if_pos rfl])
            go_wp2_with fail
            go_quiet (fail)
            go_wp2_with fail
            go_quiet (fail)
            go_wp2_with fail
            go_roundw
            case rel => exact ⟨k + 1, by omega, by omega, by go_num, HV, HD.out.next _⟩
            case measure => simp [intOf]; omega
      · have bb : decide ((n2 : Int) ≤ (k : Int)) = true := decide_eq_true (by omega)
        have bb2 : (n2 : Int) ≤ (k : Int) := by omega
        have HV := Lib.hid (cmpL_end1 HD_f.out (by have := HM.out; omega) HC.out)
        go_wp2_with fail
        go_quiet (fail)
        go_wp2_with fail
        go_ret
        exact ⟨ret_int HV.out.symm, HD.out.next _⟩
    · have hlz : ¬ (k : Int) < (n1 : Int) := by omega
      obtain rfl : n1 = k := by omega
      by_cases hlt2 : n1 < n2
      · have hlz2 : (n1 : Int) < (n2 : Int) := by omega
        have HV := Lib.hid (cmpL_end2 (by have := HL.out; omega) (by have := HM.out; omega) HC.out)
        go_wp2_with fail
        go_ret
        exact ⟨ret_int HV.out.symm, HD.out⟩
      · have hlz2 : ¬ (n1 : Int) < (n2 : Int) := by omega
        have HV := Lib.hid (cmpL_end3 (by have := HL.out; omega) (by have := HM.out; omega) HC.out)
        go_wp2_with fail
        go_ret
        exact ⟨ret_int HV.out.symm, HD.out⟩

/-! ### Few keys, of few numbers -/
def shortK (v : KeyV) : Bool := decide (v.k.length ≤ 6)
set_option maxHeartbeats 1000000 in
theorem few5_yes (A : Option Addr) (n cp m : Nat) (vs : List KeyV) (B : Nat) (w : World) (hr : Rd w B 1 A n (vs.flatMap KeyV.cells)) (hn : n ≤ m) (hm : m ≤ 1000) (hs : vs.all shortK = true) :
    Calls Try.prog 18 #[.slice A n cp, .int .i64 m] w fun e w' => e = .returned (.bool true) ∧ w = w' := by
  have HL := Lib.hid (hr.len KeyV.cells_len (by omega))
  have HS := Lib.hid hs
  clear hs
  have q0 : ¬ (m : Int) < (n : Int) := by omega
  go_enter Try.func18, Try.ntmps18
  go_wp2_with fail
  go_loop [5] (fun i => ∃ k : Nat, k ≤ n ∧ i = .int .i64 k) (fun i => n - (intOf i).toNat)
  case atStart => exact ⟨0, Nat.zero_le _, rfl⟩
  case round =>
    obtain ⟨k, hk, rfl⟩ := hrel
    by_cases hlt : k < n
    · have hlz : (k : Int) < (n : Int) := by omega
      have hg_f : vs[k]? = some (vs[k]'(by have := HL.out; omega)) := List.getElem?_eq_getElem _
      obtain ⟨b_f, off_f, rfl, hbb_f, hc_f⟩ := (hr).elem KeyV.cells_len hg_f hlt
      have HT_f := Lib.hid (show vs.take (k + 1) = vs.take k ++ [(vs[k]'(by have := HL.out; omega))] from List.take_succ_eq_append_getElem (by have := HL.out; omega))
      have HM_f := Lib.hid (show (vs[k]'(by have := HL.out; omega)) ∈ vs from List.getElem_mem _)
      generalize (vs[k]'(by have := HL.out; omega)) = f at *
      have c0 := hc_f 0 _ rfl
      clear hc_f hg_f
      simp only [Nat.add_zero, Nat.mul_one] at c0
      have h6 : f.k.length ≤ 6 := by
        have := List.all_eq_true.1 HS.out f HM_f.out
        simpa [shortK] using this
      obtain ⟨fA, fc, fk⟩ := f
      simp only [KeyV.val] at c0 h6
      go_wp2_with fail
      go_round
      case rel => exact ⟨k + 1, by omega, by go_num⟩
      case measure => simp [intOf]; omega
    · go_wp2_with fail
      go_ret
      exact ⟨rfl, rfl⟩

set_option maxHeartbeats 1000000 in
theorem few5_no (A : Option Addr) (n cp m : Nat) (vs : List KeyV) (B : Nat) (w : World) (hr : Rd w B 1 A n (vs.flatMap KeyV.cells)) (hm : m ≤ 1000) (hs : ¬ (n ≤ m ∧ vs.all shortK = true)) :
    Calls Try.prog 18 #[.slice A n cp, .int .i64 m] w fun e w' => e = .returned (.bool false) ∧ w = w' := by
  by_cases hn : n ≤ m
  · by_cases h0 : n = 0
    · subst h0
      refine absurd ⟨hn, ?_⟩ hs
      have : vs = [] := List.eq_nil_of_length_eq_zero (by
        have := hr.1
        rw [flat_len KeyV.cells 1 KeyV.cells_len] at this
        omega)
      rw [this]; rfl
    have HL := Lib.hid (hr.len KeyV.cells_len (by omega))
    have hs' : vs.all shortK = false := by
      cases h : vs.all shortK with
      | false => rfl
      | true => exact absurd ⟨hn, h⟩ hs
    have HS := Lib.hid hs'
    clear hs hs' h0
    have q0 : ¬ (m : Int) < (n : Int) := by omega
    go_enter Try.func18, Try.ntmps18
    go_wp2_with fail
    go_loop [5] (fun i => ∃ k : Nat, k ≤ n ∧ i = .int .i64 k ∧ Hid ((vs.take k).all shortK = true)) (fun i => n - (intOf i).toNat)
    case atStart => exact ⟨0, Nat.zero_le _, rfl, rfl⟩
    case round =>
      obtain ⟨k, hk, rfl, HA⟩ := hrel
      by_cases hlt : k < n
      · have hlz : (k : Int) < (n : Int) := by omega
        have hg_f : vs[k]? = some (vs[k]'(by have := HL.out; omega)) := List.getElem?_eq_getElem _
        obtain ⟨b_f, off_f, rfl, hbb_f, hc_f⟩ := (hr).elem KeyV.cells_len hg_f hlt
        have HT_f := Lib.hid (show vs.take (k + 1) = vs.take k ++ [(vs[k]'(by have := HL.out; omega))] from List.take_succ_eq_append_getElem (by have := HL.out; omega))
        have HM_f := Lib.hid (show (vs[k]'(by have := HL.out; omega)) ∈ vs from List.getElem_mem _)
        generalize (vs[k]'(by have := HL.out; omega)) = f at *
        have c0 := hc_f 0 _ rfl
        clear hc_f hg_f
        simp only [Nat.add_zero, Nat.mul_one] at c0
        obtain ⟨fA, fc, fk⟩ := f
        simp only [KeyV.val] at c0
        by_cases h6 : fk.length ≤ 6
        · have HA2 := Lib.hid (show (vs.take (k + 1)).all shortK = true by rw [HT_f.out, List.all_append, HA.out]; simp [shortK, h6])
          go_wp2_with fail
          go_round
          case rel => exact ⟨k + 1, by omega, by go_num, HA2⟩
          case measure => simp [intOf]; omega
        · have h7 : 6 < fk.length := by omega
          go_wp2_with fail
          go_ret
          exact ⟨rfl, rfl⟩
      · exfalso
        have h1 := HA.out
        rw [List.take_of_length_le (by have := HL.out; omega), HS.out] at h1
        cases h1
  · have q0 : (m : Int) < (n : Int) := by omega
    clear hs hn
    go_enter Try.func18, Try.ntmps18
    go_wp2_with fail
    go_ret
    exact ⟨rfl, rfl⟩

/-! ### The same places -/
set_option maxHeartbeats 1000000 in
theorem same5_any (A1 : Option Addr) (n c1 : Nat) (A2 : Option Addr) (c2 : Nat) (l : List Nat) (B1 B2 : Nat) (w : World) (hr1 : Rd w B1 1 A1 n (l.flatMap nC)) (hr2 : Rd w B2 1 A2 n (l.flatMap nC)) (hn : n ≤ 1000000) (hl : ∀ x ∈ l, x ≤ 1000000) :
    Calls Try.prog 21 #[.slice A1 n c1, .slice A2 n c2] w fun e w' => e = .returned (.bool true) ∧ Drawn w w' := by
  have HL := Lib.hid (hr1.len nC_len (by omega))
  have HX := Lib.hid hl
  clear hl
  have q0 : ((n : Int) != (n : Int)) = false := by simp
  go_enter Try.func21, Try.ntmps21
  go_wp2_with fail
  go_loopw [5] (fun i wr => ∃ k : Nat, k ≤ n ∧ i = .int .i64 k ∧ Hid (Drawn w wr)) (fun i _ => n - (intOf i).toNat)
  case atStart => exact ⟨0, Nat.zero_le _, rfl, Drawn.refl w⟩
  case round =>
    obtain ⟨k, hk, rfl, HD⟩ := hrel
    by_cases hlt : k < n
    · have hlz : (k : Int) < (n : Int) := by omega
      have hg : l[k]? = some (l[k]'(by have := HL.out; omega)) := List.getElem?_eq_getElem _
      obtain ⟨b1, o1, rfl, hb1, hc1⟩ := (hr1.keep fun p _ => HD.out.keep p).elem nC_len hg hlt
      obtain ⟨b2, o2, rfl, hb2, hc2⟩ := (hr2.keep fun p _ => HD.out.keep p).elem nC_len hg hlt
      have hx := HX.out _ (List.mem_of_getElem? hg)
      generalize l[k]'(by have := HL.out; omega) = x at *
      have e1 := hc1 0 _ rfl
      have e2 := hc2 0 _ rfl
      simp only [Nat.mul_one, Nat.add_zero] at e1 e2
      have b1 : ((x : Int) != (x : Int)) = false := by simp
      clear hg hc1 hc2
      go_wp2_with fail
      go_quiet (fail)
      go_wp2_with fail
      go_roundw
      case rel => exact ⟨k + 1, by omega, by go_num, HD.out.next _⟩
      case measure => simp [intOf]; omega
    · have hlz : ¬ (k : Int) < (n : Int) := by omega
      go_wp2_with fail
      go_ret
      exact ⟨rfl, HD.out⟩
end Go.Proofs.Ytoohfbgbhjadgaa
