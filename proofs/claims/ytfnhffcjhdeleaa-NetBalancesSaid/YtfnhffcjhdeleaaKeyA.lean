import Derived.Test.YtfnhffcjhdeleaaBase
import Derived.Test.YtfnhffcjhdeleaaBas2
import Derived.Test.YtfnhffcjhdeleaaRkR
namespace Go.Proofs.Ytfnhffcjhdeleaa
open Go.RowKit

def iC (x : Int) : List Value := [.int .i64 x]
theorem iC_len (x : Int) : (iC x).length = 1 := rfl

/-- How two numbers compare. -/
def cmpI (a b : Int) : Int := if a < b then -1 else if b < a then 1 else 0

theorem isNaN_any (a : Int) (w : World) : Calls Try.prog 140 #[.int .i64 a] w fun e w' => e = .returned (.bool false) ∧ w = w' := by
  go_enter Try.func140, Try.ntmps140
  go_wp2
  go_ret
  exact ⟨by simp, rfl⟩

set_option maxHeartbeats 1000000 in
theorem cmpI_any (a b : Int) (w : World) : Calls Try.prog 113 #[.int .i64 a, .int .i64 b] w fun e w' => e = .returned (.int .i64 (cmpI a b)) ∧ w = w' := by
  by_cases h1 : a < b
  · have HV := Lib.hid (show cmpI a b = -1 by rw [cmpI, if_pos h1])
    rw [HV.out]
    go_enter Try.func113, Try.ntmps113
    go_wp2_with fail
    refine (isNaN_any _ _).mono ?_
    rintro e w1 ⟨rfl, rfl⟩
    go_wp2_with fail
    refine (isNaN_any _ _).mono ?_
    rintro e w2 ⟨rfl, rfl⟩
    go_wp2_with fail
    go_ret
    exact ⟨rfl, rfl⟩
  · by_cases h2 : b < a
    · have HV := Lib.hid (show cmpI a b = 1 by rw [cmpI, if_neg h1, if_pos h2])
      rw [HV.out]
      go_enter Try.func113, Try.ntmps113
      go_wp2_with fail
      refine (isNaN_any _ _).mono ?_
      rintro e w1 ⟨rfl, rfl⟩
      go_wp2_with fail
      refine (isNaN_any _ _).mono ?_
      rintro e w2 ⟨rfl, rfl⟩
      go_wp2_with fail
      go_ret
      exact ⟨rfl, rfl⟩
    · have HV := Lib.hid (show cmpI a b = 0 by rw [cmpI, if_neg h1, if_neg h2])
      rw [HV.out]
      go_enter Try.func113, Try.ntmps113
      go_wp2_with fail
      refine (isNaN_any _ _).mono ?_
      rintro e w1 ⟨rfl, rfl⟩
      go_wp2_with fail
      refine (isNaN_any _ _).mono ?_
      rintro e w2 ⟨rfl, rfl⟩
      go_wp2_with fail
      go_ret
      exact ⟨rfl, rfl⟩

theorem cmpL_drop {xs ys : List Int} {k : Nat} {a b : Int} (ha : xs.drop k = a :: xs.drop (k + 1)) (hb : ys.drop k = b :: ys.drop (k + 1)) (h : cmpL xs ys = cmpL (xs.drop k) (ys.drop k)) : cmpL xs ys = if cmpI a b = 0 then cmpL (xs.drop (k + 1)) (ys.drop (k + 1)) else cmpI a b := by
  rw [h, ha, hb, cmpL]
  unfold cmpI
  by_cases h1 : a < b
  · simp [h1]
  · by_cases h2 : b < a
    · simp [h1, h2]
    · simp [h1, h2]

set_option maxHeartbeats 2000000 in
theorem compare_any (A1 : Option Addr) (n1 c1 : Nat) (A2 : Option Addr) (n2 c2 : Nat) (xs ys : List Int) (B1 B2 : Nat) (w : World) (hr1 : Rd w B1 1 A1 n1 (xs.flatMap iC)) (hr2 : Rd w B2 1 A2 n2 (ys.flatMap iC)) (hn1 : n1 ≤ 1000000) (hn2 : n2 ≤ 1000000) :
    Calls Try.prog 145 #[.slice A1 n1 c1, .slice A2 n2 c2] w fun e w' => e = .returned (.int .i64 (cmpL xs ys)) ∧ w = w' := by
  have HL := Lib.hid (hr1.len iC_len (by omega))
  have HM := Lib.hid (hr2.len iC_len (by omega))
  go_enter Try.func145, Try.ntmps145
  go_wp2_with fail
  go_loop [11] (fun i => ∃ k : Nat, k ≤ n1 ∧ k ≤ n2 ∧ i = .int .i64 k ∧ Hid (cmpL xs ys = cmpL (xs.drop k) (ys.drop k))) (fun i => n1 - (intOf i).toNat)
  case atStart => exact ⟨0, Nat.zero_le _, Nat.zero_le _, rfl, Lib.hid (by simp)⟩
  case round =>
    obtain ⟨k, hk, hk2, rfl, HC⟩ := hrel
    by_cases hlt : k < n1
    · have hlz : (k : Int) < (n1 : Int) := by omega
      have hg_f : xs[k]? = some (xs[k]'(by have := HL.out; omega)) := List.getElem?_eq_getElem _
      obtain ⟨b_f, off_f, rfl, hbb_f, hc_f⟩ := (hr1).elem iC_len hg_f hlt
      have HT_f := Lib.hid (show xs.take (k + 1) = xs.take k ++ [(xs[k]'(by have := HL.out; omega))] from List.take_succ_eq_append_getElem (by have := HL.out; omega))
      have HD_f := Lib.hid (show xs.drop k = (xs[k]'(by have := HL.out; omega)) :: xs.drop (k + 1) from List.drop_eq_getElem_cons (by have := HL.out; omega))
      have HM_f := Lib.hid (show (xs[k]'(by have := HL.out; omega)) ∈ xs from List.getElem_mem _)
      generalize (xs[k]'(by have := HL.out; omega)) = f at *
      have c0 := hc_f 0 _ rfl
      clear hc_f hg_f
      simp only [Nat.add_zero, Nat.mul_one] at c0
      by_cases hlt2 : k < n2
      · have hlz2 : (k : Int) < (n2 : Int) := by omega
        have hg_g : ys[k]? = some (ys[k]'(by have := HM.out; omega)) := List.getElem?_eq_getElem _
        obtain ⟨b_g, off_g, rfl, hbb_g, hc_g⟩ := (hr2).elem iC_len hg_g hlt2
        have HT_g := Lib.hid (show ys.take (k + 1) = ys.take k ++ [(ys[k]'(by have := HM.out; omega))] from List.take_succ_eq_append_getElem (by have := HM.out; omega))
        have HD_g := Lib.hid (show ys.drop k = (ys[k]'(by have := HM.out; omega)) :: ys.drop (k + 1) from List.drop_eq_getElem_cons (by have := HM.out; omega))
        have HM_g := Lib.hid (show (ys[k]'(by have := HM.out; omega)) ∈ ys from List.getElem_mem _)
        generalize (ys[k]'(by have := HM.out; omega)) = g at *
        have d0 := hc_g 0 _ rfl
        clear hc_g hg_g
        simp only [Nat.add_zero, Nat.mul_one] at d0
        have HD := Lib.hid (cmpL_drop HD_f.out HD_g.out HC.out)
        by_cases hz : cmpI f g = 0
        · have b1 : (cmpI f g != 0) = false := by simp [hz]
          have HZ := Lib.hid hz
          clear hz
          go_wp2_with fail
          refine (cmpI_any _ _ _).mono ?_
          rintro e w1 ⟨rfl, rfl⟩
          go_wp2_with fail
          go_round
          case rel => exact ⟨k + 1, by omega, by omega, by go_num, Lib.hid (by rw [HD.out, if_pos HZ.out])⟩
          case measure => simp [intOf]; omega
        · have b1 : (cmpI f g != 0) = true := by simp [hz]
          have HZ := Lib.hid hz
          clear hz
          go_wp2_with fail
          refine (cmpI_any _ _ _).mono ?_
          rintro e w1 ⟨rfl, rfl⟩
          go_wp2_with fail
          go_ret
          exact ⟨ret_int (by rw [HD.out, if_neg HZ.out]), rfl⟩
      · have hlz2 : ¬ (k : Int) < (n2 : Int) := by omega
        have hlz3 : (n2 : Int) ≤ (k : Int) := by omega
        go_wp2_with fail
        go_ret
        have e2 : ys.drop k = [] := List.drop_eq_nil_of_le (by have := HM.out; omega)
        exact ⟨ret_int (by rw [HC.out, e2, HD_f.out, cmpL]), rfl⟩
    · have hlz : ¬ (k : Int) < (n1 : Int) := by omega
      have e1 := Lib.hid (show xs.drop k = [] from List.drop_eq_nil_of_le (by have := HL.out; omega))
      obtain rfl : n1 = k := by omega
      by_cases hlt2 : n1 < n2
      · have hlz2 : (n1 : Int) < (n2 : Int) := by omega
        have hg_g : ys[n1]? = some (ys[n1]'(by have := HM.out; omega)) := List.getElem?_eq_getElem _
        obtain ⟨b_g, off_g, rfl, hbb_g, hc_g⟩ := (hr2).elem iC_len hg_g hlt2
        have HT_g := Lib.hid (show ys.take (n1 + 1) = ys.take n1 ++ [(ys[n1]'(by have := HM.out; omega))] from List.take_succ_eq_append_getElem (by have := HM.out; omega))
        have HD_g := Lib.hid (show ys.drop n1 = (ys[n1]'(by have := HM.out; omega)) :: ys.drop (n1 + 1) from List.drop_eq_getElem_cons (by have := HM.out; omega))
        have HM_g := Lib.hid (show (ys[n1]'(by have := HM.out; omega)) ∈ ys from List.getElem_mem _)
        generalize (ys[n1]'(by have := HM.out; omega)) = g at *
        have d0 := hc_g 0 _ rfl
        clear hc_g hg_g
        simp only [Nat.add_zero, Nat.mul_one] at d0
        go_wp2_with fail
        go_ret
        exact ⟨ret_int (by rw [HC.out, e1.out, HD_g.out, cmpL]), rfl⟩
      · have hlz2 : ¬ (n1 : Int) < (n2 : Int) := by omega
        have e2 := Lib.hid (show ys.drop n1 = [] from List.drop_eq_nil_of_le (by have := HM.out; omega))
        go_wp2_with fail
        go_ret
        exact ⟨ret_int (by rw [HC.out, e1.out, e2.out, cmpL]), rfl⟩

theorem rankCmp_any (A1 : Option Addr) (n1 c1 : Nat) (A2 : Option Addr) (n2 c2 : Nat) (xs ys : List Int) (B1 B2 : Nat) (w : World) (hr1 : Rd w B1 1 A1 n1 (xs.flatMap iC)) (hr2 : Rd w B2 1 A2 n2 (ys.flatMap iC)) (hn1 : n1 ≤ 1000000) (hn2 : n2 ≤ 1000000) :
    Calls Try.prog 132 #[.slice A1 n1 c1, .slice A2 n2 c2] w fun e w' => e = .returned (.int .i64 (cmpL xs ys)) ∧ w = w' := by
  have HV := Lib.hid (fun w (h1 : Rd w B1 1 A1 n1 (xs.flatMap iC)) (h2 : Rd w B2 1 A2 n2 (ys.flatMap iC)) => compare_any A1 n1 c1 A2 n2 c2 xs ys B1 B2 w h1 h2 hn1 hn2)
  generalize cmpL xs ys = z at HV ⊢
  go_enter Try.func132, Try.ntmps132
  go_wp2_with fail
  refine (HV.out _ hr1 hr2).mono ?_
  rintro e w1 ⟨rfl, rfl⟩
  go_wp2_with fail
  go_ret
  exact ⟨rfl, rfl⟩

/-- A slice of slices that reads as a list of keys, with their addresses and capacities. -/
structure KeyV where
  A : Option Addr
  c : Nat
  k : List Int
def KeyV.val (v : KeyV) : Value := .slice v.A v.k.length v.c
def KeyV.cells (v : KeyV) : List Value := [v.val]
theorem KeyV.cells_len (v : KeyV) : v.cells.length = 1 := rfl
/-- Each key reads as it says. -/
def KeysRd (w : World) (B : Nat) (vs : List KeyV) : Prop := ∀ v ∈ vs, Rd w B 1 v.A v.k.length (v.k.flatMap iC) ∧ v.k.length ≤ 100000
theorem KeysRd.keep {w w' : World} {B : Nat} {vs : List KeyV} (h : KeysRd w B vs) (hk : ∀ p : Addr, p.block < B → w'.cell? p = w.cell? p) : KeysRd w' B vs := fun v hv => ⟨(h v hv).1.keep hk, (h v hv).2⟩
theorem KeysRd.below {w w' : World} {B B' : Nat} {vs : List KeyV} (h : KeysRd w B vs) (hb : Below B w w') (hB : B ≤ B') : KeysRd w' B' vs := fun v hv => ⟨((h v hv).1.below hb).mono hB, (h v hv).2⟩
theorem KeysRd.past {w w' : World} {vs : List KeyV} (h : KeysRd w w.heap.size vs) (hb : Below w.heap.size w w') : KeysRd w' w'.heap.size vs := h.below hb hb.size
def keysOf (vs : List KeyV) : List (List Int) := vs.map KeyV.k
theorem keysOf_len (vs : List KeyV) : (keysOf vs).length = vs.length := by simp [keysOf]
theorem keysOf_at {vs : List KeyV} {i : Nat} {v : KeyV} (h : vs[i]? = some v) : (keysOf vs).getD i [] = v.k := by
  simp [keysOf, List.getD, h]
end Go.Proofs.Ytfnhffcjhdeleaa
