import Derived.Test.YtjkabmijkbpodabBase
namespace Go.Proofs.Ytjkabmijkbpodab
open Go.RowKit

structure Bid where
  seq : Int
  member : Int
  sec : Int
  qty : Int
  price : Int

def Bid.cells (b : Bid) : List Value := [.int .i64 b.seq, .int .i64 b.member, .int .i64 b.sec, .int .i64 b.qty, .int .i64 b.price]
theorem Bid.cells_len (b : Bid) : b.cells.length = 5 := rfl

structure Fill where
  bid : Bid
  qty : Int
  cost : Int

def Fill.cells (f : Fill) : List Value := [.int .i64 f.bid.seq, .int .i64 f.bid.member, .int .i64 f.bid.sec, .int .i64 f.bid.qty, .int .i64 f.bid.price, .int .i64 f.qty, .int .i64 f.cost]
theorem Fill.cells_len (b : Fill) : b.cells.length = 7 := rfl

def sumW (l : List Int) : Int := l.foldl (fun s x => wrap64 (s + x)) 0
theorem sumW_snoc (l : List Int) (x : Int) : sumW (l ++ [x]) = wrap64 (sumW l + x) := by simp [sumW]

set_option maxHeartbeats 400000 in
theorem units_any (A : Option Addr) (n c : Nat) (fs : List Fill) (w : World) (hr : Rd w w.heap.size 7 A n (fs.flatMap Fill.cells)) (hn : n ≤ 1000) :
    Calls Try.prog 17 #[.slice A n c] w fun e w' => e = .returned (.int .i64 (sumW (fs.map Fill.qty))) ∧ Below w.heap.size w w' := by
  have HL := Lib.hid (hr.len Fill.cells_len (by omega))
  go_enter Try.func17, Try.ntmps17
  go_wp2
  go_loopw [3, 5, 8] (fun s p i wr => ∃ k : Nat, k ≤ n ∧ i = .int .i64 k ∧ s = .int .i64 (sumW ((fs.take k).map Fill.qty)) ∧ Below w.heap.size w wr) (fun _ _ i _ => n - (intOf i).toNat)
  case atStart => exact ⟨0, Nat.zero_le _, rfl, rfl, Below.refl _ _⟩
  case round =>
    obtain ⟨k, hk, rfl, rfl, hb⟩ := hrel
    by_cases hlt : k < n
    · have hg : fs[k]? = some (fs[k]'(by have := HL.out; omega)) := List.getElem?_eq_getElem _
      obtain ⟨b, off, rfl, hbb, hc⟩ := (hr.below hb).elem Fill.cells_len hg hlt
      have HT := Lib.hid (show fs.take (k + 1) = fs.take k ++ [fs[k]'(by have := HL.out; omega)] from List.take_succ_eq_append_getElem (by have := HL.out; omega))
      generalize fs[k]'(by have := HL.out; omega) = f at *
      have c0 := hc 0 _ rfl
      have c1 := hc 1 _ rfl
      have c2 := hc 2 _ rfl
      have c3 := hc 3 _ rfl
      have c4 := hc 4 _ rfl
      have c5 := hc 5 _ rfl
      have c6 := hc 6 _ rfl
      clear hc hg
      simp only [Nat.add_zero] at c0
      go_wp2
      go_roundw
      case rel =>
        refine ⟨k + 1, by omega, by go_num, ?_, ?_⟩
        · rw [HT.out]; simp [sumW_snoc]
        · exact hb.alloc hb.size _
      case measure => simp [intOf]; omega
    · go_wp2
      go_ret
      exact ⟨ret_int (by rw [List.take_of_length_le (by have := HL.out; omega)]), hb⟩
set_option maxHeartbeats 400000 in
theorem cost_any (A : Option Addr) (n c : Nat) (fs : List Fill) (w : World) (hr : Rd w w.heap.size 7 A n (fs.flatMap Fill.cells)) (hn : n ≤ 1000) :
    Calls Try.prog 18 #[.slice A n c] w fun e w' => e = .returned (.int .i64 (sumW (fs.map Fill.cost))) ∧ Below w.heap.size w w' := by
  have HL := Lib.hid (hr.len Fill.cells_len (by omega))
  go_enter Try.func18, Try.ntmps18
  go_wp2
  go_loopw [3, 5, 8] (fun s p i wr => ∃ k : Nat, k ≤ n ∧ i = .int .i64 k ∧ s = .int .i64 (sumW ((fs.take k).map Fill.cost)) ∧ Below w.heap.size w wr) (fun _ _ i _ => n - (intOf i).toNat)
  case atStart => exact ⟨0, Nat.zero_le _, rfl, rfl, Below.refl _ _⟩
  case round =>
    obtain ⟨k, hk, rfl, rfl, hb⟩ := hrel
    by_cases hlt : k < n
    · have hg : fs[k]? = some (fs[k]'(by have := HL.out; omega)) := List.getElem?_eq_getElem _
      obtain ⟨b, off, rfl, hbb, hc⟩ := (hr.below hb).elem Fill.cells_len hg hlt
      have HT := Lib.hid (show fs.take (k + 1) = fs.take k ++ [fs[k]'(by have := HL.out; omega)] from List.take_succ_eq_append_getElem (by have := HL.out; omega))
      generalize fs[k]'(by have := HL.out; omega) = f at *
      have c0 := hc 0 _ rfl
      have c1 := hc 1 _ rfl
      have c2 := hc 2 _ rfl
      have c3 := hc 3 _ rfl
      have c4 := hc 4 _ rfl
      have c5 := hc 5 _ rfl
      have c6 := hc 6 _ rfl
      clear hc hg
      simp only [Nat.add_zero] at c0
      go_wp2
      go_roundw
      case rel =>
        refine ⟨k + 1, by omega, by go_num, ?_, ?_⟩
        · rw [HT.out]; simp [sumW_snoc]
        · exact hb.alloc hb.size _
      case measure => simp [intOf]; omega
    · go_wp2
      go_ret
      exact ⟨ret_int (by rw [List.take_of_length_le (by have := HL.out; omega)]), hb⟩

/-- What is wrong with a bid: no units, or no price. -/
def Bid.bad (b : Bid) : Bool := decide (b.qty < 1) || decide (b.price < 1)

set_option maxHeartbeats 400000 in
theorem bad_any (b : Bid) (w : World) :
    Calls Try.prog 73 #[.agg #[.int .i64 b.seq, .int .i64 b.member, .int .i64 b.sec, .int .i64 b.qty, .int .i64 b.price]] w fun e w' => e = .returned (.bool b.bad) ∧ Below w.heap.size w w' := by
  go_enter Try.func73, Try.ntmps73
  by_cases h1 : b.qty < 1 <;> by_cases h2 : b.price < 1
  all_goals
    go_wp2
    go_ret
    exact ⟨by simp [Bid.bad, h1, h2], (Below.refl _ _).alloc (Nat.le_refl _) _⟩

/-- An index at or behind 0 just if one is bad. -/
def IdxBad (bs : List Bid) (w : World) (e : Ending) (w' : World) : Prop := ∃ i : Int, e = .returned (.int .i64 i) ∧ decide (0 ≤ i) = bs.any Bid.bad ∧ Below w.heap.size w w'

set_option maxHeartbeats 400000 in
theorem indexBad_any (A : Option Addr) (n c : Nat) (bs : List Bid) (w : World) (hr : Rd w w.heap.size 5 A n (bs.flatMap Bid.cells)) (hn : n ≤ 1024) :
    Calls Try.prog 81 #[.slice A n c, .func (Fn.func 73) #[] #[]] w (IdxBad bs w) := by
  have HL := Lib.hid (hr.len Bid.cells_len (by omega))
  go_enter Try.func81, Try.ntmps81
  go_wp2
  go_loopw [5, 8] (fun p i wr => ∃ k : Nat, k ≤ n ∧ i = .int .i64 k ∧ (bs.take k).any Bid.bad = false ∧ Below w.heap.size w wr) (fun _ i _ => n - (intOf i).toNat)
  case atStart => exact ⟨0, Nat.zero_le _, rfl, rfl, Below.refl _ _⟩
  case round =>
    obtain ⟨k, hk, rfl, hno, hb⟩ := hrel
    have HN := Lib.hid hno
    clear hno
    by_cases hlt : k < n
    · have hg : bs[k]? = some (bs[k]'(by have := HL.out; omega)) := List.getElem?_eq_getElem _
      obtain ⟨b, off, rfl, hbb, hc⟩ := (hr.below hb).elem Bid.cells_len hg hlt
      have HT := Lib.hid (show bs.take (k + 1) = bs.take k ++ [bs[k]'(by have := HL.out; omega)] from List.take_succ_eq_append_getElem (by have := HL.out; omega))
      have HM := Lib.hid (show (bs[k]'(by have := HL.out; omega)) ∈ bs from List.getElem_mem _)
      generalize bs[k]'(by have := HL.out; omega) = f at *
      have c0 := hc 0 _ rfl
      have c1 := hc 1 _ rfl
      have c2 := hc 2 _ rfl
      have c3 := hc 3 _ rfl
      have c4 := hc 4 _ rfl
      clear hc hg
      simp only [Nat.add_zero] at c0
      by_cases hbad : f.bad = true
      · have HB := Lib.hid hbad
        go_wp2_with (go_at_call 73; refine (bad_any f _).mono ?_; rintro e w' ⟨rfl, hb'⟩)
        go_ret
        refine ⟨k, rfl, ?_, Below.past hb hb' hb.size⟩
        have : bs.any Bid.bad = true := List.any_eq_true.2 ⟨f, HM.out, HB.out⟩
        simp [this]
      · have HB : f.bad = false := by simpa using hbad
        clear hbad
        go_wp2_with (go_at_call 73; refine (bad_any f _).mono ?_; rintro e w' ⟨rfl, hb'⟩)
        go_roundw
        case rel =>
          refine ⟨k + 1, by omega, by go_num, ?_, Below.past hb hb' hb.size⟩
          rw [HT.out]; simp [HN.out, HB]
        case measure => simp [intOf]; omega
    · go_wp2
      go_ret
      refine ⟨-1, rfl, ?_, hb⟩
      have h := HN.out
      rw [List.take_of_length_le (by have := HL.out; omega)] at h
      simp [h]

set_option maxHeartbeats 400000 in
theorem containsBad_any (A : Option Addr) (n c : Nat) (bs : List Bid) (w : World) (hr : Rd w w.heap.size 5 A n (bs.flatMap Bid.cells)) (hn : n ≤ 1024) :
    Calls Try.prog 72 #[.slice A n c, .func (Fn.func 73) #[] #[]] w fun e w' => e = .returned (.bool (bs.any Bid.bad)) ∧ Below w.heap.size w w' := by
  go_enter Try.func72, Try.ntmps72
  go_wp2_with fail
  refine (indexBad_any A n c bs _ hr hn).mono ?_
  rintro e w' ⟨i, rfl, hi, hb⟩
  have HI := Lib.hid hi
  clear hi
  go_wp2
  go_ret
  exact ⟨by rw [← HI.out]; rfl, hb⟩

/-- What is wrong with what is handed in. -/
def checkA (bs : List Bid) (l m : Int) : Int := if 1024 < bs.length then 6 else if l < 0 ∨ m < 0 ∨ bs.any Bid.bad then 1 else 0

set_option maxHeartbeats 400000 in
theorem check_any (A : Option Addr) (n c : Nat) (bs : List Bid) (l m : Int) (w : World) (hr : Rd w w.heap.size 5 A n (bs.flatMap Bid.cells)) (hn : n ≤ 1024) :
    Calls Try.prog 50 #[.slice A n c, .int .i64 l, .int .i64 m] w fun e w' => e = .returned (.int .i64 (checkA bs l m)) ∧ Below w.heap.size w w' := by
  have HL := Lib.hid (hr.len Bid.cells_len (by omega))
  have h0 : decide ((1024 : Int) < n) = false := by simp; omega
  have H1 := Lib.hid (show checkA bs l m = if l < 0 ∨ m < 0 ∨ bs.any Bid.bad then 1 else 0 by
    unfold checkA; rw [if_neg (by have := HL.out; omega)])
  by_cases hl : l < 0
  · go_enter Try.func50, Try.ntmps50
    go_wp2_with fail
    go_ret
    exact ⟨ret_int (by rw [H1.out]; simp [hl]), Below.refl _ _⟩
  by_cases hm : m < 0
  · go_enter Try.func50, Try.ntmps50
    go_wp2_with fail
    go_ret
    exact ⟨ret_int (by rw [H1.out]; simp [hm]), Below.refl _ _⟩
  by_cases ha : bs.any Bid.bad = true
  · have HA := Lib.hid ha
    clear ha
    go_enter Try.func50, Try.ntmps50
    go_wp2_with fail
    refine (containsBad_any A n c bs _ hr hn).mono ?_
    rw [HA.out]
    rintro e w' ⟨rfl, hb⟩
    go_wp2
    go_ret
    exact ⟨ret_int (by rw [H1.out, HA.out]; simp), hb⟩
  · have HA := Lib.hid (Bool.eq_false_iff.2 ha)
    clear ha
    go_enter Try.func50, Try.ntmps50
    go_wp2_with fail
    refine (containsBad_any A n c bs _ hr hn).mono ?_
    rw [HA.out]
    rintro e w' ⟨rfl, hb⟩
    go_wp2
    go_ret
    exact ⟨ret_int (by rw [H1.out, HA.out, if_neg (by simp; omega)]), hb⟩
end Go.Proofs.Ytjkabmijkbpodab
