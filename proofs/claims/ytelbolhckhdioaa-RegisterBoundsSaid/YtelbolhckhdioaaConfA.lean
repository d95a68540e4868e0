import Derived.Test.YtelbolhckhdioaaBase
namespace Go.Proofs.Ytelbolhckhdioaa
open Go.RowKit

structure Memb where
  coll : Int
  fund : Int
structure Secu where
  price : Int
  cap : Int
structure Cyc where
  cut : Int
  fund : Int
  buyin : Int
  close : Int
structure Conf where
  members : List Memb
  secs : List Secu
  cycles : List Cyc
  line : Int
  capital : Int
  lead : Int
  trades : Int
  bids : Int

def Memb.cells (m : Memb) : List Value := [.int .i64 m.coll, .int .i64 m.fund]
def Secu.cells (m : Secu) : List Value := [.int .i64 m.price, .int .i64 m.cap]
def Cyc.cells (m : Cyc) : List Value := [.int .i64 m.cut, .int .i64 m.fund, .int .i64 m.buyin, .int .i64 m.close]
theorem Memb.cells_len (m : Memb) : m.cells.length = 2 := rfl
theorem Secu.cells_len (m : Secu) : m.cells.length = 2 := rfl
theorem Cyc.cells_len (m : Cyc) : m.cells.length = 4 := rfl

/-- From one number to another. -/
def inB (n lo hi : Int) : Bool := decide (lo ≤ n) && decide (n ≤ hi)
theorem inB_iff (n lo hi : Int) : inB n lo hi = true ↔ lo ≤ n ∧ n ≤ hi := by simp [inB]

set_option maxHeartbeats 400000 in
theorem within_any (n lo hi : Int) (w : World) : Calls Try.prog 171 #[.int .i64 n, .int .i64 lo, .int .i64 hi] w fun e w' => e = .returned (.bool (inB n lo hi)) ∧ w = w' := by
  by_cases h1 : lo ≤ n <;> by_cases h2 : n ≤ hi
  all_goals
    go_enter Try.func171, Try.ntmps171
    go_wp2_with fail
    go_ret
    exact ⟨by simp [inB, h1, h2], rfl⟩

set_option maxHeartbeats 400000 in
theorem many_any (n lo hi : Int) (w : World) : Calls Try.prog 174 #[.int .i64 n, .int .i64 lo, .int .i64 hi] w fun e w' => e = .returned (.bool (inB n lo hi)) ∧ w = w' := by
  by_cases h1 : lo ≤ n <;> by_cases h2 : n ≤ hi
  all_goals
    go_enter Try.func174, Try.ntmps174
    go_wp2_with fail
    go_ret
    exact ⟨by simp [inB, h1, h2], rfl⟩

set_option maxHeartbeats 400000 in
theorem in_any (n lo hi : Int) (w : World) : Calls Try.prog 87 #[.int .i64 n, .int .i64 lo, .int .i64 hi] w fun e w' => e = .returned (.bool (inB n lo hi)) ∧ w = w' := by
  by_cases h1 : lo ≤ n <;> by_cases h2 : n ≤ hi
  all_goals
    go_enter Try.func87, Try.ntmps87
    go_wp2_with fail
    go_ret
    exact ⟨by simp [inB, h1, h2], rfl⟩

def Memb.ok (m : Memb) : Bool := inB m.coll 0 1099511627776 && inB m.fund 0 1099511627776
def Secu.ok (m : Secu) : Bool := inB m.price 1 1048576 && inB m.cap m.price 1048576
def membsOk (l : List Memb) : Bool := l.all Memb.ok && inB l.length 2 16
def secsOk (l : List Secu) : Bool := l.all Secu.ok && inB l.length 1 8

set_option maxHeartbeats 400000 in
theorem members_any (A : Option Addr) (n c : Nat) (l : List Memb) (w : World) (hr : Rd w w.heap.size 2 A n (l.flatMap Memb.cells)) (hn : n ≤ 1000) :
    Calls Try.prog 165 #[.slice A n c] w fun e w' => e = .returned (.bool (membsOk l)) ∧ Below w.heap.size w w' := by
  have HL := Lib.hid (hr.len Memb.cells_len (by omega))
  go_enter Try.func165, Try.ntmps165
  go_wp2_with fail
  go_loopw [7] (fun i wr => ∃ k : Nat, k ≤ n ∧ i = .int .i64 k ∧ (l.take k).all Memb.ok = true ∧ Below w.heap.size w wr) (fun i _ => n - (intOf i).toNat)
  case atStart => exact ⟨0, Nat.zero_le _, rfl, rfl, Below.refl _ _⟩
  case round =>
    obtain ⟨k, hk, rfl, hok, hb⟩ := hrel
    have Hhok := Lib.hid hok
    clear hok
    have hs := hb.size
    by_cases hlt : k < n
    · have hg_f : l[k]? = some (l[k]'(by have := HL.out; omega)) := List.getElem?_eq_getElem _
      obtain ⟨b_f, off_f, rfl, hbb_f, hc_f⟩ := (hr.below hb).elem Memb.cells_len hg_f hlt
      have HT_f := Lib.hid (show l.take (k + 1) = l.take k ++ [(l[k]'(by have := HL.out; omega))] from List.take_succ_eq_append_getElem (by have := HL.out; omega))
      have HM_f := Lib.hid (show (l[k]'(by have := HL.out; omega)) ∈ l from List.getElem_mem _)
      generalize (l[k]'(by have := HL.out; omega)) = f at *
      have c0 := hc_f 0 _ rfl
      have c1 := hc_f 1 _ rfl
      clear hc_f hg_f
      simp only [Nat.add_zero] at c0
      obtain ⟨x_H1, H1⟩ : ∃ x, Hid (inB f.coll 0 1099511627776 = x) := ⟨_, rfl⟩
      cases x_H1
      · go_wp2_with fail
        refine (within_any _ _ _ _).mono ?_
        rw [H1.out]
        rintro e w' ⟨rfl, rfl⟩
        go_wp2_with fail
        go_ret
        have hno : l.all Memb.ok = false := List.all_eq_false.2 ⟨f, HM_f.out, by simp [Memb.ok, H1.out]⟩
        exact ⟨by rw [membsOk, hno]; rfl, hb.alloc hs _⟩
      obtain ⟨x_H2, H2⟩ : ∃ x, Hid (inB f.fund 0 1099511627776 = x) := ⟨_, rfl⟩
      cases x_H2
      · go_wp2_with fail
        refine (within_any _ _ _ _).mono ?_
        rw [H1.out]
        rintro e w' ⟨rfl, rfl⟩
        go_wp2_with fail
        refine (within_any _ _ _ _).mono ?_
        rw [H2.out]
        rintro e w' ⟨rfl, rfl⟩
        go_wp2_with fail
        go_ret
        have hno : l.all Memb.ok = false := List.all_eq_false.2 ⟨f, HM_f.out, by simp [Memb.ok, H2.out]⟩
        exact ⟨by rw [membsOk, hno]; rfl, hb.alloc hs _⟩
      · go_wp2_with fail
        refine (within_any _ _ _ _).mono ?_
        rw [H1.out]
        rintro e w' ⟨rfl, rfl⟩
        go_wp2_with fail
        refine (within_any _ _ _ _).mono ?_
        rw [H2.out]
        rintro e w' ⟨rfl, rfl⟩
        go_wp2_with fail
        go_roundw
        case rel => exact ⟨k + 1, by omega, by go_num, by rw [HT_f.out, List.all_append, Hhok.out]; simp [Memb.ok, H1.out, H2.out], hb.alloc hs _⟩
        case measure => simp [intOf]; omega
    · go_wp2_with fail
      refine (many_any _ _ _ _).mono ?_
      rintro e w' ⟨rfl, rfl⟩
      go_wp2_with fail
      go_ret
      have hk' := Hhok.out
      rw [List.take_of_length_le (by have := HL.out; omega)] at hk'
      exact ⟨by rw [membsOk, hk', HL.out]; rfl, hb⟩

set_option maxHeartbeats 400000 in
theorem secs_any (A : Option Addr) (n c : Nat) (l : List Secu) (w : World) (hr : Rd w w.heap.size 2 A n (l.flatMap Secu.cells)) (hn : n ≤ 1000) :
    Calls Try.prog 167 #[.slice A n c] w fun e w' => e = .returned (.bool (secsOk l)) ∧ Below w.heap.size w w' := by
  have HL := Lib.hid (hr.len Secu.cells_len (by omega))
  go_enter Try.func167, Try.ntmps167
  go_wp2_with fail
  go_loopw [7] (fun i wr => ∃ k : Nat, k ≤ n ∧ i = .int .i64 k ∧ (l.take k).all Secu.ok = true ∧ Below w.heap.size w wr) (fun i _ => n - (intOf i).toNat)
  case atStart => exact ⟨0, Nat.zero_le _, rfl, rfl, Below.refl _ _⟩
  case round =>
    obtain ⟨k, hk, rfl, hok, hb⟩ := hrel
    have Hhok := Lib.hid hok
    clear hok
    have hs := hb.size
    by_cases hlt : k < n
    · have hg_f : l[k]? = some (l[k]'(by have := HL.out; omega)) := List.getElem?_eq_getElem _
      obtain ⟨b_f, off_f, rfl, hbb_f, hc_f⟩ := (hr.below hb).elem Secu.cells_len hg_f hlt
      have HT_f := Lib.hid (show l.take (k + 1) = l.take k ++ [(l[k]'(by have := HL.out; omega))] from List.take_succ_eq_append_getElem (by have := HL.out; omega))
      have HM_f := Lib.hid (show (l[k]'(by have := HL.out; omega)) ∈ l from List.getElem_mem _)
      generalize (l[k]'(by have := HL.out; omega)) = f at *
      have c0 := hc_f 0 _ rfl
      have c1 := hc_f 1 _ rfl
      clear hc_f hg_f
      simp only [Nat.add_zero] at c0
      obtain ⟨x_H1, H1⟩ : ∃ x, Hid (inB f.price 1 1048576 = x) := ⟨_, rfl⟩
      cases x_H1
      · go_wp2_with fail
        refine (within_any _ _ _ _).mono ?_
        rw [H1.out]
        rintro e w' ⟨rfl, rfl⟩
        go_wp2_with fail
        go_ret
        have hno : l.all Secu.ok = false := List.all_eq_false.2 ⟨f, HM_f.out, by simp [Secu.ok, H1.out]⟩
        exact ⟨by rw [secsOk, hno]; rfl, hb.alloc hs _⟩
      obtain ⟨x_H2, H2⟩ : ∃ x, Hid (inB f.cap f.price 1048576 = x) := ⟨_, rfl⟩
      cases x_H2
      · go_wp2_with fail
        refine (within_any _ _ _ _).mono ?_
        rw [H1.out]
        rintro e w' ⟨rfl, rfl⟩
        go_wp2_with fail
        refine (within_any _ _ _ _).mono ?_
        rw [H2.out]
        rintro e w' ⟨rfl, rfl⟩
        go_wp2_with fail
        go_ret
        have hno : l.all Secu.ok = false := List.all_eq_false.2 ⟨f, HM_f.out, by simp [Secu.ok, H2.out]⟩
        exact ⟨by rw [secsOk, hno]; rfl, hb.alloc hs _⟩
      · go_wp2_with fail
        refine (within_any _ _ _ _).mono ?_
        rw [H1.out]
        rintro e w' ⟨rfl, rfl⟩
        go_wp2_with fail
        refine (within_any _ _ _ _).mono ?_
        rw [H2.out]
        rintro e w' ⟨rfl, rfl⟩
        go_wp2_with fail
        go_roundw
        case rel => exact ⟨k + 1, by omega, by go_num, by rw [HT_f.out, List.all_append, Hhok.out]; simp [Secu.ok, H1.out, H2.out], hb.alloc hs _⟩
        case measure => simp [intOf]; omega
    · go_wp2_with fail
      refine (many_any _ _ _ _).mono ?_
      rintro e w' ⟨rfl, rfl⟩
      go_wp2_with fail
      go_ret
      have hk' := Hhok.out
      rw [List.take_of_length_le (by have := HL.out; omega)] at hk'
      exact ⟨by rw [secsOk, hk', HL.out]; rfl, hb⟩

/-- All ticks of cycles. -/
def Cyc.ticks (x : Cyc) : List Int := [x.cut, x.fund, x.buyin, x.close]
def ticksOf (l : List Cyc) : List Int := l.flatMap Cyc.ticks
theorem ticksOf_len (l : List Cyc) : (ticksOf l).length = 4 * l.length := by
  induction l with
  | nil => rfl
  | cons x l ih => simp only [ticksOf, List.flatMap_cons, List.length_append, List.length_cons] at ih ⊢; rw [ih]; simp [Cyc.ticks]; omega

theorem int_info : (Try.prog.info? 3).map (fun i => (i.zero, i.size, i.bytes)) = some (some (.int .i64 0), 1, 8) := by kernel_rfl

def intCells (x : Int) : List Value := [.int .i64 x]
theorem intCells_len (x : Int) : (intCells x).length = 1 := rfl

/-- The memory of a config: its three lists. -/
structure CfRd (w : World) (A1 : Option Addr) (n1 : Nat) (A2 : Option Addr) (n2 : Nat) (A3 : Option Addr) (n3 : Nat) (cf : Conf) : Prop where
  m : Rd w w.heap.size 2 A1 n1 (cf.members.flatMap Memb.cells)
  s : Rd w w.heap.size 2 A2 n2 (cf.secs.flatMap Secu.cells)
  c : Rd w w.heap.size 4 A3 n3 (cf.cycles.flatMap Cyc.cells)
  hm : n1 ≤ 1000
  hs : n2 ≤ 1000
  hc : n3 ≤ 1000
theorem CfRd.past {w w' : World} {A1 : Option Addr} {n1 : Nat} {A2 : Option Addr} {n2 : Nat} {A3 : Option Addr} {n3 : Nat} {cf : Conf} (h : CfRd w A1 n1 A2 n2 A3 n3 cf) (hb : Below w.heap.size w w') : CfRd w' A1 n1 A2 n2 A3 n3 cf :=
  ⟨h.m.past hb, h.s.past hb, h.c.past hb, h.hm, h.hs, h.hc⟩
theorem CfRd.alloc {w : World} {A1 : Option Addr} {n1 : Nat} {A2 : Option Addr} {n2 : Nat} {A3 : Option Addr} {n3 : Nat} {cf : Conf} (h : CfRd w A1 n1 A2 n2 A3 n3 cf) (o : Obj) : CfRd (w.alloc o) A1 n1 A2 n2 A3 n3 cf :=
  h.past ((Below.refl _ _).alloc (Nat.le_refl _) o)

set_option maxRecDepth 10000 in
set_option maxHeartbeats 400000 in
theorem ticks_any (A1 A2 A3 : Option Addr) (n1 n2 n3 cp1 cp2 cp3 : Nat) (cf : Conf) (w : World) (hr : CfRd w A1 n1 A2 n2 A3 n3 cf) :
    Calls Try.prog 183 #[.agg #[.slice A1 n1 cp1, .slice A2 n2 cp2, .slice A3 n3 cp3, .int .i64 cf.line, .int .i64 cf.capital, .int .i64 cf.lead, .int .i64 cf.trades, .int .i64 cf.bids]] w fun e w' => ∃ v, e = .returned v ∧ w'.ownsRow w.heap.size 3 1 v (4 * n3) ((ticksOf cf.cycles).flatMap intCells) ∧ Below w.heap.size w w' := by
  have hr3 := hr.c
  have hn := hr.hc
  have HL := Lib.hid (hr3.len Cyc.cells_len (by omega))
  obtain ⟨i0, hi0, hz0, hz1, hz2⟩ := info_parts int_info
  go_enter Try.func183, Try.ntmps183
  go_wp2_with fail
  go_loopw [3, 9] (fun v i wr => ∃ k : Nat, k ≤ n3 ∧ i = .int .i64 k ∧ wr.ownsRow w.heap.size 3 1 v (4 * k) ((ticksOf (cf.cycles.take k)).flatMap intCells) ∧ Below w.heap.size w wr) (fun _ i _ => n3 - (intOf i).toNat)
  case atStart => exact ⟨0, Nat.zero_le _, rfl, World.ownsRow_nil _ _ _ _, (Below.refl _ _).alloc (Nat.le_refl _) _⟩
  case round =>
    obtain ⟨k, hk, rfl, hown, hb⟩ := hrel
    have hs := hb.size
    by_cases hlt : k < n3
    · have hg_f : cf.cycles[k]? = some (cf.cycles[k]'(by have := HL.out; omega)) := List.getElem?_eq_getElem _
      obtain ⟨b_f, off_f, rfl, hbb_f, hc_f⟩ := (hr3.below hb).elem Cyc.cells_len hg_f hlt
      have HT_f := Lib.hid (show cf.cycles.take (k + 1) = cf.cycles.take k ++ [(cf.cycles[k]'(by have := HL.out; omega))] from List.take_succ_eq_append_getElem (by have := HL.out; omega))
      have HM_f := Lib.hid (show (cf.cycles[k]'(by have := HL.out; omega)) ∈ cf.cycles from List.getElem_mem _)
      generalize (cf.cycles[k]'(by have := HL.out; omega)) = f at *
      have c0 := hc_f 0 _ rfl
      have c1 := hc_f 1 _ rfl
      have c2 := hc_f 2 _ rfl
      have c3 := hc_f 3 _ rfl
      clear hc_f hg_f
      simp only [Nat.add_zero] at c0
      go_wp2_with (at_builtin; refine wpList_append_lit _ _ rfl (.tmp 13) (.tmp 22) 227 rfl w.heap.size 3 i0 _ 1 8 Try.underlying227 hi0 hz0 hz1 hz2 rfl (by decide) _ _ _ rfl (hown.alloc _) _ 4 4 rfl (by simp) rfl (by simp [Value.oneCell']) (by omega) (by omega) (by simp; omega) ?_; intro v' w' hown' hg')
      go_roundw
      case rel =>
        refine ⟨k + 1, by omega, by go_num, ?_, ?_⟩
        · rw [HT_f.out]
          simpa [ticksOf, Cyc.ticks, intCells, Nat.mul_add] using hown'
        · exact below_own ((hb.alloc hs _).alloc (by simp; omega) _) hg' hown (by simp; omega) (Nat.le_refl _)
      case measure => simp [intOf]; omega
    · go_wp2_with fail
      go_ret
      refine ⟨_, rfl, ?_, hb⟩
      have e : k = n3 := by omega
      rw [← e]
      rw [List.take_of_length_le (by have := HL.out; omega)] at hown
      exact hown

/-- The ticks rise, from last on; and the last one. -/
def risesB : Int → List Int → Bool
  | _, [] => true
  | last, t :: ts => decide (last < t) && risesB t ts
def lastOf : Int → List Int → Int
  | last, [] => last
  | _, t :: ts => lastOf t ts
def cycsOk (l : List Cyc) : Bool := risesB 0 (ticksOf l) && (inB l.length 1 4 && decide (lastOf 0 (ticksOf l) ≤ 1000))

theorem risesB_pre (l m : List Int) : ∀ a : Int, risesB a (l ++ m) = (risesB a l && risesB (lastOf a l) m) := by
  induction l with
  | nil => intro a; simp [risesB, lastOf]
  | cons x l ih => intro a; rw [List.cons_append, risesB, risesB, ih, lastOf, Bool.and_assoc]
theorem risesB_snoc (l : List Int) (t : Int) (a : Int) : risesB a (l ++ [t]) = (risesB a l && decide (lastOf a l < t)) := by
  rw [risesB_pre]; congr 1; rw [risesB, risesB, Bool.and_true]
theorem lastOf_snoc (l : List Int) (t : Int) : ∀ a : Int, lastOf a (l ++ [t]) = t := by
  induction l with
  | nil => intro a; simp [lastOf]
  | cons x l ih => intro a; simp [lastOf, ih]

set_option maxRecDepth 10000 in
set_option maxHeartbeats 400000 in
theorem cycles_any (A1 A2 A3 : Option Addr) (n1 n2 n3 cp1 cp2 cp3 : Nat) (cf : Conf) (w : World) (hr : CfRd w A1 n1 A2 n2 A3 n3 cf) :
    Calls Try.prog 169 #[.agg #[.slice A1 n1 cp1, .slice A2 n2 cp2, .slice A3 n3 cp3, .int .i64 cf.line, .int .i64 cf.capital, .int .i64 cf.lead, .int .i64 cf.trades, .int .i64 cf.bids]] w fun e w' => e = .returned (.bool (cycsOk cf.cycles)) ∧ Below w.heap.size w w' := by
  have hn := hr.hc
  have HL := Lib.hid (hr.c.len Cyc.cells_len (by omega))
  go_enter Try.func169, Try.ntmps169
  go_wp2_with fail
  refine (ticks_any A1 A2 A3 n1 n2 n3 cp1 cp2 cp3 cf _ (hr.alloc _)).mono ?_
  rintro e w1 ⟨v, rfl, hown, hb1⟩
  have hl := ticksOf_len cf.cycles
  rw [HL.out] at hl
  have Hhl := Lib.hid hl
  clear hl
  obtain ⟨ts, hts⟩ : ∃ ts, Hid (ticksOf cf.cycles = ts) := ⟨_, rfl⟩
  have hl2 : Hid (ts.length = 4 * n3) := by rw [← hts.out]; exact Hhl.out
  rw [hts.out] at hown
  obtain ⟨A, c, rfl⟩ := own_form hown
  have hrd := Rd.of_own hown
  clear hown
  have hc2 := (bcell hb1).1
  have hs1 := hb1.size
  simp at hs1
  have e2 : w1.cell? ⟨w.heap.size, 2, none⟩ = some (.slice A3 n3 cp3) := (hc2 w.heap.size 2 (by simp)).trans (by go_simp)
  clear hc2
  go_wp2_with fail
  go_loop [3, 9] (fun s i => ∃ k : Nat, k ≤ 4 * n3 ∧ i = .int .i64 k ∧ s = .int .i64 (lastOf 0 (ts.take k)) ∧ risesB 0 (ts.take k) = true) (fun _ i => 4 * n3 - (intOf i).toNat)
  case atStart => exact ⟨0, Nat.zero_le _, rfl, rfl, rfl⟩
  case round =>
    obtain ⟨k, hk, rfl, rfl, hri⟩ := hrel
    have Hhri := Lib.hid hri
    clear hri
    have hB : Below w.heap.size w w1 := ((Below.refl _ _).alloc (Nat.le_refl _) _).trans (hb1.mono (by simp))
    by_cases hlt : k < 4 * n3
    · have hg_f : ts[k]? = some (ts[k]'(by have := hl2.out; omega)) := List.getElem?_eq_getElem _
      obtain ⟨b_f, off_f, rfl, hbb_f, hc_f⟩ := (hrd).elem intCells_len hg_f hlt
      have HT_f := Lib.hid (show ts.take (k + 1) = ts.take k ++ [(ts[k]'(by have := hl2.out; omega))] from List.take_succ_eq_append_getElem (by have := hl2.out; omega))
      have HD_f := Lib.hid (show ts.drop k = (ts[k]'(by have := hl2.out; omega)) :: ts.drop (k + 1) from List.drop_eq_getElem_cons (by have := hl2.out; omega))
      have HM_f := Lib.hid (show (ts[k]'(by have := hl2.out; omega)) ∈ ts from List.getElem_mem _)
      generalize (ts[k]'(by have := hl2.out; omega)) = f at *
      have c0 := hc_f 0 _ rfl
      clear hc_f hg_f
      simp only [Nat.add_zero, Nat.mul_one] at c0
      by_cases hle : f ≤ lastOf 0 (ts.take k)
      · go_wp2_with fail
        go_ret
        have hno : risesB 0 ts = false := by
          rw [← List.take_append_drop k ts, risesB_pre, Hhri.out, HD_f.out, risesB, decide_eq_false (by omega)]; rfl
        exact ⟨by rw [cycsOk, hts.out, hno]; rfl, hB⟩
      · go_wp2_with fail
        go_round
        case rel => exact ⟨k + 1, by omega, by go_num, by rw [HT_f.out, lastOf_snoc], by rw [HT_f.out, risesB_snoc, Hhri.out, decide_eq_true (by omega)]; rfl⟩
        case measure => simp [intOf]; omega
    · have hall : ts.take k = ts := List.take_of_length_le (by have := hl2.out; omega)
      rw [hall] at Hhri ⊢
      clear hall
      obtain ⟨x_H1, H1⟩ : ∃ x, Hid (inB n3 1 4 = x) := ⟨_, rfl⟩
      cases x_H1
      · go_wp2_with fail
        refine (many_any _ _ _ _).mono ?_
        rw [H1.out]
        rintro e w' ⟨rfl, rfl⟩
        go_wp2_with fail
        go_ret
        exact ⟨by rw [cycsOk, hts.out, Hhri.out, HL.out, H1.out]; rfl, hB⟩
      · go_wp2_with fail
        refine (many_any _ _ _ _).mono ?_
        rw [H1.out]
        rintro e w' ⟨rfl, rfl⟩
        go_wp2_with fail
        go_ret
        exact ⟨by rw [cycsOk, hts.out, Hhri.out, HL.out, H1.out]; rfl, hB⟩
end Go.Proofs.Ytelbolhckhdioaa
