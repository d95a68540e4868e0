import Derived.Test.YtfilpmmimpkfmabDoorBase
namespace Go.Proofs.YtfilpmmimpkfmabDoor
open Go.RowKit

structure Memb where
  coll : Int
  fund : Int
structure Secu where
  price : Int
  cap : Int
structure Cyc where
  cut : Int
  fund : Int
  buyin : Int
  close : Int
structure Conf where
  members : List Memb
  secs : List Secu
  cycles : List Cyc
  line : Int
  capital : Int
  lead : Int
  trades : Int
  bids : Int

def Memb.cells (m : Memb) : List Value := [.int .i64 m.coll, .int .i64 m.fund]
def Secu.cells (m : Secu) : List Value := [.int .i64 m.price, .int .i64 m.cap]
def Cyc.cells (m : Cyc) : List Value := [.int .i64 m.cut, .int .i64 m.fund, .int .i64 m.buyin, .int .i64 m.close]
theorem Memb.cells_len (m : Memb) : m.cells.length = 2 := rfl
theorem Secu.cells_len (m : Secu) : m.cells.length = 2 := rfl
theorem Cyc.cells_len (m : Cyc) : m.cells.length = 4 := rfl

/-- From one number to another. -/
def inB (n lo hi : Int) : Bool := decide (lo ≤ n) && decide (n ≤ hi)
theorem inB_iff (n lo hi : Int) : inB n lo hi = true ↔ lo ≤ n ∧ n ≤ hi := by simp [inB]

def Memb.ok (m : Memb) : Bool := inB m.coll 0 1099511627776 && inB m.fund 0 1099511627776
def Secu.ok (m : Secu) : Bool := inB m.price 1 1048576 && inB m.cap m.price 1048576
def membsOk (l : List Memb) : Bool := l.all Memb.ok && inB l.length 2 16
def secsOk (l : List Secu) : Bool := l.all Secu.ok && inB l.length 1 8

/-- All ticks of cycles. -/
def Cyc.ticks (x : Cyc) : List Int := [x.cut, x.fund, x.buyin, x.close]
def ticksOf (l : List Cyc) : List Int := l.flatMap Cyc.ticks
theorem ticksOf_len (l : List Cyc) : (ticksOf l).length = 4 * l.length := by
  induction l with
  | nil => rfl
  | cons x l ih => simp only [ticksOf, List.flatMap_cons, List.length_append, List.length_cons] at ih ⊢; rw [ih]; simp [Cyc.ticks]; omega

theorem int_info : (Tryd.prog.info? 3).map (fun i => (i.zero, i.size, i.bytes)) = some (some (.int .i64 0), 1, 8) := by kernel_rfl

def intCells (x : Int) : List Value := [.int .i64 x]
theorem intCells_len (x : Int) : (intCells x).length = 1 := rfl

/-- The memory of a config: its three lists. -/
structure CfRd (w : World) (A1 : Option Addr) (n1 : Nat) (A2 : Option Addr) (n2 : Nat) (A3 : Option Addr) (n3 : Nat) (cf : Conf) : Prop where
  m : Rd w w.heap.size 2 A1 n1 (cf.members.flatMap Memb.cells)
  s : Rd w w.heap.size 2 A2 n2 (cf.secs.flatMap Secu.cells)
  c : Rd w w.heap.size 4 A3 n3 (cf.cycles.flatMap Cyc.cells)
  hm : n1 ≤ 1000
  hs : n2 ≤ 1000
  hc : n3 ≤ 1000
theorem CfRd.past {w w' : World} {A1 : Option Addr} {n1 : Nat} {A2 : Option Addr} {n2 : Nat} {A3 : Option Addr} {n3 : Nat} {cf : Conf} (h : CfRd w A1 n1 A2 n2 A3 n3 cf) (hb : Below w.heap.size w w') : CfRd w' A1 n1 A2 n2 A3 n3 cf :=
  ⟨h.m.past hb, h.s.past hb, h.c.past hb, h.hm, h.hs, h.hc⟩
theorem CfRd.alloc {w : World} {A1 : Option Addr} {n1 : Nat} {A2 : Option Addr} {n2 : Nat} {A3 : Option Addr} {n3 : Nat} {cf : Conf} (h : CfRd w A1 n1 A2 n2 A3 n3 cf) (o : Obj) : CfRd (w.alloc o) A1 n1 A2 n2 A3 n3 cf :=
  h.past ((Below.refl _ _).alloc (Nat.le_refl _) o)

/-- The ticks rise, from last on; and the last one. -/
def risesB : Int → List Int → Bool
  | _, [] => true
  | last, t :: ts => decide (last < t) && risesB t ts
def lastOf : Int → List Int → Int
  | last, [] => last
  | _, t :: ts => lastOf t ts
def cycsOk (l : List Cyc) : Bool := risesB 0 (ticksOf l) && (inB l.length 1 4 && decide (lastOf 0 (ticksOf l) ≤ 1000))

theorem risesB_pre (l m : List Int) : ∀ a : Int, risesB a (l ++ m) = (risesB a l && risesB (lastOf a l) m) := by
  induction l with
  | nil => intro a; simp [risesB, lastOf]
  | cons x l ih => intro a; rw [List.cons_append, risesB, risesB, ih, lastOf, Bool.and_assoc]
theorem risesB_snoc (l : List Int) (t : Int) (a : Int) : risesB a (l ++ [t]) = (risesB a l && decide (lastOf a l < t)) := by
  rw [risesB_pre]; congr 1; rw [risesB, risesB, Bool.and_true]
theorem lastOf_snoc (l : List Int) (t : Int) : ∀ a : Int, lastOf a (l ++ [t]) = t := by
  induction l with
  | nil => intro a; simp [lastOf]
  | cons x l ih => intro a; simp [lastOf, ih]

end Go.Proofs.YtfilpmmimpkfmabDoor
