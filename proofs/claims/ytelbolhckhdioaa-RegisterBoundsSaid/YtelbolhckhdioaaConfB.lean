import Derived.Test.YtelbolhckhdioaaConfA
namespace Go.Proofs.Ytelbolhckhdioaa
open Go.RowKit

/-- A config that lies in a variable: the block's eight cells. -/
structure Box (w : World) (b : Nat) (A1 : Option Addr) (n1 cp1 : Nat) (A2 : Option Addr) (n2 cp2 : Nat) (A3 : Option Addr) (n3 cp3 : Nat) (cf : Conf) : Prop where
  b0 : w.cell? ⟨b, 0, none⟩ = some (.slice A1 n1 cp1)
  b1 : w.cell? ⟨b, 1, none⟩ = some (.slice A2 n2 cp2)
  b2 : w.cell? ⟨b, 2, none⟩ = some (.slice A3 n3 cp3)
  b3 : w.cell? ⟨b, 3, none⟩ = some (.int .i64 cf.line)
  b4 : w.cell? ⟨b, 4, none⟩ = some (.int .i64 cf.capital)
  b5 : w.cell? ⟨b, 5, none⟩ = some (.int .i64 cf.lead)
  b6 : w.cell? ⟨b, 6, none⟩ = some (.int .i64 cf.trades)
  b7 : w.cell? ⟨b, 7, none⟩ = some (.int .i64 cf.bids)
theorem Box.past {w w' : World} {b : Nat} {A1 : Option Addr} {n1 cp1 : Nat} {A2 : Option Addr} {n2 cp2 : Nat} {A3 : Option Addr} {n3 cp3 : Nat} {cf : Conf} (h : Box w b A1 n1 cp1 A2 n2 cp2 A3 n3 cp3 cf) (hb : Below w.heap.size w w') (hlt : b < w.heap.size) : Box w' b A1 n1 cp1 A2 n2 cp2 A3 n3 cp3 cf :=
  ⟨(hb.cell (p := ⟨b, 0, none⟩) hlt).trans h.b0, (hb.cell (p := ⟨b, 1, none⟩) hlt).trans h.b1, (hb.cell (p := ⟨b, 2, none⟩) hlt).trans h.b2, (hb.cell (p := ⟨b, 3, none⟩) hlt).trans h.b3,
   (hb.cell (p := ⟨b, 4, none⟩) hlt).trans h.b4, (hb.cell (p := ⟨b, 5, none⟩) hlt).trans h.b5, (hb.cell (p := ⟨b, 6, none⟩) hlt).trans h.b6, (hb.cell (p := ⟨b, 7, none⟩) hlt).trans h.b7⟩

/-- What is wrong with a config, place by place. -/
def badAt (cf : Conf) : Nat → Bool
  | 0 => !membsOk cf.members
  | 1 => !secsOk cf.secs
  | 2 => !cycsOk cf.cycles
  | 3 => !inB cf.line 0 1099511627776
  | 4 => !inB cf.capital 0 1099511627776
  | 5 => !inB cf.lead 0 1000
  | 6 => !inB cf.trades 1 64
  | 7 => !inB cf.bids 1 32
  | _ => true
/-- The place of what is wrong first; 8: nothing. -/
def wrongK (cf : Conf) : Nat := if badAt cf 0 then 0 else if badAt cf 1 then 1 else if badAt cf 2 then 2 else if badAt cf 3 then 3 else if badAt cf 4 then 4 else if badAt cf 5 then 5 else if badAt cf 6 then 6 else if badAt cf 7 then 7 else 8
def word : Nat → ByteArray
  | 0 => ⟨#[109, 101, 109, 98, 101, 114, 115]⟩
  | 1 => ⟨#[115, 101, 99, 115]⟩
  | 2 => ⟨#[99, 121, 99, 108, 101, 115]⟩
  | 3 => ⟨#[108, 105, 110, 101]⟩
  | 4 => ⟨#[99, 97, 112, 105, 116, 97, 108]⟩
  | 5 => ⟨#[108, 101, 97, 100]⟩
  | 6 => ⟨#[116, 114, 97, 100, 101, 115]⟩
  | 7 => ⟨#[98, 105, 100, 115]⟩
  | _ => ⟨#[]⟩
theorem wrongK_at (cf : Conf) (k : Nat) (hk : k ≤ 8) (h : ∀ j, j < k → badAt cf j = false) (hb : k < 8 → badAt cf k = true) : wrongK cf = k := by
  unfold wrongK
  obtain rfl | rfl | rfl | rfl | rfl | rfl | rfl | rfl | rfl : k = 0 ∨ k = 1 ∨ k = 2 ∨ k = 3 ∨ k = 4 ∨ k = 5 ∨ k = 6 ∨ k = 7 ∨ k = 8 := by omega
  · simp [hb (by omega)]
  · simp [h 0 (by omega), hb (by omega)]
  · simp [h 0 (by omega), h 1 (by omega), hb (by omega)]
  · simp [h 0 (by omega), h 1 (by omega), h 2 (by omega), hb (by omega)]
  · simp [h 0 (by omega), h 1 (by omega), h 2 (by omega), h 3 (by omega), hb (by omega)]
  · simp [h 0 (by omega), h 1 (by omega), h 2 (by omega), h 3 (by omega), h 4 (by omega), hb (by omega)]
  · simp [h 0 (by omega), h 1 (by omega), h 2 (by omega), h 3 (by omega), h 4 (by omega), h 5 (by omega), hb (by omega)]
  · simp [h 0 (by omega), h 1 (by omega), h 2 (by omega), h 3 (by omega), h 4 (by omega), h 5 (by omega), h 6 (by omega), hb (by omega)]
  · simp [h 0 (by omega), h 1 (by omega), h 2 (by omega), h 3 (by omega), h 4 (by omega), h 5 (by omega), h 6 (by omega), h 7 (by omega)]

set_option maxHeartbeats 400000 in
theorem chk1 (b : Nat) (A1 A2 A3 : Option Addr) (n1 n2 n3 cp1 cp2 cp3 : Nat) (cf : Conf) (w : World) (hbx : Box w b A1 n1 cp1 A2 n2 cp2 A3 n3 cp3 cf) (hr : CfRd w A1 n1 A2 n2 A3 n3 cf) :
    Calls Try.prog 164 #[.pointer (some ⟨b, 0, none⟩)] w fun e w' => e = .returned (.bool (badAt cf 0)) ∧ Below w.heap.size w w' := by
  obtain ⟨b0, b1, b2, b3, b4, b5, b6, b7⟩ := hbx
  go_enter Try.func164, Try.ntmps164
  go_wp2_with fail
  refine (members_any _ _ _ cf.members _ hr.m hr.hm).mono ?_
  rintro e w' ⟨rfl, hb⟩
  go_wp2_with fail
  go_ret
  exact ⟨rfl, hb⟩

set_option maxHeartbeats 400000 in
theorem chk2 (b : Nat) (A1 A2 A3 : Option Addr) (n1 n2 n3 cp1 cp2 cp3 : Nat) (cf : Conf) (w : World) (hbx : Box w b A1 n1 cp1 A2 n2 cp2 A3 n3 cp3 cf) (hr : CfRd w A1 n1 A2 n2 A3 n3 cf) :
    Calls Try.prog 166 #[.pointer (some ⟨b, 0, none⟩)] w fun e w' => e = .returned (.bool (badAt cf 1)) ∧ Below w.heap.size w w' := by
  obtain ⟨b0, b1, b2, b3, b4, b5, b6, b7⟩ := hbx
  go_enter Try.func166, Try.ntmps166
  go_wp2_with fail
  refine (secs_any _ _ _ cf.secs _ hr.s hr.hs).mono ?_
  rintro e w' ⟨rfl, hb⟩
  go_wp2_with fail
  go_ret
  exact ⟨rfl, hb⟩

set_option maxHeartbeats 400000 in
theorem chk3 (b : Nat) (A1 A2 A3 : Option Addr) (n1 n2 n3 cp1 cp2 cp3 : Nat) (cf : Conf) (w : World) (hbx : Box w b A1 n1 cp1 A2 n2 cp2 A3 n3 cp3 cf) (hr : CfRd w A1 n1 A2 n2 A3 n3 cf) :
    Calls Try.prog 168 #[.pointer (some ⟨b, 0, none⟩)] w fun e w' => e = .returned (.bool (badAt cf 2)) ∧ Below w.heap.size w w' := by
  obtain ⟨b0, b1, b2, b3, b4, b5, b6, b7⟩ := hbx
  go_enter Try.func168, Try.ntmps168
  go_wp2_with fail
  refine (cycles_any A1 A2 A3 n1 n2 n3 cp1 cp2 cp3 cf _ hr).mono ?_
  rintro e w' ⟨rfl, hb⟩
  go_wp2_with fail
  go_ret
  exact ⟨rfl, hb⟩

set_option maxHeartbeats 400000 in
theorem chk4 (b : Nat) (A1 A2 A3 : Option Addr) (n1 n2 n3 cp1 cp2 cp3 : Nat) (cf : Conf) (w : World) (hbx : Box w b A1 n1 cp1 A2 n2 cp2 A3 n3 cp3 cf) (hr : CfRd w A1 n1 A2 n2 A3 n3 cf) :
    Calls Try.prog 170 #[.pointer (some ⟨b, 0, none⟩)] w fun e w' => e = .returned (.bool (badAt cf 3)) ∧ Below w.heap.size w w' := by
  obtain ⟨b0, b1, b2, b3, b4, b5, b6, b7⟩ := hbx
  go_enter Try.func170, Try.ntmps170
  go_wp2_with fail
  refine (within_any _ _ _ _).mono ?_
  rintro e w' ⟨rfl, rfl⟩
  go_wp2_with fail
  go_ret
  exact ⟨rfl, Below.refl _ _⟩

set_option maxHeartbeats 400000 in
theorem chk5 (b : Nat) (A1 A2 A3 : Option Addr) (n1 n2 n3 cp1 cp2 cp3 : Nat) (cf : Conf) (w : World) (hbx : Box w b A1 n1 cp1 A2 n2 cp2 A3 n3 cp3 cf) (hr : CfRd w A1 n1 A2 n2 A3 n3 cf) :
    Calls Try.prog 172 #[.pointer (some ⟨b, 0, none⟩)] w fun e w' => e = .returned (.bool (badAt cf 4)) ∧ Below w.heap.size w w' := by
  obtain ⟨b0, b1, b2, b3, b4, b5, b6, b7⟩ := hbx
  go_enter Try.func172, Try.ntmps172
  go_wp2_with fail
  refine (within_any _ _ _ _).mono ?_
  rintro e w' ⟨rfl, rfl⟩
  go_wp2_with fail
  go_ret
  exact ⟨rfl, Below.refl _ _⟩

set_option maxHeartbeats 400000 in
theorem chk6 (b : Nat) (A1 A2 A3 : Option Addr) (n1 n2 n3 cp1 cp2 cp3 : Nat) (cf : Conf) (w : World) (hbx : Box w b A1 n1 cp1 A2 n2 cp2 A3 n3 cp3 cf) (hr : CfRd w A1 n1 A2 n2 A3 n3 cf) :
    Calls Try.prog 173 #[.pointer (some ⟨b, 0, none⟩)] w fun e w' => e = .returned (.bool (badAt cf 5)) ∧ Below w.heap.size w w' := by
  obtain ⟨b0, b1, b2, b3, b4, b5, b6, b7⟩ := hbx
  go_enter Try.func173, Try.ntmps173
  go_wp2_with fail
  refine (many_any _ _ _ _).mono ?_
  rintro e w' ⟨rfl, rfl⟩
  go_wp2_with fail
  go_ret
  exact ⟨rfl, Below.refl _ _⟩

set_option maxHeartbeats 400000 in
theorem chk7 (b : Nat) (A1 A2 A3 : Option Addr) (n1 n2 n3 cp1 cp2 cp3 : Nat) (cf : Conf) (w : World) (hbx : Box w b A1 n1 cp1 A2 n2 cp2 A3 n3 cp3 cf) (hr : CfRd w A1 n1 A2 n2 A3 n3 cf) :
    Calls Try.prog 175 #[.pointer (some ⟨b, 0, none⟩)] w fun e w' => e = .returned (.bool (badAt cf 6)) ∧ Below w.heap.size w w' := by
  obtain ⟨b0, b1, b2, b3, b4, b5, b6, b7⟩ := hbx
  go_enter Try.func175, Try.ntmps175
  go_wp2_with fail
  refine (many_any _ _ _ _).mono ?_
  rintro e w' ⟨rfl, rfl⟩
  go_wp2_with fail
  go_ret
  exact ⟨rfl, Below.refl _ _⟩

set_option maxHeartbeats 400000 in
theorem chk8 (b : Nat) (A1 A2 A3 : Option Addr) (n1 n2 n3 cp1 cp2 cp3 : Nat) (cf : Conf) (w : World) (hbx : Box w b A1 n1 cp1 A2 n2 cp2 A3 n3 cp3 cf) (hr : CfRd w A1 n1 A2 n2 A3 n3 cf) :
    Calls Try.prog 176 #[.pointer (some ⟨b, 0, none⟩)] w fun e w' => e = .returned (.bool (badAt cf 7)) ∧ Below w.heap.size w w' := by
  obtain ⟨b0, b1, b2, b3, b4, b5, b6, b7⟩ := hbx
  go_enter Try.func176, Try.ntmps176
  go_wp2_with fail
  refine (many_any _ _ _ _).mono ?_
  rintro e w' ⟨rfl, rfl⟩
  go_wp2_with fail
  go_ret
  exact ⟨rfl, Below.refl _ _⟩

/-- The checks in memory: words and functions that hold the config's variable. -/
structure Chks (w : World) (g b : Nat) : Prop where
  s0 : w.cell? ⟨g, 0, none⟩ = some (.string (word 0))
  p0 : w.cell? ⟨g, 1, none⟩ = some (.func (Fn.func 164) #[] #[.pointer (some ⟨b, 0, none⟩)])
  s1 : w.cell? ⟨g, 2, none⟩ = some (.string (word 1))
  p1 : w.cell? ⟨g, 3, none⟩ = some (.func (Fn.func 166) #[] #[.pointer (some ⟨b, 0, none⟩)])
  s2 : w.cell? ⟨g, 4, none⟩ = some (.string (word 2))
  p2 : w.cell? ⟨g, 5, none⟩ = some (.func (Fn.func 168) #[] #[.pointer (some ⟨b, 0, none⟩)])
  s3 : w.cell? ⟨g, 6, none⟩ = some (.string (word 3))
  p3 : w.cell? ⟨g, 7, none⟩ = some (.func (Fn.func 170) #[] #[.pointer (some ⟨b, 0, none⟩)])
  s4 : w.cell? ⟨g, 8, none⟩ = some (.string (word 4))
  p4 : w.cell? ⟨g, 9, none⟩ = some (.func (Fn.func 172) #[] #[.pointer (some ⟨b, 0, none⟩)])
  s5 : w.cell? ⟨g, 10, none⟩ = some (.string (word 5))
  p5 : w.cell? ⟨g, 11, none⟩ = some (.func (Fn.func 173) #[] #[.pointer (some ⟨b, 0, none⟩)])
  s6 : w.cell? ⟨g, 12, none⟩ = some (.string (word 6))
  p6 : w.cell? ⟨g, 13, none⟩ = some (.func (Fn.func 175) #[] #[.pointer (some ⟨b, 0, none⟩)])
  s7 : w.cell? ⟨g, 14, none⟩ = some (.string (word 7))
  p7 : w.cell? ⟨g, 15, none⟩ = some (.func (Fn.func 176) #[] #[.pointer (some ⟨b, 0, none⟩)])

def ChksAt (w : World) (A1 : Option Addr) (n1 cp1 : Nat) (A2 : Option Addr) (n2 cp2 : Nat) (A3 : Option Addr) (n3 cp3 : Nat) (cf : Conf) (e : Ending) (w' : World) : Prop :=
  ∃ g b, e = .returned (.slice (some ⟨g, 0, none⟩) 8 8) ∧ Chks w' g b ∧ Box w' b A1 n1 cp1 A2 n2 cp2 A3 n3 cp3 cf ∧ g < w'.heap.size ∧ b < w'.heap.size ∧ Below w.heap.size w w'

set_option maxRecDepth 100000 in
set_option maxHeartbeats 1000000 in
theorem checks_any (A1 A2 A3 : Option Addr) (n1 n2 n3 cp1 cp2 cp3 : Nat) (cf : Conf) (w : World) :
    Calls Try.prog 150 #[.agg #[.slice A1 n1 cp1, .slice A2 n2 cp2, .slice A3 n3 cp3, .int .i64 cf.line, .int .i64 cf.capital, .int .i64 cf.lead, .int .i64 cf.trades, .int .i64 cf.bids]] w (ChksAt w A1 n1 cp1 A2 n2 cp2 A3 n3 cp3 cf) := by
  go_enter Try.func150, Try.ntmps150
  go_wp2_with fail
  go_ret
  refine ⟨w.heap.size + 1, w.heap.size, rfl, ⟨?_, ?_, ?_, ?_, ?_, ?_, ?_, ?_, ?_, ?_, ?_, ?_, ?_, ?_, ?_, ?_⟩, ⟨?_, ?_, ?_, ?_, ?_, ?_, ?_, ?_⟩, by simp, by simp; omega, ((Below.refl _ _).alloc (Nat.le_refl _) _).alloc (by simp) _⟩
  all_goals (go_simp <;> rfl)

theorem Box.alloc {w : World} {b : Nat} {A1 : Option Addr} {n1 cp1 : Nat} {A2 : Option Addr} {n2 cp2 : Nat} {A3 : Option Addr} {n3 cp3 : Nat} {cf : Conf} (h : Box w b A1 n1 cp1 A2 n2 cp2 A3 n3 cp3 cf) (o : Obj) (hlt : b < w.heap.size) : Box (w.alloc o) b A1 n1 cp1 A2 n2 cp2 A3 n3 cp3 cf :=
  h.past ((Below.refl _ _).alloc (Nat.le_refl _) o) hlt

set_option maxRecDepth 100000 in
set_option maxHeartbeats 4000000 in
theorem wrong_any (A1 A2 A3 : Option Addr) (n1 n2 n3 cp1 cp2 cp3 : Nat) (cf : Conf) (w : World) (hr : CfRd w A1 n1 A2 n2 A3 n3 cf) :
    Calls Try.prog 124 #[.agg #[.slice A1 n1 cp1, .slice A2 n2 cp2, .slice A3 n3 cp3, .int .i64 cf.line, .int .i64 cf.capital, .int .i64 cf.lead, .int .i64 cf.trades, .int .i64 cf.bids]] w fun e w' => e = .returned (.string (word (wrongK cf))) ∧ Below w.heap.size w w' := by
  go_enter Try.func124, Try.ntmps124
  go_wp2_with fail
  refine (checks_any A1 A2 A3 n1 n2 n3 cp1 cp2 cp3 cf _).mono ?_
  rintro e w1 ⟨g, b, rfl, hck, hbx1, hg, hblt1, hb1⟩
  have hs1 := hb1.size
  simp at hs1
  have hB : Below w.heap.size w w1 := ((Below.refl _ _).alloc (Nat.le_refl _) _).trans (hb1.mono (by simp))
  have hcf1 := hr.past hB
  obtain ⟨s0, p0, s1, p1, s2, p2, s3, p3, s4, p4, s5, p5, s6, p6, s7, p7⟩ := hck
  have hs0 := fun (wr : World) (h : Below w1.heap.size w1 wr) => (h.cell (p := ⟨g, 0, none⟩) hg).trans s0
  have hp0 := fun (wr : World) (h : Below w1.heap.size w1 wr) => (h.cell (p := ⟨g, 1, none⟩) hg).trans p0
  have hs1 := fun (wr : World) (h : Below w1.heap.size w1 wr) => (h.cell (p := ⟨g, 2, none⟩) hg).trans s1
  have hp1 := fun (wr : World) (h : Below w1.heap.size w1 wr) => (h.cell (p := ⟨g, 3, none⟩) hg).trans p1
  have hs2 := fun (wr : World) (h : Below w1.heap.size w1 wr) => (h.cell (p := ⟨g, 4, none⟩) hg).trans s2
  have hp2 := fun (wr : World) (h : Below w1.heap.size w1 wr) => (h.cell (p := ⟨g, 5, none⟩) hg).trans p2
  have hs3 := fun (wr : World) (h : Below w1.heap.size w1 wr) => (h.cell (p := ⟨g, 6, none⟩) hg).trans s3
  have hp3 := fun (wr : World) (h : Below w1.heap.size w1 wr) => (h.cell (p := ⟨g, 7, none⟩) hg).trans p3
  have hs4 := fun (wr : World) (h : Below w1.heap.size w1 wr) => (h.cell (p := ⟨g, 8, none⟩) hg).trans s4
  have hp4 := fun (wr : World) (h : Below w1.heap.size w1 wr) => (h.cell (p := ⟨g, 9, none⟩) hg).trans p4
  have hs5 := fun (wr : World) (h : Below w1.heap.size w1 wr) => (h.cell (p := ⟨g, 10, none⟩) hg).trans s5
  have hp5 := fun (wr : World) (h : Below w1.heap.size w1 wr) => (h.cell (p := ⟨g, 11, none⟩) hg).trans p5
  have hs6 := fun (wr : World) (h : Below w1.heap.size w1 wr) => (h.cell (p := ⟨g, 12, none⟩) hg).trans s6
  have hp6 := fun (wr : World) (h : Below w1.heap.size w1 wr) => (h.cell (p := ⟨g, 13, none⟩) hg).trans p6
  have hs7 := fun (wr : World) (h : Below w1.heap.size w1 wr) => (h.cell (p := ⟨g, 14, none⟩) hg).trans s7
  have hp7 := fun (wr : World) (h : Below w1.heap.size w1 wr) => (h.cell (p := ⟨g, 15, none⟩) hg).trans p7
  clear s0 p0 s1 p1 s2 p2 s3 p3 s4 p4 s5 p5 s6 p6 s7 p7
  go_wp2_with fail
  go_loopw [8] (fun i wr => ∃ k : Nat, k ≤ 8 ∧ i = .int .i64 k ∧ (∀ j, j < k → badAt cf j = false) ∧ Below w1.heap.size w1 wr) (fun i _ => 8 - (intOf i).toNat)
  case atStart => exact ⟨0, Nat.zero_le _, rfl, fun j h => absurd h (Nat.not_lt_zero j), Below.refl _ _⟩
  case round =>
    obtain ⟨k, hk, rfl, hno, hb⟩ := hrel
    have Hno := Lib.hid hno
    clear hno
    have hs := hb.size
    have hbx := hbx1.past hb hblt1
    have hcf := hcf1.past hb
    have hblt : b < wr.heap.size := by omega
    by_cases hlt : k < 8
    · obtain rfl | rfl | rfl | rfl | rfl | rfl | rfl | rfl : k = 0 ∨ k = 1 ∨ k = 2 ∨ k = 3 ∨ k = 4 ∨ k = 5 ∨ k = 6 ∨ k = 7 := by omega
      · have e0 := hs0 wr hb
        have e1 := hp0 wr hb
        obtain ⟨x_H1, H1⟩ : ∃ x, Hid (badAt cf 0 = x) := ⟨_, rfl⟩
        cases x_H1
        · go_wp2_with fail
          refine (chk1 b A1 A2 A3 n1 n2 n3 cp1 cp2 cp3 cf _ (hbx.alloc _ hblt) (hcf.alloc _)).mono ?_
          rw [H1.out]
          rintro e w2 ⟨rfl, hb2⟩
          go_wp2_with fail
          go_roundw
          case rel => exact ⟨1, by omega, rfl, fun i hi => (Nat.lt_succ_iff_lt_or_eq.1 hi).elim (fun h => Hno.out i h) (fun h => by rw [h]; exact H1.out), Below.past (hb.alloc hs _) hb2 (by simp; omega)⟩
          case measure => simp [intOf]
        · go_wp2_with fail
          refine (chk1 b A1 A2 A3 n1 n2 n3 cp1 cp2 cp3 cf _ (hbx.alloc _ hblt) (hcf.alloc _)).mono ?_
          rw [H1.out]
          rintro e w2 ⟨rfl, hb2⟩
          have e3 : w2.cell? ⟨wr.heap.size, 0, none⟩ = some (.string (word 0)) := (hb2.cell (p := ⟨wr.heap.size, 0, none⟩) (by simp)).trans (by go_simp)
          go_wp2_with fail
          go_ret
          exact ⟨by rw [wrongK_at cf 0 (by omega) Hno.out (fun _ => H1.out)]; rfl, Below.past hB (Below.past (hb.alloc hs _) hb2 (by simp; omega)) (by omega)⟩
      · have e0 := hs1 wr hb
        have e1 := hp1 wr hb
        obtain ⟨x_H1, H1⟩ : ∃ x, Hid (badAt cf 1 = x) := ⟨_, rfl⟩
        cases x_H1
        · go_wp2_with fail
          refine (chk2 b A1 A2 A3 n1 n2 n3 cp1 cp2 cp3 cf _ (hbx.alloc _ hblt) (hcf.alloc _)).mono ?_
          rw [H1.out]
          rintro e w2 ⟨rfl, hb2⟩
          go_wp2_with fail
          go_roundw
          case rel => exact ⟨2, by omega, rfl, fun i hi => (Nat.lt_succ_iff_lt_or_eq.1 hi).elim (fun h => Hno.out i h) (fun h => by rw [h]; exact H1.out), Below.past (hb.alloc hs _) hb2 (by simp; omega)⟩
          case measure => simp [intOf]
        · go_wp2_with fail
          refine (chk2 b A1 A2 A3 n1 n2 n3 cp1 cp2 cp3 cf _ (hbx.alloc _ hblt) (hcf.alloc _)).mono ?_
          rw [H1.out]
          rintro e w2 ⟨rfl, hb2⟩
          have e3 : w2.cell? ⟨wr.heap.size, 0, none⟩ = some (.string (word 1)) := (hb2.cell (p := ⟨wr.heap.size, 0, none⟩) (by simp)).trans (by go_simp)
          go_wp2_with fail
          go_ret
          exact ⟨by rw [wrongK_at cf 1 (by omega) Hno.out (fun _ => H1.out)]; rfl, Below.past hB (Below.past (hb.alloc hs _) hb2 (by simp; omega)) (by omega)⟩
      · have e0 := hs2 wr hb
        have e1 := hp2 wr hb
        obtain ⟨x_H1, H1⟩ : ∃ x, Hid (badAt cf 2 = x) := ⟨_, rfl⟩
        cases x_H1
        · go_wp2_with fail
          refine (chk3 b A1 A2 A3 n1 n2 n3 cp1 cp2 cp3 cf _ (hbx.alloc _ hblt) (hcf.alloc _)).mono ?_
          rw [H1.out]
          rintro e w2 ⟨rfl, hb2⟩
          go_wp2_with fail
          go_roundw
          case rel => exact ⟨3, by omega, rfl, fun i hi => (Nat.lt_succ_iff_lt_or_eq.1 hi).elim (fun h => Hno.out i h) (fun h => by rw [h]; exact H1.out), Below.past (hb.alloc hs _) hb2 (by simp; omega)⟩
          case measure => simp [intOf]
        · go_wp2_with fail
          refine (chk3 b A1 A2 A3 n1 n2 n3 cp1 cp2 cp3 cf _ (hbx.alloc _ hblt) (hcf.alloc _)).mono ?_
          rw [H1.out]
          rintro e w2 ⟨rfl, hb2⟩
          have e3 : w2.cell? ⟨wr.heap.size, 0, none⟩ = some (.string (word 2)) := (hb2.cell (p := ⟨wr.heap.size, 0, none⟩) (by simp)).trans (by go_simp)
          go_wp2_with fail
          go_ret
          exact ⟨by rw [wrongK_at cf 2 (by omega) Hno.out (fun _ => H1.out)]; rfl, Below.past hB (Below.past (hb.alloc hs _) hb2 (by simp; omega)) (by omega)⟩
      · have e0 := hs3 wr hb
        have e1 := hp3 wr hb
        obtain ⟨x_H1, H1⟩ : ∃ x, Hid (badAt cf 3 = x) := ⟨_, rfl⟩
        cases x_H1
        · go_wp2_with fail
          refine (chk4 b A1 A2 A3 n1 n2 n3 cp1 cp2 cp3 cf _ (hbx.alloc _ hblt) (hcf.alloc _)).mono ?_
          rw [H1.out]
          rintro e w2 ⟨rfl, hb2⟩
          go_wp2_with fail
          go_roundw
          case rel => exact ⟨4, by omega, rfl, fun i hi => (Nat.lt_succ_iff_lt_or_eq.1 hi).elim (fun h => Hno.out i h) (fun h => by rw [h]; exact H1.out), Below.past (hb.alloc hs _) hb2 (by simp; omega)⟩
          case measure => simp [intOf]
        · go_wp2_with fail
          refine (chk4 b A1 A2 A3 n1 n2 n3 cp1 cp2 cp3 cf _ (hbx.alloc _ hblt) (hcf.alloc _)).mono ?_
          rw [H1.out]
          rintro e w2 ⟨rfl, hb2⟩
          have e3 : w2.cell? ⟨wr.heap.size, 0, none⟩ = some (.string (word 3)) := (hb2.cell (p := ⟨wr.heap.size, 0, none⟩) (by simp)).trans (by go_simp)
          go_wp2_with fail
          go_ret
          exact ⟨by rw [wrongK_at cf 3 (by omega) Hno.out (fun _ => H1.out)]; rfl, Below.past hB (Below.past (hb.alloc hs _) hb2 (by simp; omega)) (by omega)⟩
      · have e0 := hs4 wr hb
        have e1 := hp4 wr hb
        obtain ⟨x_H1, H1⟩ : ∃ x, Hid (badAt cf 4 = x) := ⟨_, rfl⟩
        cases x_H1
        · go_wp2_with fail
          refine (chk5 b A1 A2 A3 n1 n2 n3 cp1 cp2 cp3 cf _ (hbx.alloc _ hblt) (hcf.alloc _)).mono ?_
          rw [H1.out]
          rintro e w2 ⟨rfl, hb2⟩
          go_wp2_with fail
          go_roundw
          case rel => exact ⟨5, by omega, rfl, fun i hi => (Nat.lt_succ_iff_lt_or_eq.1 hi).elim (fun h => Hno.out i h) (fun h => by rw [h]; exact H1.out), Below.past (hb.alloc hs _) hb2 (by simp; omega)⟩
          case measure => simp [intOf]
        · go_wp2_with fail
          refine (chk5 b A1 A2 A3 n1 n2 n3 cp1 cp2 cp3 cf _ (hbx.alloc _ hblt) (hcf.alloc _)).mono ?_
          rw [H1.out]
          rintro e w2 ⟨rfl, hb2⟩
          have e3 : w2.cell? ⟨wr.heap.size, 0, none⟩ = some (.string (word 4)) := (hb2.cell (p := ⟨wr.heap.size, 0, none⟩) (by simp)).trans (by go_simp)
          go_wp2_with fail
          go_ret
          exact ⟨by rw [wrongK_at cf 4 (by omega) Hno.out (fun _ => H1.out)]; rfl, Below.past hB (Below.past (hb.alloc hs _) hb2 (by simp; omega)) (by omega)⟩
      · have e0 := hs5 wr hb
        have e1 := hp5 wr hb
        obtain ⟨x_H1, H1⟩ : ∃ x, Hid (badAt cf 5 = x) := ⟨_, rfl⟩
        cases x_H1
        · go_wp2_with fail
          refine (chk6 b A1 A2 A3 n1 n2 n3 cp1 cp2 cp3 cf _ (hbx.alloc _ hblt) (hcf.alloc _)).mono ?_
          rw [H1.out]
          rintro e w2 ⟨rfl, hb2⟩
          go_wp2_with fail
          go_roundw
          case rel => exact ⟨6, by omega, rfl, fun i hi => (Nat.lt_succ_iff_lt_or_eq.1 hi).elim (fun h => Hno.out i h) (fun h => by rw [h]; exact H1.out), Below.past (hb.alloc hs _) hb2 (by simp; omega)⟩
          case measure => simp [intOf]
        · go_wp2_with fail
          refine (chk6 b A1 A2 A3 n1 n2 n3 cp1 cp2 cp3 cf _ (hbx.alloc _ hblt) (hcf.alloc _)).mono ?_
          rw [H1.out]
          rintro e w2 ⟨rfl, hb2⟩
          have e3 : w2.cell? ⟨wr.heap.size, 0, none⟩ = some (.string (word 5)) := (hb2.cell (p := ⟨wr.heap.size, 0, none⟩) (by simp)).trans (by go_simp)
          go_wp2_with fail
          go_ret
          exact ⟨by rw [wrongK_at cf 5 (by omega) Hno.out (fun _ => H1.out)]; rfl, Below.past hB (Below.past (hb.alloc hs _) hb2 (by simp; omega)) (by omega)⟩
      · have e0 := hs6 wr hb
        have e1 := hp6 wr hb
        obtain ⟨x_H1, H1⟩ : ∃ x, Hid (badAt cf 6 = x) := ⟨_, rfl⟩
        cases x_H1
        · go_wp2_with fail
          refine (chk7 b A1 A2 A3 n1 n2 n3 cp1 cp2 cp3 cf _ (hbx.alloc _ hblt) (hcf.alloc _)).mono ?_
          rw [H1.out]
          rintro e w2 ⟨rfl, hb2⟩
          go_wp2_with fail
          go_roundw
          case rel => exact ⟨7, by omega, rfl, fun i hi => (Nat.lt_succ_iff_lt_or_eq.1 hi).elim (fun h => Hno.out i h) (fun h => by rw [h]; exact H1.out), Below.past (hb.alloc hs _) hb2 (by simp; omega)⟩
          case measure => simp [intOf]
        · go_wp2_with fail
          refine (chk7 b A1 A2 A3 n1 n2 n3 cp1 cp2 cp3 cf _ (hbx.alloc _ hblt) (hcf.alloc _)).mono ?_
          rw [H1.out]
          rintro e w2 ⟨rfl, hb2⟩
          have e3 : w2.cell? ⟨wr.heap.size, 0, none⟩ = some (.string (word 6)) := (hb2.cell (p := ⟨wr.heap.size, 0, none⟩) (by simp)).trans (by go_simp)
          go_wp2_with fail
          go_ret
          exact ⟨by rw [wrongK_at cf 6 (by omega) Hno.out (fun _ => H1.out)]; rfl, Below.past hB (Below.past (hb.alloc hs _) hb2 (by simp; omega)) (by omega)⟩
      · have e0 := hs7 wr hb
        have e1 := hp7 wr hb
        obtain ⟨x_H1, H1⟩ : ∃ x, Hid (badAt cf 7 = x) := ⟨_, rfl⟩
        cases x_H1
        · go_wp2_with fail
          refine (chk8 b A1 A2 A3 n1 n2 n3 cp1 cp2 cp3 cf _ (hbx.alloc _ hblt) (hcf.alloc _)).mono ?_
          rw [H1.out]
          rintro e w2 ⟨rfl, hb2⟩
          go_wp2_with fail
          go_roundw
          case rel => exact ⟨8, by omega, rfl, fun i hi => (Nat.lt_succ_iff_lt_or_eq.1 hi).elim (fun h => Hno.out i h) (fun h => by rw [h]; exact H1.out), Below.past (hb.alloc hs _) hb2 (by simp; omega)⟩
          case measure => simp [intOf]
        · go_wp2_with fail
          refine (chk8 b A1 A2 A3 n1 n2 n3 cp1 cp2 cp3 cf _ (hbx.alloc _ hblt) (hcf.alloc _)).mono ?_
          rw [H1.out]
          rintro e w2 ⟨rfl, hb2⟩
          have e3 : w2.cell? ⟨wr.heap.size, 0, none⟩ = some (.string (word 7)) := (hb2.cell (p := ⟨wr.heap.size, 0, none⟩) (by simp)).trans (by go_simp)
          go_wp2_with fail
          go_ret
          exact ⟨by rw [wrongK_at cf 7 (by omega) Hno.out (fun _ => H1.out)]; rfl, Below.past hB (Below.past (hb.alloc hs _) hb2 (by simp; omega)) (by omega)⟩
    · obtain rfl : k = 8 := by omega
      go_wp2_with fail
      go_ret
      exact ⟨by rw [wrongK_at cf 8 (by omega) Hno.out (fun h => by omega)]; rfl, Below.past hB hb (by omega)⟩
end Go.Proofs.Ytelbolhckhdioaa
