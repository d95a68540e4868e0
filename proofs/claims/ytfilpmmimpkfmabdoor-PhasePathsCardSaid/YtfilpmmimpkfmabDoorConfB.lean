import Derived.Test.YtfilpmmimpkfmabDoorConfA
namespace Go.Proofs.YtfilpmmimpkfmabDoor
open Go.RowKit

/-- A config that lies in a variable: the block's eight cells. -/
structure Box (w : World) (b : Nat) (A1 : Option Addr) (n1 cp1 : Nat) (A2 : Option Addr) (n2 cp2 : Nat) (A3 : Option Addr) (n3 cp3 : Nat) (cf : Conf) : Prop where
  b0 : w.cell? ⟨b, 0, none⟩ = some (.slice A1 n1 cp1)
  b1 : w.cell? ⟨b, 1, none⟩ = some (.slice A2 n2 cp2)
  b2 : w.cell? ⟨b, 2, none⟩ = some (.slice A3 n3 cp3)
  b3 : w.cell? ⟨b, 3, none⟩ = some (.int .i64 cf.line)
  b4 : w.cell? ⟨b, 4, none⟩ = some (.int .i64 cf.capital)
  b5 : w.cell? ⟨b, 5, none⟩ = some (.int .i64 cf.lead)
  b6 : w.cell? ⟨b, 6, none⟩ = some (.int .i64 cf.trades)
  b7 : w.cell? ⟨b, 7, none⟩ = some (.int .i64 cf.bids)
theorem Box.past {w w' : World} {b : Nat} {A1 : Option Addr} {n1 cp1 : Nat} {A2 : Option Addr} {n2 cp2 : Nat} {A3 : Option Addr} {n3 cp3 : Nat} {cf : Conf} (h : Box w b A1 n1 cp1 A2 n2 cp2 A3 n3 cp3 cf) (hb : Below w.heap.size w w') (hlt : b < w.heap.size) : Box w' b A1 n1 cp1 A2 n2 cp2 A3 n3 cp3 cf :=
  ⟨(hb.cell (p := ⟨b, 0, none⟩) hlt).trans h.b0, (hb.cell (p := ⟨b, 1, none⟩) hlt).trans h.b1, (hb.cell (p := ⟨b, 2, none⟩) hlt).trans h.b2, (hb.cell (p := ⟨b, 3, none⟩) hlt).trans h.b3,
   (hb.cell (p := ⟨b, 4, none⟩) hlt).trans h.b4, (hb.cell (p := ⟨b, 5, none⟩) hlt).trans h.b5, (hb.cell (p := ⟨b, 6, none⟩) hlt).trans h.b6, (hb.cell (p := ⟨b, 7, none⟩) hlt).trans h.b7⟩

/-- What is wrong with a config, place by place. -/
def badAt (cf : Conf) : Nat → Bool
  | 0 => !membsOk cf.members
  | 1 => !secsOk cf.secs
  | 2 => !cycsOk cf.cycles
  | 3 => !inB cf.line 0 1099511627776
  | 4 => !inB cf.capital 0 1099511627776
  | 5 => !inB cf.lead 0 1000
  | 6 => !inB cf.trades 1 64
  | 7 => !inB cf.bids 1 32
  | _ => true
/-- The place of what is wrong first; 8: nothing. -/
def wrongK (cf : Conf) : Nat := if badAt cf 0 then 0 else if badAt cf 1 then 1 else if badAt cf 2 then 2 else if badAt cf 3 then 3 else if badAt cf 4 then 4 else if badAt cf 5 then 5 else if badAt cf 6 then 6 else if badAt cf 7 then 7 else 8
def word : Nat → ByteArray
  | 0 => ⟨#[109, 101, 109, 98, 101, 114, 115]⟩
  | 1 => ⟨#[115, 101, 99, 115]⟩
  | 2 => ⟨#[99, 121, 99, 108, 101, 115]⟩
  | 3 => ⟨#[108, 105, 110, 101]⟩
  | 4 => ⟨#[99, 97, 112, 105, 116, 97, 108]⟩
  | 5 => ⟨#[108, 101, 97, 100]⟩
  | 6 => ⟨#[116, 114, 97, 100, 101, 115]⟩
  | 7 => ⟨#[98, 105, 100, 115]⟩
  | _ => ⟨#[]⟩
theorem wrongK_at (cf : Conf) (k : Nat) (hk : k ≤ 8) (h : ∀ j, j < k → badAt cf j = false) (hb : k < 8 → badAt cf k = true) : wrongK cf = k := by
  unfold wrongK
  obtain rfl | rfl | rfl | rfl | rfl | rfl | rfl | rfl | rfl : k = 0 ∨ k = 1 ∨ k = 2 ∨ k = 3 ∨ k = 4 ∨ k = 5 ∨ k = 6 ∨ k = 7 ∨ k = 8 := by omega
  · simp [hb (by omega)]
  · simp [h 0 (by omega), hb (by omega)]
  · simp [h 0 (by omega), h 1 (by omega), hb (by omega)]
  · simp [h 0 (by omega), h 1 (by omega), h 2 (by omega), hb (by omega)]
  · simp [h 0 (by omega), h 1 (by omega), h 2 (by omega), h 3 (by omega), hb (by omega)]
  · simp [h 0 (by omega), h 1 (by omega), h 2 (by omega), h 3 (by omega), h 4 (by omega), hb (by omega)]
  · simp [h 0 (by omega), h 1 (by omega), h 2 (by omega), h 3 (by omega), h 4 (by omega), h 5 (by omega), hb (by omega)]
  · simp [h 0 (by omega), h 1 (by omega), h 2 (by omega), h 3 (by omega), h 4 (by omega), h 5 (by omega), h 6 (by omega), hb (by omega)]
  · simp [h 0 (by omega), h 1 (by omega), h 2 (by omega), h 3 (by omega), h 4 (by omega), h 5 (by omega), h 6 (by omega), h 7 (by omega)]

theorem Box.alloc {w : World} {b : Nat} {A1 : Option Addr} {n1 cp1 : Nat} {A2 : Option Addr} {n2 cp2 : Nat} {A3 : Option Addr} {n3 cp3 : Nat} {cf : Conf} (h : Box w b A1 n1 cp1 A2 n2 cp2 A3 n3 cp3 cf) (o : Obj) (hlt : b < w.heap.size) : Box (w.alloc o) b A1 n1 cp1 A2 n2 cp2 A3 n3 cp3 cf :=
  h.past ((Below.refl _ _).alloc (Nat.le_refl _) o) hlt

end Go.Proofs.YtfilpmmimpkfmabDoor
