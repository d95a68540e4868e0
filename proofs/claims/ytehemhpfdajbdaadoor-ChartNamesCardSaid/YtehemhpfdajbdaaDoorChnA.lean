import Derived.Test.YtehemhpfdajbdaaDoorChaP
import Derived.Lib.AtoiAll
import Derived.Lib.IndexMore
import Derived.Lib.ItoaNum
namespace Go.Proofs.YtehemhpfdajbdaaDoor
open Go.RowKit

/-! ### The names of accounts, and the accounts of names (plain; no program) -/
def wdC : Nat → List UInt8
  | 1 => [115, 101, 116, 116, 108, 101]
  | 2 => [101, 115, 116, 97, 116, 101]
  | 3 => [108, 105, 110, 101]
  | 4 => [99, 97, 112, 105, 116, 97, 108]
  | 5 => [98, 97, 110, 107]
  | 6 => [111, 119, 110, 101, 114]
  | 7 => [111, 119, 110]
  | 8 => [99, 111, 108, 108]
  | 9 => [102, 117, 110, 100]
  | _ => []
/-- The digits of a number below 100. -/
def decS (n : Nat) : List UInt8 := if n < 10 then [UInt8.ofNat (48 + n)] else [UInt8.ofNat (48 + n / 10), UInt8.ofNat (48 + n % 10)]
theorem decS_is {n : Nat} (h : n < 100) : Lib.decDigits n = decS n := by
  unfold decS
  rw [Lib.decDigits]
  split
  · rfl
  · rw [Lib.decDigits, dif_pos (by omega)]; rfl
def okA (a : Acc) : Bool := decide ((numA 16 a).2 = 0)
def nameA (a : Acc) : List UInt8 := if okA a = true then (if a.member = 0 then wdC a.kind.toNat else wdC a.kind.toNat ++ 58 :: decS a.member.toNat) else []
theorem okA_iff (a : Acc) : okA a = true ↔ (a.member = 0 ∧ 1 ≤ a.kind ∧ a.kind ≤ 6) ∨ (1 ≤ a.member ∧ a.member ≤ 16 ∧ 7 ≤ a.kind ∧ a.kind ≤ 9) := by
  unfold okA numA
  rw [decide_eq_true_iff]
  repeat' split
  all_goals simp
  all_goals omega
theorem okA_mem {a : Acc} (h : okA a = true) : a ∈ accs 16 := by
  obtain ⟨k, m⟩ := a
  have h' := (okA_iff _).1 h
  simp only at h'
  rcases h' with ⟨rfl, h1, h2⟩ | ⟨h1, h2, h3, h4⟩
  · have : k = 1 ∨ k = 2 ∨ k = 3 ∨ k = 4 ∨ k = 5 ∨ k = 6 := by omega
    rcases this with rfl | rfl | rfl | rfl | rfl | rfl <;> simp [accs, houseA, memA]
  · have hm : m = 1 ∨ m = 2 ∨ m = 3 ∨ m = 4 ∨ m = 5 ∨ m = 6 ∨ m = 7 ∨ m = 8 ∨ m = 9 ∨ m = 10 ∨ m = 11 ∨ m = 12 ∨ m = 13 ∨ m = 14 ∨ m = 15 ∨ m = 16 := by omega
    have hk : k = 7 ∨ k = 8 ∨ k = 9 := by omega
    rcases hk with rfl | rfl | rfl <;> rcases hm with rfl | rfl | rfl | rfl | rfl | rfl | rfl | rfl | rfl | rfl | rfl | rfl | rfl | rfl | rfl | rfl <;> simp [accs, houseA, memA]
theorem mem_okA : ∀ x ∈ accs 16, okA x = true := by
  have h : (accs 16).all okA = true := by decide +kernel
  exact List.all_eq_true.1 h
/-- The word ahead of the colon, and the number behind it, as the program reads them. -/
def cutW (s : List UInt8) : List UInt8 := (Lib.cut s [58]).1
def numN (s : List UInt8) : Int := match Lib.atoiAll (Lib.cut s [58]).2.1 with
  | .ok v => v
  | .syntax => 0
  | .range => Lib.atoiSat (Lib.cut s [58]).2.1
/-- Is the account of that kind the one of that name? -/
def isK (s : List UInt8) (k : Nat) : Bool := wdC k == cutW s && !(cutW s).isEmpty && nameA ⟨(k : Nat), numN s⟩ == s
def ofA (s : List UInt8) : Option Acc := ((List.range 10).find? (isK s)).map fun k => ⟨(k : Nat), numN s⟩
theorem of_name : ∀ x ∈ accs 16, ofA (nameA x) = some x := by
  have h : (accs 16).all (fun x => match ofA (nameA x) with | some y => eqA y x | none => false) = true := by decide +kernel
  intro x hx
  have h1 := List.all_eq_true.1 h x hx
  cases e : ofA (nameA x) with
  | none => rw [e] at h1; cases h1
  | some y =>
    rw [e] at h1
    obtain ⟨e1, e2⟩ := (eqA_iff y x).1 h1
    cases y; cases x
    simp only at e1 e2
    rw [e1, e2]
theorem name_of {s : List UInt8} {x : Acc} (h : ofA s = some x) : nameA x = s ∧ x ∈ accs 16 := by
  unfold ofA at h
  obtain ⟨k, hk, rfl⟩ := Option.map_eq_some_iff.1 h
  have h1 := List.find?_some hk
  unfold isK at h1
  simp only [Bool.and_eq_true, beq_iff_eq, Bool.not_eq_true', List.isEmpty_eq_false_iff] at h1
  obtain ⟨⟨_, h2⟩, h3⟩ := h1
  refine ⟨h3, okA_mem ?_⟩
  cases e : okA ⟨(k : Nat), numN s⟩ with
  | true => rfl
  | false =>
    exfalso
    unfold nameA at h3
    rw [if_neg (by rw [e]; simp)] at h3
    rw [← h3] at h2
    exact h2 rfl
theorem of_none {s : List UInt8} (h : ∀ x ∈ accs 16, nameA x ≠ s) : ofA s = none := by
  cases e : ofA s with
  | none => rfl
  | some x => exact absurd (name_of e).1 (h x (name_of e).2)
theorem name_inj {x y : Acc} (hx : x ∈ accs 16) (hy : y ∈ accs 16) (h : nameA x = nameA y) : x = y := by
  have h1 := of_name x hx
  rw [h, of_name y hy] at h1
  injection h1 with h1
  exact h1.symm
theorem name_nil {a : Acc} (h : nameA a ≠ []) : okA a = true := by
  cases e : okA a with
  | true => rfl
  | false => exact absurd (by unfold nameA; rw [if_neg (by rw [e]; simp)]) h
/-- The document's answer: where the name stands among the names of all accounts. -/
def idxN (s : List UInt8) : Nat → List Acc → Int
  | _, [] => -1
  | k, x :: l => if nameA x = s then (k : Nat) else idxN s (k + 1) l
theorem idxN_no (s : List UInt8) : ∀ (l : List Acc) (k : Nat), (∀ x ∈ l, nameA x ≠ s) → idxN s k l = -1
  | [], _, _ => rfl
  | x :: l, k, h => by
    rw [idxN, if_neg (h x (by simp)), idxN_no s l (k + 1) fun y hy => h y (by simp [hy])]
theorem idxN_yes (s : List UInt8) : ∀ (l : List Acc) (k : Nat), (∃ x ∈ l, nameA x = s) → ∃ (j : Nat) (x : Acc), idxN s k l = ((k + j : Nat) : Int) ∧ l[j]? = some x ∧ nameA x = s
  | [], _, h => by obtain ⟨x, hx, _⟩ := h; cases hx
  | x :: l, k, h => by
    by_cases e : nameA x = s
    · exact ⟨0, x, by rw [idxN, if_pos e]; rfl, rfl, e⟩
    · have h' : ∃ y ∈ l, nameA y = s := by
        obtain ⟨y, hy, h2⟩ := h
        rcases List.mem_cons.1 hy with rfl | hy
        · exact absurd h2 e
        · exact ⟨y, hy, h2⟩
      obtain ⟨j, y, h1, h2, h3⟩ := idxN_yes s l (k + 1) h'
      exact ⟨j + 1, y, by rw [idxN, if_neg e, h1]; congr 1; omega, h2, h3⟩
/-- Both answers: either no account has the name, or the program's is the document's. -/
theorem of_idx (s : List UInt8) : (idxN s 0 (accs 16) = -1 ∧ ofA s = none) ∨ ∃ (j : Nat) (x : Acc), idxN s 0 (accs 16) = ((j : Nat) : Int) ∧ (accs 16)[j]? = some x ∧ ofA s = some x ∧ nameA x = s := by
  by_cases h : ∃ x ∈ accs 16, nameA x = s
  · obtain ⟨j, x, h1, h2, h3⟩ := idxN_yes s (accs 16) 0 h
    exact .inr ⟨j, x, by rw [h1, Nat.zero_add], h2, by rw [← h3]; exact of_name x (List.mem_of_getElem? h2), h3⟩
  · have h' : ∀ x ∈ accs 16, nameA x ≠ s := fun x hx e => h ⟨x, hx, e⟩
    exact .inl ⟨idxN_no s _ 0 h', of_none h'⟩
end Go.Proofs.YtehemhpfdajbdaaDoor
