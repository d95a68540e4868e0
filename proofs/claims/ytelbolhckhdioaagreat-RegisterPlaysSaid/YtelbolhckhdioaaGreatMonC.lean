import Derived.Test.YtelbolhckhdioaaGreatMonB
namespace Go.Proofs.YtelbolhckhdioaaGreat
open Go.RowKit

theorem bool2 {z : Int} {a : Int} {b c : Bool} (h : z = a) (h' : b = c) : Ending.returned (.tuple #[.int .i64 z, .bool b]) = .returned (.tuple #[.int .i64 a, .bool c]) := by rw [h, h']

def hiH (l : List Int) : Int := (l.map (· / 4294967296)).sum
def loH (l : List Int) : Int := (l.map (· % 4294967296)).sum
theorem hilo (l : List Int) : l.sum = hiH l * 4294967296 + loH l := by
  induction l with
  | nil => rfl
  | cons x l ih => simp only [hiH, loH, List.map_cons, List.sum_cons] at ih ⊢; rw [ih]; omega
theorem hilo_bd (l : List Int) (h : ∀ x ∈ l, inI x) : -(2147483648 * (l.length : Int)) ≤ hiH l ∧ hiH l ≤ 2147483648 * (l.length : Int) ∧ 0 ≤ loH l ∧ loH l ≤ 4294967296 * (l.length : Int) := by
  induction l with
  | nil => simp [hiH, loH]
  | cons x l ih =>
    have hx : inI x := h x (List.mem_cons_self ..)
    obtain ⟨h1, h2⟩ := hx
    have := ih fun y hy => h y (List.mem_cons_of_mem _ hy)
    simp only [hiH, loH, List.map_cons, List.sum_cons, List.length_cons] at this ⊢; omega
theorem hiH_snoc (l : List Int) (x : Int) : hiH (l ++ [x]) = hiH l + x / 4294967296 := by simp [hiH]
theorem loH_snoc (l : List Int) (x : Int) : loH (l ++ [x]) = loH l + x % 4294967296 := by simp [loH]

end Go.Proofs.YtelbolhckhdioaaGreat
