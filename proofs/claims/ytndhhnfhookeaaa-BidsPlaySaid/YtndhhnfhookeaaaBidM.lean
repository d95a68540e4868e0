import Derived.Test.YtndhhnfhookeaaaBidL
namespace Go.Proofs.Ytndhhnfhookeaaa
open Go.RowKit

/-! ### One bid of a list is written: its five cells -/
theorem set5 : ∀ (l : List BidV) (i : Nat) (f : BidV), i < l.length →
    (((((l.flatMap BidV.cells).set (i * 5) (.int .i64 f.seq)).set (i * 5 + 1) (.int .i64 f.mem)).set (i * 5 + 2) (.int .i64 f.sec)).set (i * 5 + 3) (.int .i64 f.qty)).set (i * 5 + 4) (.int .i64 f.price) = (l.set i f).flatMap BidV.cells
  | [], i, f, h => by simp at h
  | x :: l, 0, f, _ => by simp [BidV.cells]
  | x :: l, i + 1, f, h => by
    have ih := set5 l i f (by simpa using h)
    rw [List.set_cons_succ, List.flatMap_cons, List.flatMap_cons, ← ih]
    simp only [BidV.cells, List.cons_append, List.nil_append, show (i + 1) * 5 = i * 5 + 5 from by omega, show i * 5 + 5 + 1 = i * 5 + 1 + 5 from by omega, show i * 5 + 5 + 2 = i * 5 + 2 + 5 from by omega, show i * 5 + 5 + 3 = i * 5 + 3 + 5 from by omega, show i * 5 + 5 + 4 = i * 5 + 4 + 5 from by omega, List.set_cons_succ]
/-- A bid is written into a row of the call's own. -/
theorem own_set5 {w : World} {B g n c i : Nat} {l : List BidV} (h : w.ownsRow B 90 5 (.slice (some ⟨g, 0, none⟩) n c) n (l.flatMap BidV.cells)) (hl : l.length = n) (hi : i < n) (f : BidV) :
    (((((w.setCell ⟨g, i * 5, none⟩ (.int .i64 f.seq)).setCell ⟨g, i * 5 + 1, none⟩ (.int .i64 f.mem)).setCell ⟨g, i * 5 + 2, none⟩ (.int .i64 f.sec)).setCell ⟨g, i * 5 + 3, none⟩ (.int .i64 f.qty)).setCell ⟨g, i * 5 + 4, none⟩ (.int .i64 f.price)).ownsRow B 90 5 (.slice (some ⟨g, 0, none⟩) n c) n ((l.set i f).flatMap BidV.cells) := by
  rw [← set5 l i f (by omega)]
  exact own_set (own_set (own_set (own_set (own_set h (by omega) _) (by omega) _) (by omega) _) (by omega) _) (by omega) _
/-- Two neighbours change places. -/
theorem swap_at {l : List BidV} {f y : BidV} {k : Nat} (hk : 0 < k) (hy : l[k - 1]? = some y) : ((l.take k ++ f :: l.drop k).set (k - 1) f).set k y = l.take (k - 1) ++ f :: l.drop (k - 1) := by
  obtain ⟨hlt, e⟩ := List.getElem?_eq_some_iff.1 hy
  obtain ⟨j, rfl⟩ : ∃ j, k = j + 1 := ⟨k - 1, by omega⟩
  simp only [Nat.add_sub_cancel] at hy hlt e ⊢
  have h1 : l.take (j + 1) = l.take j ++ [y] := by rw [List.take_add_one, hy]; rfl
  have h2 : l.drop j = y :: l.drop (j + 1) := by rw [← e]; exact List.drop_eq_getElem_cons hlt
  have hj : (l.take j).length = j := by rw [List.length_take]; omega
  rw [h1, h2, List.append_assoc, List.set_append, if_neg (by rw [hj]; omega), hj, Nat.sub_self, List.set_append, if_neg (by rw [hj]; omega), hj, show j + 1 - j = 1 from by omega]
  rfl
end Go.Proofs.Ytndhhnfhookeaaa
