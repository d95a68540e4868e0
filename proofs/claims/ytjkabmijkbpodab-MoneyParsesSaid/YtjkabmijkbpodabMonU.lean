import Derived.Test.YtjkabmijkbpodabMonT
import Derived.Test.YtjkabmijkbpodabMonC
namespace Go.Proofs.Ytjkabmijkbpodab
open Go.RowKit

theorem digT_len (n least : Nat) : (digT n least).length ≤ 20 := by rw [digT, List.length_reverse, List.length_map]; exact low_len _ _ _

/-- An amount's text: n is how far it is from 0. -/
def textN (n : Nat) : List UInt8 := digT (n / 100) 1 ++ 46 :: digT (n % 100) 2
def textI (a : Int) : List UInt8 := if a < 0 then 45 :: textN a.natAbs else textN a.natAbs
theorem textN_len (n : Nat) : (textN n).length ≤ 41 := by
  have h1 := digT_len (n / 100) 1
  have h2 := digT_len (n % 100) 2
  simp only [textN, List.length_append, List.length_cons]; omega

theorem join_flat (xs : List (List UInt8)) : Lib.join xs [] = xs.flatten := by
  cases xs with
  | nil => rfl
  | cons x r => rw [Lib.join_cons, Lib.joinTail]; simp

theorem join_any (bk n c : Nat) (xs : List ByteArray) (w : World) (hn : xs.length = n) (hcells : ∀ (j : Nat) x, xs[j]? = some x → w.cell? ⟨bk, 0 + j, none⟩ = some (.string x)) (hbk : bk < w.heap.size) (hN : n ≤ 1000) (hcap : n ≤ c) (hlen : ((xs.map (·.data.toList)).flatten).length ≤ 1000000) :
    Calls Try.prog 66 #[.slice (some ⟨bk, 0, none⟩) n c] w fun e w' => e = .returned (.string ⟨((xs.map (·.data.toList)).flatten).toArray⟩) ∧ Below w.heap.size w w' := by
  subst hn
  have H := Try.strings_Join bk 0 c xs ⟨#[]⟩ w hcells hbk (by omega) hcap (by rw [show (⟨#[]⟩ : ByteArray).data.toList = [] from rfl, join_flat]; omega)
  rw [show (⟨#[]⟩ : ByteArray).data.toList = [] from rfl, join_flat] at H
  have HH := Lib.hid H
  generalize ((xs.map (·.data.toList)).flatten) = r at *
  clear H hcells hlen
  go_enter Try.func66, Try.ntmps66
  go_wp2_with fail
  refine (HH.out).mono ?_
  rintro e w1 ⟨rfl, hb⟩
  go_wp2_with fail
  go_ret
  exact ⟨rfl, hb⟩

set_option maxHeartbeats 1000000 in
theorem text_any (a : Int) (ha : inI a) (w : World) :
    Calls Try.prog 46 #[.int .i64 a] w fun e w' => e = .returned (.string ⟨(textI a).toArray⟩) ∧ Below w.heap.size w w' := by
  obtain ⟨h1, h2⟩ := ha
  obtain ⟨n, hn⟩ : ∃ n, Hid (a.natAbs = n) := ⟨_, rfl⟩
  have hs : Hid (sizeI a = n) := Lib.hid (by rw [← hn.out, sizeI]; split <;> omega)
  have hb : n ≤ 9223372036854775808 := by rw [← hn.out]; omega
  have D1 := Lib.hid (digits_any (n / 100) 1 (by omega) (by omega) (by omega))
  have D2 := Lib.hid (digits_any (n % 100) 2 (by omega) (by omega) (by omega))
  have l1 := digT_len (n / 100) 1
  have l2 := digT_len (n % 100) 2
  have HT : Hid (textI a = if a < 0 then 45 :: (digT (n / 100) 1 ++ 46 :: digT (n % 100) 2) else digT (n / 100) 1 ++ 46 :: digT (n % 100) 2) := Lib.hid (by rw [textI, textN, hn.out])
  rw [HT.out]
  clear HT hn
  generalize digT (n / 100) 1 = x1 at *
  generalize digT (n % 100) 2 = x2 at *
  go_enter Try.func46, Try.ntmps46
  go_wp2_with fail
  refine (size_any a h1 h2 _).mono ?_
  rw [hs.out]
  rintro e w' ⟨rfl, rfl⟩
  go_wp2_with fail
  refine (D1.out _).mono ?_
  rintro e w1 ⟨rfl, hb1⟩
  go_wp2_with fail
  refine (D2.out _).mono ?_
  rintro e w2 ⟨rfl, hb2⟩
  have hB2 := Below.next hb1 hb2
  go_wp2_with fail
  have e : ([⟨x1.toArray⟩, ⟨#[46]⟩, ⟨x2.toArray⟩] : List ByteArray).map (·.data.toList) = [x1, [46], x2] := by simp
  have J := join_any w2.heap.size 3 3 [⟨x1.toArray⟩, ⟨#[46]⟩, ⟨x2.toArray⟩] (w2.alloc (.cells #[.string ⟨x1.toArray⟩, .string ⟨#[46]⟩, .string ⟨x2.toArray⟩] 9)) rfl (fun j x hx => by
    have hb := Blk.new w2 9 #[.string ⟨x1.toArray⟩, .string ⟨#[46]⟩, .string ⟨x2.toArray⟩] w2.heap.size rfl
    rw [Nat.zero_add, hb.cell j]
    obtain rfl | rfl | rfl | h : j = 0 ∨ j = 1 ∨ j = 2 ∨ 3 ≤ j := by omega
    · simpa using hx
    · simpa using hx
    · simpa using hx
    · rw [List.getElem?_eq_none (by simpa using h)] at hx; cases hx) (by simp) (by omega) (by omega) (by rw [e]; simp; omega)
  rw [e, show ([x1, [46], x2] : List (List UInt8)).flatten = x1 ++ 46 :: x2 by simp] at J
  clear e
  have HJ := Lib.hid J
  clear J
  refine HJ.out.mono ?_
  rintro e w3 ⟨rfl, hb3⟩
  have hB3 := Below.next (hB2.alloc hB2.size _) hb3
  clear HJ D1 D2 hb1 hb2 hB2
  by_cases h0 : a < 0
  · go_wp2_with fail
    have e : ([⟨#[45]⟩, ⟨(x1 ++ 46 :: x2).toArray⟩] : List ByteArray).map (·.data.toList) = [[45], x1 ++ 46 :: x2] := by simp
    have J := join_any w3.heap.size 2 2 [⟨#[45]⟩, ⟨(x1 ++ 46 :: x2).toArray⟩] (w3.alloc (.cells #[.string ⟨#[45]⟩, .string ⟨(x1 ++ 46 :: x2).toArray⟩] 9)) rfl (fun j x hx => by
      have hb := Blk.new w3 9 #[.string ⟨#[45]⟩, .string ⟨(x1 ++ 46 :: x2).toArray⟩] w3.heap.size rfl
      rw [Nat.zero_add, hb.cell j]
      obtain rfl | rfl | h : j = 0 ∨ j = 1 ∨ 2 ≤ j := by omega
      · simpa using hx
      · simpa using hx
      · rw [List.getElem?_eq_none (by simpa using h)] at hx; cases hx) (by simp) (by omega) (by omega) (by rw [e]; simp; omega)
    rw [e, show ([[45], x1 ++ 46 :: x2] : List (List UInt8)).flatten = 45 :: (x1 ++ 46 :: x2) by simp] at J
    clear e
    have HJ := Lib.hid J
    clear J
    refine HJ.out.mono ?_
    rintro e w4 ⟨rfl, hb4⟩
    have hB4 := Below.next (hB3.alloc hB3.size _) hb4
    clear HJ
    go_wp2_with fail
    go_ret
    exact ⟨rfl, hB4⟩
  · go_wp2_with fail
    go_ret
    exact ⟨rfl, hB3⟩

set_option maxHeartbeats 1000000 in
theorem awake01 (w : World) : Calls Try.prog 34 #[] w fun e w' => e = .returned (.bool true) ∧ Below w.heap.size w w' := by
  have hl : Rd _ _ 1 _ 3 (([9223372036854775807, 1, -1] : List Int).flatMap i64Cells) := Rd.lit (n := 3) (sz := 1) w #[.int .i64 9223372036854775807, .int .i64 1, .int .i64 (-1)] 2 w.heap.size rfl rfl
  have e1 : Hid (amount ([9223372036854775807, 1, -1] : List Int).sum = 9223372036854775807) := Lib.hid (by decide)
  have e2 : Hid (over ([9223372036854775807, 1, -1] : List Int).sum = 0) := Lib.hid (by decide)
  have e3 : Hid (textI (-5) = [45, 48, 46, 48, 53]) := Lib.hid (by decide)
  have hB0 := (Below.refl w.heap.size w).alloc (Nat.le_refl _) (.cells #[.int .i64 9223372036854775807, .int .i64 1, .int .i64 (-1)] 2)
  go_enter Try.func34, Try.ntmps34
  go_wp2_with fail
  refine (sum_any _ 3 3 [9223372036854775807, 1, -1] _ hl (by omega) (by decide)).mono ?_
  rw [e1.out, e2.out]
  rintro e w1 ⟨rfl, hb1⟩
  have hB1 := Below.past hB0 hb1 hB0.size
  go_wp2_with fail
  refine (text_any (-5) (by decide) _).mono ?_
  rw [e3.out]
  rintro e w2 ⟨rfl, hb2⟩
  go_wp2_with fail
  go_ret
  exact ⟨rfl, Below.next hB1 hb2⟩
end Go.Proofs.Ytjkabmijkbpodab
