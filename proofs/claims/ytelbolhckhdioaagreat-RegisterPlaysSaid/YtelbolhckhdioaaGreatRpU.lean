import Derived.Test.YtelbolhckhdioaaGreatConfO
import Derived.Test.YtelbolhckhdioaaGreatTradN
import Derived.Test.YtelbolhckhdioaaGreatOnlyG
import Derived.Test.YtelbolhckhdioaaGreatConfD
namespace Go.Proofs.YtelbolhckhdioaaGreat
open Go.RowKit

structure OkT (M S : Nat) (t : Trad) : Prop where
  b1 : 1 ≤ t.buyer
  b2 : t.buyer ≤ M
  s1 : 1 ≤ t.seller
  s2 : t.seller ≤ M
  c1 : 1 ≤ t.sec
  c2 : t.sec ≤ S
  q : 0 < t.qty
  p : 0 < t.price
theorem OkT.le {M S : Nat} {t : Trad} (h : OkT M S t) : t.qty ≤ t.qty * t.price := by
  have h1 := Int.mul_le_mul_of_nonneg_left (show 1 ≤ t.price from h.p) (show 0 ≤ t.qty from Int.le_of_lt h.q)
  omega

/-! ### The document's register: rows -/
structure RowR where
  t : Trad
  cyc : Int
  gone : Bool
def RowR.cells (r : RowR) : List Value := [.int .i64 r.t.id, .int .i64 r.t.buyer, .int .i64 r.t.seller, .int .i64 r.t.sec, .int .i64 r.t.qty, .int .i64 r.t.price, .int .i64 r.cyc, .bool r.gone]
theorem RowR.cells_len (r : RowR) : r.cells.length = 8 := rfl
def hereR (c : Int) (r : RowR) : Bool := r.cyc == c && !r.gone
def valR (r : RowR) : Int := r.t.qty * r.t.price
def grossR (c : Int) (l : List RowR) : Int := ((l.filter (hereR c)).map valR).sum
def unitsR (c s : Int) (l : List RowR) : Int := ((l.filter fun r => hereR c r && r.t.sec == s).map fun r => r.t.qty).sum
def usedR (i : Int) (l : List RowR) : Bool := l.any fun r => r.t.id == i
def accR (c : Int) (l : List RowR) : Nat := (l.filter fun r => r.cyc == c).length
theorem checkT_ok {n1 n2 : Nat} {t : Trad} (h : checkT n1 n2 t = 0) : OkT n1 n2 t ∧ t.qty * t.price ≤ 288230376151711744 ∧ t.qty ≤ 274877906944 ∧ inI (t.qty * t.price) := by
  unfold checkT at h
  split at h
  · rename_i hw
    split at h
    · rename_i hs
      split at h
      · omega
      · rename_i hq
        split at h
        · omega
        · rename_i hg
          have hw1 : hasB n1 t.buyer = true ∧ hasB n1 t.seller = true := by
            unfold whoC at hw
            split at hw
            · rename_i hb; simpa using hb
            · omega
          have h1 := hasB_t hw1.1; have h2 := hasB_t hw1.2; have h3 := hasB_t hs
          have h4' : 1 ≤ t.qty ∧ 1 ≤ t.price := by simpa [Int.not_lt] using hq
          have h4 : 0 < t.qty ∧ 0 < t.price := ⟨by omega, by omega⟩
          have h5 : over (t.qty * t.price) = 0 ∧ amount (t.qty * t.price) ≤ 288230376151711744 ∧ t.qty ≤ 274877906944 := by simpa [greatB, Int.not_lt] using hg
          have h6 : inI (t.qty * t.price) := by
            have := h5.1; unfold over at this; split at this
            · assumption
            · omega
          have h7 := h5.2.1
          rw [amount, if_pos h6] at h7
          exact ⟨⟨h1.1, h1.2, h2.1, h2.2, h3.1, h3.2, h4.1, h4.2⟩, h7, h5.2.2, h6⟩
    · omega
  · rename_i hw; exact absurd h hw
/-- What all rows of a register keep. -/
structure RowsOk (n1 n2 : Nat) (c : Int) (l : List RowR) : Prop where
  ok : ∀ r ∈ l, checkT n1 n2 r.t = 0
  top : grossR c l ≤ 288230376151711744
theorem sum_take_le {l : List RowR} {f : RowR → Int} (hf : ∀ r ∈ l, 0 ≤ f r) (p : RowR → Bool) (k : Nat) : 0 ≤ (((l.take k).filter p).map f).sum ∧ (((l.take k).filter p).map f).sum ≤ ((l.filter p).map f).sum := by
  have hnn : ∀ m : List RowR, (∀ r ∈ m, 0 ≤ f r) → 0 ≤ ((m.filter p).map f).sum := fun m hm => by
    induction m with
    | nil => simp
    | cons x m ih =>
      have := ih fun r hr => hm r (by simp [hr])
      have := hm x (by simp)
      rw [List.filter_cons]; split
      · rw [List.map_cons, List.sum_cons]; omega
      · assumption
  refine ⟨hnn _ fun r hr => hf r (List.mem_of_mem_take hr), ?_⟩
  have h2 := hnn (l.drop k) fun r hr => hf r (List.mem_of_mem_drop hr)
  have e : l.filter p = (l.take k).filter p ++ (l.drop k).filter p := by rw [← List.filter_append, List.take_append_drop]
  rw [e, List.map_append, List.sum_append]; omega
theorem units_le {n1 n2 : Nat} {c s : Int} : ∀ {l : List RowR}, (∀ r ∈ l, checkT n1 n2 r.t = 0) → unitsR c s l ≤ grossR c l ∧ 0 ≤ unitsR c s l
  | [], _ => by simp [unitsR, grossR]
  | x :: l, h => by
    have ih := units_le (c := c) (s := s) (l := l) fun r hr => h r (by simp [hr])
    have h1 := (checkT_ok (h x (by simp))).1
    have h2 := h1.le; have h3 := h1.q
    unfold unitsR grossR at ih ⊢
    rw [List.filter_cons, List.filter_cons]
    by_cases hh : hereR c x = true
    · rw [if_pos hh, List.map_cons, List.sum_cons]
      by_cases hs : x.t.sec = s
      · rw [if_pos (by simp [hh, hs]), List.map_cons, List.sum_cons]
        unfold valR; unfold valR at ih; omega
      · rw [if_neg (by simp [hs])]
        unfold valR; unfold valR at ih; omega
    · rw [if_neg hh, if_neg (by simp [hh])]; exact ih
section
variable {l : List RowR} {f : RowR} {k : Nat} {c s i : Int}
theorem filtR_yes {p : RowR → Bool} (hT : l.take (k + 1) = l.take k ++ [f]) (he : p f = true) : (l.take (k + 1)).filter p = (l.take k).filter p ++ [f] := by rw [hT, List.filter_append]; simp [he]
theorem filtR_no {p : RowR → Bool} (hT : l.take (k + 1) = l.take k ++ [f]) (he : p f = false) : (l.take (k + 1)).filter p = (l.take k).filter p := by rw [hT, List.filter_append]; simp [he]
theorem gross_yes (hT : l.take (k + 1) = l.take k ++ [f]) (he : hereR c f = true) : grossR c (l.take (k + 1)) = grossR c (l.take k) + valR f := by
  unfold grossR; rw [filtR_yes hT he, List.map_append, List.sum_append]; simp
theorem gross_no (hT : l.take (k + 1) = l.take k ++ [f]) (he : hereR c f = false) : grossR c (l.take (k + 1)) = grossR c (l.take k) := by
  unfold grossR; rw [filtR_no hT he]
theorem units_yes (hT : l.take (k + 1) = l.take k ++ [f]) (he : hereR c f = true) (hs : f.t.sec = s) : unitsR c s (l.take (k + 1)) = unitsR c s (l.take k) + f.t.qty := by
  unfold unitsR; rw [filtR_yes hT (by simp [he, hs]), List.map_append, List.sum_append]; simp
theorem units_no (hT : l.take (k + 1) = l.take k ++ [f]) (he : ¬ (hereR c f = true ∧ f.t.sec = s)) : unitsR c s (l.take (k + 1)) = unitsR c s (l.take k) := by
  unfold unitsR; rw [filtR_no hT (by simpa using he)]
theorem acc_yes (hT : l.take (k + 1) = l.take k ++ [f]) (he : f.cyc = c) : accR c (l.take (k + 1)) = accR c (l.take k) + 1 := by
  unfold accR; rw [filtR_yes hT (by simp [he]), List.length_append]; rfl
theorem acc_no (hT : l.take (k + 1) = l.take k ++ [f]) (he : ¬ f.cyc = c) : accR c (l.take (k + 1)) = accR c (l.take k) := by
  unfold accR; rw [filtR_no hT (by simpa using he)]
end
theorem acc_le (c : Int) (l : List RowR) : accR c l ≤ l.length := List.length_filter_le _ _

structure RegV (w : World) (g base : Nat) (B1 : Option Addr) (n1 d1 : Nat) (B2 : Option Addr) (n2 d2 : Nat) (B3 : Option Addr) (n3 d3 : Nat) (cf : Conf) (c : Int) (v : Value) (l : List RowR) : Prop where
  form : ∃ A c, v = .slice A l.length c
  blk : Blk w g 49 #[.slice B1 n1 d1, .slice B2 n2 d2, .slice B3 n3 d3, .int .i64 cf.line, .int .i64 cf.capital, .int .i64 cf.lead, .int .i64 cf.trades, .int .i64 cf.bids, v, .int .i64 c]
  row : w.ownsRow base 92 8 v l.length (l.flatMap RowR.cells)
theorem RegV.past {w w' : World} {g base : Nat} {B1 : Option Addr} {n1 d1 : Nat} {B2 : Option Addr} {n2 d2 : Nat} {B3 : Option Addr} {n3 d3 : Nat} {cf : Conf} {c : Int} {v : Value} {l : List RowR} (h : RegV w g base B1 n1 d1 B2 n2 d2 B3 n3 d3 cf c v l) (hb : Below w.heap.size w w') : RegV w' g base B1 n1 d1 B2 n2 d2 B3 n3 d3 cf c v l :=
  ⟨h.form, h.blk.past hb, own_past' h.row hb⟩
end Go.Proofs.YtelbolhckhdioaaGreat
