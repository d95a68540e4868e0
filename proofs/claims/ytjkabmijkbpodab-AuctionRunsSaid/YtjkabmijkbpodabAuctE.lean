import Derived.Test.YtjkabmijkbpodabAuctW
import Derived.Test.YtjkabmijkbpodabMonE
namespace Go.Proofs.Ytjkabmijkbpodab
open Go.RowKit

/-! ### Plain: what is taken of each bid; what it would cost at worst -/
def takes : List Bid → Int → Int → List Int
  | [], _, _ => []
  | b :: bs, l, m => takeN b l m :: takes bs (l - takeN b l m) (m - takeN b l m * b.price)
theorem takes_len : ∀ (bs : List Bid) (l m : Int), (takes bs l m).length = bs.length
  | [], _, _ => rfl
  | b :: bs, l, m => by rw [takes, List.length_cons, List.length_cons, takes_len bs]
def wN (b : Bid) (l : Int) : Int := if l < b.qty then l else b.qty
def wcosts : List Bid → Int → List Int
  | [], _ => []
  | b :: bs, l => wN b l * b.price :: wcosts bs (l - wN b l)
theorem wcosts_len : ∀ (bs : List Bid) (l : Int), (wcosts bs l).length = bs.length
  | [], _ => rfl
  | b :: bs, l => by rw [wcosts, List.length_cons, List.length_cons, wcosts_len bs]
def allIn (l : List Int) : Bool := l.all fun x => decide (inI x)
def worstN (bs : List Bid) (l : Int) : Int := if allIn (wcosts bs l) then amount (wcosts bs l).sum else 0
def worstE (bs : List Bid) (l : Int) : Int := if allIn (wcosts bs l) then over (wcosts bs l).sum else 2
theorem wN_bd (b : Bid) (l : Int) (hb : b.bad = false) (hl : 0 ≤ l) : 0 ≤ wN b l ∧ wN b l ≤ l ∧ wN b l ≤ b.qty := by
  simp [Bid.bad] at hb
  unfold wN; split <;> omega

theorem takeN_zero (b : Bid) (m : Int) (hb : b.bad = false) (hm : 0 ≤ m) : takeN b 0 m = 0 := by
  have := takeN_bd b 0 m hb (by omega) hm
  omega

/-- What holds while the law goes over what is wanted: k of the bids, a of the fills are seen. -/
structure Wants (R : List Fill) (W : List Int) (bs : List Bid) (k a : Nat) (lk mk : Int) : Prop where
  rest : R.drop a = runA (bs.drop k) lk mk
  want : W.drop k = takes (bs.drop k) lk mk
  al : a ≤ R.length
  l0 : 0 ≤ lk
  m0 : 0 ≤ mk
theorem Wants.start (bs : List Bid) (l m : Int) (hl : 0 ≤ l) (hm : 0 ≤ m) : Wants (runA bs l m) (takes bs l m) bs 0 0 l m := ⟨rfl, rfl, Nat.zero_le _, hl, hm⟩
theorem Wants.step {R : List Fill} {W : List Int} {bs : List Bid} {k a : Nat} {lk mk : Int} {b : Bid} (h : Wants R W bs k a lk mk) (hg : bs.any Bid.bad = false) (hb : bs.drop k = b :: bs.drop (k + 1)) :
    ∃ x, W[k]? = some x ∧ ((x = 0 ∧ ∃ lk' mk', Wants R W bs (k + 1) a lk' mk') ∨ (x ≠ 0 ∧ R[a]? = some ⟨b, x, x * b.price⟩ ∧ ∃ lk' mk', Wants R W bs (k + 1) (a + 1) lk' mk')) := by
  obtain ⟨hrest, hwant, hal, hl0, hm0⟩ := h
  have hgk : (bs.drop k).any Bid.bad = false := by
    rw [List.any_eq_false] at hg ⊢
    intro x hx; exact hg x (List.mem_of_mem_drop hx)
  have hgb : b.bad = false := by rw [hb, List.any_cons, Bool.or_eq_false_iff] at hgk; exact hgk.1
  have ht := takeN_bd b lk mk hgb hl0 hm0
  have hgetW : ∀ x, W[k]? = some x ↔ (W.drop k)[0]? = some x := fun f => by rw [List.getElem?_drop]; simp
  have hgetR : ∀ x, R[a]? = some x ↔ (R.drop a)[0]? = some x := fun f => by rw [List.getElem?_drop]; simp
  have hdW : W.drop (k + 1) = (W.drop k).drop 1 := by rw [List.drop_drop]
  rw [hb] at hrest hwant
  rw [takes] at hwant
  rw [runA] at hrest
  refine ⟨takeN b lk mk, by rw [hgetW, hwant]; rfl, ?_⟩
  by_cases h0 : lk = 0
  · have hz : takeN b lk mk = 0 := by rw [h0]; exact takeN_zero b mk hgb hm0
    rw [if_pos h0] at hrest
    rw [hz] at hwant ⊢
    refine .inl ⟨rfl, lk, mk, ⟨?_, by rw [hdW, hwant]; simp, hal, hl0, hm0⟩⟩
    rw [hrest]; cases bs.drop (k + 1) <;> simp [runA, h0]
  rw [if_neg h0] at hrest
  by_cases h1 : takeN b lk mk = 0
  · rw [if_pos h1] at hrest
    rw [h1] at hwant ⊢
    exact .inl ⟨rfl, lk, mk, ⟨hrest, by rw [hdW, hwant]; simp, hal, hl0, hm0⟩⟩
  · rw [if_neg h1] at hrest
    refine .inr ⟨h1, by rw [hgetR, hrest]; rfl, _, _, ⟨?_, by rw [hdW, hwant]; rfl, ?_, by omega, by omega⟩⟩
    · rw [show R.drop (a + 1) = (R.drop a).drop 1 by rw [List.drop_drop], hrest]; rfl
    · have := congrArg List.length hrest
      rw [List.length_drop, List.length_cons] at this
      omega
theorem Wants.done {R : List Fill} {W : List Int} {bs : List Bid} {k a : Nat} {lk mk : Int} (h : Wants R W bs k a lk mk) (hk : bs.length ≤ k) : a = R.length := by
  have h1 := h.rest
  rw [List.drop_of_length_le hk] at h1
  have h2 := congrArg List.length h1
  simp [runA] at h2
  have := h.al
  omega
end Go.Proofs.Ytjkabmijkbpodab
