import Derived.Test.YtjkabmijkbpodabAuctB
namespace Go.Proofs.Ytjkabmijkbpodab
open Go.RowKit

/-! ### The plain law -/
def qs (r : List Fill) : Int := (r.map Fill.qty).sum
def cs (r : List Fill) : Int := (r.map Fill.cost).sum

theorem runA_bd : ∀ (bs : List Bid) (l m : Int), bs.any Bid.bad = false → 0 ≤ l → 0 ≤ m →
    0 ≤ qs (runA bs l m) ∧ qs (runA bs l m) ≤ l ∧ 0 ≤ cs (runA bs l m) ∧ cs (runA bs l m) ≤ m ∧ (∀ f ∈ runA bs l m, f.bid.price ≤ m) ∧ (∀ f ∈ runA bs l m, 0 ≤ f.qty ∧ 0 ≤ f.cost)
  | [], l, m, _, hl, hm => by simp [runA, qs, cs, hl, hm]
  | b :: bs, l, m, hb, hl, hm => by
    rw [List.any_cons, Bool.or_eq_false_iff] at hb
    have ht := takeN_bd b l m hb.1 hl hm
    unfold runA
    by_cases h0 : l = 0
    · rw [if_pos h0]; simp [qs, cs, hl, hm]
    rw [if_neg h0]
    by_cases h1 : takeN b l m = 0
    · rw [if_pos h1]; exact runA_bd bs l m hb.2 hl hm
    rw [if_neg h1]
    have ih := runA_bd bs (l - takeN b l m) (m - takeN b l m * b.price) hb.2 (by omega) (by omega)
    obtain ⟨i1, i2, i3, i4, i5, i6⟩ := ih
    generalize takeN b l m = t at *
    generalize runA bs (l - t) (m - t * b.price) = r at *
    have hp : 1 ≤ b.price := by simp [Bid.bad] at hb; omega
    have hp2 : b.price ≤ t * b.price := by
      have : 1 * b.price ≤ t * b.price := Int.mul_le_mul_of_nonneg_right (by omega) (by omega)
      omega
    simp only [qs, cs, List.map_cons, List.sum_cons] at *
    refine ⟨by omega, by omega, by omega, by omega, ?_, ?_⟩
    · intro f hf
      rcases List.mem_cons.1 hf with rfl | hf
      · show b.price ≤ m; omega
      · have := i5 f hf; omega
    · intro f hf
      rcases List.mem_cons.1 hf with rfl | hf
      · exact ⟨by show 0 ≤ t; omega, by show 0 ≤ t * b.price; omega⟩
      · exact i6 f hf

theorem runA_len : ∀ (bs : List Bid) (l m : Int), (runA bs l m).length ≤ bs.length
  | [], l, m => by simp [runA]
  | b :: bs, l, m => by
    rw [runA]
    split
    · simp
    · split
      · have := runA_len bs l m; simp; omega
      · have := runA_len bs (l - takeN b l m) (m - takeN b l m * b.price); simp; omega

theorem sumW_fold (l : List Int) : ∀ s : Int, 0 ≤ s → (∀ x ∈ l, 0 ≤ x) → s + l.sum ≤ 9223372036854775807 → l.foldl (fun s x => wrap64 (s + x)) s = s + l.sum := by
  induction l with
  | nil => intro s _ _ _; simp
  | cons x l ih =>
    intro s hs hx hle
    have h0 : 0 ≤ l.sum := by
      have hl : ∀ y ∈ l, 0 ≤ y := fun y hy => hx y (List.mem_cons_of_mem _ hy)
      clear ih hle hx
      induction l with
      | nil => simp
      | cons y l ih2 => rw [List.sum_cons]; have := hl y (List.mem_cons_self ..); have := ih2 fun z hz => hl z (List.mem_cons_of_mem _ hz); omega
    have hx0 := hx x (List.mem_cons_self ..)
    rw [List.sum_cons] at hle
    rw [List.foldl_cons, IntWalk.wrap64_in _ ⟨by omega, by omega⟩, ih (s + x) (by omega) (fun y hy => hx y (List.mem_cons_of_mem _ hy)) (by omega), List.sum_cons]
    omega

theorem sumW_eq (l : List Int) (h : ∀ x ∈ l, 0 ≤ x) (hle : l.sum ≤ 9223372036854775807) : sumW l = l.sum := by
  unfold sumW; rw [sumW_fold l 0 (Int.le_refl _) h (by omega)]; omega

/-- What holds of the rest, at each round of the law's own loop: a of the fills are seen, k of the bids. -/
structure Seen (R : List Fill) (bs : List Bid) (l m : Int) (k a : Nat) (lk mk : Int) : Prop where
  rest : R.drop a = runA (bs.drop k) lk mk
  al : a ≤ R.length
  l0 : 0 ≤ lk
  m0 : 0 ≤ mk
  q : qs R - l = qs (runA (bs.drop k) lk mk) - lk
  c : cs R - m = cs (runA (bs.drop k) lk mk) - mk

theorem Seen.start (bs : List Bid) (l m : Int) (hl : 0 ≤ l) (hm : 0 ≤ m) : Seen (runA bs l m) bs l m 0 0 l m := ⟨rfl, Nat.zero_le _, hl, hm, rfl, rfl⟩

theorem takeN_is (b : Bid) (l m : Int) : takeN b l m = m / b.price ∨ takeN b l m = l ∨ takeN b l m = b.qty := by
  unfold takeN; generalize m / b.price = x; omega

theorem Seen.step {R : List Fill} {bs : List Bid} {l m : Int} {k a : Nat} {lk mk : Int} {b : Bid} (h : Seen R bs l m k a lk mk) (hg : bs.any Bid.bad = false) (hb : bs.drop k = b :: bs.drop (k + 1)) :
    (∃ f : Fill, R[a]? = some f ∧ f.bid = b ∧ 0 ≤ f.qty ∧ f.qty ≤ b.qty ∧ ¬ (qs R < l ∧ f.qty < b.qty ∧ b.price ≤ m - cs R) ∧ ∃ lk' mk', Seen R bs l m (k + 1) (a + 1) lk' mk') ∨
    ((∀ f : Fill, R[a]? = some f → f.bid ≠ b) ∧ 0 < b.qty ∧ ¬ (qs R < l ∧ b.price ≤ m - cs R) ∧ ∃ lk' mk', Seen R bs l m (k + 1) a lk' mk') := by
  obtain ⟨hrest, hal, hl0, hm0, hq, hc⟩ := h
  have hgk : (bs.drop k).any Bid.bad = false := by
    rw [List.any_eq_false] at hg ⊢
    intro x hx; exact hg x (List.mem_of_mem_drop hx)
  have hgb : b.bad = false ∧ (bs.drop (k + 1)).any Bid.bad = false := by rw [hb, List.any_cons, Bool.or_eq_false_iff] at hgk; exact hgk
  have hpq : 1 ≤ b.price ∧ 1 ≤ b.qty := by have := hgb.1; simp [Bid.bad] at this; omega
  have hget : ∀ f : Fill, R[a]? = some f ↔ (R.drop a)[0]? = some f := fun f => by rw [List.getElem?_drop]; simp
  have ht := takeN_bd b lk mk hgb.1 hl0 hm0
  have ht2 := takeN_is b lk mk
  have h3 := Int.emod_lt_of_pos mk (show 0 < b.price by omega)
  have h4 := Int.emod_add_mul_ediv mk b.price
  have h5 : mk / b.price * b.price = b.price * (mk / b.price) := Int.mul_comm _ _
  rw [hb, runA] at hrest hq hc
  by_cases h0 : lk = 0
  · have hr0 : runA (bs.drop (k + 1)) lk mk = [] := by cases bs.drop (k + 1) <;> simp [runA, h0]
    rw [if_pos h0] at hrest hq hc
    refine .inr ⟨fun f hf => ?_, by omega, ?_, lk, mk, ⟨by rw [hrest, hr0], hal, hl0, hm0, by rw [hr0]; exact hq, by rw [hr0]; exact hc⟩⟩
    · rw [hget, hrest] at hf; simp at hf
    · simp only [qs, List.map_nil, List.sum_nil] at hq ⊢; omega
  rw [if_neg h0] at hrest hq hc
  by_cases h1 : takeN b lk mk = 0
  · rw [if_pos h1] at hrest hq hc
    have hbd := runA_bd (bs.drop (k + 1)) lk mk hgb.2 hl0 hm0
    have hlt : mk < b.price := by
      rw [h1] at ht2
      rcases ht2 with h2 | h2 | h2
      · rw [← h2, Int.mul_zero] at h4; omega
      · omega
      · omega
    refine .inr ⟨fun f hf e => ?_, by omega, ?_, lk, mk, ⟨hrest, hal, hl0, hm0, hq, hc⟩⟩
    · rw [hget, hrest] at hf
      have := hbd.2.2.2.2.1 f (List.mem_of_getElem? hf)
      rw [e] at this; omega
    · have := hbd.2.2.1; omega
  rw [if_neg h1] at hrest hq hc
  have hbd := runA_bd (bs.drop (k + 1)) (lk - takeN b lk mk) (mk - takeN b lk mk * b.price) hgb.2 (by omega) (by omega)
  simp only [qs, cs, List.map_cons, List.sum_cons] at hq hc hbd ⊢
  refine .inl ⟨⟨b, takeN b lk mk, takeN b lk mk * b.price⟩, ?_, rfl, by show 0 ≤ takeN b lk mk; omega, by show takeN b lk mk ≤ b.qty; omega, ?_, lk - takeN b lk mk, mk - takeN b lk mk * b.price, ⟨?_, ?_, by omega, by omega, ?_, ?_⟩⟩
  · rw [hget, hrest]; rfl
  · rintro ⟨g1, g2, g3⟩
    have g2' : takeN b lk mk < b.qty := g2
    rcases ht2 with h2 | h2 | h2
    · rw [h2] at hc hbd ht; omega
    · omega
    · omega
  · rw [Nat.add_comm, ← List.drop_drop]
    rw [show List.drop a (List.drop 1 R) = List.drop 1 (List.drop a R) by rw [List.drop_drop, List.drop_drop, Nat.add_comm], hrest]; rfl
  · have := congrArg List.length hrest
    rw [List.length_drop, List.length_cons] at this
    omega
  · simp only [qs]; omega
  · simp only [cs]; omega

theorem Seen.done {R : List Fill} {bs : List Bid} {l m : Int} {k a : Nat} {lk mk : Int} (h : Seen R bs l m k a lk mk) (hk : bs.length ≤ k) : a = R.length := by
  have h1 := h.rest
  rw [List.drop_of_length_le hk] at h1
  have h2 := congrArg List.length h1
  simp [runA] at h2
  have := h.al
  omega
end Go.Proofs.Ytjkabmijkbpodab
