/-
  The plain law of the stable sort, second part: the binary searches, the insertion, the blocks, and the list that comes out.
-/
import Derived.Test.YtfnhffcjhdeleaaRkP
namespace Go.Proofs.Ytfnhffcjhdeleaa
open Go.Sort

/-- A binary search between lo and hi, at s and r. -/
structure Bis (P : Nat → Prop) (lo hi s r : Nat) : Prop where
  ls : lo ≤ s
  sr : s ≤ r
  rh : r ≤ hi
  l : s = lo ∨ P (s - 1)
  h : r = hi ∨ ¬ P r
theorem Bis.start {P : Nat → Prop} {lo hi : Nat} (h : lo ≤ hi) : Bis P lo hi lo hi := ⟨by omega, h, by omega, .inl rfl, .inl rfl⟩
theorem Bis.up {P : Nat → Prop} {lo hi s r : Nat} (h : Bis P lo hi s r) {c : Nat} (h1 : s ≤ c) (h2 : c < r) (hp : P c) : Bis P lo hi (c + 1) r :=
  ⟨by have := h.ls; omega, h2, h.rh, .inr (by simpa using hp), h.h⟩
theorem Bis.down {P : Nat → Prop} {lo hi s r : Nat} (h : Bis P lo hi s r) {c : Nat} (h1 : s ≤ c) (h2 : c < r) (hp : ¬ P c) : Bis P lo hi s c :=
  ⟨h.ls, h1, by have := h.rh; omega, h.l, .inr hp⟩

section
variable {lt : Nat → Nat → Prop} {d d1 d' : Array Nat} {a m b i : Nat}

theorem sorted_le {a b : Nat} (h : SortedOn lt d a b) {i j : Nat} (h1 : a ≤ i) (h2 : i ≤ j) (h3 : j < b) : d[i]! = d[j]! ∨ lt d[i]! d[j]! := by
  by_cases e : i = j
  · subst e; exact .inl rfl
  · exact .inr (h i j h1 (by omega) h3)
theorem Str.le_lt (hs : Str lt) {x y z : Nat} (h : x = y ∨ lt x y) (h' : lt y z) : lt x z := h.elim (fun e => e ▸ h') fun k => hs.tr _ _ _ k h'
theorem Str.lt_le (hs : Str lt) {x y z : Nat} (h : lt x y) (h' : y = z ∨ lt y z) : lt x z := h'.elim (fun e => e ▸ h) fun k => hs.tr _ _ _ h k

theorem one_left (hs : Str lt) (hp : Pre lt d a (a + 1) b) (hb : Bis (fun h => lt d[h]! d[a]!) (a + 1) b i i) (h : Sh (rotI a (a + 1) i) d d1) : Merged lt d a b d1 := by
  have g1 := hb.ls; have g2 := hb.rh
  refine merged_direct hp h (Nat.le_refl _) (by omega) g1 g2 (fun x y h1 h2 => by omega) (fun x y h1 h2 h3 h4 => ?_) (fun x y h1 h2 h3 h4 => ?_) (fun x y h1 h2 => by omega)
  · obtain rfl : y = a := by omega
    rcases hb.l with e | hl
    · omega
    · exact hs.le_lt (sorted_le hp.sr h1 (by omega) (by omega)) hl
  · obtain rfl : x = a := by omega
    rcases hb.h with e | hl
    · omega
    · exact hs.lt_le (hs.not hl (by have := hp.ne x i (by omega) (by omega) g1 (by omega); omega)) (sorted_le hp.sr g1 h3 h4)

theorem one_right (hs : Str lt) (hp : Pre lt d a m (m + 1)) (hb : Bis (fun h => ¬ lt d[m]! d[h]!) a m i i) (h : Sh (rotI i m (m + 1)) d d1) : Merged lt d a (m + 1) d1 := by
  have g1 := hb.ls; have g2 := hb.rh
  refine merged_direct hp h g1 g2 (by omega) (Nat.le_refl _) (fun x y h1 h2 h3 h4 => by omega) (fun x y h1 h2 h3 h4 => ?_) (fun x y h1 h2 h3 h4 => by omega) (fun x y h1 h2 h3 h4 => ?_)
  · obtain rfl : x = m := by omega
    rcases hb.h with e | hl
    · omega
    · exact hs.lt_le (Classical.not_not.1 hl) (sorted_le hp.sl (by omega) h3 (by omega))
  · obtain rfl : y = m := by omega
    rcases hb.l with e | hl
    · omega
    · exact hs.le_lt (sorted_le hp.sl h1 (by omega) (by omega)) (hs.not hl (by have := hp.ne (i - 1) y (by omega) (by omega) (by omega) (by omega); omega))

/-- The search of the symmetric merge: where both lists are cut. -/
theorem sym_cut (hs : Str lt) (hp : Pre lt d a m b) {lo hi s : Nat}
    (hc : (m > (a + b) / 2 ∧ lo = (a + b) / 2 + m - b ∧ hi = (a + b) / 2) ∨ (m ≤ (a + b) / 2 ∧ lo = a ∧ hi = m))
    (hb : Bis (fun c => ¬ lt d[(a + b) / 2 + m - 1 - c]! d[c]!) lo hi s s) :
    a ≤ s ∧ s ≤ m ∧ m ≤ (a + b) / 2 + m - s ∧ (a + b) / 2 + m - s ≤ b ∧ s ≤ (a + b) / 2 ∧
    (∀ i j, a ≤ i → i < s → (a + b) / 2 + m - s ≤ j → j < b → lt d[i]! d[j]!) ∧ (∀ i j, m ≤ i → i < (a + b) / 2 + m - s → s ≤ j → j < m → lt d[i]! d[j]!) := by
  have g1 := hb.ls; have g2 := hb.rh; have ha := hp.am; have hm := hp.mb
  refine ⟨by omega, by omega, by omega, by omega, by omega, fun i j h1 h2 h3 h4 => ?_, fun i j h1 h2 h3 h4 => ?_⟩
  · rcases hb.l with e | hl
    · omega
    · have e : (a + b) / 2 + m - 1 - (s - 1) = (a + b) / 2 + m - s := by omega
      simp only [e] at hl
      have := hp.ne (s - 1) ((a + b) / 2 + m - s) (by omega) (by omega) (by omega) (by omega)
      exact hs.le_lt (sorted_le hp.sl h1 (by omega) (by omega)) (hs.lt_le (hs.not hl (by omega)) (sorted_le hp.sr (by omega) h3 h4))
  · rcases hb.h with e | hl
    · omega
    · have hl' := Classical.not_not.1 hl
      exact hs.le_lt (sorted_le hp.sr h1 (by omega) (by omega)) (hs.lt_le hl' (sorted_le hp.sl (by omega) h3 h4))

/-! ### Runs that hold just their own places -/
def Good (lt : Nat → Nat → Prop) (d : Array Nat) (lo hi : Nat) : Prop := SortedOn lt d lo hi ∧ ∀ x, MemOn d lo hi x ↔ lo ≤ x ∧ x < hi

theorem Good.at (h : Good lt d a b) {i : Nat} (h1 : a ≤ i) (h2 : i < b) : a ≤ d[i]! ∧ d[i]! < b := (h.2 _).1 ⟨i, h1, h2, rfl⟩
theorem Good.empty (lt : Nat → Nat → Prop) (d : Array Nat) (a : Nat) : Good lt d a a := ⟨fun i j h1 h2 h3 => by omega, fun x => ⟨fun ⟨i, h1, h2, _⟩ => by omega, fun h => by omega⟩⟩
theorem Good.one (h : d[a]! = a) : Good lt d a (a + 1) := ⟨fun i j h1 h2 h3 => by omega, fun x => ⟨fun ⟨i, h1, h2, h3⟩ => by
    obtain rfl : i = a := by omega
    omega, fun hx => by
    obtain rfl : x = a := by omega
    exact ⟨x, by omega, by omega, h⟩⟩⟩
theorem Good.congr (h : Good lt d a b) (e : ∀ k, a ≤ k → k < b → d'[k]! = d[k]!) : Good lt d' a b :=
  ⟨fun i j h1 h2 h3 => by rw [e i h1 (by omega), e j (by omega) h3]; exact h.1 i j h1 h2 h3,
   fun x => Iff.trans ⟨fun ⟨i, h1, h2, h3⟩ => ⟨i, h1, h2, by rw [← h3, e i h1 h2]⟩, fun ⟨i, h1, h2, h3⟩ => ⟨i, h1, h2, by rw [← h3, e i h1 h2]⟩⟩ (h.2 x)⟩
theorem Good.pre (h1 : Good lt d a m) (h2 : Good lt d m b) (ha : a < m) (hm : m < b) (hb : b ≤ d.size) : Pre lt d a m b :=
  ⟨ha, hm, hb, h1.1, h2.1, fun i j k1 k2 k3 k4 => by have := h1.at k1 k2; have := h2.at k3 k4; omega⟩
theorem Good.merge (h1 : Good lt d a m) (h2 : Good lt d m b) (ha : a ≤ m) (hm : m ≤ b) (h : Merged lt d a b d') : Good lt d' a b :=
  ⟨h.sorted, fun x => (h.mem x).trans (by
    constructor
    · rintro ⟨i, k1, k2, rfl⟩
      by_cases c : i < m
      · have := h1.at k1 c; omega
      · have := h2.at (i := i) (by omega) k2; omega
    · intro hx
      by_cases c : x < m
      · obtain ⟨i, k1, k2, k3⟩ := (h1.2 x).2 ⟨hx.1, c⟩
        exact ⟨i, k1, by omega, k3⟩
      · obtain ⟨i, k1, k2, k3⟩ := (h2.2 x).2 ⟨by omega, hx.2⟩
        exact ⟨i, by omega, k2, k3⟩)⟩

/-! ### Insertion -/
theorem rot_head {j m : Nat} (h : j ≤ m) : rotI j m (m + 1) j = m := by
  unfold rotI
  repeat' split
  all_goals omega
theorem rot_ahead {j m : Nat} (h : j + 1 ≤ m) : rotI (j + 1) m (m + 1) j = j := by
  unfold rotI
  repeat' split
  all_goals omega
theorem ins_inner (B : Nat → Nat → Bool) (HB : ∀ x y, x < y → (B y x = true ↔ lt y x)) (hm : m < d.size) (hne : ∀ i, a ≤ i → i < m → d[i]! < d[m]!) :
    ∀ (j : Nat) (dj : Array Nat), a ≤ j → j ≤ m → Sh (rotI j m (m + 1)) d dj → (j = m ∨ lt d[m]! d[j]!) →
      ∃ s, Bis (fun h => ¬ lt d[m]! d[h]!) a m s s ∧ Sh (rotI s m (m + 1)) d (insInner B a j dj)
  | 0, dj, ha, hj, hsh, hl => ⟨0, ⟨ha, Nat.le_refl _, hj, .inl (by omega), hl.imp (fun e => e) fun k hk => hk k⟩, by rw [insInner]; exact hsh⟩
  | j + 1, dj, ha, hj, hsh, hl => by
    have e1 : dj[j + 1]! = d[m]! := by
      rw [hsh.2 _ (by omega), show rotI (j + 1) m (m + 1) (j + 1) = m from rot_head (by omega)]
    have e2 : dj[j]! = d[j]! := by
      rw [hsh.2 _ (by omega), show rotI (j + 1) m (m + 1) j = j from rot_ahead (by omega)]
    rw [insInner]
    by_cases hc : a < j + 1 ∧ B d[m]! d[j]! = true
    · rw [if_pos (by rw [e1, e2]; simp only [Bool.and_eq_true, decide_eq_true_eq]; exact hc)]
      exact ins_inner B HB hm hne j _ (by omega) (by omega) (hsh.left_step (by omega) hm) (.inr ((HB _ _ (hne j (by omega) (by omega))).1 hc.2))
    · rw [if_neg (by rw [e1, e2]; simp only [Bool.and_eq_true, decide_eq_true_eq]; exact hc)]
      refine ⟨j + 1, ⟨ha, Nat.le_refl _, hj, ?_, hl.imp (fun e => e) fun k hk => hk k⟩, hsh⟩
      by_cases h1 : j + 1 = a
      · exact .inl h1
      · refine .inr fun hlt => hc ⟨by omega, (HB _ _ (hne j (by omega) (by omega))).2 (by simpa using hlt)⟩

theorem ins_outer (hs : Str lt) (B : Nat → Nat → Bool) (HB : ∀ x y, x < y → (B y x = true ↔ lt y x)) : ∀ (k i : Nat) (d : Array Nat), b - i = k → a < i → i ≤ b → b ≤ d.size → Good lt d a i → (∀ j, i ≤ j → j < b → d[j]! = j) →
    (insOuter B a b i d).size = d.size ∧ Good lt (insOuter B a b i d) a b ∧ ∀ k, k < d.size → (k < a ∨ b ≤ k) → (insOuter B a b i d)[k]! = d[k]!
  | 0, i, d, hk, ha, hb, hsz, hg, hr => by
    obtain rfl : i = b := by omega
    rw [insOuter, if_neg (by omega)]
    exact ⟨rfl, hg, fun _ _ _ => rfl⟩
  | k + 1, i, d, hk, ha, hb, hsz, hg, hr => by
    rw [insOuter, if_pos (by omega)]
    have hi := hr i (Nat.le_refl _) (by omega)
    have hone : Good lt d i (i + 1) := Good.one hi
    have hp : Pre lt d a i (i + 1) := hg.pre hone ha (by omega) (by omega)
    obtain ⟨s, hbs, hsh⟩ := ins_inner (a := a) (m := i) B HB (by omega) (fun x h1 h2 => hp.ne x i h1 h2 (by omega) (by omega)) i d (by omega) (Nat.le_refl _) (Sh.rot_none' d) (.inl rfl)
    have hm := one_right hs hp hbs hsh
    have hg' := hg.merge hone (by omega) (by omega) hm
    obtain ⟨e1, e2, e3⟩ := ins_outer hs B HB k (i + 1) (insInner B a i d) (by omega) (by omega) (by omega) (by rw [hm.size]; exact hsz) hg' (fun j h1 h2 => by rw [hm.out j (by omega) (.inr h1)]; exact hr j (by omega) h2)
    refine ⟨e1.trans hm.size, e2, fun x hx hc => ?_⟩
    rw [e3 x (by rw [hm.size]; exact hx) hc, hm.out x hx (by omega)]

theorem ins_good (hs : Str lt) (B : Nat → Nat → Bool) (HB : ∀ x y, x < y → (B y x = true ↔ lt y x)) (hab : a ≤ b) (hb : b ≤ d.size) (hr : ∀ j, a ≤ j → j < b → d[j]! = j) :
    (insertionSort B d a b).size = d.size ∧ Good lt (insertionSort B d a b) a b ∧ ∀ k, k < d.size → (k < a ∨ b ≤ k) → (insertionSort B d a b)[k]! = d[k]! := by
  unfold insertionSort
  by_cases e : a = b
  · subst e
    rw [insOuter, if_neg (by omega)]
    exact ⟨rfl, Good.empty _ _ _, fun _ _ _ => rfl⟩
  · exact ins_outer hs B HB (b - (a + 1)) (a + 1) d rfl (by omega) (by omega) hb (Good.one (hr a (Nat.le_refl _) (by omega))) (fun j h1 h2 => hr j (by omega) h2)

/-! ### The blocks -/
def Blks (lt : Nat → Nat → Prop) (d : Array Nat) (s lo n : Nat) : Prop := ∀ q, s ∣ q → lo ≤ q → q < n → Good lt d q (min (q + s) n)

theorem dvd_step {s q a : Nat} (h0 : 0 < s) (h1 : s ∣ q) (h2 : s ∣ a) (h : q < a) : q + s ≤ a := by
  obtain ⟨x, rfl⟩ := h1
  obtain ⟨y, rfl⟩ := h2
  have : x < y := Nat.lt_of_mul_lt_mul_left h
  have := Nat.mul_le_mul_left s (show x + 1 ≤ y from this)
  rw [Nat.mul_add, Nat.mul_one] at this
  exact this

/-- The first loop: blocks of s are sorted up to a, the rest is as it was. -/
structure First (lt : Nat → Nat → Prop) (d : Array Nat) (s a n : Nat) : Prop where
  sz : d.size = n
  an : a ≤ n
  da : s ∣ a
  done : ∀ q, s ∣ q → q < a → Good lt d q (q + s)
  rest : ∀ k, a ≤ k → k < n → d[k]! = k

theorem First.step (hs : Str lt) (B : Nat → Nat → Bool) (HB : ∀ x y, x < y → (B y x = true ↔ lt y x)) {s n : Nat} (h0 : 0 < s) (h : First lt d s a n) (hb : a + s ≤ n) : First lt (insertionSort B d a (a + s)) s (a + s) n := by
  have hsz := h.sz
  obtain ⟨e1, e2, e3⟩ := ins_good (a := a) (b := a + s) (d := d) hs B HB (by omega) (by omega) (fun j h1 h2 => h.rest j h1 (by omega))
  refine ⟨e1.trans hsz, hb, Nat.dvd_add h.da (Nat.dvd_refl _), fun q hq hl => ?_, fun k h1 h2 => ?_⟩
  · by_cases c : q < a
    · have := dvd_step h0 hq h.da c
      exact (h.done q hq c).congr fun k h1 h2 => e3 k (by omega) (.inl (by omega))
    · have : q = a := by
        have := (Nat.dvd_sub hq h.da)
        have : q - a = 0 := Nat.eq_zero_of_dvd_of_lt this (by omega)
        omega
      subst this
      exact e2
  · rw [e3 k (by omega) (.inr h1)]; exact h.rest k (by omega) h2

theorem First.last (hs : Str lt) (B : Nat → Nat → Bool) (HB : ∀ x y, x < y → (B y x = true ↔ lt y x)) {s n : Nat} (h0 : 0 < s) (h : First lt d s a n) (hb : n < a + s) : (insertionSort B d a n).size = n ∧ Blks lt (insertionSort B d a n) s 0 n := by
  have hsz := h.sz; have han := h.an
  obtain ⟨e1, e2, e3⟩ := ins_good (a := a) (b := n) (d := d) hs B HB (by omega) (by omega) (fun j h1 h2 => h.rest j h1 h2)
  refine ⟨e1.trans hsz, fun q hq _ hl => ?_⟩
  by_cases c : q < a
  · have := dvd_step h0 hq h.da c
    rw [Nat.min_eq_left (by omega)]
    exact (h.done q hq c).congr fun k h1 h2 => e3 k (by omega) (.inl (by omega))
  · have : q = a := by
      have := (Nat.dvd_sub hq h.da)
      have : q - a = 0 := Nat.eq_zero_of_dvd_of_lt this (by omega)
      omega
    subst this
    rw [Nat.min_eq_right (by omega)]
    exact e2

/-- The second loop: pairs of blocks are merged up to a. -/
structure Second (lt : Nat → Nat → Prop) (d : Array Nat) (s a n : Nat) : Prop where
  sz : d.size = n
  an : a ≤ n
  da : 2 * s ∣ a
  done : ∀ q, 2 * s ∣ q → q < a → Good lt d q (q + 2 * s)
  rest : Blks lt d s a n

theorem Second.start {s n : Nat} (hsz : d.size = n) (h : Blks lt d s 0 n) : Second lt d s 0 n := ⟨hsz, Nat.zero_le _, Nat.dvd_zero _, fun q _ h => by omega, h⟩
theorem Second.da1 {s n : Nat} (h : Second lt d s a n) : s ∣ a := Nat.dvd_trans (Nat.dvd_mul_left s 2) h.da
theorem Second.g1 {s n : Nat} (h : Second lt d s a n) (h1 : a + s ≤ n) (h0 : 0 < s) : Good lt d a (a + s) := by
  have := h.rest a h.da1 (Nat.le_refl _) (by omega)
  rwa [Nat.min_eq_left h1] at this
theorem Second.g2 {s n : Nat} (h : Second lt d s a n) (h1 : a + s < n) : Good lt d (a + s) (min (a + s + s) n) :=
  h.rest (a + s) (Nat.dvd_add h.da1 (Nat.dvd_refl _)) (by omega) h1
theorem Second.pre {s n : Nat} (h : Second lt d s a n) (h0 : 0 < s) (h1 : a + 2 * s ≤ n) : Pre lt d a (a + s) (a + 2 * s) := by
  have g := h.g2 (show a + s < n by omega)
  rw [Nat.min_eq_left (by omega), show a + s + s = a + 2 * s by omega] at g
  exact (h.g1 (by omega) h0).pre g (by omega) (by omega) (by rw [h.sz]; exact h1)
theorem Second.step {s n : Nat} (h : Second lt d s a n) (h0 : 0 < s) (h1 : a + 2 * s ≤ n) (hm : Merged lt d a (a + 2 * s) d') : Second lt d' s (a + 2 * s) n := by
  have g := h.g2 (show a + s < n by omega)
  rw [Nat.min_eq_left (by omega), show a + s + s = a + 2 * s by omega] at g
  have hsz := h.sz
  refine ⟨hm.size.trans hsz, h1, Nat.dvd_add h.da (Nat.dvd_refl _), fun q hq hl => ?_, fun q hq h2 h3 => ?_⟩
  · by_cases c : q < a
    · have := dvd_step (by omega) hq h.da c
      exact (h.done q hq c).congr fun k h1 h2 => hm.out k (by omega) (.inl (by omega))
    · have : q = a := by
        have := (Nat.dvd_sub hq h.da)
        have : q - a = 0 := Nat.eq_zero_of_dvd_of_lt this (by omega)
        omega
      subst this
      exact (h.g1 (by omega) h0).merge g (by omega) (by omega) hm
  · exact (h.rest q hq (by omega) h3).congr fun k h4 h5 => hm.out k (by omega) (.inr (by omega))
theorem Second.pre_last {s n : Nat} (h : Second lt d s a n) (h0 : 0 < s) (h1 : a + s < n) (h2 : n < a + 2 * s) : Pre lt d a (a + s) n := by
  have g := h.g2 h1
  rw [Nat.min_eq_right (by omega)] at g
  exact (h.g1 (by omega) h0).pre g (by omega) h1 (by rw [h.sz]; exact Nat.le_refl _)
theorem Second.last {s n : Nat} (h : Second lt d s a n) (h0 : 0 < s) (h1 : a + s < n) (h2 : n < a + 2 * s) (hm : Merged lt d a n d') : d'.size = n ∧ Blks lt d' (2 * s) 0 n := by
  have g := h.g2 h1
  rw [Nat.min_eq_right (by omega)] at g
  have hsz := h.sz
  refine ⟨hm.size.trans hsz, fun q hq _ hl => ?_⟩
  by_cases c : q < a
  · have := dvd_step (by omega) hq h.da c
    rw [Nat.min_eq_left (by omega)]
    exact (h.done q hq c).congr fun k h1 h2 => hm.out k (by omega) (.inl (by omega))
  · have : q = a := by
      have := (Nat.dvd_sub hq h.da)
      have : q - a = 0 := Nat.eq_zero_of_dvd_of_lt this (by omega)
      omega
    subst this
    rw [Nat.min_eq_right (by omega)]
    exact (h.g1 (by omega) h0).merge g (by omega) (by omega) hm
theorem Second.last_none {s n : Nat} (h : Second lt d s a n) (h0 : 0 < s) (h1 : n ≤ a + s) : d.size = n ∧ Blks lt d (2 * s) 0 n := by
  have hsz := h.sz
  refine ⟨hsz, fun q hq _ hl => ?_⟩
  by_cases c : q < a
  · have := dvd_step (by omega) hq h.da c
    have := h.an
    rw [Nat.min_eq_left (by omega)]
    exact h.done q hq c
  · have : q = a := by
      have := (Nat.dvd_sub hq h.da)
      have : q - a = 0 := Nat.eq_zero_of_dvd_of_lt this (by omega)
      omega
    subst this
    have := h.rest q h.da1 (Nat.le_refl _) hl
    rw [Nat.min_eq_right (by omega)] at this ⊢
    exact this
theorem Blks.all {s n : Nat} (h : Blks lt d s 0 n) (hn : n ≤ s) : Good lt d 0 n := by
  by_cases e : n = 0
  · subst e; exact Good.empty _ _ _
  · have := h 0 (Nat.dvd_zero _) (Nat.le_refl _) (by omega)
    rwa [Nat.min_eq_right (by omega)] at this
end

/-! ### The list -/
/-- The places below n, in their order. -/
def ordB (B : Nat → Nat → Bool) (n : Nat) : List Nat := (List.range n).mergeSort fun x y => !B y x

theorem strB_le {B : Nat → Nat → Bool} (h : Str fun x y => B x y = true) : (∀ a b c : Nat, (!B b a) = true → (!B c b) = true → (!B c a) = true) ∧ ∀ a b : Nat, (!B b a || !B a b) = true := by
  constructor
  · intro a b c h1 h2
    simp only [Bool.not_eq_true', ← Bool.not_eq_true] at h1 h2 ⊢
    intro hca
    by_cases e : a = b
    · subst e; exact h2 hca
    · by_cases e' : b = c
      · subst e'; exact h1 hca
      · exact h.asymm hca (h.tr _ _ _ (h.not h1 (fun k => e k.symm)) (h.not h2 (fun k => e' k.symm)))
  · intro a b
    cases h1 : B b a with
    | false => rfl
    | true =>
      have := h.asymm h1
      simp only [Bool.not_eq_true] at this
      simp [this]

theorem ordB_perm (B : Nat → Nat → Bool) (n : Nat) : (ordB B n).Perm (List.range n) := List.mergeSort_perm _ _
theorem ordB_len (B : Nat → Nat → Bool) (n : Nat) : (ordB B n).length = n := by rw [(ordB_perm B n).length_eq]; simp
theorem ordB_mem {B : Nat → Nat → Bool} {n x : Nat} : x ∈ ordB B n ↔ x < n := by rw [(ordB_perm B n).mem_iff]; simp
theorem ordB_nodup (B : Nat → Nat → Bool) (n : Nat) : (ordB B n).Nodup := (ordB_perm B n).symm.nodup List.nodup_range
theorem ordB_sorted {B : Nat → Nat → Bool} (h : Str fun x y => B x y = true) (n : Nat) : (ordB B n).Pairwise fun x y => B x y = true := by
  have hp := List.pairwise_mergeSort (le := fun x y => !B y x) (strB_le h).1 (strB_le h).2 (List.range n)
  have hn := ordB_nodup B n
  unfold ordB at hn ⊢
  have := List.Pairwise.and hp hn
  refine this.imp fun {x y} hxy => ?_
  have := hxy.1
  simp only [Bool.not_eq_true', ← Bool.not_eq_true] at this
  exact h.not this (fun e => hxy.2 e.symm)

/-- There is one sorted list of the places below n. -/
theorem ordB_only {B : Nat → Nat → Bool} (h : Str fun x y => B x y = true) {n : Nat} {l : List Nat} (hs : l.Pairwise fun x y => B x y = true) (hm : ∀ x, x ∈ l ↔ x < n) : l = ordB B n := by
  have hn : l.Nodup := hs.imp fun {x y} hxy e => by subst e; exact h.irr _ hxy
  refine List.Perm.eq_of_pairwise (le := fun x y => B x y = true) (fun a b _ _ h1 h2 => absurd h2 (h.asymm h1)) hs (ordB_sorted h n) ?_
  exact (List.perm_ext_iff_of_nodup hn (ordB_nodup B n)).2 fun x => by rw [hm, ordB_mem]

theorem good_list {B : Nat → Nat → Bool} (h : Str fun x y => B x y = true) {n : Nat} {d : Array Nat} (hg : Good (fun x y => B x y = true) d 0 n) (hd : d.size = n) : d.toList = ordB B n := by
  have hget : ∀ i, i < n → d.toList[i]? = some d[i]! := fun i hi => by
    rw [getElem!_pos d i (by omega), List.getElem?_eq_getElem (by simpa using (show i < d.size by omega))]; simp
  refine ordB_only h ?_ fun x => ?_
  · rw [List.pairwise_iff_getElem]
    intro i j hi hj hij
    have hi' : i < n := by simpa [hd] using hi
    have hj' : j < n := by simpa [hd] using hj
    have := hg.1 i j (Nat.zero_le _) hij hj'
    rw [getElem!_pos d i (by omega), getElem!_pos d j (by omega)] at this
    simpa using this
  · rw [List.mem_iff_getElem?]
    constructor
    · rintro ⟨i, hi⟩
      have hi' : i < n := by
        have := (List.getElem?_eq_some_iff.1 hi).1
        simpa [hd] using this
      rw [hget i hi'] at hi
      have := hg.at (Nat.zero_le i) hi'
      simp at hi
      omega
    · intro hx
      obtain ⟨i, _, hi, he⟩ := (hg.2 x).2 ⟨Nat.zero_le _, hx⟩
      exact ⟨i, by rw [hget i hi, he]⟩
end Go.Proofs.Ytfnhffcjhdeleaa
