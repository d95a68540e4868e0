/-
  The plain law of the stable sort of slices (blocks of insertion, merged in place): arrays of places, index maps, what is sorted.
-/
import Derived.Sort.Lot0
namespace Go.Proofs.Ytfnhffcjhdeleaa
open Go.Sort

/-- What two neighbouring runs exchanged stand at: place k of the rotated row held this place of the old one. -/
def rotI (a m b k : Nat) : Nat := if a ≤ k ∧ k < a + (b - m) then k + (m - a) else if a + (b - m) ≤ k ∧ k < b then k - (b - m) else k
/-- The same of two runs of n, exchanged place by place. -/
def swpI (a b n k : Nat) : Nat := if a ≤ k ∧ k < a + n then k - a + b else if b ≤ k ∧ k < b + n then k - b + a else k

theorem rotI_lt {a m b k N : Nat} (h1 : a ≤ m) (h2 : m ≤ b) (h3 : b ≤ N) (hk : k < N) : rotI a m b k < N := by
  unfold rotI; split
  · omega
  · split <;> omega

/-- d' is d with its places mapped. -/
def Sh (σ : Nat → Nat) (d d' : Array Nat) : Prop := d'.size = d.size ∧ ∀ k, k < d.size → d'[k]! = d[σ k]!

theorem Sh.refl (d : Array Nat) : Sh (fun k => k) d d := ⟨rfl, fun _ _ => rfl⟩
theorem Sh.to {σ τ : Nat → Nat} {d d' : Array Nat} (h : Sh σ d d') (e : ∀ k, k < d.size → τ k = σ k) : Sh τ d d' := ⟨h.1, fun k hk => by rw [h.2 k hk, e k hk]⟩
theorem Sh.comp {σ τ ρ : Nat → Nat} {d d1 d2 : Array Nat} (h : Sh σ d d1) (h' : Sh τ d1 d2) (hτ : ∀ k, k < d.size → τ k < d.size) (e : ∀ k, k < d.size → σ (τ k) = ρ k) : Sh ρ d d2 :=
  ⟨h'.1.trans h.1, fun k hk => by rw [h'.2 k (by rw [h.1]; exact hk), h.2 _ (hτ k hk), e k hk]⟩

theorem swp_at (d : Array Nat) {i j : Nat} (hi : i < d.size) (hj : j < d.size) (k : Nat) : (swp d i j)[k]! = if k = j then d[i]! else if k = i then d[j]! else d[k]! := by
  by_cases e : k = j
  · subst e; rw [if_pos rfl]; exact swp_right d i k hj
  · rw [if_neg e]
    by_cases e' : k = i
    · subst e'; rw [if_pos rfl]; exact swp_left d k j hi e
    · rw [if_neg e']; exact swp_other d i j k e' e

/-- One exchange behind a map. -/
theorem Sh.swap {σ ρ : Nat → Nat} {d d1 : Array Nat} (h : Sh σ d d1) {i j : Nat} (hi : i < d.size) (hj : j < d.size) (e : ∀ k, k < d.size → ρ k = if k = j then σ i else if k = i then σ j else σ k) : Sh ρ d (swp d1 i j) := by
  refine ⟨by rw [size_swp]; exact h.1, fun k hk => ?_⟩
  rw [swp_at d1 (by rw [h.1]; exact hi) (by rw [h.1]; exact hj), e k hk]
  by_cases e1 : k = j
  · rw [if_pos e1, if_pos e1, h.2 i hi]
  · rw [if_neg e1, if_neg e1]
    by_cases e2 : k = i
    · rw [if_pos e2, if_pos e2, h.2 j hj]
    · rw [if_neg e2, if_neg e2, h.2 k hk]

/-- One step of the exchange of two runs. -/
theorem Sh.swpI_step {d d1 : Array Nat} {a b i : Nat} (h : Sh (swpI a b i) d d1) (hab : a + i < b) (hb : b + i < d.size) : Sh (swpI a b (i + 1)) d (swp d1 (a + i) (b + i)) :=
  h.swap (by omega) hb fun k hk => by
    unfold swpI
    repeat' split
    all_goals omega

theorem Sh.swpI_zero (d : Array Nat) (a b : Nat) : Sh (swpI a b 0) d d := (Sh.refl d).to fun k _ => by
  unfold swpI
  repeat' split
  all_goals omega

/-! ### The rotation -/
/-- What the rotation's loop keeps: i and j are left to be rotated about m. -/
def RotInv (a m b : Nat) (d : Array Nat) (i j : Nat) (dk : Array Nat) : Prop :=
  1 ≤ i ∧ 1 ≤ j ∧ a + i ≤ m ∧ m + j ≤ b ∧ ∃ τ : Nat → Nat, (∀ k, k < d.size → τ k < d.size) ∧ Sh τ d dk ∧ ∀ k, k < d.size → τ (rotI (m - i) m (m + j) k) = rotI a m b k

theorem RotInv.start {a m b : Nat} {d : Array Nat} (h1 : a < m) (h2 : m < b) : RotInv a m b d (m - a) (b - m) d :=
  ⟨by omega, by omega, by omega, by omega, fun k => k, fun _ h => h, Sh.refl d, fun k _ => by rw [show m - (m - a) = a by omega, show m + (b - m) = b by omega]⟩

theorem swpI_lt {a b n k N : Nat} (h1 : a + n ≤ N) (h2 : b + n ≤ N) (hk : k < N) : swpI a b n k < N := by
  unfold swpI; split
  · omega
  · split <;> omega

theorem rot_more {m i j k : Nat} (h1 : j < i) (h2 : i ≤ m) : swpI (m - i) m j (rotI (m - (i - j)) m (m + j) k) = rotI (m - i) m (m + j) k := by
  unfold rotI swpI
  repeat' split
  all_goals omega
theorem rot_less {m i j k : Nat} (h1 : i < j) (h2 : i ≤ m) : swpI (m - i) (m + j - i) i (rotI (m - i) m (m + (j - i)) k) = rotI (m - i) m (m + j) k := by
  unfold rotI swpI
  repeat' split
  all_goals omega
theorem rot_last {m i k : Nat} (h2 : i ≤ m) : swpI (m - i) m i k = rotI (m - i) m (m + i) k := by
  unfold rotI swpI
  repeat' split
  all_goals omega

theorem RotInv.more {a m b : Nat} {d dk d' : Array Nat} {i j : Nat} (h : RotInv a m b d i j dk) (hb : b ≤ d.size) (hij : j < i) (hs : Sh (swpI (m - i) m j) dk d') : RotInv a m b d (i - j) j d' := by
  obtain ⟨h1, h2, h3, h4, τ, ht, hsh, he⟩ := h
  refine ⟨by omega, h2, by omega, h4, fun k => τ (swpI (m - i) m j k), fun k hk => ht _ (swpI_lt (by omega) (by omega) hk), hsh.comp hs (fun k hk => swpI_lt (by omega) (by omega) hk) (fun _ _ => rfl), fun k hk => ?_⟩
  exact (congrArg τ (rot_more hij (by omega))).trans (he k hk)

theorem RotInv.less {a m b : Nat} {d dk d' : Array Nat} {i j : Nat} (h : RotInv a m b d i j dk) (hb : b ≤ d.size) (hij : i < j) (hs : Sh (swpI (m - i) (m + j - i) i) dk d') : RotInv a m b d i (j - i) d' := by
  obtain ⟨h1, h2, h3, h4, τ, ht, hsh, he⟩ := h
  refine ⟨h1, by omega, h3, by omega, fun k => τ (swpI (m - i) (m + j - i) i k), fun k hk => ht _ (swpI_lt (by omega) (by omega) hk), hsh.comp hs (fun k hk => swpI_lt (by omega) (by omega) hk) (fun _ _ => rfl), fun k hk => ?_⟩
  exact (congrArg τ (rot_less hij (by omega))).trans (he k hk)

theorem RotInv.done {a m b : Nat} {d dk d' : Array Nat} {i : Nat} (h : RotInv a m b d i i dk) (hb : b ≤ d.size) (hs : Sh (swpI (m - i) m i) dk d') : Sh (rotI a m b) d d' := by
  obtain ⟨h1, h2, h3, h4, τ, ht, hsh, he⟩ := h
  refine hsh.comp hs (fun k hk => swpI_lt (by omega) (by omega) hk) fun k hk => ?_
  exact (congrArg τ (rot_last (by omega))).trans (he k hk)

theorem RotInv.size {a m b : Nat} {d dk : Array Nat} {i j : Nat} (h : RotInv a m b d i j dk) : dk.size = d.size := by
  obtain ⟨_, _, _, _, τ, _, hsh, _⟩ := h; exact hsh.1

/-- An element taken along to the right, one place more. -/
theorem Sh.right_step {d d1 : Array Nat} {a k : Nat} (h : Sh (rotI a (a + 1) (k + 1)) d d1) (hak : a ≤ k) (hk : k + 1 < d.size) : Sh (rotI a (a + 1) (k + 2)) d (swp d1 k (k + 1)) :=
  h.swap (by omega) hk fun j hj => by
    unfold rotI
    repeat' split
    all_goals omega
/-- To the left. -/
theorem Sh.left_step {d d1 : Array Nat} {m k : Nat} (h : Sh (rotI (k + 1) m (m + 1)) d d1) (hkm : k + 1 ≤ m) (hm : m < d.size) : Sh (rotI k m (m + 1)) d (swp d1 (k + 1) k) :=
  h.swap (by omega) (by omega) fun j hj => by
    unfold rotI
    repeat' split
    all_goals omega
theorem Sh.rot_none {a m b : Nat} (d : Array Nat) (h : m = b ∨ a = m) : Sh (rotI a m b) d d := (Sh.refl d).to fun k _ => by
  unfold rotI
  repeat' split
  all_goals omega

theorem Sh.rot_none' {m b : Nat} (d : Array Nat) : Sh (rotI m m b) d d := Sh.rot_none d (.inr rfl)

/-! ### What is sorted -/
/-- A strict order of all places. -/
structure Str (lt : Nat → Nat → Prop) : Prop where
  irr : ∀ x, ¬ lt x x
  tr : ∀ x y z, lt x y → lt y z → lt x z
  tot : ∀ x y, x ≠ y → lt x y ∨ lt y x

theorem Str.not {lt : Nat → Nat → Prop} (h : Str lt) {x y : Nat} (hn : ¬ lt x y) (hne : x ≠ y) : lt y x := (h.tot x y hne).resolve_left hn
theorem Str.asymm {lt : Nat → Nat → Prop} (h : Str lt) {x y : Nat} (hl : lt x y) : ¬ lt y x := fun h' => h.irr x (h.tr _ _ _ hl h')

def SortedOn (lt : Nat → Nat → Prop) (d : Array Nat) (a b : Nat) : Prop := ∀ i j, a ≤ i → i < j → j < b → lt d[i]! d[j]!
def MemOn (d : Array Nat) (a b x : Nat) : Prop := ∃ i, a ≤ i ∧ i < b ∧ d[i]! = x

/-- What a merge of the places from a to b makes. -/
structure Merged (lt : Nat → Nat → Prop) (d : Array Nat) (a b : Nat) (d' : Array Nat) : Prop where
  size : d'.size = d.size
  out : ∀ k, k < d.size → (k < a ∨ b ≤ k) → d'[k]! = d[k]!
  sorted : SortedOn lt d' a b
  mem : ∀ x, MemOn d' a b x ↔ MemOn d a b x

/-- What it asks. -/
structure Pre (lt : Nat → Nat → Prop) (d : Array Nat) (a m b : Nat) : Prop where
  am : a < m
  mb : m < b
  sz : b ≤ d.size
  sl : SortedOn lt d a m
  sr : SortedOn lt d m b
  ne : ∀ i j, a ≤ i → i < m → m ≤ j → j < b → d[i]! < d[j]!

section
variable {lt : Nat → Nat → Prop} {d d1 d2 d3 : Array Nat} {a m b s e : Nat}

theorem rot_at (h : Sh (rotI s m e) d d1) (h1 : s ≤ m) (h2 : m ≤ e) (h3 : e ≤ d.size) :
    (∀ k, k < d.size → (k < s ∨ e ≤ k) → d1[k]! = d[k]!) ∧ (∀ k, s ≤ k → k < s + (e - m) → d1[k]! = d[k + (m - s)]!) ∧ (∀ k, s + (e - m) ≤ k → k < e → d1[k]! = d[k - (e - m)]!) := by
  refine ⟨fun k hk hs => ?_, fun k hk hs => ?_, fun k hk hs => ?_⟩
  · rw [h.2 k hk, show rotI s m e k = k by unfold rotI; repeat' split
                                           all_goals omega]
  · rw [h.2 k (by omega), show rotI s m e k = k + (m - s) by unfold rotI; repeat' split
                                                             all_goals omega]
  · rw [h.2 k (by omega), show rotI s m e k = k - (e - m) by unfold rotI; repeat' split
                                                             all_goals omega]

theorem rot_mem (h : Sh (rotI s m e) d d1) (h0 : a ≤ s) (h1 : s ≤ m) (h2 : m ≤ e) (h4 : e ≤ b) (h3 : b ≤ d.size) (x : Nat) : MemOn d1 a b x ↔ MemOn d a b x := by
  obtain ⟨g1, g2, g3⟩ := rot_at h h1 h2 (by omega)
  constructor
  · rintro ⟨i, hi, hb, rfl⟩
    by_cases c1 : i < s ∨ e ≤ i
    · exact ⟨i, hi, hb, (g1 i (by omega) c1).symm⟩
    · by_cases c2 : i < s + (e - m)
      · exact ⟨i + (m - s), by omega, by omega, (g2 i (by omega) c2).symm⟩
      · exact ⟨i - (e - m), by omega, by omega, (g3 i (by omega) (by omega)).symm⟩
  · rintro ⟨i, hi, hb, rfl⟩
    by_cases c1 : i < s ∨ e ≤ i
    · exact ⟨i, hi, hb, g1 i (by omega) c1⟩
    · by_cases c2 : i < m
      · refine ⟨i + (e - m), by omega, by omega, ?_⟩
        rw [g3 _ (by omega) (by omega)]
        congr 1; omega
      · refine ⟨i - (m - s), by omega, by omega, ?_⟩
        rw [g2 _ (by omega) (by omega)]
        congr 1; omega

/-- All four parts in order: the rotation is the merge. -/
theorem merged_direct (hp : Pre lt d a m b) (h : Sh (rotI s m e) d d1) (h0 : a ≤ s) (h1 : s ≤ m) (h2 : m ≤ e) (h4 : e ≤ b)
    (k1 : ∀ i j, a ≤ i → i < s → e ≤ j → j < b → lt d[i]! d[j]!) (k2 : ∀ i j, m ≤ i → i < e → s ≤ j → j < m → lt d[i]! d[j]!)
    (k3 : ∀ i j, s ≤ i → i < m → e ≤ j → j < b → lt d[i]! d[j]!) (k4 : ∀ i j, a ≤ i → i < s → m ≤ j → j < e → lt d[i]! d[j]!) : Merged lt d a b d1 := by
  have hsz := hp.sz
  obtain ⟨g1, g2, g3⟩ := rot_at h h1 h2 (by omega)
  refine ⟨h.1, fun k hk hs => g1 k hk (by omega), fun i j hi hij hj => ?_, rot_mem h h0 h1 h2 h4 hsz⟩
  by_cases i1 : i < s
  · rw [g1 i (by omega) (.inl i1)]
    by_cases j1 : j < s
    · rw [g1 j (by omega) (.inl j1)]; exact hp.sl i j hi hij (by omega)
    · by_cases j2 : j < s + (e - m)
      · rw [g2 j (by omega) j2]; exact k4 _ _ hi i1 (by omega) (by omega)
      · by_cases j3 : j < e
        · rw [g3 j (by omega) j3]; exact hp.sl _ _ hi (by omega) (by omega)
        · rw [g1 j (by omega) (.inr (by omega))]; exact k1 _ _ hi i1 (by omega) hj
  · by_cases i2 : i < s + (e - m)
    · rw [g2 i (by omega) i2]
      by_cases j2 : j < s + (e - m)
      · rw [g2 j (by omega) j2]; exact hp.sr _ _ (by omega) (by omega) (by omega)
      · by_cases j3 : j < e
        · rw [g3 j (by omega) j3]; exact k2 _ _ (by omega) (by omega) (by omega) (by omega)
        · rw [g1 j (by omega) (.inr (by omega))]; exact hp.sr _ _ (by omega) (by omega) hj
    · by_cases i3 : i < e
      · rw [g3 i (by omega) i3]
        by_cases j3 : j < e
        · rw [g3 j (by omega) j3]; exact hp.sl _ _ (by omega) (by omega) (by omega)
        · rw [g1 j (by omega) (.inr (by omega))]; exact k3 _ _ (by omega) (by omega) (by omega) hj
      · rw [g1 i (by omega) (.inr (by omega)), g1 j (by omega) (.inr (by omega))]
        exact hp.sr _ _ (by omega) hij hj

/-- What the rotation leaves for the two halves. -/
structure Halves (lt : Nat → Nat → Prop) (d : Array Nat) (a s c e b : Nat) : Prop where
  s1 : SortedOn lt d a s
  s2 : SortedOn lt d s c
  s3 : SortedOn lt d c e
  s4 : SortedOn lt d e b
  n1 : ∀ i j, a ≤ i → i < s → s ≤ j → j < c → d[i]! < d[j]!
  n2 : ∀ i j, c ≤ i → i < e → e ≤ j → j < b → d[i]! < d[j]!
  x : ∀ i j, a ≤ i → i < c → c ≤ j → j < b → lt d[i]! d[j]!

theorem halves_of (hp : Pre lt d a m b) (h : Sh (rotI s m e) d d1) (h0 : a ≤ s) (h1 : s ≤ m) (h2 : m ≤ e) (h4 : e ≤ b)
    (k1 : ∀ i j, a ≤ i → i < s → e ≤ j → j < b → lt d[i]! d[j]!) (k2 : ∀ i j, m ≤ i → i < e → s ≤ j → j < m → lt d[i]! d[j]!) : Halves lt d1 a s (s + (e - m)) e b := by
  have hsz := hp.sz
  obtain ⟨g1, g2, g3⟩ := rot_at h h1 h2 (by omega)
  refine ⟨fun i j hi hij hj => ?_, fun i j hi hij hj => ?_, fun i j hi hij hj => ?_, fun i j hi hij hj => ?_, fun i j hi hs hj hc => ?_, fun i j hi hs hj hc => ?_, fun i j hi hc hj hb => ?_⟩
  · rw [g1 i (by omega) (.inl (by omega)), g1 j (by omega) (.inl (by omega))]; exact hp.sl _ _ hi hij (by omega)
  · rw [g2 i (by omega) (by omega), g2 j (by omega) (by omega)]; exact hp.sr _ _ (by omega) (by omega) (by omega)
  · rw [g3 i (by omega) (by omega), g3 j (by omega) (by omega)]; exact hp.sl _ _ (by omega) (by omega) (by omega)
  · rw [g1 i (by omega) (.inr (by omega)), g1 j (by omega) (.inr (by omega))]; exact hp.sr _ _ (by omega) hij hj
  · rw [g1 i (by omega) (.inl (by omega)), g2 j hj hc]; exact hp.ne _ _ hi (by omega) (by omega) (by omega)
  · rw [g3 i hi hs, g1 j (by omega) (.inr hj)]; exact hp.ne _ _ (by omega) (by omega) (by omega) hc
  · by_cases i1 : i < s
    · rw [g1 i (by omega) (.inl i1)]
      by_cases j3 : j < e
      · rw [g3 j (by omega) j3]; exact hp.sl _ _ hi (by omega) (by omega)
      · rw [g1 j (by omega) (.inr (by omega))]; exact k1 _ _ hi i1 (by omega) hb
    · rw [g2 i (by omega) hc]
      by_cases j3 : j < e
      · rw [g3 j (by omega) j3]; exact k2 _ _ (by omega) (by omega) (by omega) (by omega)
      · rw [g1 j (by omega) (.inr (by omega))]; exact hp.sr _ _ (by omega) (by omega) hb

theorem Merged.none (h : SortedOn lt d a b) : Merged lt d a b d := ⟨rfl, fun _ _ _ => rfl, h, fun _ => Iff.rfl⟩

/-- A half that is one run already. -/
theorem Halves.left_none {c : Nat} (h : Halves lt d a s c e b) (hn : ¬ (a < s ∧ s < c)) (h0 : a ≤ s) (h1 : s ≤ c) : Merged lt d a c d :=
  .none (by
    by_cases e1 : s = a
    · subst e1; exact h.s2
    · obtain rfl : s = c := by omega
      exact h.s1)
theorem Halves.right_none {c : Nat} (h : Halves lt d a s c e b) (hn : ¬ (c < e ∧ e < b)) (h0 : c ≤ e) (h1 : e ≤ b) : Merged lt d c b d :=
  .none (by
    by_cases e1 : e = c
    · subst e1; exact h.s4
    · obtain rfl : e = b := by omega
      exact h.s3)
theorem Halves.left_pre {c : Nat} (h : Halves lt d a s c e b) (h0 : a < s) (h1 : s < c) (hb : c ≤ d.size) : Pre lt d a s c := ⟨h0, h1, hb, h.s1, h.s2, h.n1⟩
theorem Halves.right_pre {c : Nat} (h : Halves lt d a s c e b) (h0 : c < e) (h1 : e < b) (hb : b ≤ d.size) : Pre lt d c e b := ⟨h0, h1, hb, h.s3, h.s4, h.n2⟩

/-- Behind the left half the right one is as it was. -/
theorem Halves.next {c : Nat} (h : Halves lt d a s c e b) (hm : Merged lt d a c d1) (h1 : c ≤ e) (h2 : e ≤ b) (hb : b ≤ d.size) :
    SortedOn lt d1 c e ∧ SortedOn lt d1 e b ∧ (∀ i j, c ≤ i → i < e → e ≤ j → j < b → d1[i]! < d1[j]!) := by
  have g : ∀ k, c ≤ k → k < b → d1[k]! = d[k]! := fun k hk hb' => hm.out k (by omega) (.inr hk)
  refine ⟨fun i j hi hij hj => ?_, fun i j hi hij hj => ?_, fun i j hi hs hj hc => ?_⟩
  · rw [g i hi (by omega), g j (by omega) (by omega)]; exact h.s3 i j hi hij hj
  · rw [g i (by omega) (by omega), g j (by omega) (by omega)]; exact h.s4 i j hi hij hj
  · rw [g i hi (by omega), g j (by omega) hc]; exact h.n2 i j hi hs hj hc

theorem SortedOn.right_none {c : Nat} (h3 : SortedOn lt d c e) (h4 : SortedOn lt d e b) (hn : ¬ (c < e ∧ e < b)) (h0 : c ≤ e) (h1 : e ≤ b) : Merged lt d c b d :=
  .none (by
    by_cases e1 : e = c
    · subst e1; exact h4
    · obtain rfl : e = b := by omega
      exact h3)

/-- Both halves merged. -/
theorem Halves.join {c : Nat} (h : Halves lt d1 a s c e b) (hac : a ≤ c) (hcb : c ≤ b) (hb : b ≤ d.size) (hsz : d1.size = d.size) (ho : ∀ k, k < d.size → (k < a ∨ b ≤ k) → d1[k]! = d[k]!) (hmem : ∀ x, MemOn d1 a b x ↔ MemOn d a b x)
    (hl : Merged lt d1 a c d2) (hr : Merged lt d2 c b d3) : Merged lt d a b d3 := by
  have e2 : ∀ k, c ≤ k → k < b → d2[k]! = d1[k]! := fun k hk hb' => hl.out k (by omega) (.inr hk)
  have e3 : ∀ k, a ≤ k → k < c → d3[k]! = d2[k]! := fun k hk hc => hr.out k (by rw [hl.size]; omega) (.inl hc)
  have m3 : ∀ x, MemOn d3 c b x ↔ MemOn d1 c b x := fun x => (hr.mem x).trans ⟨fun ⟨i, h1, h2, h3⟩ => ⟨i, h1, h2, by rw [← h3, e2 i h1 h2]⟩, fun ⟨i, h1, h2, h3⟩ => ⟨i, h1, h2, by rw [← h3, e2 i h1 h2]⟩⟩
  have m2 : ∀ x, MemOn d3 a c x ↔ MemOn d1 a c x := fun x => Iff.trans ⟨fun ⟨i, h1, h2, h3⟩ => ⟨i, h1, h2, by rw [← h3, e3 i h1 h2]⟩, fun ⟨i, h1, h2, h3⟩ => ⟨i, h1, h2, by rw [← h3, e3 i h1 h2]⟩⟩ (hl.mem x)
  have part : ∀ (D : Array Nat) x, MemOn D a b x ↔ (MemOn D a c x ∨ MemOn D c b x) := fun D x => by
    constructor
    · rintro ⟨i, h1, h2, h3⟩
      by_cases hc : i < c
      · exact .inl ⟨i, h1, hc, h3⟩
      · exact .inr ⟨i, by omega, h2, h3⟩
    · rintro (⟨i, h1, h2, h3⟩ | ⟨i, h1, h2, h3⟩)
      · exact ⟨i, h1, by omega, h3⟩
      · exact ⟨i, by omega, h2, h3⟩
  refine ⟨by rw [hr.size, hl.size, hsz], fun k hk hs => ?_, fun i j hi hij hj => ?_, fun x => ?_⟩
  · rw [hr.out k (by rw [hl.size, hsz]; exact hk) (by omega), hl.out k (by rw [hsz]; exact hk) (by omega), ho k hk hs]
  · by_cases hc : j < c
    · rw [e3 i hi (by omega), e3 j (by omega) hc]; exact hl.sorted i j hi hij hc
    · by_cases hci : i < c
      · obtain ⟨i', a1, a2, a3⟩ := (m2 _).1 ⟨i, hi, hci, rfl⟩
        obtain ⟨j', b1, b2, b3⟩ := (m3 _).1 ⟨j, by omega, hj, rfl⟩
        rw [← a3, ← b3]
        exact h.x i' j' a1 a2 b1 b2
      · exact hr.sorted i j (by omega) hij hj
  · rw [part, m2, m3, ← part, hmem]
end
end Go.Proofs.Ytfnhffcjhdeleaa
