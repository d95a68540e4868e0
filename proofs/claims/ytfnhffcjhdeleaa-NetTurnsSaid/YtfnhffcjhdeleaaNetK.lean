import Derived.Test.YtfnhffcjhdeleaaNetJ
namespace Go.Proofs.Ytfnhffcjhdeleaa
open Go.RowKit

/-! ### Plain law: in whatever order legs stand -/
theorem sum_perm : ∀ {l l' : List Int}, l.Perm l' → l.sum = l'.sum := by
  intro l l' h
  induction h with
  | nil => rfl
  | cons x _ ih => rw [List.sum_cons, List.sum_cons, ih]
  | swap x y l => rw [List.sum_cons, List.sum_cons, List.sum_cons, List.sum_cons]; omega
  | trans _ _ h1 h2 => exact h1.trans h2
theorem sumS_perm {l l' : List Leg} (h : l.Perm l') (s : Sid) : sumS l s = sumS l' s := sum_perm ((h.filter _).map _)
theorem firstK_iff (M S : Nat) : ∀ l : List Leg, firstK M S l = 0 ↔ ∀ x ∈ l, legK M S x = 0
  | [] => by simp [firstK]
  | y :: l => by
    rw [firstK]
    constructor
    · intro h
      split at h
      · rename_i h0
        intro x hx
        rcases List.mem_cons.1 hx with rfl | hx
        · exact h0
        · exact (firstK_iff M S l).1 h x hx
      · rename_i h0; exact absurd h h0
    · intro h
      rw [if_pos (h y (by simp))]
      exact (firstK_iff M S l).2 fun x hx => h x (by simp [hx])
theorem firstK_perm {M S : Nat} {l l' : List Leg} (h : l.Perm l') : firstK M S l = 0 ↔ firstK M S l' = 0 := by
  rw [firstK_iff, firstK_iff]
  exact ⟨fun hh x hx => hh x (h.mem_iff.2 hx), fun hh x hx => hh x (h.mem_iff.1 hx)⟩
theorem okS_perm {l l' : List Leg} (h : l.Perm l') : okS l = okS l' := by funext s; unfold okS; rw [sumS_perm h]
theorem nzS_perm {l l' : List Leg} (h : l.Perm l') : nzS l = nzS l' := by funext s; unfold nzS; rw [sumS_perm h]
theorem ofS_perm {l l' : List Leg} (h : l.Perm l') : ofS l = ofS l' := by funext s; unfold ofS; rw [sumS_perm h]
theorem net_ok {M S : Nat} {l : List Leg} (h : netK M S l = 0) : firstK M S l = 0 ∧ (gridS M S).all (okS l) = true := by
  unfold netK at h
  split at h
  · rename_i h0
    refine ⟨h0, ?_⟩
    unfold netsE at h
    split at h
    · assumption
    · cases h
  · rename_i h0; exact absurd h h0
theorem net_no {M S : Nat} {l : List Leg} (h : netK M S l ≠ 0) : netR M S l = [] := by
  unfold netR
  split
  · rename_i h0
    unfold netsL
    split
    · rename_i h1
      exact absurd (refNets_good h0 h1).1 h
    · rfl
  · rfl
theorem net_turn {M S : Nat} {l l' : List Leg} (hp : l.Perm l') (h : netK M S l = 0) : netK M S l' = 0 ∧ netR M S l' = netR M S l := by
  obtain ⟨h0, h1⟩ := net_ok h
  have h2 := refNets_good h0 h1
  have h1' := h1
  rw [okS_perm hp] at h1'
  have h3 := refNets_good ((firstK_perm hp).1 h0) h1'
  refine ⟨h3.1, ?_⟩
  rw [h2.2, h3.2]
  unfold outL
  rw [nzS_perm hp, ofS_perm hp]
theorem net_turn_no {M S : Nat} {l l' : List Leg} (hp : l.Perm l') (h : netK M S l ≠ 0) : netK M S l' ≠ 0 := fun h' => h (net_turn hp.symm h').1
theorem owedL_cons (x : Leg) (l : List Leg) (m a : Int) : owedL (x :: l) m a = if x.member = m ∧ x.asset = a then x.amount :: owedL l m a else owedL l m a := by
  unfold owedL; rw [List.filter_cons]
  by_cases h : x.member = m ∧ x.asset = a
  · rw [if_pos h, if_pos (by simp [h])]; rfl
  · rw [if_neg h, if_neg (by simpa using h)]
theorem owed_keys (legs : List Leg) : ∀ (K : List Sid), K.Nodup → ∀ s : Sid, (s ∈ K → sumS (outL legs K) s = sumS legs s) ∧ (s ∉ K → sumS (outL legs K) s = 0)
  | [], _, s => ⟨fun h => absurd h (by simp), fun _ => rfl⟩
  | t :: K, hn, s => by
    obtain ⟨h1, h2⟩ := List.nodup_cons.1 hn
    obtain ⟨i1, i2⟩ := owed_keys legs K h2 s
    have hstep : sumS (outL legs (t :: K)) s = (if t.m = s.m ∧ t.a = s.a then sumS legs t else 0) + sumS (outL legs K) s := by
      cases hz : nzS legs t with
      | true =>
        have : outL legs (t :: K) = ofS legs t :: outL legs K := by unfold outL; rw [List.filter_cons, if_pos hz, List.map_cons]
        rw [this]
        unfold sumS
        rw [owedL_cons]
        by_cases h : t.m = s.m ∧ t.a = s.a
        · rw [if_pos (show (ofS legs t).member = s.m ∧ (ofS legs t).asset = s.a from h), if_pos h, List.sum_cons]; rfl
        · rw [if_neg (show ¬ ((ofS legs t).member = s.m ∧ (ofS legs t).asset = s.a) from h), if_neg h]; omega
      | false =>
        have : outL legs (t :: K) = outL legs K := by unfold outL; rw [List.filter_cons, if_neg (by simp [hz])]
        have hz0 : sumS legs t = 0 := by simpa [nzS] using hz
        rw [this, hz0]
        split <;> omega
    constructor
    · intro hs
      rw [hstep]
      rcases List.mem_cons.1 hs with rfl | hs
      · rw [if_pos ⟨rfl, rfl⟩, i2 h1]; omega
      · have : ¬ (t.m = s.m ∧ t.a = s.a) := fun e => h1 (by rw [show t = s from Sid.same e.1 e.2]; exact hs)
        rw [if_neg this, i1 hs]; omega
    · intro hs
      have hts : ¬ (t.m = s.m ∧ t.a = s.a) := fun e => hs (by rw [show t = s from Sid.same e.1 e.2]; simp)
      rw [hstep, if_neg hts, i2 (fun h => hs (by simp [h]))]; omega
theorem gridS_nodup (M S : Nat) : (gridS M S).Nodup := (gridS_sorted M S).imp fun {s t} h e => by subst e; omega
theorem out_ok {M S : Nat} {l : List Leg} (h : netK M S l = 0) : ∀ x ∈ netR M S l, inI x.amount := by
  obtain ⟨h0, h1⟩ := net_ok h
  rw [(refNets_good h0 h1).2]
  intro x hx
  unfold outL at hx
  obtain ⟨s, hs, rfl⟩ := List.mem_map.1 hx
  exact of_decide_eq_true (List.all_eq_true.1 h1 s (List.mem_filter.1 hs).1)
theorem net_net {M S : Nat} {l : List Leg} (h : netK M S l = 0) : netK M S (netR M S l) = 0 ∧ netR M S (netR M S l) = netR M S l := by
  obtain ⟨h0, h1⟩ := net_ok h
  have h2 := (refNets_good h0 h1).2
  rw [h2]
  have hsum : ∀ s ∈ gridS M S, sumS (outL l (gridS M S)) s = sumS l s := fun s hs => (owed_keys l _ (gridS_nodup M S) s).1 hs
  have hf : firstK M S (outL l (gridS M S)) = 0 := by
    rw [firstK_iff]
    intro x hx
    unfold outL at hx
    obtain ⟨s, hs, rfl⟩ := List.mem_map.1 hx
    have hg := gridS_mem.1 (List.mem_filter.1 hs).1
    exact legK_yes (by simp only [ofS]; omega) (by simp only [ofS]; omega)
  have ha : (gridS M S).all (okS (outL l (gridS M S))) = true := by
    rw [List.all_eq_true] at h1 ⊢
    intro s hs
    have := h1 s hs
    unfold okS at this ⊢
    rw [hsum s hs]; exact this
  have h3 := refNets_good hf ha
  refine ⟨h3.1, ?_⟩
  rw [h3.2]
  have e1 : (gridS M S).filter (nzS (outL l (gridS M S))) = (gridS M S).filter (nzS l) := List.filter_congr fun s hs => by unfold nzS; rw [hsum s hs]
  show ((gridS M S).filter (nzS (outL l (gridS M S)))).map (ofS (outL l (gridS M S))) = ((gridS M S).filter (nzS l)).map (ofS l)
  rw [e1]
  refine List.map_congr_left fun s hs => ?_
  unfold ofS
  rw [hsum s (List.mem_filter.1 hs).1]
/-- Legs turned at k. -/
def turnG (l : List Leg) (k : Nat) : List Leg := (l.drop k).reverse ++ l.take k
theorem turnG_perm (l : List Leg) (k : Nat) : (turnG l k).Perm l := by
  unfold turnG
  refine ((List.reverse_perm _).append_right _).trans (List.perm_append_comm.trans ?_)
  rw [List.take_append_drop]
end Go.Proofs.Ytfnhffcjhdeleaa
