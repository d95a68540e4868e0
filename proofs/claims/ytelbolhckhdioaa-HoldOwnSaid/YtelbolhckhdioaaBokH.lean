import Derived.Test.YtelbolhckhdioaaBokG
namespace Go.Proofs.Ytelbolhckhdioaa
open Go.RowKit

/-! ### Plain law: what a book keeps -/
theorem acc_at {M : Nat} {a : Acc} (hM : M ≤ 16) (h : (numA M a).2 = 0) : accN (numA M a).1.toNat = a := by
  obtain ⟨k, m⟩ := a
  unfold numA at h ⊢
  simp only at h ⊢
  repeat' split
  all_goals (repeat' split at h)
  all_goals first | omega | skip
  · rename_i h1 h2 h3
    unfold accN
    rw [if_neg (by omega)]
    congr 1
    · omega
    · omega
  · rename_i h1 h2 h3
    unfold accN
    rw [if_pos (by omega)]
    congr 1
    · omega
    · omega
theorem num_inj {M : Nat} {a b : Acc} (hM : M ≤ 16) (ha : (numA M a).2 = 0) (hb : (numA M b).2 = 0) (h : (numA M a).1 = (numA M b).1) : a = b := by
  rw [← acc_at hM ha, ← acc_at hM hb, h]
theorem ix_inj {M A : Nat} {s t : Spt} (hM : M ≤ 16) (hs : okP M A s = true) (ht : okP M A t = true) (h : ixS M s = ixS M t) : s = t := by
  obtain ⟨s1, s2, s3⟩ := okP_iff.1 hs
  obtain ⟨t1, t2, t3⟩ := okP_iff.1 ht
  have n1 := num_in hM s1; have n2 := num_in hM t1
  have e1 := (ixS_lt hM hs).2; have e2 := (ixS_lt hM ht).2
  rw [h, e2] at e1
  obtain ⟨a, ha⟩ := Int.eq_ofNat_of_zero_le s2
  obtain ⟨b, hb⟩ := Int.eq_ofNat_of_zero_le t2
  obtain ⟨x, hx⟩ := Int.eq_ofNat_of_zero_le n1.1
  obtain ⟨y, hy⟩ := Int.eq_ofNat_of_zero_le n2.1
  rw [ha, hb, hx, hy] at e1
  have hC : 0 < cnt M := by unfold cnt; omega
  have e3 : b * cnt M + y = a * cnt M + x := by exact_mod_cast e1
  have hx' : x < cnt M := by omega
  have hy' : y < cnt M := by omega
  have hab : a = b := by
    have h1 : (b * cnt M + y) / cnt M = b := by rw [Nat.mul_comm, Nat.mul_add_div hC, Nat.div_eq_of_lt hy']; omega
    have h2 : (a * cnt M + x) / cnt M = a := by rw [Nat.mul_comm, Nat.mul_add_div hC, Nat.div_eq_of_lt hx']; omega
    rw [← h1, ← h2, e3]
  subst hab
  have hacc : s.acc = t.acc := num_inj hM s1 t1 (by omega)
  have h4 : s.k = t.k ∧ s.m = t.m := by
    unfold Spt.acc at hacc
    injection hacc with h5 h6
    exact ⟨h5, h6⟩
  exact Spt.same h4.1 h4.2 (by omega)
theorem postL_get {y : Int} {i : Nat} : ∀ (cs : List Chg) (bl : List Int) (x : Int), bl[i]? = some x → (∀ c ∈ cs, c.pl = i → c.nw = y) → (postL bl cs)[i]? = some (if cs.any (fun c => decide (c.pl = i)) = true then y else x)
  | [], bl, x, h, _ => by simpa [postL] using h
  | c :: cs, bl, x, h, hc => by
    have hlt := (List.getElem?_eq_some_iff.1 h).1
    show (postL (bl.set c.pl c.nw) cs)[i]? = _
    by_cases e : c.pl = i
    · rw [postL_get cs (bl.set c.pl c.nw) c.nw (by rw [e]; exact List.getElem?_set_self hlt) (fun c' h' => hc c' (by simp [h']))]
      have hy := hc c (by simp) e
      rw [hy]
      simp [e]
    · rw [postL_get cs (bl.set c.pl c.nw) x (by rw [List.getElem?_set_ne e]; exact h) (fun c' h' => hc c' (by simp [h']))]
      simp [e]
theorem postL_mem {z : Int} : ∀ (cs : List Chg) (bl : List Int), z ∈ postL bl cs → z ∈ bl ∨ ∃ c ∈ cs, z = c.nw
  | [], bl, h => .inl h
  | c :: cs, bl, h => by
    rcases postL_mem cs (bl.set c.pl c.nw) h with h | ⟨c', h', e⟩
    · rcases List.mem_or_eq_of_mem_set h with h | h
      · exact .inl h
      · exact .inr ⟨c, by simp, h⟩
    · exact .inr ⟨c', by simp [h'], e⟩
theorem atB_app (L l : List Ent) (s : Spt) : atB (L ++ l) s = atB L s ++ atB l s := by unfold atB; rw [List.filter_append, List.map_append]
theorem ofK_app (L l : List Ent) (j : Nat) : ofK (L ++ l) j = ofK L j ++ ofK l j := by unfold ofK; rw [List.filter_append, List.map_append]
/-- What holds of a book's balances, and of the entries that were posted. -/
structure Inv (M A : Nat) (bl : List Int) (L : List Ent) : Prop where
  len : bl.length = A * cnt M
  inn : ∀ z ∈ bl, inI z
  bal : ∀ s, okP M A s = true → bl[ixS M s]? = some (atB L s).sum
  ok : ∀ e ∈ L, okP M A e.spt = true
  zero : ∀ j, j < 9 → (ofK L j).sum = 0
  pos : ∀ s, okP M A s = true → frB s = false → 0 ≤ (atB L s).sum
theorem Inv.start {M A : Nat} (hM : M ≤ 16) : Inv M A (List.replicate (A * cnt M) 0) [] := by
  refine ⟨by simp, fun z hz => ?_, fun s hs => ?_, (fun e he => absurd he (by simp)), fun j _ => rfl, fun s _ _ => by simp [atB]⟩
  · rw [List.eq_of_mem_replicate hz]; decide
  · rw [List.getElem?_replicate, if_pos (ixS_lt hM hs).1]; rfl
theorem post_ok {M A : Nat} {bl : List Int} {l : List Ent} (h : postK M A bl l = 0) : chgK M A bl l = 0 ∧ (chgL M A bl l).any fundB = false ∧ chgL M A bl l = (sptsOf l).map (chgOf M bl l) ∧ (∀ e ∈ l, okP M A e.spt = true) ∧ (∀ j, j < 9 → (ofK l j).sum = 0) ∧ ∀ s ∈ sptsOf l, ovS M bl l s = false := by
  unfold postK at h
  split at h
  · rename_i hk
    split at h
    · omega
    · rename_i hf
      have hk0 := hk
      unfold chgK at hk
      split at hk
      · rename_i hall
        split at hk
        · omega
        · rename_i hb
          split at hk
          · omega
          · rename_i ho
            refine ⟨hk0, by simpa using hf, by rw [chgL, if_pos hk0], List.all_eq_true.1 hall, fun j hj => ?_, fun s hs => ?_⟩
            · have : ¬ badJ l j = true := fun hbj => hb (List.any_eq_true.2 ⟨j, List.mem_range.2 hj, hbj⟩)
              unfold badJ at this; simpa using this
            · cases hov : ovS M bl l s with
              | false => rfl
              | true => exact absurd (List.any_eq_true.2 ⟨s, hs, hov⟩) ho
      · omega
  · rename_i hk; exact absurd h hk
theorem Inv.now {M A : Nat} {bl : List Int} {L l : List Ent} (h : Inv M A bl L) {s : Spt} (hs : okP M A s = true) : nowB M bl l s = (atB (L ++ l) s).sum := by
  unfold nowB
  rw [List.getD_eq_getElem?_getD, h.bal s hs, atB_app, List.sum_append]; rfl
theorem Inv.post {M A : Nat} {bl : List Int} {L l : List Ent} (hM : M ≤ 16) (h : Inv M A bl L) : Inv M A (postB M A bl l) (if postK M A bl l = 0 then L ++ l else L) := by
  by_cases hp : postK M A bl l = 0
  · rw [postB, if_pos hp, if_pos hp]
    obtain ⟨_, hf, hcl, hok, hz, hov⟩ := post_ok hp
    have hsp : ∀ s ∈ sptsOf l, okP M A s = true := fun s hs => by
      obtain ⟨e, he, rfl⟩ := spts_mem.1 hs
      exact hok e he
    have hget : ∀ s, okP M A s = true → (postL bl (chgL M A bl l))[ixS M s]? = some (atB (L ++ l) s).sum := fun s hs => by
      rw [hcl, postL_get (y := (atB (L ++ l) s).sum) _ _ _ (h.bal s hs) (fun c hc e => by
        obtain ⟨t, ht, rfl⟩ := List.mem_map.1 hc
        have : t = s := ix_inj hM (hsp t ht) hs e
        subst this
        exact h.now hs)]
      split
      · rfl
      · rename_i hn
        have hns : s ∉ sptsOf l := fun hm => hn (List.any_eq_true.2 ⟨chgOf M bl l s, List.mem_map.2 ⟨s, hm, rfl⟩, by simp [chgOf]⟩)
        have : atB l s = [] := Classical.byContradiction fun hc => hns (spts_at.2 hc)
        rw [atB_app, this, List.append_nil]
    refine ⟨by rw [postL_len]; exact h.len, fun z hz' => ?_, hget, fun e he => ?_, fun j hj => ?_, fun s hs hfr => ?_⟩
    · rcases postL_mem _ _ hz' with hz' | ⟨c, hc, rfl⟩
      · exact h.inn z hz'
      · rw [hcl] at hc
        obtain ⟨t, ht, rfl⟩ := List.mem_map.1 hc
        have := hov t ht
        unfold ovS at this
        simp at this
        exact this.2
    · rcases List.mem_append.1 he with he | he
      · exact h.ok e he
      · exact hok e he
    · rw [ofK_app, List.sum_append, h.zero j hj, hz j hj]; rfl
    · have h0 := h.pos s hs hfr
      by_cases hm : s ∈ sptsOf l
      · have hfn := List.any_eq_false.1 hf (chgOf M bl l s) (by rw [hcl]; exact List.mem_map.2 ⟨s, hm, rfl⟩)
        have hnw := h.now (l := l) hs
        unfold fundB chgOf at hfn
        simp only [hfr] at hfn
        simp at hfn
        rw [atB_app, List.sum_append] at hnw ⊢
        by_cases hzb : (atB l s).sum < 0
        · have := hfn hzb
          omega
        · omega
      · have : atB l s = [] := Classical.byContradiction fun hc => hm (spts_at.2 hc)
        rw [atB_app, this, List.append_nil]; exact h0
  · rw [postB, if_neg hp, if_neg hp]; exact h

/-! ### The total of an asset -/
def accSum (L : List Ent) (a : Int) (l : List Acc) : Int := (l.map fun x => (atB L ⟨x.kind, x.member, a⟩).sum).sum
theorem accs_mem {M : Nat} {x : Acc} (hM : M ≤ 16) (h : (numA M x).2 = 0) : x ∈ accs M := by
  have h1 := num_in hM h
  have h2 := acc_at hM h
  have h3 := accs_get M (numA M x).1.toNat (by unfold cnt at h1; omega)
  rw [h2] at h3
  exact List.mem_of_getElem? h3
theorem accs_nodup {M : Nat} (hM : M ≤ 16) : (accs M).Nodup := by
  unfold List.Nodup
  rw [List.pairwise_iff_getElem]
  intro i j hi hj hij e
  rw [accs_len] at hi hj
  have h1 := accs_get M i hi; have h2 := accs_get M j hj
  have h3 : accN i = accN j := by
    have a1 := Option.some.inj ((List.getElem?_eq_getElem (by rw [accs_len]; exact hi)).symm.trans h1)
    have a2 := Option.some.inj ((List.getElem?_eq_getElem (by rw [accs_len]; exact hj)).symm.trans h2)
    rw [← a1, ← a2]; exact e
  have n1 := num_accN M i hM hi; have n2 := num_accN M j hM hj
  rw [h3, n2] at n1
  have := (Prod.mk.inj n1).1
  omega
instance : DecidableEq Acc := fun s t => if h : s.kind = t.kind ∧ s.member = t.member then isTrue (by cases s; cases t; simp_all) else isFalse (fun e => h (by rw [e]; exact ⟨rfl, rfl⟩))
theorem sum_one (x : Acc) (z : Int) : ∀ l : List Acc, l.Nodup → (l.map fun y => if y = x then z else 0).sum = if x ∈ l then z else 0
  | [], _ => rfl
  | y :: l, h => by
    obtain ⟨h1, h2⟩ := List.nodup_cons.1 h
    rw [List.map_cons, List.sum_cons, sum_one x z l h2]
    by_cases e : y = x
    · subst e
      rw [if_pos rfl, if_neg h1, if_pos List.mem_cons_self]; omega
    · rw [if_neg e]
      by_cases hm : x ∈ l
      · rw [if_pos hm, if_pos (List.mem_cons_of_mem _ hm)]; omega
      · rw [if_neg hm, if_neg (by intro h'; rcases List.mem_cons.1 h' with h' | h'; exact e h'.symm; exact hm h')]; rfl
theorem sum_add (f g : Acc → Int) : ∀ l : List Acc, (l.map fun x => f x + g x).sum = (l.map f).sum + (l.map g).sum
  | [] => rfl
  | x :: l => by rw [List.map_cons, List.map_cons, List.map_cons, List.sum_cons, List.sum_cons, List.sum_cons, sum_add f g l]; omega
theorem atB_cons_sum (e : Ent) (L : List Ent) (s : Spt) : (atB (e :: L) s).sum = (if e.spt = s then e.z else 0) + (atB L s).sum := by
  unfold atB
  rw [List.filter_cons]
  by_cases h : e.spt = s
  · simp [h]
  · simp [h]
theorem ofK_cons_sum (e : Ent) (L : List Ent) (j : Nat) : (ofK (e :: L) j).sum = (if e.a = (j : Int) then e.z else 0) + (ofK L j).sum := by
  unfold ofK
  rw [List.filter_cons]
  by_cases h : e.a = (j : Int)
  · simp [h]
  · simp [h]
theorem acc_total {M A : Nat} (hM : M ≤ 16) (j : Nat) : ∀ L : List Ent, (∀ e ∈ L, okP M A e.spt = true) → accSum L j (accs M) = (ofK L j).sum
  | [], _ => by
    unfold accSum
    have : ((accs M).map fun x => (atB [] ⟨x.kind, x.member, (j : Int)⟩).sum) = (accs M).map fun _ => (0 : Int) := List.map_congr_left fun x _ => rfl
    rw [this]
    have hz : ∀ l : List Acc, (l.map fun _ => (0 : Int)).sum = 0 := fun l => by
      induction l with
      | nil => rfl
      | cons x l ih => rw [List.map_cons, List.sum_cons, ih]; rfl
    rw [hz]; rfl
  | e :: L, h => by
    have ih := acc_total hM j L fun x hx => h x (by simp [hx])
    have he := (okP_iff.1 (h e (by simp))).1
    unfold accSum at ih ⊢
    have hfun : ((accs M).map fun x => (atB (e :: L) ⟨x.kind, x.member, (j : Int)⟩).sum) = (accs M).map fun x => (if x = e.spt.acc then (if e.a = (j : Int) then e.z else 0) else 0) + (atB L ⟨x.kind, x.member, (j : Int)⟩).sum := List.map_congr_left fun x _ => by
      rw [atB_cons_sum]
      congr 1
      have hiff : (e.spt = ⟨x.kind, x.member, (j : Int)⟩) ↔ (x = e.spt.acc ∧ e.a = (j : Int)) := by
        constructor
        · intro h'; exact ⟨by rw [h']; rfl, congrArg Spt.a h'⟩
        · rintro ⟨h1, h2⟩; rw [h1]; exact Spt.same rfl rfl h2
      by_cases h1 : x = e.spt.acc
      · by_cases h2 : e.a = (j : Int)
        · rw [if_pos (hiff.2 ⟨h1, h2⟩), if_pos h1, if_pos h2]
        · rw [if_neg (fun h' => h2 (hiff.1 h').2), if_pos h1, if_neg h2]
      · rw [if_neg (fun h' => h1 (hiff.1 h').1), if_neg h1]
    rw [hfun, sum_add, sum_one _ _ _ (accs_nodup hM), if_pos (accs_mem hM he), ih, ofK_cons_sum]
theorem Inv.slice {M A : Nat} {bl : List Int} {L : List Ent} (hM : M ≤ 16) (h : Inv M A bl L) {j : Nat} (hj : j < A) : (bl.drop (j * cnt M)).take (cnt M) = (accs M).map fun x => (atB L ⟨x.kind, x.member, (j : Int)⟩).sum := by
  have hA : (j + 1) * cnt M ≤ A * cnt M := Nat.mul_le_mul_right _ hj
  rw [Nat.add_mul] at hA
  have hcl : (accs M).length = cnt M := accs_len M
  apply List.ext_getElem?
  intro i
  rw [List.getElem?_take, List.getElem?_map]
  by_cases hi : i < cnt M
  · rw [if_pos hi, List.getElem?_drop]
    have hg := accs_get M i (by unfold cnt at hi; exact hi)
    rw [hg]
    have hn := num_accN M i hM (by unfold cnt at hi; exact hi)
    have hok : okP M A ⟨(accN i).kind, (accN i).member, (j : Int)⟩ = true := okP_iff.2 ⟨by show (numA M (accN i)).2 = 0; rw [hn], by show (0 : Int) ≤ j; omega, by show (j : Int) < A; omega⟩
    have hix : ixS M ⟨(accN i).kind, (accN i).member, (j : Int)⟩ = j * cnt M + i := by
      have h2 := (ixS_lt hM hok).2
      have h3 : (numA M (Spt.acc ⟨(accN i).kind, (accN i).member, (j : Int)⟩)).1 = (i : Int) := by show (numA M (accN i)).1 = (i : Int); rw [hn]
      rw [h3] at h2
      simp only at h2
      have : ((j * cnt M + i : Nat) : Int) = (j : Int) * (cnt M : Int) + (i : Int) := by simp
      omega
    rw [← hix, h.bal _ hok]; rfl
  · rw [if_neg hi, List.getElem?_eq_none (by omega)]; rfl
theorem Inv.total {M A : Nat} {bl : List Int} {L : List Ent} (hM : M ≤ 16) (hA : A ≤ 9) (h : Inv M A bl L) {j : Nat} (hj : j < A) : ((bl.drop (j * cnt M)).take (cnt M)).sum = 0 := by
  have h1 := acc_total (A := A) hM j L h.ok
  unfold accSum at h1
  rw [h.slice hM hj, h1]
  exact h.zero j (by omega)
end Go.Proofs.Ytelbolhckhdioaa
