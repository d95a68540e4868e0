/-
  phase.follow: the map of what follows what, walked by an invariant over its six inserts, whose order is open.
-/
import Derived.Test.YtfilpmmimpkfmabDoorRegInv
import Derived.Maps.OwnOps
import Derived.Maps.Views
import Derived.Maps.Ext
import Derived.Maps.OwnIn
import Derived.DeepKeys5
namespace Go.Proofs.YtfilpmmimpkfmabDoor
open Go.RowKit

/-- The frame stays: the operations left write no slot. -/
theorem wpAny_inv_still {P : Program} {ops : Array Oper} {Q : Exit → Act → World → Prop} {md : Region.Mode} {a : Act} {w : World} {fuel : Nat} {L0 : Array Bool} (I : Array Bool → World → Prop)
    (hf : toCome L0 ≤ fuel) (h0 : I L0 w)
    (hend : ∀ L w, I L w → Region.ready md ops L = [] → Q .normal a w)
    (hstep : ∀ L w i, I L w → i ∈ List.range ops.size → i ∈ Region.ready md ops L → wpOp P ops Q i (fun a' w' => a' = a ∧ I (L.setIfInBounds i true) w') a w) : wpAny P md ops Q fuel L0 a w :=
  wpAny_inv (I := fun L a' w => a' = a ∧ I L w) (fun L a' w ⟨e, h⟩ hr => e ▸ hend L w h hr) (fun L a' w i ⟨e, h⟩ hi => by
    subst e
    have hlt : i ∈ List.range ops.size := (List.mem_filter.1 hi).1
    exact hstep L w i h hlt hi) fuel L0 a w hf ⟨rfl, h0⟩

/-- Up to a set of operations that have come up: then the walk goes on from there. -/
theorem wpAny_until {P : Program} {ops : Array Oper} {Q : Exit → Act → World → Prop} {md : Region.Mode} {a : Act} (I : Array Bool → World → Prop) (stop : Array Bool)
    (hstop : ∀ w, I stop w → wpAny P md ops Q (toCome stop) stop a w)
    (hne : ∀ L w, I L w → L ≠ stop → ∃ i, i ∈ Region.ready md ops L)
    (hstep : ∀ L w i, I L w → L ≠ stop → i ∈ List.range ops.size → i ∈ Region.ready md ops L → wpOp P ops Q i (fun a' w' => a' = a ∧ I (L.setIfInBounds i true) w') a w) :
    ∀ (n : Nat) (L : Array Bool) (w : World), toCome L = n → I L w → wpAny P md ops Q n L a w := by
  intro n
  induction n with
  | zero =>
    intro L w hn h
    by_cases hs : L = stop
    · subst hs; rw [← hn]; exact hstop w h
    · obtain ⟨i, hi⟩ := hne L w h hs
      have := toCome_set (mem_ready.1 hi).1
      omega
  | succ n ih =>
    intro L w hn h
    by_cases hs : L = stop
    · subst hs; rw [← hn]; exact hstop w h
    · obtain ⟨i, hi⟩ := hne L w h hs
      refine ⟨fun h0 => (by rw [h0] at hi; cases hi), fun i hi => wpOp_mono ?_ (hstep L w i h hs (List.mem_filter.1 hi).1 hi)⟩
      rintro a' w' ⟨rfl, h'⟩
      exact ih _ _ (by have := toCome_set (mem_ready.1 hi).1; omega) h'

/-- The key of an event. -/
def ev (p t : Int) : Value := .agg #[.int .i64 p, .int .i64 t]
theorem evLaw : Maps.Keyed Tryd.prog 53 := Maps.Keyed.of_law (deep_law_gate (by kernel_rfl) (of_decide_eq_true (by kernel_rfl)) (of_decide_eq_true (by kernel_rfl)) (by kernel_rfl) (by kernel_rfl))
theorem keyOf_two {P : Program} {k e : TypeId} {f1 f2 : Field} {p t : Int} (hu : P.underlying k = some (.struct #[f1, f2])) (n1 : (f1.name != "_") = true) (n2 : (f2.name != "_") = true) (t1 : f1.type = e) (t2 : f2.type = e) (o1 : f1.offset = 0) (o2 : f2.offset = 1)
    (hk : P.keyType k = true) (hck : P.cellsOf k = 2) (hue : P.underlying e = some (.int .i64)) (hce : P.cellsOf e = 1) (hs : 0 < P.types.size) (hp : (Lit.int .i64 p).wf = true) (ht : (Lit.int .i64 t).wf = true) :
    keyOf P k (.agg #[.int .i64 p, .int .i64 t]) = some (.string (keyBytes [.int .i64 p, .int .i64 t])) := by
  obtain ⟨d, hd⟩ : ∃ d, P.types.size = d + 1 := ⟨P.types.size - 1, by omega⟩
  have h2 : Value.formed P k (.agg #[.int .i64 p, .int .i64 t]) = true := by simp [Value.formed, hu, hck]
  unfold keyOf
  simp only [hu, hk, h2, hd, Bool.and_self, if_true, Value.cells, Program.keyLits]
  simp [n1, n2, t1, t2, o1, o2, hck, hue, hce, hp, ht, Program.keyLits]
theorem ev_key (p t : Int) (hp : (Lit.int .i64 p).wf = true) (ht : (Lit.int .i64 t).wf = true) : ∃ kl, keyOf Tryd.prog 53 (ev p t) = some kl :=
  ⟨_, keyOf_two (P := Tryd.prog) (e := 3) Tryd.underlying53 (by kernel_rfl) (by kernel_rfl) rfl rfl rfl rfl (by kernel_rfl) (by kernel_rfl) Tryd.underlying3 (by kernel_rfl) (of_decide_eq_true (by kernel_rfl)) hp ht⟩
theorem ev_inj {p t p' t' : Int} (h : ev p t = ev p' t') : p = p' ∧ t = t' := by simpa [ev] using h

/-- The map reads as the function f of phase and timer. -/
def MapIs (D : DataW Unit) (f : Int → Int → Option Int) : Prop :=
  Maps.IsMap D ∧ ∀ p t kl, keyOf Tryd.prog 53 (ev p t) = some kl → Maps.has D kl = (f p t).isSome ∧ ∀ c, f p t = some c → ∀ z, D.atKey kl z = .lit (.int .i64 c)
def upd (f : Int → Int → Option Int) (p0 t0 c : Int) : Int → Int → Option Int := fun p t => if p = p0 ∧ t = t0 then some c else f p t
theorem MapIs.start : MapIs (.map []) (fun _ _ => none) := ⟨⟨[], rfl⟩, fun p t kl _ => ⟨rfl, fun c h => by cases h⟩⟩
theorem MapIs.put {D : DataW Unit} {f : Int → Int → Option Int} (h : MapIs D f) {p0 t0 c : Int} {k0 : Lit} (hk : keyOf Tryd.prog 53 (ev p0 t0) = some k0) : MapIs (D.put k0 (.lit (.int .i64 c))) (upd f p0 t0 c) := by
  obtain ⟨hm, hall⟩ := h
  refine ⟨?_, fun p t kl hkl => ?_⟩
  · obtain ⟨es, rfl⟩ := hm
    exact ⟨_, rfl⟩
  · by_cases e : p = p0 ∧ t = t0
    · obtain ⟨rfl, rfl⟩ := e
      obtain rfl : k0 = kl := by rw [hk] at hkl; exact Option.some.inj hkl
      have hkey := evLaw.key hk
      refine ⟨by rw [Maps.has_put_same hm hkey]; simp [upd], fun c' hc z => ?_⟩
      rw [Maps.atKey_put_same hm hkey]
      simp [upd] at hc
      rw [hc]
    · have hne : kl ≠ k0 := fun e' => e (by subst e'; exact ev_inj (evLaw.inj hkl hk))
      have e2 : upd f p0 t0 c p t = f p t := if_neg e
      rw [e2]
      refine ⟨by rw [Maps.has_put_other hne]; exact (hall p t kl hkl).1, fun c' hc z => ?_⟩
      rw [Maps.atKey_put_other hne]
      exact (hall p t kl hkl).2 c' hc z

/-- What the map holds behind some of the six inserts. -/
def tab (b0 b1 b2 b3 b4 b5 : Bool) (p t : Int) : Option Int :=
  if p = 1 ∧ t = 1 then (if b0 then some 2 else none) else if p = 2 ∧ t = 2 then (if b1 then some 2 else none) else if p = 2 ∧ t = 3 then (if b2 then some 4 else none) else
  if p = 3 ∧ t = 4 then (if b3 then some 4 else none) else if p = 4 ∧ t = 4 then (if b4 then some 4 else none) else if p = 4 ∧ t = 5 then (if b5 then some 1 else none) else none
theorem tab0 (b1 b2 b3 b4 b5 : Bool) : upd (tab false b1 b2 b3 b4 b5) 1 1 2 = tab true b1 b2 b3 b4 b5 := by
  funext p t; unfold upd tab; by_cases h : p = 1 ∧ t = 1 <;> simp [h]
theorem tab1 (b0 b2 b3 b4 b5 : Bool) : upd (tab b0 false b2 b3 b4 b5) 2 2 2 = tab b0 true b2 b3 b4 b5 := by
  funext p t; unfold upd tab; by_cases h : p = 2 ∧ t = 2 <;> simp [h]
theorem tab2 (b0 b1 b3 b4 b5 : Bool) : upd (tab b0 b1 false b3 b4 b5) 2 3 4 = tab b0 b1 true b3 b4 b5 := by
  funext p t; unfold upd tab; by_cases h : p = 2 ∧ t = 3 <;> simp [h]
theorem tab3 (b0 b1 b2 b4 b5 : Bool) : upd (tab b0 b1 b2 false b4 b5) 3 4 4 = tab b0 b1 b2 true b4 b5 := by
  funext p t; unfold upd tab; by_cases h : p = 3 ∧ t = 4 <;> simp [h]
theorem tab4 (b0 b1 b2 b3 b5 : Bool) : upd (tab b0 b1 b2 b3 false b5) 4 4 4 = tab b0 b1 b2 b3 true b5 := by
  funext p t; unfold upd tab; by_cases h : p = 4 ∧ t = 4 <;> simp [h]
theorem tab5 (b0 b1 b2 b3 b4 : Bool) : upd (tab b0 b1 b2 b3 b4 false) 4 5 1 = tab b0 b1 b2 b3 b4 true := by
  funext p t; unfold upd tab; by_cases h : p = 4 ∧ t = 5 <;> simp [h]
theorem tab_start : tab false false false false false false = fun _ _ => none := by funext p t; unfold tab; simp

/-- An insert, at the region's step. -/
theorem wpOp_insert {ops : Array Oper} {Q : Exit → Act → World → Prop} {i : Nat} {o : Oper} {a : Act} {w : World} {K : Act → World → Prop} (ho : ops[i]? = some o) (hg : o.guard = none) (hd : o.dst = none) (m x : Operand) (c : Int)
    (hop : o.op = .insert 50 m x (.const (.int .i64 c))) (g n : Nat) (D : DataW Unit) (p t : Int) (hm : a.eval m = .map (some g)) (hx : a.eval x = ev p t)
    (hp : (Lit.int .i64 p).wf = true) (ht : (Lit.int .i64 t).wf = true) (hc : (Lit.int .i64 c).wf = true) (f : Int → Int → Option Int) (hD : MapIs D f)
    (hown : w.ownsMap Tryd.prog 53 (plainElem Tryd.prog 3) g n D) (hn : n < maxLen)
    (h : ∀ w' D', w'.ownsMap Tryd.prog 53 (plainElem Tryd.prog 3) g (n + 1) D' → MapIs D' (upd f p t c) → w.grownBy w' (some g) → K a w') : wpOp Tryd.prog ops Q i K a w := by
  refine wpOp_step ho (fun K' hK => ?_)
  obtain ⟨kl, hkl⟩ := ev_key p t hp ht
  obtain ⟨w', hrun, h1, h2⟩ := hown.update evLaw Tryd.underlying50 hn (val := .int .i64 c) hkl (plainElem_int Tryd.underlying3 hc)
  rw [if_pos (by simp [Region.wanted, hg])]
  unfold Oper.wp
  have hcv : a.eval (.const (.int .i64 c)) = .int .i64 c := rfl
  simp [execOp, hop, hm, hx, hcv, hrun, Result.andThen]
  have hpa : a.put o.dst undef = a := by rw [hd]; rfl
  show K' (a.put o.dst undef) w'
  rw [hpa]
  exact hK _ _ (h w' _ h1 (hD.put hkl) h2)

/-- What follow hands back. -/
def FollowPost (w : World) (f : Int → Int → Option Int) (e : Ending) (w' : World) : Prop :=
  ∃ g n D, e = .returned (.map (some g)) ∧ w'.ownsMap Tryd.prog 53 (plainElem Tryd.prog 3) g n D ∧ MapIs D f ∧ n ≤ 8 ∧ w.heap.size ≤ g ∧ Below w.heap.size w w'

/-- Which inserts have come up. -/
def InsI (g H : Nat) (w0 : World) (L : Array Bool) (w : World) : Prop := ∃ b0 b1 b2 b3 b4 b5 D, L = #[true, true, b0, true, b1, true, b2, true, b3, true, b4, true, b5, false, false] ∧
  w.ownsMap Tryd.prog 53 (plainElem Tryd.prog 3) g (b0.toNat + b1.toNat + b2.toNat + b3.toNat + b4.toNat + b5.toNat) D ∧ MapIs D (tab b0 b1 b2 b3 b4 b5) ∧ Below H w0 w
theorem InsI.mk' {g H : Nat} {w0 : World} {L : Array Bool} {w : World} (b0 b1 b2 b3 b4 b5 : Bool) {n : Nat} {D : DataW Unit} (hL : L = #[true, true, b0, true, b1, true, b2, true, b3, true, b4, true, b5, false, false])
    (ho : w.ownsMap Tryd.prog 53 (plainElem Tryd.prog 3) g n D) (hn : n = b0.toNat + b1.toNat + b2.toNat + b3.toNat + b4.toNat + b5.toNat) {f : Int → Int → Option Int} (hm : MapIs D f) (hf : f = tab b0 b1 b2 b3 b4 b5) (hb : Below H w0 w) : InsI g H w0 L w :=
  ⟨b0, b1, b2, b3, b4, b5, D, hL, hn ▸ ho, hf ▸ hm, hb⟩

set_option maxRecDepth 10000 in
set_option maxHeartbeats 2000000 in
theorem follow_any (s l : Bool) (w : World) : Calls Tryd.prog 27 #[.bool s, .bool l] w (FollowPost w (fun p t => if p = 4 ∧ t = 5 ∧ l = true then some 5 else if p = 2 ∧ t = 3 ∧ s = true then some 3 else tab true true true true true true p t)) := by
  go_enter Tryd.func27, Tryd.ntmps27
  go_wp2_with fail
  refine wp_region_any (by kernel_rfl) ?_
  change wpAny _ _ _ _ _ _ _ (World.drew _)
  refine wpAny_take (i := 1) (v := ev 1 1) rfl (by kernel_rfl) (by kernel_rfl) (by kernel_rfl) (fun _ _ _ h => h) (Or.inl ⟨by rfl, fun _ => by unfold ev; go_simp⟩) ?_
  refine wpAny_take (i := 3) (v := ev 2 2) rfl (by kernel_rfl) (by kernel_rfl) (by kernel_rfl) (fun _ _ _ h => h) (Or.inl ⟨by rfl, fun _ => by unfold ev; go_simp⟩) ?_
  refine wpAny_take (i := 5) (v := ev 2 3) rfl (by kernel_rfl) (by kernel_rfl) (by kernel_rfl) (fun _ _ _ h => h) (Or.inl ⟨by rfl, fun _ => by unfold ev; go_simp⟩) ?_
  refine wpAny_take (i := 7) (v := ev 3 4) rfl (by kernel_rfl) (by kernel_rfl) (by kernel_rfl) (fun _ _ _ h => h) (Or.inl ⟨by rfl, fun _ => by unfold ev; go_simp⟩) ?_
  refine wpAny_take (i := 9) (v := ev 4 4) rfl (by kernel_rfl) (by kernel_rfl) (by kernel_rfl) (fun _ _ _ h => h) (Or.inl ⟨by rfl, fun _ => by unfold ev; go_simp⟩) ?_
  refine wpAny_take (i := 11) (v := ev 4 5) rfl (by kernel_rfl) (by kernel_rfl) (by kernel_rfl) (fun _ _ _ h => h) (Or.inl ⟨by rfl, fun _ => by unfold ev; go_simp⟩) ?_
  have hmm := @run_makeMap Tryd.prog
  refine wpAny_ready (rs := [0]) (by kernel_rfl) (by simp) ?_
  refine AllReady.cons rfl (fun K hK => ?_) AllReady.nil
  go_simp
  refine hK _ _ ?_
  clear hK K
  have hB0 : Below w.heap.size w ((w.alloc (.map #[] 0)).drew) := ((Below.refl w.heap.size w).alloc (Nat.le_refl _) _).drew
  have hown0 : ((w.alloc (.map #[] 0)).drew).ownsMap Tryd.prog 53 (plainElem (H := Unit) Tryd.prog 3) w.heap.size 0 (.map []) := World.ownsMap_made w _ _ _
  refine wpAny_until (InsI w.heap.size w.heap.size w) #[true, true, true, true, true, true, true, true, true, true, true, true, true, false, false] ?_ ?_ ?_ _ _ _ (by rfl) ?_
  rotate_left 3
  · exact InsI.mk' false false false false false false rfl (by simpa using hown0) rfl MapIs.start tab_start.symm (by simpa using hB0)
  · rintro w1 ⟨b0, b1, b2, b3, b4, b5, D, hL, hown, hD, hb⟩
    obtain ⟨rfl, rfl, rfl, rfl, rfl, rfl⟩ : true = b0 ∧ true = b1 ∧ true = b2 ∧ true = b3 ∧ true = b4 ∧ true = b5 := by simpa using hL
    clear hL
    have hown : w1.ownsMap Tryd.prog 53 (plainElem Tryd.prog 3) w.heap.size 6 D := hown
    change wpAny _ _ _ _ 2 _ _ _
    refine wpAny_take (i := 13) (v := .map (some w.heap.size)) rfl (by kernel_rfl) (by kernel_rfl) (by kernel_rfl) (fun _ _ _ h => h) (Or.inl ⟨by rfl, fun _ => by go_simp⟩) ?_
    refine wpAny_take (i := 14) (v := .map (some w.heap.size)) rfl (by kernel_rfl) (by kernel_rfl) (by kernel_rfl) (fun _ _ _ h => h) (Or.inl ⟨by rfl, fun _ => by go_simp⟩) ?_
    refine wpAny_done (by kernel_rfl) ?_ _
    obtain ⟨k23, hk23⟩ : ∃ kl, keyOf Tryd.prog 53 (.agg #[.int .i64 2, .int .i64 3]) = some kl := ev_key 2 3 (by decide) (by decide)
    obtain ⟨k45, hk45⟩ : ∃ kl, keyOf Tryd.prog 53 (.agg #[.int .i64 4, .int .i64 5]) = some kl := ev_key 4 5 (by decide) (by decide)
    have d23 := hD.put (c := 3) hk23
    have HD := Lib.hid hD
    have HK2 := Lib.hid hk23
    have HK4 := Lib.hid hk45
    have HB := Lib.hid hb
    clear hD hk23 hk45 hb hB0 hown0 hmm d23
    cases s with
    | false =>
      cases l with
      | false =>
        go_wp2_with fail
        go_ret
        exact ⟨w.heap.size, 6, D, rfl, hown, by have := HD.out; simpa using this, by omega, Nat.le_refl _, HB.out⟩
      | true =>
        go_wp2_with (at_mapUpdate; refine wpList_mapUpdate_own _ rfl _ _ _ 50 rfl 53 3 evLaw Tryd.underlying50 _ _ 6 _ rfl hown (by unfold maxLen; omega) _ _ _ rfl rfl HK4.out _ [] (plainElem_int Tryd.underlying3 (by decide)) ?_; intro w2 hown2 hgrow2)
        go_ret
        exact ⟨w.heap.size, 7, _, rfl, hown2, by have := HD.out.put (c := 5) HK4.out; refine cast (congrArg (MapIs _) ?_) this; funext p t; unfold upd; simp [and_assoc], by omega, Nat.le_refl _, HB.out.grown hgrow2 HB.out.size (fun k hk => by cases hk; exact Nat.le_refl _)⟩
    | true =>
      cases l with
      | false =>
        go_wp2_with (at_mapUpdate; refine wpList_mapUpdate_own _ rfl _ _ _ 50 rfl 53 3 evLaw Tryd.underlying50 _ _ 6 _ rfl hown (by unfold maxLen; omega) _ _ _ rfl rfl HK2.out _ [] (plainElem_int Tryd.underlying3 (by decide)) ?_; intro w2 hown2 hgrow2)
        go_ret
        exact ⟨w.heap.size, 7, _, rfl, hown2, by have := HD.out.put (c := 3) HK2.out; refine cast (congrArg (MapIs _) ?_) this; funext p t; unfold upd; simp [and_assoc], by omega, Nat.le_refl _, HB.out.grown hgrow2 HB.out.size (fun k hk => by cases hk; exact Nat.le_refl _)⟩
      | true =>
        go_wp2_with (first
          | (at_mapUpdate; refine wpList_mapUpdate_own _ rfl _ _ _ 50 rfl 53 3 evLaw Tryd.underlying50 _ _ 6 _ rfl hown (by unfold maxLen; omega) _ _ _ rfl rfl HK2.out _ [] (plainElem_int Tryd.underlying3 (by decide)) ?_; intro w2 hown2 hgrow2; clear hown)
          | (at_mapUpdate; refine wpList_mapUpdate_own _ rfl _ _ _ 50 rfl 53 3 evLaw Tryd.underlying50 _ _ 7 _ rfl hown2 (by unfold maxLen; omega) _ _ _ rfl rfl HK4.out _ [] (plainElem_int Tryd.underlying3 (by decide)) ?_; intro w3 hown3 hgrow3))
        go_ret
        have hb2 : Below w.heap.size w w2 := HB.out.grown hgrow2 HB.out.size (fun k hk => by cases hk; exact Nat.le_refl _)
        exact ⟨w.heap.size, 8, _, rfl, hown3, by have := (HD.out.put (c := 3) HK2.out).put (c := 5) HK4.out; refine cast (congrArg (MapIs _) ?_) this; funext p t; unfold upd; simp [and_assoc], by omega, Nat.le_refl _, hb2.grown hgrow3 hb2.size (fun k hk => by cases hk; exact Nat.le_refl _)⟩
  · rintro L w1 ⟨b0, b1, b2, b3, b4, b5, D, rfl, hown, hD, hb⟩ hs
    cases b0
    · exact ⟨2, mem_ready.2 ⟨rfl, _, rfl, by intro e he _; simp at he; rcases he with rfl | rfl <;> rfl⟩⟩
    cases b1
    · exact ⟨4, mem_ready.2 ⟨rfl, _, rfl, by intro e he _; simp at he; rcases he with rfl | rfl <;> rfl⟩⟩
    cases b2
    · exact ⟨6, mem_ready.2 ⟨rfl, _, rfl, by intro e he _; simp at he; rcases he with rfl | rfl <;> rfl⟩⟩
    cases b3
    · exact ⟨8, mem_ready.2 ⟨rfl, _, rfl, by intro e he _; simp at he; rcases he with rfl | rfl <;> rfl⟩⟩
    cases b4
    · exact ⟨10, mem_ready.2 ⟨rfl, _, rfl, by intro e he _; simp at he; rcases he with rfl | rfl <;> rfl⟩⟩
    cases b5
    · exact ⟨12, mem_ready.2 ⟨rfl, _, rfl, by intro e he _; simp at he; rcases he with rfl | rfl <;> rfl⟩⟩
    exact absurd rfl hs
  · rintro L w1 i ⟨b0, b1, b2, b3, b4, b5, D, rfl, hown, hD, hb⟩ hs hi hr
    obtain ⟨hun, o, ho, hall⟩ := mem_ready.1 hr
    have hm : i ∈ [0, 1, 2, 3, 4, 5, 6, 7, 8, 9, 10, 11, 12, 13, 14] := hi
    have hmx : b0.toNat + b1.toNat + b2.toNat + b3.toNat + b4.toNat + b5.toNat < maxLen := by
      have h0 := Bool.toNat_le b0; have h1 := Bool.toNat_le b1; have h2 := Bool.toNat_le b2; have h3 := Bool.toNat_le b3; have h4 := Bool.toNat_le b4; have h5 := Bool.toNat_le b5
      unfold maxLen; omega
    simp only [List.mem_cons, List.not_mem_nil, or_false] at hm
    rcases hm with rfl | rfl | rfl | rfl | rfl | rfl | rfl | rfl | rfl | rfl | rfl | rfl | rfl | rfl | rfl
    all_goals first | (simp at hun; done) | skip
    · obtain rfl : b0 = false := by simpa using hun
      refine wpOp_insert (i := 2) rfl rfl rfl (.tmp 6) (.tmp 7) 2 rfl w.heap.size _ D 1 1 (by rfl) (by rfl) (by decide) (by decide) (by decide) _ hD hown hmx ?_
      intro w2 D2 h1 h2 h3
      exact ⟨rfl, InsI.mk' true b1 b2 b3 b4 b5 (by rfl) h1 (by simp only [Bool.toNat_true, Bool.toNat_false] <;> omega) h2 (tab0 b1 b2 b3 b4 b5) (hb.grown h3 hb.size (fun k hk => by cases hk; exact Nat.le_refl _))⟩
    · obtain rfl : b1 = false := by simpa using hun
      refine wpOp_insert (i := 4) rfl rfl rfl (.tmp 6) (.tmp 8) 2 rfl w.heap.size _ D 2 2 (by rfl) (by rfl) (by decide) (by decide) (by decide) _ hD hown hmx ?_
      intro w2 D2 h1 h2 h3
      exact ⟨rfl, InsI.mk' b0 true b2 b3 b4 b5 (by rfl) h1 (by simp only [Bool.toNat_true, Bool.toNat_false] <;> omega) h2 (tab1 b0 b2 b3 b4 b5) (hb.grown h3 hb.size (fun k hk => by cases hk; exact Nat.le_refl _))⟩
    · obtain rfl : b2 = false := by simpa using hun
      refine wpOp_insert (i := 6) rfl rfl rfl (.tmp 6) (.tmp 9) 4 rfl w.heap.size _ D 2 3 (by rfl) (by rfl) (by decide) (by decide) (by decide) _ hD hown hmx ?_
      intro w2 D2 h1 h2 h3
      exact ⟨rfl, InsI.mk' b0 b1 true b3 b4 b5 (by rfl) h1 (by simp only [Bool.toNat_true, Bool.toNat_false] <;> omega) h2 (tab2 b0 b1 b3 b4 b5) (hb.grown h3 hb.size (fun k hk => by cases hk; exact Nat.le_refl _))⟩
    · obtain rfl : b3 = false := by simpa using hun
      refine wpOp_insert (i := 8) rfl rfl rfl (.tmp 6) (.tmp 10) 4 rfl w.heap.size _ D 3 4 (by rfl) (by rfl) (by decide) (by decide) (by decide) _ hD hown hmx ?_
      intro w2 D2 h1 h2 h3
      exact ⟨rfl, InsI.mk' b0 b1 b2 true b4 b5 (by rfl) h1 (by simp only [Bool.toNat_true, Bool.toNat_false] <;> omega) h2 (tab3 b0 b1 b2 b4 b5) (hb.grown h3 hb.size (fun k hk => by cases hk; exact Nat.le_refl _))⟩
    · obtain rfl : b4 = false := by simpa using hun
      refine wpOp_insert (i := 10) rfl rfl rfl (.tmp 6) (.tmp 11) 4 rfl w.heap.size _ D 4 4 (by rfl) (by rfl) (by decide) (by decide) (by decide) _ hD hown hmx ?_
      intro w2 D2 h1 h2 h3
      exact ⟨rfl, InsI.mk' b0 b1 b2 b3 true b5 (by rfl) h1 (by simp only [Bool.toNat_true, Bool.toNat_false] <;> omega) h2 (tab4 b0 b1 b2 b3 b5) (hb.grown h3 hb.size (fun k hk => by cases hk; exact Nat.le_refl _))⟩
    · obtain rfl : b5 = false := by simpa using hun
      refine wpOp_insert (i := 12) rfl rfl rfl (.tmp 6) (.tmp 12) 1 rfl w.heap.size _ D 4 5 (by rfl) (by rfl) (by decide) (by decide) (by decide) _ hD hown hmx ?_
      intro w2 D2 h1 h2 h3
      exact ⟨rfl, InsI.mk' b0 b1 b2 b3 b4 true (by rfl) h1 (by simp only [Bool.toNat_true, Bool.toNat_false] <;> omega) h2 (tab5 b0 b1 b2 b3 b4) (hb.grown h3 hb.size (fun k hk => by cases hk; exact Nat.le_refl _))⟩
    · exfalso
      simp at ho
      subst ho
      have c0 := hall { on := 2, ground := Ground.data } (by simp) rfl
      have c1 := hall { on := 4, ground := Ground.data } (by simp) rfl
      have c2 := hall { on := 6, ground := Ground.data } (by simp) rfl
      have c3 := hall { on := 8, ground := Ground.data } (by simp) rfl
      have c4 := hall { on := 10, ground := Ground.data } (by simp) rfl
      have c5 := hall { on := 12, ground := Ground.data } (by simp) rfl
      simp at c0 c1 c2 c3 c4 c5
      subst c0 c1 c2 c3 c4 c5
      exact hs rfl
    · exfalso
      simp at ho
      subst ho
      have c0 := hall { on := 13, ground := Ground.data } (by simp) rfl
      simp at c0
end Go.Proofs.YtfilpmmimpkfmabDoor
