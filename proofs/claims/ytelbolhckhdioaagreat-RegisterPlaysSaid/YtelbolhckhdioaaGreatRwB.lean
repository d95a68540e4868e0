import Derived.Test.YtelbolhckhdioaaGreatRwA
import Derived.Deep.CutBlock
/-! ## from RpR -/
namespace Go.Proofs.YtelbolhckhdioaaGreat
open Go.RowKit

/-! ### A register beside the document's: the plain law -/
structure PlR (cf : Conf) (n1 n2 n3 : Nat) (ac : Int) (S : List TRow) (U : List URow) (c : Int) (l : List RowR) : Prop where
  rel : TTbR.RelT S (curR c l)
  use : ∀ id, TTbI.isT U id = usedR id l
  ulen : U.length = l.length
  aceq : ac = (accR c l : Nat)
  inv : RegI cf n1 n2 n3 ac S U
  ok : ∀ r ∈ l, checkT n1 n2 r.t = 0
  cyc : ∀ r ∈ l, r.cyc ≤ c
section
variable {cf : Conf} {n1 n2 n3 : Nat} {ac : Int} {S : List TRow} {U : List URow} {c : Int} {l : List RowR}
theorem sumV_cur (c : Int) (l : List RowR) : sumV (curR c l) = grossR c l := by
  rw [sumV, curR, List.map_map]; rfl
theorem sumU_cur (s c : Int) : ∀ l : List RowR, sumU s (curR c l) = unitsR c s l
  | [] => rfl
  | x :: l => by
    have ih := sumU_cur s c l
    unfold sumU curR unitsR at ih ⊢
    rw [List.filter_cons, List.filter_cons]
    by_cases hh : hereR c x = true
    · rw [if_pos hh, List.map_cons, List.map_cons, List.sum_cons, ih]
      by_cases hs : x.t.sec = s
      · rw [if_pos (by simp [hh, hs]), List.map_cons, List.sum_cons]
        simp [unitOf, mkT, hs]
      · rw [if_neg (by simp [hs])]
        simp [unitOf, mkT, hs]
    · rw [if_neg hh, if_neg (by simp [hh])]; exact ih
theorem PlR.gross (h : PlR cf n1 n2 n3 ac S U c l) : sumV S = grossR c l := by rw [sumV_perm h.rel.perm, sumV_cur]
theorem PlR.units (h : PlR cf n1 n2 n3 ac S U c l) (s : Int) : sumU s S = unitsR c s l := by rw [sumU_perm s h.rel.perm, sumU_cur]
theorem PlR.rows (h : PlR cf n1 n2 n3 ac S U c l) : RowsOk n1 n2 c l := ⟨h.ok, by rw [← h.gross]; exact h.inv.top⟩
theorem PlR.list (h : PlR cf n1 n2 n3 ac S U c l) : TTbR.rowsD (curR c l) = S := h.rel.rows
theorem PlR.slen (h : PlR cf n1 n2 n3 ac S U c l) : (curR c l).length = S.length := h.rel.len.symm
theorem PlR.trd (h : PlR cf n1 n2 n3 ac S U c l) : ∀ r ∈ S, TrdIn r.v ∧ legsIn r.v = true := fun r hr => ⟨(h.inv.ok r hr).2.2, legsIn_of (h.inv.ok r hr).1⟩
theorem PlR.nil (hc : 0 ≤ cf.trades) (hn : 0 ≤ cf.trades * (n3 : Int)) : PlR cf n1 n2 n3 0 [] [] 0 [] :=
  ⟨TTbR.RelT.nil, fun _ => rfl, rfl, rfl, ⟨by simp, by simp [sumV], by simp, ⟨by omega, hc⟩, by simp, by simpa using hn⟩, by simp, by simp⟩
theorem PlR.addK (h : PlR cf n1 n2 n3 ac S U c l) (hw : IntKind.i64.wrap (cf.trades * (n3 : Int)) = cf.trades * (n3 : Int)) (t : Trad) : addKS cf n1 n2 n3 ac S U t = addRK cf n1 n2 n3 c l t := by
  have h1 : fullS cf n3 ac U = fullR cf n3 c l := by unfold fullS fullR; rw [hw, h.aceq, h.ulen]
  have h2 : muchS S t = muchR c l t := by
    unfold muchS muchR
    rw [h.gross, h.units, show valOf t = t.qty * t.price from rfl, Int.add_comm (t.qty * t.price), Int.add_comm t.qty]
  unfold addKS addRK
  rw [h.use t.id, h1, h2]
theorem PlR.add (h : PlR cf n1 n2 n3 ac S U c l) (hw : IntKind.i64.wrap (cf.trades * (n3 : Int)) = cf.trades * (n3 : Int)) {t : Trad} (hq : inI t.qty) (hp : inI t.price) : PlR cf n1 n2 n3 (addA (addKS cf n1 n2 n3 ac S U t) ac) (addS (addKS cf n1 n2 n3 ac S U t) S t) (addU (addKS cf n1 n2 n3 ac S U t) ac U t) c (addRL cf n1 n2 n3 c l t) := by
  have hi := h.inv.add (t := t) hq hp
  rw [addRL, ← h.addK hw t]
  by_cases hk : addKS cf n1 n2 n3 ac S U t = 0
  · have hz := addKS_zero hk
    rw [hk] at hi ⊢
    rw [if_pos rfl]
    simp only [addA, addS, addU, if_pos] at hi ⊢
    have hcur : curR c (l ++ [⟨t, c, false⟩]) = curR c l ++ [⟨t.id, t⟩] := by
      rw [curR, List.filter_append, List.map_append, List.filter_cons, if_pos (by simp [hereR])]; rfl
    have hni : TTbR.isT S t.id = false := by
      cases e : TTbR.isT S t.id with
      | false => rfl
      | true =>
        obtain ⟨r, hr, e2⟩ := List.any_eq_true.1 e
        have := h.inv.used r hr
        rw [show r.id = t.id from by simpa using e2, hz.2.1] at this
        cases this
    refine ⟨by rw [hcur]; exact h.rel.put (x := ⟨t.id, t⟩) hni, fun id => ?_, ?_, ?_, hi, ?_, ?_⟩
    · have h1 : TTbI.isT (TTbI.insT U ⟨t.id, ac + 1⟩) id = TTbI.isT (⟨t.id, ac + 1⟩ :: U) id := (insTI_perm U _).any_eq
      have h2 := h.use id
      rw [h1]
      unfold TTbI.isT usedR at h2 ⊢
      rw [List.any_cons, List.any_append, h2]
      simp [Bool.or_comm]
      rfl
    · rw [(insTI_perm U _).length_eq, List.length_cons, List.length_append, h.ulen]; rfl
    · rw [h.aceq]
      simp [accR, List.filter_append]
    · intro r hr
      rcases List.mem_append.1 hr with h1 | h1
      · exact h.ok r h1
      · obtain rfl : r = ⟨t, c, false⟩ := by simpa using h1
        exact hz.1
    · intro r hr
      rcases List.mem_append.1 hr with h1 | h1
      · exact h.cyc r h1
      · obtain rfl : r = ⟨t, c, false⟩ := by simpa using h1
        exact Int.le_refl _
  · simp only [addA, addS, addU, if_neg hk] at hi ⊢
    exact h
theorem curR_app (c : Int) (a b : List RowR) : curR c (a ++ b) = curR c a ++ curR c b := by
  rw [curR, List.filter_append, List.map_append]; rfl
theorem curR_here {c : Int} {f : RowR} (h : hereR c f = true) (l : List RowR) : curR c (f :: l) = mkT f :: curR c l := by
  rw [curR, List.filter_cons, if_pos h]; rfl
theorem curR_gone {c : Int} (f : RowR) (l : List RowR) : curR c (goneR f :: l) = curR c l := by
  rw [curR, List.filter_cons, if_neg (by simp [hereR, goneR])]; rfl
theorem setR_at {l : List RowR} {k : Nat} {f : RowR} (h : l[k]? = some f) (x : RowR) : l = l.take k ++ f :: l.drop (k + 1) ∧ l.set k x = l.take k ++ x :: l.drop (k + 1) := by
  obtain ⟨hlt, e⟩ := List.getElem?_eq_some_iff.1 h
  have h1 : l = l.take k ++ f :: l.drop (k + 1) := by
    rw [← e, ← List.drop_eq_getElem_cons hlt, List.take_append_drop]
  refine ⟨h1, ?_⟩
  rw [List.set_eq_take_append_cons_drop, if_pos hlt]
/-- The trade that the document cancels stands in the program's table too. -/
theorem PlR.hit (h : PlR cf n1 n2 n3 ac S U c l) {k : Nat} {f : RowR} {id : Int} (hf : l[k]? = some f) (hh : hitR c id f) : TTbR.isT S id = true ∧ S[TTbR.posT S id]? = some (mkT f) ∧ PlR cf n1 n2 n3 ac (TTbR.outT S (TTbR.posT S id)) U c (l.set k (goneR f)) := by
  obtain ⟨h1, h2⟩ := setR_at hf (goneR f)
  obtain ⟨hh1, hh2⟩ := hh
  have hc1 : curR c l = curR c (l.take k) ++ mkT f :: curR c (l.drop (k + 1)) := by
    conv => lhs; rw [h1]
    rw [curR_app, curR_here hh1]
  have hc2 : curR c (l.set k (goneR f)) = curR c (l.take k) ++ curR c (l.drop (k + 1)) := by rw [h2, curR_app, curR_gone]
  have hat : (curR c l)[(curR c (l.take k)).length]? = some (mkT f) := by
    rw [hc1, List.getElem?_append_right (Nat.le_refl _), Nat.sub_self]; rfl
  have hpos := h.rel.at_ hat
  have hidm : (mkT f).id = id := hh2
  rw [hidm] at hpos
  have hrel := h.rel.drop hat
  rw [hidm] at hrel
  have hdt := TTbR.dropT_at h.rel.dist hat
  rw [hidm] at hdt
  have ht : (curR c l).take (curR c (l.take k)).length = curR c (l.take k) := by rw [hc1, List.take_append]; simp
  have hd : (curR c l).drop ((curR c (l.take k)).length + 1) = curR c (l.drop (k + 1)) := by rw [hc1, List.drop_append]; simp
  rw [hdt, ht, hd, ← hc2] at hrel
  have his : TTbR.isT S id = true := by
    rw [h.rel.is]
    exact List.any_eq_true.2 ⟨mkT f, List.mem_of_getElem? hat, by simp [hidm]⟩
  have hsub : ∀ r ∈ TTbR.outT S (TTbR.posT S id), r ∈ S := fun r hr => by
    rcases List.mem_append.1 hr with e | e
    · exact List.mem_of_mem_take e
    · exact List.mem_of_mem_drop e
  have hlt : k < l.length := (List.getElem?_eq_some_iff.1 hf).1
  have hmem : ∀ r ∈ l.set k (goneR f), r ∈ l ∨ r = goneR f := fun r hr => by
    rcases List.mem_or_eq_of_mem_set hr with e | e
    · exact .inl e
    · exact .inr e
  have hfm : f ∈ l := List.mem_of_getElem? hf
  refine ⟨his, hpos, hrel, fun i => ?_, by rw [List.length_set]; exact h.ulen, ?_, ?_, ?_, ?_⟩
  · rw [h.use i, h2]
    conv => lhs; rw [h1]
    unfold usedR
    rw [List.any_append, List.any_append, List.any_cons, List.any_cons]; rfl
  · rw [h.aceq, h2]
    conv => lhs; rw [h1]
    unfold accR
    rw [List.filter_append, List.filter_append, List.length_append, List.length_append, List.filter_cons, List.filter_cons]
    by_cases e : f.cyc = c
    · rw [if_pos (by simp [e]), if_pos (by simp [goneR, e])]; rfl
    · rw [if_neg (by simp [e]), if_neg (by simp [goneR, e])]
  · have hsum : sumV S = valOf (mkT f).v + sumV (TTbR.outT S (TTbR.posT S id)) := by
      rw [h.gross, sumV_perm hrel.perm, ← sumV_cur, hc1, hc2]
      simp only [sumV, List.map_append, List.map_cons, List.sum_append, List.sum_cons]
      omega
    have hv := (qty_le_val (h.ok f hfm)).2
    have hlen : (TTbR.outT S (TTbR.posT S id)).length ≤ S.length := by
      rw [hrel.len, h.rel.len, hc1, hc2]; simp
    have hi := h.inv
    exact ⟨fun r hr => hi.ok r (hsub r hr), by have := hi.top; rw [hsum] at this; have e : valOf (mkT f).v = valOf f.t := rfl; omega, fun r hr => hi.used r (hsub r hr), hi.ac0, by have := hi.len; omega, hi.ulen⟩
  · intro r hr
    rcases hmem r hr with e | e
    · exact h.ok r e
    · subst e; exact h.ok f hfm
  · intro r hr
    rcases hmem r hr with e | e
    · exact h.cyc r e
    · subst e; exact h.cyc f hfm
theorem PlR.miss (h : PlR cf n1 n2 n3 ac S U c l) {id : Int} (hn : ∀ x ∈ l, ¬ hitR c id x) : TTbR.isT S id = false := by
  cases e : TTbR.isT S id with
  | false => rfl
  | true =>
    rw [h.rel.is] at e
    obtain ⟨r, hr, e2⟩ := List.any_eq_true.1 e
    obtain ⟨x, hx, rfl⟩ := List.mem_map.1 hr
    obtain ⟨h1, h2⟩ := List.mem_filter.1 hx
    exact absurd ⟨h2, of_decide_eq_true e2⟩ (hn x h1)
theorem PlR.next (h : PlR cf n1 n2 n3 ac S U c l) : PlR cf n1 n2 n3 0 [] U (c + 1) l := by
  have h1 : ∀ r ∈ l, ¬ r.cyc = c + 1 := fun r hr e => by have := h.cyc r hr; omega
  have h2 : l.filter (hereR (c + 1)) = [] := List.filter_eq_nil_iff.2 fun r hr e => h1 r hr (by simp [hereR] at e; exact e.1)
  have h3 : curR (c + 1) l = [] := by rw [curR, h2]; rfl
  have h4 : accR (c + 1) l = 0 := by rw [accR, List.filter_eq_nil_iff.2 fun r hr e => h1 r hr (by simpa using e)]; rfl
  refine ⟨by rw [h3]; exact TTbR.RelT.nil, h.use, h.ulen, by rw [h4]; rfl, ⟨by simp, by simp [sumV], by simp, ⟨by omega, ?_⟩, by simp, h.inv.ulen⟩, h.ok, fun r hr => by have := h.cyc r hr; omega⟩
  have := h.inv.ac0
  omega
end
end Go.Proofs.YtelbolhckhdioaaGreat

/-! ## from RpG -/
namespace Go.Proofs.YtelbolhckhdioaaGreat
open Go.RowKit

section
variable {g gt gu base : Nat} {B1 : Option Addr} {n1 d1 : Nat} {B2 : Option Addr} {n2 d2 : Nat} {B3 : Option Addr} {n3 d3 : Nat} {cf : Conf} {vt vu : Value} {ac : Int} {S : List TRow} {U : List URow}
/-! ### Cancel of a trade that is not there -/
set_option maxHeartbeats 8000000 in
theorem cancelR_no (id : Int) (w : World) (hx : RgsV w g gt gu base B1 n1 d1 B2 n2 d2 B3 n3 d3 cf vt vu ac S U) (hi : TTbR.isT S id = false) :
    Calls Tryz.prog 15 #[.pointer (some ⟨g, 0, none⟩), .int .i64 id] w (CanPost g gt gu base B1 n1 d1 B2 n2 d2 B3 n3 d3 cf vt vu ac S U ⟨0, 0, 0, 0, 0, 0⟩ 8 w) := by
  have hB0 := (Below.refl w.heap.size w).alloc (Nat.le_refl _) (.cells #[.int .i64 0, .int .i64 0, .int .i64 0, .int .i64 0, .int .i64 0, .int .i64 0] 38)
  have bz0 := Blk.new w 38 #[.int .i64 0, .int .i64 0, .int .i64 0, .int .i64 0, .int .i64 0, .int .i64 0] w.heap.size rfl
  obtain ⟨W, hW⟩ : ∃ W, Hid (w.alloc (.cells #[.int .i64 0, .int .i64 0, .int .i64 0, .int .i64 0, .int .i64 0, .int .i64 0] 38) = W) := ⟨_, Lib.hid rfl⟩
  obtain ⟨zb, hzb⟩ : ∃ zb, Hid (w.heap.size = zb) := ⟨_, Lib.hid rfl⟩
  rw [hW.out] at hB0 bz0
  rw [hzb.out] at bz0
  have HX := Lib.hid (hx.past hB0)
  have HZ := Lib.hid bz0
  have HB0 := Lib.hid hB0
  have HD := Lib.hid (TTbR.dropT_no gt base cf.trades vt S id W HX.out.tab hi)
  have p8 := HX.out.blk.cell 8
  simp at p8
  clear hx hi hB0 bz0
  go_enter Tryz.func15, Tryz.ntmps15
  go_upto_region 1 with fail
  rw [hW.out, hzb.out]
  go_wp2_with fail
  refine HD.out.mono ?_
  rintro e w1 ⟨rfl, hb1⟩
  have HX1 := Lib.hid (HX.out.past hb1)
  have HZ1 := Lib.hid (HZ.out.past hb1)
  have HB1 := Lib.hid (Below.past HB0.out hb1 HB0.out.size)
  have z0 := (HZ1.out).cell 0
  have z1 := (HZ1.out).cell 1
  have z2 := (HZ1.out).cell 2
  have z3 := (HZ1.out).cell 3
  have z4 := (HZ1.out).cell 4
  have z5 := (HZ1.out).cell 5
  simp at z0 z1 z2 z3 z4 z5
  have f0 := HZ1.out.frozen 0
  have f1 := HZ1.out.frozen 1
  have f2 := HZ1.out.frozen 2
  have f3 := HZ1.out.frozen 3
  have f4 := HZ1.out.frozen 4
  have f5 := HZ1.out.frozen 5
  have hzl := HZ1.out.lt
  clear hb1 HD p8
  have hzw : ¬ zb < w.heap.size := by have := hzb.out; omega
  have HFIN : Hid (∀ w', OnlyS (fun k => k = zb) w1 w' → CanPost g gt gu base B1 n1 d1 B2 n2 d2 B3 n3 d3 cf vt vu ac S U ⟨0, 0, 0, 0, 0, 0⟩ 8 w (.returned (.tuple #[.agg #[.int .i64 0, .int .i64 0, .int .i64 0, .int .i64 0, .int .i64 0, .int .i64 0], .int .i64 8])) w') := Lib.hid (fun w' hz => by
    refine ⟨rfl, vt, HX1.out.blkOnly HZ1.out hz (by decide) (by decide) (by decide) (by decide) (by decide) (by decide) (by decide) (by decide), ?_, fun k e => .inl e⟩
    exact (OnlyS.of_below (bad := rbad g gt gu vt vu) HB1.out).trans hz (fun _ _ e => e) (fun k hk e => absurd (e ▸ hk) hzw))
  have HZS : Hid (OnlyS (fun k => k = zb) w1 ((((((w1.setCell ⟨zb, 0, none⟩ (.int .i64 0)).setCell ⟨zb, 1, none⟩ (.int .i64 0)).setCell ⟨zb, 2, none⟩ (.int .i64 0)).setCell ⟨zb, 3, none⟩ (.int .i64 0)).setCell ⟨zb, 4, none⟩ (.int .i64 0)).setCell ⟨zb, 5, none⟩ (.int .i64 0))) := Lib.hid ((((((((OnlyS.of_below (bad := fun k => k = zb) (Below.refl _ _)).set ⟨zb, 0, none⟩ (fun _ => rfl) _).set ⟨zb, 1, none⟩ (fun _ => rfl) _).set ⟨zb, 2, none⟩ (fun _ => rfl) _).set ⟨zb, 3, none⟩ (fun _ => rfl) _).set ⟨zb, 4, none⟩ (fun _ => rfl) _).set ⟨zb, 5, none⟩ (fun _ => rfl) _))
  go_wp2_with fail
  refine bodyPost_ret (v := .tuple #[.agg #[.int .i64 0, .int .i64 0, .int .i64 0, .int .i64 0, .int .i64 0, .int .i64 0], .int .i64 8]) (by simp [results, Tryz.results15, go_sem, z0, z1, z2, z3, z4, z5, hzl]) rfl ?_
  exact HFIN.out _ HZS.out
end

/-! ### What a Cancel tells, either way -/
def canK (S : List TRow) (id : Int) : Int := if TTbR.isT S id = true then 0 else 8
def canT (S : List TRow) (id : Int) : Trad := if TTbR.isT S id = true then (match S[TTbR.posT S id]? with | some r => r.v | none => ⟨0, 0, 0, 0, 0, 0⟩) else ⟨0, 0, 0, 0, 0, 0⟩
def canS (S : List TRow) (id : Int) : List TRow := if TTbR.isT S id = true then TTbR.outT S (TTbR.posT S id) else S
theorem can_yes {S : List TRow} {id : Int} {r : TRow} (h : TTbR.isT S id = true) (hr : S[TTbR.posT S id]? = some r) : canK S id = 0 ∧ canT S id = r.v ∧ canS S id = TTbR.outT S (TTbR.posT S id) := by
  unfold canK canT canS
  rw [if_pos h, if_pos h, if_pos h, hr]
  exact ⟨rfl, rfl, rfl⟩
theorem can_no {S : List TRow} {id : Int} (h : TTbR.isT S id = false) : canK S id = 8 ∧ canT S id = ⟨0, 0, 0, 0, 0, 0⟩ ∧ canS S id = S := by
  have h' : ¬ TTbR.isT S id = true := by rw [h]; simp
  unfold canK canT canS
  rw [if_neg h', if_neg h', if_neg h']
  exact ⟨rfl, rfl, rfl⟩
section
variable {g gt gu base : Nat} {B1 : Option Addr} {n1 d1 : Nat} {B2 : Option Addr} {n2 d2 : Nat} {B3 : Option Addr} {n3 d3 : Nat} {cf : Conf} {vt vu : Value} {ac : Int} {S : List TRow} {U : List URow}
theorem cancelR_any (id : Int) (w : World) (hx : RgsV w g gt gu base B1 n1 d1 B2 n2 d2 B3 n3 d3 cf vt vu ac S U) :
    Calls Tryz.prog 15 #[.pointer (some ⟨g, 0, none⟩), .int .i64 id] w (CanPost g gt gu base B1 n1 d1 B2 n2 d2 B3 n3 d3 cf vt vu ac (canS S id) U (canT S id) (canK S id) w) := by
  cases hi : TTbR.isT S id with
  | true =>
    obtain ⟨r, hr, _⟩ := TTbR.at_is hx.tab.ris hi
    obtain ⟨h1, h2, h3⟩ := can_yes hi hr
    rw [h1, h2, h3]
    exact cancelR_yes id r w hx hi hr
  | false =>
    obtain ⟨h1, h2, h3⟩ := can_no hi
    rw [h1, h2, h3]
    exact cancelR_no id w hx hi
end

/-! ### Both registers -/
structure TwG (W0 : World) (cf : Conf) (A1 : Option Addr) (n1 cp1 : Nat) (A2 : Option Addr) (n2 cp2 : Nat) (A3 : Option Addr) (n3 cp3 : Nat) (g gu : Nat) (B1 : Option Addr) (d1 : Nat) (B2 : Option Addr) (d2 : Nat) (B3 : Option Addr) (d3 : Nat) (q k : Nat) (w : World) (gt : Nat) (vt vu vd : Value) (ac : Int) (S : List TRow) (U : List URow) (c : Int) (l : List RowR) : Prop where
  prog : RgsV w g gt gu W0.heap.size B1 n1 d1 B2 n2 d2 B3 n3 d3 cf vt vu ac S U
  doc : RegV w q W0.heap.size A1 n1 cp1 A2 n2 cp2 A3 n3 cp3 cf c vd l
  hq : W0.heap.size ≤ q
  pl : PlR cf n1 n2 n3 ac S U c l
  ll : l.length ≤ k
  cc : 0 ≤ c ∧ c ≤ (k : Int)
  below : Below W0.heap.size W0 w
def TwN (W0 : World) (cf : Conf) (A1 : Option Addr) (n1 cp1 : Nat) (A2 : Option Addr) (n2 cp2 : Nat) (A3 : Option Addr) (n3 cp3 : Nat) (g gu : Nat) (B1 : Option Addr) (d1 : Nat) (B2 : Option Addr) (d2 : Nat) (B3 : Option Addr) (d3 : Nat) (q k : Nat) (w : World) : Prop := ∃ gt vt vu vd ac S U c l, TwG W0 cf A1 n1 cp1 A2 n2 cp2 A3 n3 cp3 g gu B1 d1 B2 d2 B3 d3 q k w gt vt vu vd ac S U c l
section
variable {W0 : World} {cf : Conf} {A1 : Option Addr} {n1 cp1 : Nat} {A2 : Option Addr} {n2 cp2 : Nat} {A3 : Option Addr} {n3 cp3 : Nat} {g gu : Nat} {B1 : Option Addr} {d1 : Nat} {B2 : Option Addr} {d2 : Nat} {B3 : Option Addr} {d3 : Nat} {q k : Nat} {w w' : World} {gt base : Nat} {vt vu vd : Value} {ac : Int} {S : List TRow} {U : List URow} {c : Int} {l : List RowR}
/-- The document's register over what the program's does. -/
theorem RegV.overP (hd : RegV w q base A1 n1 cp1 A2 n2 cp2 A3 n3 cp3 cf c vd l) (hp : RgsV w g gt gu base B1 n1 d1 B2 n2 d2 B3 n3 d3 cf vt vu ac S U) (ho : OnlyS (rbad g gt gu vt vu) w w') : RegV w' q base A1 n1 cp1 A2 n2 cp2 A3 n3 cp3 cf c vd l :=
  ⟨hd.form, hp.stay hd.blk ho (by decide) (by decide) (by decide) (by decide) (by decide), ho.own hd.row (hp.apart hd.row (by decide) (by decide) (by decide) (by decide) (by decide))⟩
/-- The program's register over what the document's does. -/
theorem RgsV.overD (hp : RgsV w g gt gu base B1 n1 d1 B2 n2 d2 B3 n3 d3 cf vt vu ac S U) (hd : RegV w q base A1 n1 cp1 A2 n2 cp2 A3 n3 cp3 cf c vd l) (ho : OnlyS (qbad q vd) w w') : RgsV w' g gt gu base B1 n1 d1 B2 n2 d2 B3 n3 d3 cf vt vu ac S U := by
  have hb : ∀ {k : Nat} {t : TypeId} {a : Array Value}, Blk w k t a → t ≠ 49 → 92 ≠ t → ¬ qbad q vd k := fun h h1 h2 e => by
    rcases e with e | e
    · exact blk_neZ h hd.blk h1 e
    · exact own_blk_ne hd.row h h2 e
  have hr : ∀ {b0 : Nat} {e : TypeId} {sz n : Nat} {v : Value} {xs : List Value}, w.ownsRow b0 e sz v n xs → e ≠ 49 → e ≠ 92 → ∀ k, v.ownBlock = some k → ¬ qbad q vd k := fun h h1 h2 k hk e => by
    rcases e with e | e
    · exact own_blk_ne h hd.blk h1 (e ▸ hk)
    · exact own_neZ h hd.row h2 k e hk
  exact hp.onlyS ho (hb hp.blk (by decide) (by decide)) (hb hp.tab.blk (by decide) (by decide)) (hb hp.use.blk (by decide) (by decide)) (hr hp.tab.row (by decide) (by decide)) (hr hp.use.row (by decide) (by decide)) (hr hp.cfo.m (by decide) (by decide)) (hr hp.cfo.s (by decide) (by decide)) (hr hp.cfo.c (by decide) (by decide))
theorem TwG.past (h : TwG W0 cf A1 n1 cp1 A2 n2 cp2 A3 n3 cp3 g gu B1 d1 B2 d2 B3 d3 q k w gt vt vu vd ac S U c l) (hb : Below w.heap.size w w') : TwG W0 cf A1 n1 cp1 A2 n2 cp2 A3 n3 cp3 g gu B1 d1 B2 d2 B3 d3 q k w' gt vt vu vd ac S U c l :=
  ⟨h.prog.past hb, h.doc.past hb, h.hq, h.pl, h.ll, h.cc, Below.past h.below hb h.below.size⟩
theorem qframe (hd : RegV w q base A1 n1 cp1 A2 n2 cp2 A3 n3 cp3 cf c vd l) (hq : base ≤ q) (ho : OnlyS (qbad q vd) w w') (hb : base ≤ w.heap.size) : Below base w w' :=
  ho.frame hb fun k _ hk => by
    rcases hk with e | e
    · omega
    · exact (hd.row.lt k e).1
/-- What both hold between the program's call and the document's. -/
structure MidG (W0 : World) (cf : Conf) (A1 : Option Addr) (n1 cp1 : Nat) (A2 : Option Addr) (n2 cp2 : Nat) (A3 : Option Addr) (n3 cp3 : Nat) (g gu : Nat) (B1 : Option Addr) (d1 : Nat) (B2 : Option Addr) (d2 : Nat) (B3 : Option Addr) (d3 : Nat) (q k : Nat) (w : World) (gt : Nat) (vt vu vd : Value) (ac : Int) (S : List TRow) (U : List URow) (c : Int) (l : List RowR) : Prop where
  prog : RgsV w g gt gu W0.heap.size B1 n1 d1 B2 n2 d2 B3 n3 d3 cf vt vu ac S U
  doc : RegV w q W0.heap.size A1 n1 cp1 A2 n2 cp2 A3 n3 cp3 cf c vd l
  hq : W0.heap.size ≤ q
  ll : l.length ≤ k
  cc : 0 ≤ c ∧ c ≤ (k : Int)
  below : Below W0.heap.size W0 w
theorem MidG.past (h : MidG W0 cf A1 n1 cp1 A2 n2 cp2 A3 n3 cp3 g gu B1 d1 B2 d2 B3 d3 q k w gt vt vu vd ac S U c l) (hb : Below w.heap.size w w') : MidG W0 cf A1 n1 cp1 A2 n2 cp2 A3 n3 cp3 g gu B1 d1 B2 d2 B3 d3 q k w' gt vt vu vd ac S U c l :=
  ⟨h.prog.past hb, h.doc.past hb, h.hq, h.ll, h.cc, Below.past h.below hb h.below.size⟩
theorem TwG.mid {gt' : Nat} {vt' vu' : Value} {ac' : Int} {S' : List TRow} {U' : List URow} (h : TwG W0 cf A1 n1 cp1 A2 n2 cp2 A3 n3 cp3 g gu B1 d1 B2 d2 B3 d3 q k w gt vt vu vd ac S U c l) (hp : RgsV w' g gt' gu W0.heap.size B1 n1 d1 B2 n2 d2 B3 n3 d3 cf vt' vu' ac' S' U') (ho : OnlyS (rbad g gt gu vt vu) w w') : MidG W0 cf A1 n1 cp1 A2 n2 cp2 A3 n3 cp3 g gu B1 d1 B2 d2 B3 d3 q k w' gt' vt' vu' vd ac' S' U' c l :=
  ⟨hp, h.doc.overP h.prog ho, h.hq, h.ll, h.cc, Below.trans h.below (h.prog.frame ho h.below.size)⟩
theorem MidG.fin {vd' : Value} {c' : Int} {l' : List RowR} (h : MidG W0 cf A1 n1 cp1 A2 n2 cp2 A3 n3 cp3 g gu B1 d1 B2 d2 B3 d3 q k w gt vt vu vd ac S U c l) (hd : RegV w' q W0.heap.size A1 n1 cp1 A2 n2 cp2 A3 n3 cp3 cf c' vd' l') (ho : OnlyS (qbad q vd) w w') (hpl : PlR cf n1 n2 n3 ac S U c' l') (hl : l'.length ≤ k + 1) (hc : 0 ≤ c' ∧ c' ≤ ((k + 1 : Nat) : Int)) : TwN W0 cf A1 n1 cp1 A2 n2 cp2 A3 n3 cp3 g gu B1 d1 B2 d2 B3 d3 q (k + 1) w' :=
  ⟨gt, vt, vu, vd', ac, S, U, c', l', h.prog.overD h.doc ho, hd, h.hq, hpl, hl, hc, Below.trans h.below (qframe h.doc h.hq ho h.below.size)⟩
end
end Go.Proofs.YtelbolhckhdioaaGreat

/-! ## from RpN -/
namespace Go.Proofs.YtelbolhckhdioaaGreat
open Go.RowKit Go.ChangeShapes

/-! ### RegisterPlays: houses or lists that are too long; configs that are wrong -/
set_option maxHeartbeats 2000000 in
set_option maxRecDepth 100000 in
theorem registerPlays_many (A1 A2 A3 : Option Addr) (n1 n2 n3 cp1 cp2 cp3 : Nat) (cf : Conf) (A : Option Addr) (n c : Nat) (z0 z1 : Int) (w : World) (hf : ¬ (fewB n1 n2 n3 = true ∧ n ≤ 60)) :
    Calls Tryz.prog 3 #[.agg #[.slice A1 n1 cp1, .slice A2 n2 cp2, .slice A3 n3 cp3, .int .i64 cf.line, .int .i64 cf.capital, .int .i64 cf.lead, .int .i64 cf.trades, .int .i64 cf.bids], .slice A n c, .agg #[.int .i64 z0, .int .i64 z1]] w fun e w' => e = .returned (.bool true) ∧ Below w.heap.size w w' := by
  obtain ⟨W, hW⟩ : ∃ W, Hid ((w.alloc (.cells #[.slice A1 n1 cp1, .slice A2 n2 cp2, .slice A3 n3 cp3, .int .i64 cf.line, .int .i64 cf.capital, .int .i64 cf.lead, .int .i64 cf.trades, .int .i64 cf.bids] 26)).alloc (.cells #[.int .i64 z0, .int .i64 z1] 28) = W) := ⟨_, Lib.hid rfl⟩
  have hB0 : Below w.heap.size w W := by rw [← hW.out]; exact ((Below.refl _ _).alloc (Nat.le_refl _) _).alloc (by simp) _
  have bc0 : Blk W w.heap.size 26 #[.slice A1 n1 cp1, .slice A2 n2 cp2, .slice A3 n3 cp3, .int .i64 cf.line, .int .i64 cf.capital, .int .i64 cf.lead, .int .i64 cf.trades, .int .i64 cf.bids] := by
    rw [← hW.out]; exact (Blk.new w _ _ _ rfl).alloc _
  have e0 := (bc0).cell 0
  have e1 := (bc0).cell 1
  have e2 := (bc0).cell 2
  have e3 := (bc0).cell 3
  have e4 := (bc0).cell 4
  have e5 := (bc0).cell 5
  have e6 := (bc0).cell 6
  have e7 := (bc0).cell 7
  simp at e0 e1 e2 e3 e4 e5 e6 e7
  clear bc0
  obtain ⟨v, hv⟩ : ∃ v, Hid (fewB n1 n2 n3 = v) := ⟨_, Lib.hid rfl⟩
  have HF := Lib.hid hf
  clear hf
  go_enter Tryz.func3, Tryz.ntmps3
  go_upto_region 1 with fail
  rw [hW.out]
  go_wp2_with fail
  refine (few_any A1 A2 A3 n1 n2 n3 cp1 cp2 cp3 cf _).mono ?_
  rw [hv.out]
  rintro e w1 ⟨rfl, hb1⟩
  have hb2 := Below.past hB0 hb1 hB0.size
  have hs2 := hb2.size
  have hfin := HF.out
  rw [hv.out] at hfin
  cases v with
  | false =>
    clear hfin e0 e1 e2 e3 e4 e5 e6 e7
    go_wp2_with fail
    refine (awake17 _).mono ?_
    rintro e w3 ⟨rfl, hb3⟩
    have hb4 := Below.past hb2 hb3 hs2
    go_wp2_with fail
    go_ret
    exact ⟨rfl, hb4⟩
  | true =>
    have q0 : (60 : Int) < (n : Int) := by have h : ¬ n ≤ 60 := fun h => hfin ⟨by simp, h⟩; omega
    clear hfin e0 e1 e2 e3 e4 e5 e6 e7
    go_wp2_with fail
    refine (awake17 _).mono ?_
    rintro e w3 ⟨rfl, hb3⟩
    have hb4 := Below.past hb2 hb3 hs2
    go_wp2_with fail
    go_ret
    exact ⟨rfl, hb4⟩

set_option maxHeartbeats 4000000 in
set_option maxRecDepth 100000 in
theorem registerPlays_wrong (A1 A2 A3 : Option Addr) (n1 n2 n3 cp1 cp2 cp3 : Nat) (cf : Conf) (A : Option Addr) (n c : Nat) (z0 z1 : Int) (w : World) (hr : CfRd w A1 n1 A2 n2 A3 n3 cf) (hf : fewB n1 n2 n3 = true) (hn : n ≤ 60) (hk : wrongK cf ≠ 8) :
    Calls Tryz.prog 3 #[.agg #[.slice A1 n1 cp1, .slice A2 n2 cp2, .slice A3 n3 cp3, .int .i64 cf.line, .int .i64 cf.capital, .int .i64 cf.lead, .int .i64 cf.trades, .int .i64 cf.bids], .slice A n c, .agg #[.int .i64 z0, .int .i64 z1]] w fun e w' => e = .returned (.bool true) ∧ Below w.heap.size w w' := by
  obtain ⟨W, hW⟩ : ∃ W, Hid ((w.alloc (.cells #[.slice A1 n1 cp1, .slice A2 n2 cp2, .slice A3 n3 cp3, .int .i64 cf.line, .int .i64 cf.capital, .int .i64 cf.lead, .int .i64 cf.trades, .int .i64 cf.bids] 26)).alloc (.cells #[.int .i64 z0, .int .i64 z1] 28) = W) := ⟨_, Lib.hid rfl⟩
  have hB0 : Below w.heap.size w W := by rw [← hW.out]; exact ((Below.refl _ _).alloc (Nat.le_refl _) _).alloc (by simp) _
  have bc0 : Blk W w.heap.size 26 #[.slice A1 n1 cp1, .slice A2 n2 cp2, .slice A3 n3 cp3, .int .i64 cf.line, .int .i64 cf.capital, .int .i64 cf.lead, .int .i64 cf.trades, .int .i64 cf.bids] := by
    rw [← hW.out]; exact (Blk.new w _ _ _ rfl).alloc _
  have HCB := Lib.hid bc0
  have HR0 := Lib.hid (hr.past hB0)
  have HF := Lib.hid hf
  have HB0 := Lib.hid hB0
  have e0 := (bc0).cell 0
  have e1 := (bc0).cell 1
  have e2 := (bc0).cell 2
  have e3 := (bc0).cell 3
  have e4 := (bc0).cell 4
  have e5 := (bc0).cell 5
  have e6 := (bc0).cell 6
  have e7 := (bc0).cell 7
  simp at e0 e1 e2 e3 e4 e5 e6 e7
  obtain ⟨K, HK⟩ : ∃ K, Hid (wrongK cf = K) := ⟨_, Lib.hid rfl⟩
  have HKN := Lib.hid hk
  have h8' := wrongK_le cf
  rw [HK.out] at h8' hk
  have q0 : ¬ (60 : Int) < (n : Int) := by omega
  clear bc0 hB0 hr hf
  go_enter Tryz.func3, Tryz.ntmps3
  go_upto_region 1 with fail
  rw [hW.out]
  go_wp2_with fail
  refine (few_any A1 A2 A3 n1 n2 n3 cp1 cp2 cp3 cf _).mono ?_
  rw [HF.out]
  rintro e w1 ⟨rfl, hb1⟩
  have bc1 := HCB.out.past hb1
  have HD1 := Lib.hid (Below.past HB0.out hb1 HB0.out.size)
  have HN := Lib.hid (newG_no A1 A2 A3 n1 n2 n3 cp1 cp2 cp3 cf w1 (HR0.out.past hb1) HKN.out)
  have HR1 := Lib.hid (HR0.out.past hb1)
  have HC1 := Lib.hid bc1
  clear e0 e1 e2 e3 e4 e5 e6 e7
  have e0 := (bc1).cell 0
  have e1 := (bc1).cell 1
  have e2 := (bc1).cell 2
  have e3 := (bc1).cell 3
  have e4 := (bc1).cell 4
  have e5 := (bc1).cell 5
  have e6 := (bc1).cell 6
  have e7 := (bc1).cell 7
  simp at e0 e1 e2 e3 e4 e5 e6 e7
  clear bc1 hb1
  go_wp2_with fail
  refine HN.out.mono ?_
  rintro e w2 ⟨rfl, hb2⟩
  have bc2 := HC1.out.past hb2
  have HD2 := Lib.hid (Below.past HD1.out hb2 HD1.out.size)
  have HW := Lib.hid (refWrong_any A1 A2 A3 n1 n2 n3 cp1 cp2 cp3 cf w2 (HR1.out.past hb2))
  rw [HK.out] at HW
  clear e0 e1 e2 e3 e4 e5 e6 e7 HN
  have e0 := (bc2).cell 0
  have e1 := (bc2).cell 1
  have e2 := (bc2).cell 2
  have e3 := (bc2).cell 3
  have e4 := (bc2).cell 4
  have e5 := (bc2).cell 5
  have e6 := (bc2).cell 6
  have e7 := (bc2).cell 7
  simp at e0 e1 e2 e3 e4 e5 e6 e7
  clear bc2 hb2
  have hw1 : ((word K).toList == []) = false := by rw [word_empty, decide_eq_false (by omega)]
  have hw2 : ((word K).toList.isEmpty) = ((word K).toList == []) := by cases (word K).toList <;> rfl
  rw [hw1] at hw2
  have hw3 : decide ((word K).toList = []) = ((word K).toList == []) := by cases (word K).toList <;> simp
  rw [hw1] at hw3
  simp at hw3
  clear hw1 hk h8'
  go_wp2_with fail
  refine HW.out.mono ?_
  rintro e w3 ⟨rfl, hb3⟩
  have HD3 := Lib.hid (Below.past HD2.out hb3 HD2.out.size)
  clear e0 e1 e2 e3 e4 e5 e6 e7 HW hb3
  go_wp2_with fail
  refine (awake17 _).mono ?_
  rintro e w4 ⟨rfl, hb4⟩
  have HD4 := Lib.hid (Below.past HD3.out hb4 HD3.out.size)
  clear hb4 hw2 hw3
  go_wp2_with fail
  refine (addR_nil ⟨0, 0, 0, 0, 0, 0⟩ _).mono ?_
  rintro e w5 ⟨rfl, hb5⟩
  have HD5 := Lib.hid (Below.past HD4.out hb5 HD4.out.size)
  clear hb5
  go_wp2_with fail
  refine (tradesR_nil _).mono ?_
  rintro e w6 ⟨rfl, rfl⟩
  go_wp2_with fail
  refine (legsR_nil _).mono ?_
  rintro e w7 ⟨rfl, hb7⟩
  have HD7 := Lib.hid (Below.past HD5.out hb7 HD5.out.size)
  clear hb7
  go_wp2_with fail
  refine (grossR_nil _).mono ?_
  rintro e w8 ⟨rfl, rfl⟩
  go_wp2_with fail
  refine (copyRg_nil _).mono ?_
  rintro e w9 ⟨rfl, rfl⟩
  go_wp2_with fail
  refine (usedR_nil 0 _).mono ?_
  rintro e w10 ⟨rfl, rfl⟩
  go_wp2_with fail
  go_ret
  exact ⟨rfl, HD7.out⟩
end Go.Proofs.YtelbolhckhdioaaGreat

/-! ## from RpH -/
namespace Go.Proofs.YtelbolhckhdioaaGreat
open Go.RowKit

section
variable {W0 : World} {cf : Conf} {A1 : Option Addr} {n1 cp1 : Nat} {A2 : Option Addr} {n2 cp2 : Nat} {A3 : Option Addr} {n3 cp3 : Nat} {g gu : Nat} {B1 : Option Addr} {d1 : Nat} {B2 : Option Addr} {d2 : Nat} {B3 : Option Addr} {d3 : Nat} {q k : Nat} {w w' w1 w2 : World} {gt base : Nat} {vt vu vd : Value} {ac : Int} {S : List TRow} {U : List URow} {c : Int} {l : List RowR}
theorem OnlyS.ofGq (h : OnlyG q vd w w') : OnlyS (qbad q vd) w w' := OnlyS.of_onlyG (bad := qbad q vd) h (.inl rfl) (fun _ e => .inr e)
/-! ### Add -/
theorem TwG.addMid {t : Trad} {e : Ending} (h : TwG W0 cf A1 n1 cp1 A2 n2 cp2 A3 n3 cp3 g gu B1 d1 B2 d2 B3 d3 q k w gt vt vu vd ac S U c l) (hp : AddRPost g gt gu W0.heap.size B1 n1 d1 B2 n2 d2 B3 n3 d3 cf vt vu ac S U t w e w1) : ∃ vt' vu', MidG W0 cf A1 n1 cp1 A2 n2 cp2 A3 n3 cp3 g gu B1 d1 B2 d2 B3 d3 q k w1 gt vt' vu' vd (addA (addKS cf n1 n2 n3 ac S U t) ac) (addS (addKS cf n1 n2 n3 ac S U t) S t) (addU (addKS cf n1 n2 n3 ac S U t) ac U t) c l := by
  obtain ⟨_, vt', vu', h1, h2, _, _⟩ := hp
  exact ⟨vt', vu', h.mid h1 h2⟩
theorem MidG.addFin {t : Trad} {e : Ending} {vt' vu' : Value} (h : TwG W0 cf A1 n1 cp1 A2 n2 cp2 A3 n3 cp3 g gu B1 d1 B2 d2 B3 d3 q k w gt vt vu vd ac S U c l) (hm : MidG W0 cf A1 n1 cp1 A2 n2 cp2 A3 n3 cp3 g gu B1 d1 B2 d2 B3 d3 q k w1 gt vt' vu' vd (addA (addKS cf n1 n2 n3 ac S U t) ac) (addS (addKS cf n1 n2 n3 ac S U t) S t) (addU (addKS cf n1 n2 n3 ac S U t) ac U t) c l) (hd : AddGPost q W0.heap.size A1 n1 cp1 A2 n2 cp2 A3 n3 cp3 cf c vd l t w1 e w2) (hw : IntKind.i64.wrap (cf.trades * (n3 : Int)) = cf.trades * (n3 : Int)) (hq : inI t.qty) (hpr : inI t.price) : TwN W0 cf A1 n1 cp1 A2 n2 cp2 A3 n3 cp3 g gu B1 d1 B2 d2 B3 d3 q (k + 1) w2 := by
  obtain ⟨_, vd', h1, h2, _⟩ := hd
  refine hm.fin h1 (OnlyS.ofGq h2) (h.pl.add hw hq hpr) ?_ ⟨h.cc.1, by have := h.cc.2; omega⟩
  have := h.ll
  unfold addRL
  split
  · rw [List.length_append]; simp; omega
  · omega
/-! ### Cancel -/
theorem TwG.canMid {id : Int} {e : Ending} (h : TwG W0 cf A1 n1 cp1 A2 n2 cp2 A3 n3 cp3 g gu B1 d1 B2 d2 B3 d3 q k w gt vt vu vd ac S U c l) (hp : CanPost g gt gu W0.heap.size B1 n1 d1 B2 n2 d2 B3 n3 d3 cf vt vu ac (canS S id) U (canT S id) (canK S id) w e w1) : ∃ vt', MidG W0 cf A1 n1 cp1 A2 n2 cp2 A3 n3 cp3 g gu B1 d1 B2 d2 B3 d3 q k w1 gt vt' vu vd ac (canS S id) U c l := by
  obtain ⟨_, vt', h1, h2, _⟩ := hp
  exact ⟨vt', h.mid h1 h2⟩
theorem MidG.canFin {id : Int} {e : Ending} {vt' : Value} (hpl : PlR cf n1 n2 n3 ac S U c l) (hm : MidG W0 cf A1 n1 cp1 A2 n2 cp2 A3 n3 cp3 g gu B1 d1 B2 d2 B3 d3 q k w1 gt vt' vu vd ac (canS S id) U c l) (hd : CanRPost q W0.heap.size A1 n1 cp1 A2 n2 cp2 A3 n3 cp3 cf c vd l id w1 e w2) : e = .returned (.tuple #[.agg #[.int .i64 (canT S id).id, .int .i64 (canT S id).buyer, .int .i64 (canT S id).seller, .int .i64 (canT S id).sec, .int .i64 (canT S id).qty, .int .i64 (canT S id).price], .int .i64 (canK S id)]) ∧ TwN W0 cf A1 n1 cp1 A2 n2 cp2 A3 n3 cp3 g gu B1 d1 B2 d2 B3 d3 q (k + 1) w2 ∧ ∀ {zb : Nat} {arr : Array Value}, Blk w1 zb 38 arr → Blk w2 zb 38 arr := by
  have hcc : 0 ≤ c ∧ c ≤ ((k + 1 : Nat) : Int) := ⟨hm.cc.1, by have := hm.cc.2; omega⟩
  rcases hd with ⟨j, f, hf, hh, he, hr, ho⟩ | ⟨hn, he, hb⟩
  · obtain ⟨h1, h2, h3⟩ := hpl.hit hf hh
    obtain ⟨a1, a2, a3⟩ := can_yes h1 h2
    refine ⟨by rw [a1, a2]; exact he, hm.fin hr ho (by rw [a3]; exact h3) (by rw [List.length_set]; have := hm.ll; omega) hcc, fun hz => ho.blk hz fun hk => ?_⟩
    rcases hk with e | e
    · exact blk_neZ hz hm.doc.blk (by decide) e
    · exact own_blk_ne hm.doc.row hz (by decide) e
  · obtain ⟨a1, a2, a3⟩ := can_no (hpl.miss hn)
    refine ⟨by rw [a1, a2]; exact he, hm.fin (hm.doc.past hb) (OnlyS.of_below hb) (by rw [a3]; exact hpl) (by have := hm.ll; omega) hcc, fun hz => hz.past hb⟩
/-! ### Next -/
theorem TwG.nextMid {e : Ending} (h : TwG W0 cf A1 n1 cp1 A2 n2 cp2 A3 n3 cp3 g gu B1 d1 B2 d2 B3 d3 q k w gt vt vu vd ac S U c l) (hp : NextPost g gu W0.heap.size B1 n1 d1 B2 n2 d2 B3 n3 d3 cf vu U w e w1) : ∃ gt', MidG W0 cf A1 n1 cp1 A2 n2 cp2 A3 n3 cp3 g gu B1 d1 B2 d2 B3 d3 q k w1 gt' (.slice none 0 0) vu vd 0 [] U c l := by
  obtain ⟨_, gt', h1, _, h2⟩ := hp
  exact ⟨gt', h.mid h1 (OnlyS.of_onlyG (bad := rbad g gt gu vt vu) h2 (.inl rfl) (fun k e => by cases e))⟩
theorem MidG.nextFin (hpl : PlR cf n1 n2 n3 ac S U c l) (hm : MidG W0 cf A1 n1 cp1 A2 n2 cp2 A3 n3 cp3 g gu B1 d1 B2 d2 B3 d3 q k w1 gt (.slice none 0 0) vu vd 0 [] U c l) : TwN W0 cf A1 n1 cp1 A2 n2 cp2 A3 n3 cp3 g gu B1 d1 B2 d2 B3 d3 q (k + 1) (w1.setCell ⟨q, 9, none⟩ (.int .i64 (c + 1))) := by
  have hd := hm.doc
  refine hm.fin (vd' := vd) (c' := c + 1) (l' := l) ⟨hd.form, hd.blk.put 9 _, own_far (p := ⟨q, 9, none⟩) hd.row (own_blk_ne hd.row hd.blk (by decide)) _⟩ ((OnlyS.of_below (bad := qbad q vd) (Below.refl _ _)).set ⟨q, 9, none⟩ (fun _ => .inl rfl) _) hpl.next (by have := hm.ll; omega) ⟨by have := hm.cc.1; omega, by have := hm.cc.2; omega⟩
end
end Go.Proofs.YtelbolhckhdioaaGreat

/-! ## from RpK -/
namespace Go.Proofs.YtelbolhckhdioaaGreat
open Go.RowKit Go.ChangeShapes

structure ActG where
  kind : Int
  t : Trad
  id : Int
def ActG.cells (a : ActG) : List Value := [.int .i64 a.kind, .int .i64 a.t.id, .int .i64 a.t.buyer, .int .i64 a.t.seller, .int .i64 a.t.sec, .int .i64 a.t.qty, .int .i64 a.t.price, .int .i64 a.id]
theorem ActG.cells_len (a : ActG) : a.cells.length = 8 := rfl
theorem actg_at {w : World} {B n k : Nat} {A : Option Addr} {l : List ActG} {x : ActG} (h : Rd w B 8 A n (l.flatMap ActG.cells)) (hx : l[k]? = some x) (hk : k < n) : ∃ b off, A = some ⟨b, off, none⟩ ∧ ∀ w', Below B w w' → w'.cell? ⟨b, off + k * 8, none⟩ = some (.int .i64 x.kind) ∧ w'.cell? ⟨b, off + k * 8 + 1, none⟩ = some (.int .i64 x.t.id) ∧ w'.cell? ⟨b, off + k * 8 + 2, none⟩ = some (.int .i64 x.t.buyer) ∧ w'.cell? ⟨b, off + k * 8 + 3, none⟩ = some (.int .i64 x.t.seller) ∧ w'.cell? ⟨b, off + k * 8 + 4, none⟩ = some (.int .i64 x.t.sec) ∧ w'.cell? ⟨b, off + k * 8 + 5, none⟩ = some (.int .i64 x.t.qty) ∧ w'.cell? ⟨b, off + k * 8 + 6, none⟩ = some (.int .i64 x.t.price) ∧ w'.cell? ⟨b, off + k * 8 + 7, none⟩ = some (.int .i64 x.id) := by
  obtain ⟨b, off, he, _, hc⟩ := h.elem ActG.cells_len hx hk
  refine ⟨b, off, he, fun w' hb => ?_⟩
  obtain ⟨b2, off2, he2, _, hc2⟩ := (h.below hb).elem ActG.cells_len hx hk
  rw [he] at he2
  cases he2
  exact ⟨by simpa using hc2 0 _ rfl, hc2 1 _ rfl, hc2 2 _ rfl, hc2 3 _ rfl, hc2 4 _ rfl, hc2 5 _ rfl, hc2 6 _ rfl, hc2 7 _ rfl⟩
set_option maxHeartbeats 16000000 in
set_option maxRecDepth 100000 in
theorem registerPlays_few (A1 A2 A3 : Option Addr) (n1 n2 n3 cp1 cp2 cp3 : Nat) (cf : Conf) (A : Option Addr) (n c : Nat) (z0 z1 : Int) (l : List ActG) (w : World) (hr : CfRd w A1 n1 A2 n2 A3 n3 cf) (hrl : Rd w w.heap.size 8 A n (l.flatMap ActG.cells)) (hg : ∀ a ∈ l, inI a.t.qty ∧ inI a.t.price) (hf : fewB n1 n2 n3 = true) (hn : n ≤ 60) (hk8 : wrongK cf = 8) :
    Calls Tryz.prog 3 #[.agg #[.slice A1 n1 cp1, .slice A2 n2 cp2, .slice A3 n3 cp3, .int .i64 cf.line, .int .i64 cf.capital, .int .i64 cf.lead, .int .i64 cf.trades, .int .i64 cf.bids], .slice A n c, .agg #[.int .i64 z0, .int .i64 z1]] w fun e w' => e = .returned (.bool true) ∧ Below w.heap.size w w' := by
  have HL := Lib.hid (hrl.len ActG.cells_len (by omega))
  have HF := Lib.hid hf
  have HHK := Lib.hid hk8
  have HG := Lib.hid hg
  have HN3 := Lib.hid (hr.c.len Cyc.cells_len (by omega))
  have h8 := wrong8 hk8
  have hmul : 1 ≤ cf.trades * (n3 : Int) ∧ cf.trades * (n3 : Int) ≤ 256 := by
    obtain ⟨a, b, c, d⟩ := h8
    rw [HN3.out] at c d
    have hn : n3 = 1 ∨ n3 = 2 ∨ n3 = 3 ∨ n3 = 4 := by omega
    rcases hn with rfl | rfl | rfl | rfl <;> constructor <;> push_cast <;> omega
  have HWM : Hid (IntKind.i64.wrap (cf.trades * (n3 : Int)) = cf.trades * (n3 : Int)) := Lib.hid (IntWalk.i64_in _ (by omega))
  have HPL0 : Hid (PlR cf n1 n2 n3 0 [] [] 0 []) := Lib.hid (PlR.nil (by omega) (by omega))
  have HTR : Hid (cf.trades ≤ 64) := Lib.hid h8.2.1
  clear hf hk8 hg hmul h8
  obtain ⟨W, hW⟩ : ∃ W, Hid ((w.alloc (.cells #[.slice A1 n1 cp1, .slice A2 n2 cp2, .slice A3 n3 cp3, .int .i64 cf.line, .int .i64 cf.capital, .int .i64 cf.lead, .int .i64 cf.trades, .int .i64 cf.bids] 26)).alloc (.cells #[.int .i64 z0, .int .i64 z1] 28) = W) := ⟨_, Lib.hid rfl⟩
  have hB0 : Below w.heap.size w W := by rw [← hW.out]; exact ((Below.refl _ _).alloc (Nat.le_refl _) _).alloc (by simp) _
  have bc0 : Blk W w.heap.size 26 #[.slice A1 n1 cp1, .slice A2 n2 cp2, .slice A3 n3 cp3, .int .i64 cf.line, .int .i64 cf.capital, .int .i64 cf.lead, .int .i64 cf.trades, .int .i64 cf.bids] := by
    rw [← hW.out]; exact (Blk.new w _ _ _ rfl).alloc _
  have bz0 : Blk W (w.heap.size + 1) 28 #[.int .i64 z0, .int .i64 z1] := by
    rw [← hW.out]; exact Blk.new (w.alloc (.cells #[.slice A1 n1 cp1, .slice A2 n2 cp2, .slice A3 n3 cp3, .int .i64 cf.line, .int .i64 cf.capital, .int .i64 cf.lead, .int .i64 cf.trades, .int .i64 cf.bids] 26)) _ _ _ (by simp)
  obtain ⟨zb, hzb⟩ : ∃ zb, Hid (w.heap.size + 1 = zb) := ⟨_, Lib.hid rfl⟩
  rw [hzb.out] at bz0
  have HCB := Lib.hid bc0
  have HZB := Lib.hid bz0
  have HR0 := Lib.hid (hr.past hB0)
  have HRL := Lib.hid hrl
  have HB0 := Lib.hid hB0
  have q0 : ¬ (60 : Int) < (n : Int) := by omega
  have e0 := (bc0).cell 0
  have e1 := (bc0).cell 1
  have e2 := (bc0).cell 2
  have e3 := (bc0).cell 3
  have e4 := (bc0).cell 4
  have e5 := (bc0).cell 5
  have e6 := (bc0).cell 6
  have e7 := (bc0).cell 7
  simp at e0 e1 e2 e3 e4 e5 e6 e7
  clear bc0 bz0 hr hrl hB0
  go_enter Tryz.func3, Tryz.ntmps3
  go_upto_region 1 with fail
  rw [hW.out, hzb.out]
  go_wp2_with fail
  refine (few_any A1 A2 A3 n1 n2 n3 cp1 cp2 cp3 cf _).mono ?_
  rw [HF.out]
  rintro e w1 ⟨rfl, hb1⟩
  have bc1 := HCB.out.past hb1
  have HD1 := Lib.hid hb1
  have HNR := Lib.hid (newG_yes A1 A2 A3 n1 n2 n3 cp1 cp2 cp3 cf w1 (HR0.out.past hb1) HHK.out HN3.out)
  unfold NewGPost at HNR
  clear e0 e1 e2 e3 e4 e5 e6 e7
  have e0 := (bc1).cell 0
  have e1 := (bc1).cell 1
  have e2 := (bc1).cell 2
  have e3 := (bc1).cell 3
  have e4 := (bc1).cell 4
  have e5 := (bc1).cell 5
  have e6 := (bc1).cell 6
  have e7 := (bc1).cell 7
  simp at e0 e1 e2 e3 e4 e5 e6 e7
  have HBW1 := Lib.hid (Below.past HB0.out hb1 HB0.out.size)
  clear bc1 hb1
  go_wp2_with fail
  refine HNR.out.mono ?_
  rintro e w2 ⟨g, gt, gu, B1, d1, B2, d2, B3, d3, rfl, hx2, hb2⟩
  have HX2 := Lib.hid hx2
  have HB2 := Lib.hid hb2
  have hW2 : Below W.heap.size W w2 := Below.next HD1.out hb2
  have bc2 := HCB.out.past hW2
  have HWr := Lib.hid (refWrong_any A1 A2 A3 n1 n2 n3 cp1 cp2 cp3 cf w2 (HR0.out.past hW2))
  rw [HHK.out] at HWr
  clear e0 e1 e2 e3 e4 e5 e6 e7 hx2 hb2 HNR
  have e0 := (bc2).cell 0
  have e1 := (bc2).cell 1
  have e2 := (bc2).cell 2
  have e3 := (bc2).cell 3
  have e4 := (bc2).cell 4
  have e5 := (bc2).cell 5
  have e6 := (bc2).cell 6
  have e7 := (bc2).cell 7
  simp at e0 e1 e2 e3 e4 e5 e6 e7
  have HW2 := Lib.hid hW2
  clear bc2 hW2
  have hw1 : (word 8).toList = [] := by have h := word_empty 8; simpa using h
  have hw2 : (word 8) = ⟨#[]⟩ := rfl
  go_wp2_with fail
  refine HWr.out.mono ?_
  rintro e w3 ⟨rfl, hb3⟩
  have HX3 := Lib.hid (HX2.out.past hb3)
  have HB3 := Lib.hid (Below.past HB2.out hb3 HB2.out.size)
  have HW3 := Lib.hid (Below.past HW2.out hb3 HW2.out.size)
  have bc3 := HCB.out.past HW3.out
  clear e0 e1 e2 e3 e4 e5 e6 e7 hb3 HWr
  have e0 := (bc3).cell 0
  have e1 := (bc3).cell 1
  have e2 := (bc3).cell 2
  have e3 := (bc3).cell 3
  have e4 := (bc3).cell 4
  have e5 := (bc3).cell 5
  have e6 := (bc3).cell 6
  have e7 := (bc3).cell 7
  simp at e0 e1 e2 e3 e4 e5 e6 e7
  clear bc3
  obtain ⟨X, hX⟩ : ∃ X, Hid (w3.alloc (.cells #[.slice A1 n1 cp1, .slice A2 n2 cp2, .slice A3 n3 cp3, .int .i64 cf.line, .int .i64 cf.capital, .int .i64 cf.lead, .int .i64 cf.trades, .int .i64 cf.bids, .slice none 0 0, .int .i64 0] 49) = X) := ⟨_, Lib.hid rfl⟩
  obtain ⟨q, hq⟩ : ∃ q, Hid (w3.heap.size = q) := ⟨_, Lib.hid rfl⟩
  have HST0 : Hid (TwN w1 cf A1 n1 cp1 A2 n2 cp2 A3 n3 cp3 g gu B1 d1 B2 d2 B3 d3 q 0 X) := Lib.hid (by
    have hba := (Below.refl w3.heap.size w3).alloc (Nat.le_refl _) (.cells #[.slice A1 n1 cp1, .slice A2 n2 cp2, .slice A3 n3 cp3, .int .i64 cf.line, .int .i64 cf.capital, .int .i64 cf.lead, .int .i64 cf.trades, .int .i64 cf.bids, .slice none 0 0, .int .i64 0] 49)
    have hbk := Blk.new w3 49 #[.slice A1 n1 cp1, .slice A2 n2 cp2, .slice A3 n3 cp3, .int .i64 cf.line, .int .i64 cf.capital, .int .i64 cf.lead, .int .i64 cf.trades, .int .i64 cf.bids, .slice none 0 0, .int .i64 0] w3.heap.size rfl
    rw [hX.out] at hba hbk
    rw [← hq.out]
    exact ⟨gt, .slice none 0 0, .slice none 0 0, .slice none 0 0, 0, [], [], 0, [], ⟨HX3.out.past hba, ⟨⟨none, 0, rfl⟩, hbk, World.ownsRow_nil _ _ _ _⟩, HB3.out.size, HPL0.out, Nat.le_refl _, ⟨by omega, by omega⟩, Below.past HB3.out hba HB3.out.size⟩⟩)
  go_upto_region 9 with fail
  rw [hX.out, hq.out]
  clear e0 e1 e2 e3 e4 e5 e6 e7 hw1 hw2 HX2 HX3 HPL0
  go_wp2_with fail
  go_loopw [10] (fun i wr => ∃ k : Nat, k ≤ n ∧ i = .int .i64 (k : Nat) ∧ Hid (TwN w1 cf A1 n1 cp1 A2 n2 cp2 A3 n3 cp3 g gu B1 d1 B2 d2 B3 d3 q k wr)) (fun i _ => n - (intOf i).toNat)
  case atStart => exact ⟨0, by omega, rfl, HST0⟩
  case round =>
    clear HST0
    obtain ⟨k, hk, rfl, HS⟩ := hrel
    obtain ⟨gt', vt, vu, vd, ac, S, U, cy, L, hst⟩ := HS.out
    have HST := Lib.hid hst
    have HBR := Lib.hid (Below.past HBW1.out hst.below HBW1.out.size)
    clear hst HS
    by_cases hlt : k < n
    · have hlz : (k : Int) < (n : Int) := by omega
      obtain ⟨f, hfk⟩ : ∃ f, l[k]? = some f := ⟨_, List.getElem?_eq_getElem (by have := HL.out; omega)⟩
      have HFI := Lib.hid (HG.out f (List.mem_of_getElem? hfk))
      obtain ⟨b_f, off_f, rfl, hcs⟩ := actg_at HRL.out hfk hlt
      have HCS := Lib.hid hcs
      obtain ⟨c0, c1, c2, c3, c4, c5, c6, c7⟩ := HCS.out wr HBR.out
      clear hcs hfk
      go_upto_block 2 with fail
      go_cut [11, 12, 13, 14] from 90 to 146 (fun _ _ _ _ w' => Hid (TwN w1 cf A1 n1 cp1 A2 n2 cp2 A3 n3 cp3 g gu B1 d1 B2 d2 B3 d3 q (k + 1) w'))
      case first =>
        by_cases h0 : f.kind = 0
        · as_aux_lemma =>
            have z0' : (f.kind == 0) = true := by simpa using h0
            have hll := HST.out.ll
            have hbr := HBR.out.size
            have hws := HST.out.below.size
            have hdr := Below.drew (Below.refl wr.heap.size wr)
            have HSTd := Lib.hid (HST.out.past hdr)
            have HAD := Lib.hid (addR_any f.t wr.drew HSTd.out.prog HSTd.out.pl.inv HFI.out.1 HFI.out.2 (by have := HST.out.pl.ulen; omega) HTR.out (HSTd.out.below.size))
            obtain ⟨K, hKe⟩ : ∃ K, Hid (addKS cf n1 n2 n3 ac S U f.t = K) := ⟨_, Lib.hid rfl⟩
            have HKD : Hid (addRK cf n1 n2 n3 cy L f.t = K) := Lib.hid (by rw [← hKe.out, HST.out.pl.addK HWM.out])
            have HBRd := Lib.hid (HBR.out.drew)
            have HCX : Hid (∀ w', Below w.heap.size w w' → w'.cell? ⟨b_f, off_f + k * 8 + 1, none⟩ = some (.int .i64 f.t.id) ∧ w'.cell? ⟨b_f, off_f + k * 8 + 2, none⟩ = some (.int .i64 f.t.buyer) ∧ w'.cell? ⟨b_f, off_f + k * 8 + 3, none⟩ = some (.int .i64 f.t.seller) ∧ w'.cell? ⟨b_f, off_f + k * 8 + 4, none⟩ = some (.int .i64 f.t.sec) ∧ w'.cell? ⟨b_f, off_f + k * 8 + 5, none⟩ = some (.int .i64 f.t.qty) ∧ w'.cell? ⟨b_f, off_f + k * 8 + 6, none⟩ = some (.int .i64 f.t.price)) := Lib.hid (fun w' hb => by
              obtain ⟨_, e1, e2, e3, e4, e5, e6, _⟩ := HCS.out w' hb
              exact ⟨e1, e2, e3, e4, e5, e6⟩)
            have hS0 := HCX.out _ HBRd.out
            clear h0 hdr c0 c1 c2 c3 c4 c5 c6 c7
            go_upto_region 16 with fail
            refine wp_region_held_drew (S := fun w' => w'.cell? ⟨b_f, off_f + k * 8 + 1, none⟩ = some (.int .i64 f.t.id) ∧ w'.cell? ⟨b_f, off_f + k * 8 + 2, none⟩ = some (.int .i64 f.t.buyer) ∧ w'.cell? ⟨b_f, off_f + k * 8 + 3, none⟩ = some (.int .i64 f.t.seller) ∧ w'.cell? ⟨b_f, off_f + k * 8 + 4, none⟩ = some (.int .i64 f.t.sec) ∧ w'.cell? ⟨b_f, off_f + k * 8 + 5, none⟩ = some (.int .i64 f.t.qty) ∧ w'.cell? ⟨b_f, off_f + k * 8 + 6, none⟩ = some (.int .i64 f.t.price)) (by kernel_rfl) hS0 (fun hHeld => ?_)
            clear hS0
            refine wpAnyH_take (i := 0) (v := ?_) rfl (by kernel_rfl) (by kernel_rfl) (by kernel_rfl) (fun _ _ _ h => h) (Or.inl ⟨by rfl, ?_⟩) (by assumption) ?_
            rotate_left
            · (intro w' hSw; (try dsimp only at hSw); first | (go_simp; done) | (go_simp; with_reducible rfl))
            try simp only [Act.put, List.getElem_toArray, List.getElem_cons_zero, List.getElem_cons_succ, List.setIfInBounds_toArray, List.set_cons_zero, List.set_cons_succ]
            refine wpAnyH_take (i := 1) (v := ?_) rfl (by kernel_rfl) (by kernel_rfl) (by kernel_rfl) (fun _ _ _ h => h) (Or.inl ⟨by rfl, ?_⟩) (by assumption) ?_
            rotate_left
            · (intro w' hSw; (try dsimp only at hSw); first | (go_simp; done) | (go_simp; with_reducible rfl))
            try simp only [Act.put, List.getElem_toArray, List.getElem_cons_zero, List.getElem_cons_succ, List.setIfInBounds_toArray, List.set_cons_zero, List.set_cons_succ]
            refine wpAnyH_take (i := 2) (v := ?_) rfl (by kernel_rfl) (by kernel_rfl) (by kernel_rfl) (fun _ _ _ h => h) (Or.inl ⟨by rfl, ?_⟩) (by assumption) ?_
            rotate_left
            · (intro w' hSw; (try dsimp only at hSw); first | (go_simp; done) | (go_simp; with_reducible rfl))
            try simp only [Act.put, List.getElem_toArray, List.getElem_cons_zero, List.getElem_cons_succ, List.setIfInBounds_toArray, List.set_cons_zero, List.set_cons_succ]
            refine wpAnyH_take (i := 3) (v := ?_) rfl (by kernel_rfl) (by kernel_rfl) (by kernel_rfl) (fun _ _ _ h => h) (Or.inl ⟨by rfl, ?_⟩) (by assumption) ?_
            rotate_left
            · (intro w' hSw; (try dsimp only at hSw); first | (go_simp; done) | (go_simp; with_reducible rfl))
            try simp only [Act.put, List.getElem_toArray, List.getElem_cons_zero, List.getElem_cons_succ, List.setIfInBounds_toArray, List.set_cons_zero, List.set_cons_succ]
            refine wpAnyH_take (i := 4) (v := ?_) rfl (by kernel_rfl) (by kernel_rfl) (by kernel_rfl) (fun _ _ _ h => h) (Or.inl ⟨by rfl, ?_⟩) (by assumption) ?_
            rotate_left
            · (intro w' hSw; (try dsimp only at hSw); first | (go_simp; done) | (go_simp; with_reducible rfl))
            try simp only [Act.put, List.getElem_toArray, List.getElem_cons_zero, List.getElem_cons_succ, List.setIfInBounds_toArray, List.set_cons_zero, List.set_cons_succ]
            refine wpAnyH_take (i := 5) (v := ?_) rfl (by kernel_rfl) (by kernel_rfl) (by kernel_rfl) (fun _ _ _ h => h) (Or.inl ⟨by rfl, ?_⟩) (by assumption) ?_
            rotate_left
            · (intro w' hSw; (try dsimp only at hSw); first | (go_simp; done) | (go_simp; with_reducible rfl))
            try simp only [Act.put, List.getElem_toArray, List.getElem_cons_zero, List.getElem_cons_succ, List.setIfInBounds_toArray, List.set_cons_zero, List.set_cons_succ]
            refine wpAnyH_take (i := 7) (v := ?_) rfl (by kernel_rfl) (by kernel_rfl) (by kernel_rfl) (fun _ _ _ h => h) (Or.inl ⟨by rfl, ?_⟩) (by assumption) ?_
            rotate_left
            · (intro w' hSw; (try dsimp only at hSw); first | (go_simp; done) | (go_simp; with_reducible rfl))
            try simp only [Act.put, List.getElem_toArray, List.getElem_cons_zero, List.getElem_cons_succ, List.setIfInBounds_toArray, List.set_cons_zero, List.set_cons_succ]
            refine wpAnyH_take (i := 8) (v := ?_) rfl (by kernel_rfl) (by kernel_rfl) (by kernel_rfl) (fun _ _ _ h => h) (Or.inl ⟨by rfl, ?_⟩) (by assumption) ?_
            rotate_left
            · (intro w' hSw; (try dsimp only at hSw); first | (go_simp; done) | (go_simp; with_reducible rfl))
            try simp only [Act.put, List.getElem_toArray, List.getElem_cons_zero, List.getElem_cons_succ, List.setIfInBounds_toArray, List.set_cons_zero, List.set_cons_succ]
            refine wpAnyH_take (i := 9) (v := ?_) rfl (by kernel_rfl) (by kernel_rfl) (by kernel_rfl) (fun _ _ _ h => h) (Or.inl ⟨by rfl, ?_⟩) (by assumption) ?_
            rotate_left
            · (intro w' hSw; (try dsimp only at hSw); first | (go_simp; done) | (go_simp; with_reducible rfl))
            try simp only [Act.put, List.getElem_toArray, List.getElem_cons_zero, List.getElem_cons_succ, List.setIfInBounds_toArray, List.set_cons_zero, List.set_cons_succ]
            refine wpAnyH_take (i := 10) (v := ?_) rfl (by kernel_rfl) (by kernel_rfl) (by kernel_rfl) (fun _ _ _ h => h) (Or.inl ⟨by rfl, ?_⟩) (by assumption) ?_
            rotate_left
            · (intro w' hSw; (try dsimp only at hSw); first | (go_simp; done) | (go_simp; with_reducible rfl))
            try simp only [Act.put, List.getElem_toArray, List.getElem_cons_zero, List.getElem_cons_succ, List.setIfInBounds_toArray, List.set_cons_zero, List.set_cons_succ]
            refine wpAnyH_take (i := 11) (v := ?_) rfl (by kernel_rfl) (by kernel_rfl) (by kernel_rfl) (fun _ _ _ h => h) (Or.inl ⟨by rfl, ?_⟩) (by assumption) ?_
            rotate_left
            · (intro w' hSw; (try dsimp only at hSw); first | (go_simp; done) | (go_simp; with_reducible rfl))
            try simp only [Act.put, List.getElem_toArray, List.getElem_cons_zero, List.getElem_cons_succ, List.setIfInBounds_toArray, List.set_cons_zero, List.set_cons_succ]
            refine wpAnyH_take (i := 12) (v := ?_) rfl (by kernel_rfl) (by kernel_rfl) (by kernel_rfl) (fun _ _ _ h => h) (Or.inl ⟨by rfl, ?_⟩) (by assumption) ?_
            rotate_left
            · (intro w' hSw; (try dsimp only at hSw); first | (go_simp; done) | (go_simp; with_reducible rfl))
            try simp only [Act.put, List.getElem_toArray, List.getElem_cons_zero, List.getElem_cons_succ, List.setIfInBounds_toArray, List.set_cons_zero, List.set_cons_succ]
            refine wpAnyH_ready (rs := [6]) (by kernel_rfl) (by simp) ?_
            refine AllReadyH.cons rfl (fun K hK => ?_) AllReadyH.nil
            go_simp
            go_at_call 8
            refine HAD.out.mono ?_
            rintro e w5 hp
            obtain ⟨vt', vu', hm⟩ := HSTd.out.addMid hp
            have he := hp.1
            rw [hKe.out] at he
            subst he
            have HM := Lib.hid hm
            have HB5 := Lib.hid (Below.past HBW1.out hm.below HBW1.out.size)
            have hS5 := HCX.out _ HB5.out
            have HRA := Lib.hid (addG_any q w1.heap.size A1 n1 cp1 A2 n2 cp2 A3 n3 cp3 cf cy vd L f.t w5 hm.doc HST.out.pl.rows (by omega) HFI.out.1 HFI.out.2 hm.below.size)
            clear hp hm HAD hHeld
            refine hK.out _ _ (hS5) (fun hHeld => ?_)
            try simp only [Act.put, List.getElem_toArray, List.getElem_cons_zero, List.getElem_cons_succ, List.setIfInBounds_toArray, List.set_cons_zero, List.set_cons_succ]
            refine wpAnyH_ready (rs := [13]) (by kernel_rfl) (by simp) ?_
            refine AllReadyH.cons rfl (fun K hK => ?_) AllReadyH.nil
            go_simp
            go_at_call 14
            refine HRA.out.mono ?_
            rintro e w6 hp
            have HFN := Lib.hid (MidG.addFin HSTd.out HM.out hp HWM.out HFI.out.1 HFI.out.2)
            have he := hp.1
            rw [HKD.out] at he
            subst he
            have HB6 := Lib.hid (by
              obtain ⟨_, _, _, _, _, _, _, _, _, h⟩ := HFN.out
              exact Below.past HBW1.out h.below HBW1.out.size)
            have hS6 := HCX.out _ HB6.out
            clear hp HRA hHeld hS5 HM HB5
            refine hK.out _ _ (hS6) (fun hHeld => ?_)
            try simp only [Act.put, List.getElem_toArray, List.getElem_cons_zero, List.getElem_cons_succ, List.setIfInBounds_toArray, List.set_cons_zero, List.set_cons_succ]
            refine wpAnyH_take (i := 14) (v := ?_) rfl (by kernel_rfl) (by kernel_rfl) (by kernel_rfl) (fun _ _ _ h => h) (Or.inl ⟨by rfl, ?_⟩) (by assumption) ?_
            rotate_left
            · (intro w' hSw; (try dsimp only at hSw); first | (go_simp; done) | (go_simp; with_reducible rfl))
            try simp only [Act.put, List.getElem_toArray, List.getElem_cons_zero, List.getElem_cons_succ, List.setIfInBounds_toArray, List.set_cons_zero, List.set_cons_succ]
            refine wpAnyH_done (by kernel_rfl) ?_ _
            clear hHeld hS6
            go_wp2_with fail
            go_meet
            exact HFN
        · have z0' : (f.kind == 0) = false := by simpa using h0
          by_cases h1 : f.kind = 1
          · as_aux_lemma =>
              have z1' : (f.kind == 1) = true := by simpa using h1
              have hll := HST.out.ll
              have HCN := Lib.hid (cancelR_any f.id wr HST.out.prog)
              obtain ⟨T, hT⟩ : ∃ T, Hid (canT S f.id = T) := ⟨_, Lib.hid rfl⟩
              obtain ⟨K, hKe⟩ : ∃ K, Hid (canK S f.id = K) := ⟨_, Lib.hid rfl⟩
              clear h0 h1
              go_wp2_with fail
              refine HCN.out.mono ?_
              rintro e w5 hp
              obtain ⟨vt', hm⟩ := HST.out.canMid hp
              have he := hp.1
              rw [hT.out, hKe.out] at he
              subst he
              have hba := (Below.refl w5.heap.size w5).alloc (Nat.le_refl _) (.cells #[.int .i64 T.id, .int .i64 T.buyer, .int .i64 T.seller, .int .i64 T.sec, .int .i64 T.qty, .int .i64 T.price] 38)
              have hbk := Blk.new w5 38 #[.int .i64 T.id, .int .i64 T.buyer, .int .i64 T.seller, .int .i64 T.sec, .int .i64 T.qty, .int .i64 T.price] w5.heap.size rfl
              obtain ⟨W6, hW6⟩ : ∃ W6, Hid (w5.alloc (.cells #[.int .i64 T.id, .int .i64 T.buyer, .int .i64 T.seller, .int .i64 T.sec, .int .i64 T.qty, .int .i64 T.price] 38) = W6) := ⟨_, Lib.hid rfl⟩
              obtain ⟨xb, hxb⟩ : ∃ xb, Hid (w5.heap.size = xb) := ⟨_, Lib.hid rfl⟩
              rw [hW6.out] at hba hbk
              rw [hxb.out] at hbk
              have HM6 := Lib.hid (hm.past hba)
              have HBK := Lib.hid hbk
              have HB6 := Lib.hid (Below.past HBW1.out HM6.out.below HBW1.out.size)
              have HRC := Lib.hid (refCancel_any q w1.heap.size A1 n1 cp1 A2 n2 cp2 A3 n3 cp3 cf cy vd L f.id W6 HM6.out.doc (by omega))
              clear hp hm hba hbk HCN c0 c1 c2 c3 c4 c5 c6 c7
              obtain ⟨c0, c1, c2, c3, c4, c5, c6, c7⟩ := HCS.out W6 HB6.out
              go_upto_region 20 with fail
              rw [hxb.out, hW6.out]
              go_wp2_with fail
              refine HRC.out.mono ?_
              rintro e w7 hp
              obtain ⟨he, hnn, hz⟩ := MidG.canFin HST.out.pl HM6.out hp
              rw [hT.out, hKe.out] at he
              subst he
              have hba := (Below.refl w7.heap.size w7).alloc (Nat.le_refl _) (.cells #[.int .i64 T.id, .int .i64 T.buyer, .int .i64 T.seller, .int .i64 T.sec, .int .i64 T.qty, .int .i64 T.price] 38)
              have hbk := Blk.new w7 38 #[.int .i64 T.id, .int .i64 T.buyer, .int .i64 T.seller, .int .i64 T.sec, .int .i64 T.qty, .int .i64 T.price] w7.heap.size rfl
              obtain ⟨W8, hW8⟩ : ∃ W8, Hid (w7.alloc (.cells #[.int .i64 T.id, .int .i64 T.buyer, .int .i64 T.seller, .int .i64 T.sec, .int .i64 T.qty, .int .i64 T.price] 38) = W8) := ⟨_, Lib.hid rfl⟩
              obtain ⟨yb, hyb⟩ : ∃ yb, Hid (w7.heap.size = yb) := ⟨_, Lib.hid rfl⟩
              rw [hW8.out] at hba hbk
              rw [hyb.out] at hbk
              have HN8 : Hid (TwN w1 cf A1 n1 cp1 A2 n2 cp2 A3 n3 cp3 g gu B1 d1 B2 d2 B3 d3 q (k + 1) W8) := Lib.hid (by
                obtain ⟨a1, a2, a3, a4, a5, a6, a7, a8, a9, h⟩ := hnn
                exact ⟨a1, a2, a3, a4, a5, a6, a7, a8, a9, h.past hba⟩)
              have HBX := Lib.hid ((hz HBK.out).past hba)
              have HBY := Lib.hid hbk
              clear hp hnn hz hba hbk HRC HM6 HBK HB6 c0 c1 c2 c3 c4 c5 c6 c7
              go_upto_region 21 with fail
              rw [hyb.out, hW8.out]
              have x0 := (HBX.out).cell 0
              have x1 := (HBX.out).cell 1
              have x2 := (HBX.out).cell 2
              have x3 := (HBX.out).cell 3
              have x4 := (HBX.out).cell 4
              have x5 := (HBX.out).cell 5
              simp at x0 x1 x2 x3 x4 x5
              have y0 := (HBY.out).cell 0
              have y1 := (HBY.out).cell 1
              have y2 := (HBY.out).cell 2
              have y3 := (HBY.out).cell 3
              have y4 := (HBY.out).cell 4
              have y5 := (HBY.out).cell 5
              simp at y0 y1 y2 y3 y4 y5
              have hqq := fun w => trdR_neq T w
              go_wp2_with fail
              go_meet
              exact HN8
          · as_aux_lemma =>
              have z1' : (f.kind == 1) = false := by simpa using h1
              have HNX := Lib.hid (nextR_any wr HST.out.prog HST.out.below.size)
              have hcc := HST.out.cc
              clear h0 h1 c0 c1 c2 c3 c4 c5 c6 c7
              go_wp2_with fail
              refine HNX.out.mono ?_
              rintro e w5 hp
              obtain ⟨gt2, hm⟩ := HST.out.nextMid hp
              obtain rfl := hp.1
              have hd := hm.doc.blk
              have p9 := hd.cell 9
              simp at p9
              have f9 := hd.frozen 9
              have hw9 : IntKind.i64.wrap (cy + 1) = cy + 1 := IntWalk.i64_in _ (by omega)
              have HFN := Lib.hid (MidG.nextFin HST.out.pl hm)
              clear hp hm hd HNX hcc
              go_wp2_with fail
              go_meet
              exact HFN
      case rest =>
        as_aux_lemma =>
            obtain ⟨gt2, vt2, vu2, vd2, ac2, S2, U2, cy2, L2, hst⟩ := hcut.out
            have HT0 := Lib.hid (hst.past (Below.drew (Below.refl wc.heap.size wc)))
            have HZ0 := Lib.hid ((((HZB.out.past HD1.out).past hst.below).past (Below.drew (Below.refl wc.heap.size wc))))
            clear hst HST HBR c0 c1 c2 c3 c4 c5 c6 c7
            have HRI := Lib.hid HT0.out.pl.inv
            have HCK : Hid (∀ r ∈ S2, checkT n1 n2 r.v = 0) := Lib.hid fun r hr => (HRI.out.ok r hr).1
            have hsb := sum_bds z0 HCK.out
            have htop := HRI.out.top
            have hln : S2.length ≤ 900 := by have := HRI.out.len; have := HRI.out.ac0; have := HTR.out; omega
            have hll := HT0.out.ll
            have HVI : Hid (inI (sumV S2)) := Lib.hid (by unfold inI; omega)
            have HUI : Hid (inI (sumU z0 S2)) := Lib.hid (by unfold inI; omega)
            have HPL := Lib.hid HT0.out.pl
            obtain ⟨G, hG⟩ : ∃ G, Hid (sumV S2 = G) := ⟨_, Lib.hid rfl⟩
            obtain ⟨V, hV⟩ : ∃ V, Hid (sumU z0 S2 = V) := ⟨_, Lib.hid rfl⟩
            obtain ⟨D, hD⟩ : ∃ D, Hid (TTbI.isT U2 z1 = D) := ⟨_, Lib.hid rfl⟩
            have n1' : (G != G) = false := by simp
            have n2' : (ac2 != ac2) = false := by simp
            have n3' : (V != V) = false := by simp
            have n4' : (D != D) = false := by simp
            clear hsb htop
            go_upto_region 23 with fail
            have hS0 : wc.drew.cell? ⟨zb, 0, none⟩ = some (.int .i64 z0) ∧ wc.drew.cell? ⟨zb, 1, none⟩ = some (.int .i64 z1) := ⟨by simpa using HZ0.out.cell 0, by simpa using HZ0.out.cell 1⟩
            refine wp_region_held_drew (S := fun w' => w'.cell? ⟨zb, 0, none⟩ = some (.int .i64 z0) ∧ w'.cell? ⟨zb, 1, none⟩ = some (.int .i64 z1)) (by kernel_rfl) hS0 (fun hHeld => ?_)
            clear hS0
            refine wpAnyH_take (i := 0) (v := ?_) rfl (by kernel_rfl) (by kernel_rfl) (by kernel_rfl) (fun _ _ _ h => h) (Or.inl ⟨by rfl, ?_⟩) (by assumption) ?_
            rotate_left
            · (intro w' hSw; (try dsimp only at hSw); first | (go_simp; done) | (go_simp; with_reducible rfl))
            try simp only [Act.put, List.getElem_toArray, List.getElem_cons_zero, List.getElem_cons_succ, List.setIfInBounds_toArray, List.set_cons_zero, List.set_cons_succ]
            refine wpAnyH_take (i := 2) (v := ?_) rfl (by kernel_rfl) (by kernel_rfl) (by kernel_rfl) (fun _ _ _ h => h) (Or.inl ⟨by rfl, ?_⟩) (by assumption) ?_
            rotate_left
            · (intro w' hSw; (try dsimp only at hSw); first | (go_simp; done) | (go_simp; with_reducible rfl))
            try simp only [Act.put, List.getElem_toArray, List.getElem_cons_zero, List.getElem_cons_succ, List.setIfInBounds_toArray, List.set_cons_zero, List.set_cons_succ]
            refine wpAnyH_ready (rs := [1]) (by kernel_rfl) (by simp) ?_
            refine AllReadyH.cons rfl (fun K hK => ?_) AllReadyH.nil
            go_simp
            go_at_call 11
            have HK1 := Lib.hid (grossG_any _ HT0.out.prog HRI.out.trd hln HVI.out)
            rw [hG.out] at HK1
            refine HK1.out.mono ?_
            rintro e wa ⟨rfl, hbx⟩
            have HT1 := Lib.hid (HT0.out.past hbx)
            have HZ1 := Lib.hid (HZ0.out.past hbx)
            clear hbx hHeld HK1
            refine hK.out _ _ (⟨by simpa using HZ1.out.cell 0, by simpa using HZ1.out.cell 1⟩) (fun hHeld => ?_)
            try simp only [Act.put, List.getElem_toArray, List.getElem_cons_zero, List.getElem_cons_succ, List.setIfInBounds_toArray, List.set_cons_zero, List.set_cons_succ]
            refine wpAnyH_ready (rs := [3]) (by kernel_rfl) (by simp) ?_
            refine AllReadyH.cons rfl (fun K hK => ?_) AllReadyH.nil
            go_simp
            go_at_call 18
            have HK2 := Lib.hid (grossR_any _ _ _ _ _ _ _ _ _ _ _ _ _ _ _ wa HT1.out.doc HPL.out.rows (by omega))
            rw [← HPL.out.gross, hG.out] at HK2
            refine HK2.out.mono ?_
            rintro e wb ⟨rfl, hbx⟩
            have HT2 := Lib.hid (HT1.out.past hbx)
            have HZ2 := Lib.hid (HZ1.out.past hbx)
            clear hbx hHeld HK2
            refine hK.out _ _ (⟨by simpa using HZ2.out.cell 0, by simpa using HZ2.out.cell 1⟩) (fun hHeld => ?_)
            try simp only [Act.put, List.getElem_toArray, List.getElem_cons_zero, List.getElem_cons_succ, List.setIfInBounds_toArray, List.set_cons_zero, List.set_cons_succ]
            refine wpAnyH_take (i := 4) (v := ?_) rfl (by kernel_rfl) (by kernel_rfl) (by kernel_rfl) (fun _ _ _ h => h) (Or.inl ⟨by rfl, ?_⟩) (by assumption) ?_
            rotate_left
            · (intro w' hSw; (try dsimp only at hSw); first | (go_simp; done) | (go_simp; with_reducible rfl))
            try simp only [Act.put, List.getElem_toArray, List.getElem_cons_zero, List.getElem_cons_succ, List.setIfInBounds_toArray, List.set_cons_zero, List.set_cons_succ]
            refine wpAnyH_take (i := 5) (v := ?_) rfl (by kernel_rfl) (by kernel_rfl) (by kernel_rfl) (fun _ _ _ h => h) (Or.inl ⟨by rfl, ?_⟩) (by assumption) ?_
            rotate_left
            · (intro w' hSw; (try dsimp only at hSw); first | (go_simp; done) | (go_simp; with_reducible rfl))
            try simp only [Act.put, List.getElem_toArray, List.getElem_cons_zero, List.getElem_cons_succ, List.setIfInBounds_toArray, List.set_cons_zero, List.set_cons_succ]
            refine wpAnyH_take (i := 6) (v := ?_) rfl (by kernel_rfl) (by kernel_rfl) (by kernel_rfl) (fun _ _ _ h => h) (Or.inl ⟨by rfl, ?_⟩) (by assumption) ?_
            rotate_left
            · (intro w' hSw; (try dsimp only at hSw); first | (go_simp; done) | (go_simp; with_reducible rfl))
            try simp only [Act.put, List.getElem_toArray, List.getElem_cons_zero, List.getElem_cons_succ, List.setIfInBounds_toArray, List.set_cons_zero, List.set_cons_succ]
            refine wpAnyH_take (i := 8) (v := ?_) rfl (by kernel_rfl) (by kernel_rfl) (by kernel_rfl) (fun _ _ _ h => h) (Or.inl ⟨by rfl, ?_⟩) (by assumption) ?_
            rotate_left
            · (intro w' hSw; (try dsimp only at hSw); first | (go_simp; done) | (go_simp; with_reducible rfl))
            try simp only [Act.put, List.getElem_toArray, List.getElem_cons_zero, List.getElem_cons_succ, List.setIfInBounds_toArray, List.set_cons_zero, List.set_cons_succ]
            refine wpAnyH_ready (rs := [7]) (by kernel_rfl) (by simp) ?_
            refine AllReadyH.cons rfl (fun K hK => ?_) AllReadyH.nil
            go_simp
            go_at_call 19
            have HK3 := Lib.hid (accG_any wb HT2.out.prog)
            refine HK3.out.mono ?_
            rintro e wb' ⟨rfl, rfl⟩
            clear hHeld HK3
            refine hK.out _ _ (⟨by simpa using HZ2.out.cell 0, by simpa using HZ2.out.cell 1⟩) (fun hHeld => ?_)
            try simp only [Act.put, List.getElem_toArray, List.getElem_cons_zero, List.getElem_cons_succ, List.setIfInBounds_toArray, List.set_cons_zero, List.set_cons_succ]
            refine wpAnyH_ready (rs := [9]) (by kernel_rfl) (by simp) ?_
            refine AllReadyH.cons rfl (fun K hK => ?_) AllReadyH.nil
            go_simp
            go_at_call 20
            have HK4 := Lib.hid (accR_any _ _ _ _ _ _ _ _ _ _ _ _ _ _ _ wb HT2.out.doc (by omega))
            rw [← HPL.out.aceq] at HK4
            refine HK4.out.mono ?_
            rintro e wd ⟨rfl, hbx⟩
            have HT3 := Lib.hid (HT2.out.past hbx)
            have HZ3 := Lib.hid (HZ2.out.past hbx)
            clear hbx hHeld HK4
            refine hK.out _ _ (⟨by simpa using HZ3.out.cell 0, by simpa using HZ3.out.cell 1⟩) (fun hHeld => ?_)
            try simp only [Act.put, List.getElem_toArray, List.getElem_cons_zero, List.getElem_cons_succ, List.setIfInBounds_toArray, List.set_cons_zero, List.set_cons_succ]
            refine wpAnyH_take (i := 10) (v := ?_) rfl (by kernel_rfl) (by kernel_rfl) (by kernel_rfl) (fun _ _ _ h => h) (Or.inl ⟨by rfl, ?_⟩) (by assumption) ?_
            rotate_left
            · (intro w' hSw; (try dsimp only at hSw); first | (go_simp; done) | (go_simp; with_reducible rfl))
            try simp only [Act.put, List.getElem_toArray, List.getElem_cons_zero, List.getElem_cons_succ, List.setIfInBounds_toArray, List.set_cons_zero, List.set_cons_succ]
            refine wpAnyH_take (i := 11) (v := ?_) rfl (by kernel_rfl) (by kernel_rfl) (by kernel_rfl) (fun _ _ _ h => h) (Or.inl ⟨by rfl, ?_⟩) (by assumption) ?_
            rotate_left
            · (intro w' hSw; (try dsimp only at hSw); first | (go_simp; done) | (go_simp; with_reducible rfl))
            try simp only [Act.put, List.getElem_toArray, List.getElem_cons_zero, List.getElem_cons_succ, List.setIfInBounds_toArray, List.set_cons_zero, List.set_cons_succ]
            refine wpAnyH_take (i := 12) (v := ?_) rfl (by kernel_rfl) (by kernel_rfl) (by kernel_rfl) (fun _ _ _ h => h) (Or.inl ⟨by rfl, ?_⟩) (by assumption) ?_
            rotate_left
            · (intro w' hSw; (try dsimp only at hSw); first | (go_simp; done) | (go_simp; with_reducible rfl))
            try simp only [Act.put, List.getElem_toArray, List.getElem_cons_zero, List.getElem_cons_succ, List.setIfInBounds_toArray, List.set_cons_zero, List.set_cons_succ]
            refine wpAnyH_take (i := 13) (v := ?_) rfl (by kernel_rfl) (by kernel_rfl) (by kernel_rfl) (fun _ _ _ h => h) (Or.inl ⟨by rfl, ?_⟩) (by assumption) ?_
            rotate_left
            · (intro w' hSw; (try dsimp only at hSw); first | (go_simp; done) | (go_simp; with_reducible rfl))
            try simp only [Act.put, List.getElem_toArray, List.getElem_cons_zero, List.getElem_cons_succ, List.setIfInBounds_toArray, List.set_cons_zero, List.set_cons_succ]
            refine wpAnyH_take (i := 14) (v := ?_) rfl (by kernel_rfl) (by kernel_rfl) (by kernel_rfl) (fun _ _ _ h => h) (Or.inl ⟨by rfl, ?_⟩) (by assumption) ?_
            rotate_left
            · (intro w' hSw; (try dsimp only at hSw); first | (go_simp; done) | (go_simp; with_reducible rfl))
            try simp only [Act.put, List.getElem_toArray, List.getElem_cons_zero, List.getElem_cons_succ, List.setIfInBounds_toArray, List.set_cons_zero, List.set_cons_succ]
            refine wpAnyH_take (i := 15) (v := ?_) rfl (by kernel_rfl) (by kernel_rfl) (by kernel_rfl) (fun _ _ _ h => h) (Or.inl ⟨by rfl, ?_⟩) (by assumption) ?_
            rotate_left
            · (intro w' hSw; (try dsimp only at hSw); first | (go_simp; done) | (go_simp; with_reducible rfl))
            try simp only [Act.put, List.getElem_toArray, List.getElem_cons_zero, List.getElem_cons_succ, List.setIfInBounds_toArray, List.set_cons_zero, List.set_cons_succ]
            refine wpAnyH_take (i := 17) (v := ?_) rfl (by kernel_rfl) (by kernel_rfl) (by kernel_rfl) (fun _ _ _ h => h) (Or.inl ⟨by rfl, ?_⟩) (by assumption) ?_
            rotate_left
            · (intro w' hSw; (try dsimp only at hSw); first | (go_simp; done) | (go_simp; with_reducible rfl))
            try simp only [Act.put, List.getElem_toArray, List.getElem_cons_zero, List.getElem_cons_succ, List.setIfInBounds_toArray, List.set_cons_zero, List.set_cons_succ]
            refine wpAnyH_take (i := 18) (v := ?_) rfl (by kernel_rfl) (by kernel_rfl) (by kernel_rfl) (fun _ _ _ h => h) (Or.inl ⟨by rfl, ?_⟩) (by assumption) ?_
            rotate_left
            · (intro w' hSw; (try dsimp only at hSw); first | (go_simp; done) | (go_simp; with_reducible rfl))
            try simp only [Act.put, List.getElem_toArray, List.getElem_cons_zero, List.getElem_cons_succ, List.setIfInBounds_toArray, List.set_cons_zero, List.set_cons_succ]
            refine wpAnyH_take (i := 19) (v := ?_) rfl (by kernel_rfl) (by kernel_rfl) (by kernel_rfl) (fun _ _ _ h => h) (Or.inl ⟨by rfl, ?_⟩) (by assumption) ?_
            rotate_left
            · (intro w' hSw; (try dsimp only at hSw); first | (go_simp; done) | (go_simp; with_reducible rfl))
            try simp only [Act.put, List.getElem_toArray, List.getElem_cons_zero, List.getElem_cons_succ, List.setIfInBounds_toArray, List.set_cons_zero, List.set_cons_succ]
            refine wpAnyH_ready (rs := [16]) (by kernel_rfl) (by simp) ?_
            refine AllReadyH.cons rfl (fun K hK => ?_) AllReadyH.nil
            go_simp
            go_at_call 21
            have HK5 := Lib.hid (unitsG_any z0 wd HT3.out.prog HRI.out.trd hln HUI.out)
            rw [hV.out] at HK5
            refine HK5.out.mono ?_
            rintro e we ⟨rfl, hbx⟩
            have HT4 := Lib.hid (HT3.out.past hbx)
            have HZ4 := Lib.hid (HZ3.out.past hbx)
            clear hbx hHeld HK5
            refine hK.out _ _ (⟨by simpa using HZ4.out.cell 0, by simpa using HZ4.out.cell 1⟩) (fun hHeld => ?_)
            try simp only [Act.put, List.getElem_toArray, List.getElem_cons_zero, List.getElem_cons_succ, List.setIfInBounds_toArray, List.set_cons_zero, List.set_cons_succ]
            refine wpAnyH_ready (rs := [20]) (by kernel_rfl) (by simp) ?_
            refine AllReadyH.cons rfl (fun K hK => ?_) AllReadyH.nil
            go_simp
            go_at_call 22
            have HK6 := Lib.hid (unitsR_any _ _ _ _ _ _ _ _ _ _ _ _ _ _ _ z0 we HT4.out.doc HPL.out.rows (by omega))
            rw [← HPL.out.units, hV.out] at HK6
            refine HK6.out.mono ?_
            rintro e wf ⟨rfl, hbx⟩
            have HT5 := Lib.hid (HT4.out.past hbx)
            have HZ5 := Lib.hid (HZ4.out.past hbx)
            clear hbx hHeld HK6
            refine hK.out _ _ (⟨by simpa using HZ5.out.cell 0, by simpa using HZ5.out.cell 1⟩) (fun hHeld => ?_)
            try simp only [Act.put, List.getElem_toArray, List.getElem_cons_zero, List.getElem_cons_succ, List.setIfInBounds_toArray, List.set_cons_zero, List.set_cons_succ]
            refine wpAnyH_take (i := 21) (v := ?_) rfl (by kernel_rfl) (by kernel_rfl) (by kernel_rfl) (fun _ _ _ h => h) (Or.inl ⟨by rfl, ?_⟩) (by assumption) ?_
            rotate_left
            · (intro w' hSw; (try dsimp only at hSw); first | (go_simp; done) | (go_simp; with_reducible rfl))
            try simp only [Act.put, List.getElem_toArray, List.getElem_cons_zero, List.getElem_cons_succ, List.setIfInBounds_toArray, List.set_cons_zero, List.set_cons_succ]
            refine wpAnyH_take (i := 22) (v := ?_) rfl (by kernel_rfl) (by kernel_rfl) (by kernel_rfl) (fun _ _ _ h => h) (Or.inl ⟨by rfl, ?_⟩) (by assumption) ?_
            rotate_left
            · (intro w' hSw; (try dsimp only at hSw); first | (go_simp; done) | (go_simp; with_reducible rfl))
            try simp only [Act.put, List.getElem_toArray, List.getElem_cons_zero, List.getElem_cons_succ, List.setIfInBounds_toArray, List.set_cons_zero, List.set_cons_succ]
            refine wpAnyH_take (i := 23) (v := ?_) rfl (by kernel_rfl) (by kernel_rfl) (by kernel_rfl) (fun _ _ _ h => h) (Or.inl ⟨by rfl, ?_⟩) (by assumption) ?_
            rotate_left
            · (intro w' hSw; (try dsimp only at hSw); first | (go_simp; done) | (go_simp; with_reducible rfl))
            try simp only [Act.put, List.getElem_toArray, List.getElem_cons_zero, List.getElem_cons_succ, List.setIfInBounds_toArray, List.set_cons_zero, List.set_cons_succ]
            refine wpAnyH_take (i := 24) (v := ?_) rfl (by kernel_rfl) (by kernel_rfl) (by kernel_rfl) (fun _ _ _ h => h) (Or.inl ⟨by rfl, ?_⟩) (by assumption) ?_
            rotate_left
            · (intro w' hSw; (try dsimp only at hSw); first | (go_simp; done) | (go_simp; with_reducible rfl))
            try simp only [Act.put, List.getElem_toArray, List.getElem_cons_zero, List.getElem_cons_succ, List.setIfInBounds_toArray, List.set_cons_zero, List.set_cons_succ]
            refine wpAnyH_take (i := 25) (v := ?_) rfl (by kernel_rfl) (by kernel_rfl) (by kernel_rfl) (fun _ _ _ h => h) (Or.inl ⟨by rfl, ?_⟩) (by assumption) ?_
            rotate_left
            · (intro w' hSw; (try dsimp only at hSw); first | (go_simp; done) | (go_simp; with_reducible rfl))
            try simp only [Act.put, List.getElem_toArray, List.getElem_cons_zero, List.getElem_cons_succ, List.setIfInBounds_toArray, List.set_cons_zero, List.set_cons_succ]
            refine wpAnyH_take (i := 26) (v := ?_) rfl (by kernel_rfl) (by kernel_rfl) (by kernel_rfl) (fun _ _ _ h => h) (Or.inl ⟨by rfl, ?_⟩) (by assumption) ?_
            rotate_left
            · (intro w' hSw; (try dsimp only at hSw); first | (go_simp; done) | (go_simp; with_reducible rfl))
            try simp only [Act.put, List.getElem_toArray, List.getElem_cons_zero, List.getElem_cons_succ, List.setIfInBounds_toArray, List.set_cons_zero, List.set_cons_succ]
            refine wpAnyH_take (i := 28) (v := ?_) rfl (by kernel_rfl) (by kernel_rfl) (by kernel_rfl) (fun _ _ _ h => h) (Or.inl ⟨by rfl, ?_⟩) (by assumption) ?_
            rotate_left
            · (intro w' hSw; (try dsimp only at hSw); first | (go_simp; done) | (go_simp; with_reducible rfl))
            try simp only [Act.put, List.getElem_toArray, List.getElem_cons_zero, List.getElem_cons_succ, List.setIfInBounds_toArray, List.set_cons_zero, List.set_cons_succ]
            refine wpAnyH_take (i := 29) (v := ?_) rfl (by kernel_rfl) (by kernel_rfl) (by kernel_rfl) (fun _ _ _ h => h) (Or.inl ⟨by rfl, ?_⟩) (by assumption) ?_
            rotate_left
            · (intro w' hSw; (try dsimp only at hSw); first | (go_simp; done) | (go_simp; with_reducible rfl))
            try simp only [Act.put, List.getElem_toArray, List.getElem_cons_zero, List.getElem_cons_succ, List.setIfInBounds_toArray, List.set_cons_zero, List.set_cons_succ]
            refine wpAnyH_take (i := 30) (v := ?_) rfl (by kernel_rfl) (by kernel_rfl) (by kernel_rfl) (fun _ _ _ h => h) (Or.inl ⟨by rfl, ?_⟩) (by assumption) ?_
            rotate_left
            · (intro w' hSw; (try dsimp only at hSw); first | (go_simp; done) | (go_simp; with_reducible rfl))
            try simp only [Act.put, List.getElem_toArray, List.getElem_cons_zero, List.getElem_cons_succ, List.setIfInBounds_toArray, List.set_cons_zero, List.set_cons_succ]
            refine wpAnyH_ready (rs := [27]) (by kernel_rfl) (by simp) ?_
            refine AllReadyH.cons rfl (fun K hK => ?_) AllReadyH.nil
            go_simp
            go_at_call 13
            have HK7 := Lib.hid (usedG_any z1 wf HT5.out.prog)
            rw [hD.out] at HK7
            refine HK7.out.mono ?_
            rintro e wg ⟨rfl, hbx⟩
            have HT6 := Lib.hid (HT5.out.past hbx)
            have HZ6 := Lib.hid (HZ5.out.past hbx)
            clear hbx hHeld HK7
            refine hK.out _ _ (⟨by simpa using HZ6.out.cell 0, by simpa using HZ6.out.cell 1⟩) (fun hHeld => ?_)
            try simp only [Act.put, List.getElem_toArray, List.getElem_cons_zero, List.getElem_cons_succ, List.setIfInBounds_toArray, List.set_cons_zero, List.set_cons_succ]
            refine wpAnyH_ready (rs := [31]) (by kernel_rfl) (by simp) ?_
            refine AllReadyH.cons rfl (fun K hK => ?_) AllReadyH.nil
            go_simp
            go_at_call 23
            have HK8 := Lib.hid (usedR_any _ _ _ _ _ _ _ _ _ _ _ _ _ _ _ z1 wg HT6.out.doc (by omega))
            rw [← HPL.out.use, hD.out] at HK8
            refine HK8.out.mono ?_
            rintro e wh ⟨rfl, hbx⟩
            have HT7 := Lib.hid (HT6.out.past hbx)
            have HZ7 := Lib.hid (HZ6.out.past hbx)
            clear hbx hHeld HK8
            refine hK.out _ _ (⟨by simpa using HZ7.out.cell 0, by simpa using HZ7.out.cell 1⟩) (fun hHeld => ?_)
            try simp only [Act.put, List.getElem_toArray, List.getElem_cons_zero, List.getElem_cons_succ, List.setIfInBounds_toArray, List.set_cons_zero, List.set_cons_succ]
            refine wpAnyH_take (i := 32) (v := ?_) rfl (by kernel_rfl) (by kernel_rfl) (by kernel_rfl) (fun _ _ _ h => h) (Or.inl ⟨by rfl, ?_⟩) (by assumption) ?_
            rotate_left
            · (intro w' hSw; (try dsimp only at hSw); first | (go_simp; done) | (go_simp; with_reducible rfl))
            try simp only [Act.put, List.getElem_toArray, List.getElem_cons_zero, List.getElem_cons_succ, List.setIfInBounds_toArray, List.set_cons_zero, List.set_cons_succ]
            refine wpAnyH_take (i := 33) (v := ?_) rfl (by kernel_rfl) (by kernel_rfl) (by kernel_rfl) (fun _ _ _ h => h) (Or.inl ⟨by rfl, ?_⟩) (by assumption) ?_
            rotate_left
            · (intro w' hSw; (try dsimp only at hSw); first | (go_simp; done) | (go_simp; with_reducible rfl))
            try simp only [Act.put, List.getElem_toArray, List.getElem_cons_zero, List.getElem_cons_succ, List.setIfInBounds_toArray, List.set_cons_zero, List.set_cons_succ]
            refine wpAnyH_done (by kernel_rfl) ?_ _
            clear hHeld
            have HFN : Hid (TwN w1 cf A1 n1 cp1 A2 n2 cp2 A3 n3 cp3 g gu B1 d1 B2 d2 B3 d3 q (k + 1) wh) := Lib.hid ⟨_, _, _, _, _, _, _, _, _, HT7.out⟩
            go_wp2_with fail
            go_roundw
            case rel => exact ⟨k + 1, by omega, by go_num, HFN⟩
            case measure => simp [intOf]; omega
    · have hlz : ¬ (k : Int) < (n : Int) := by omega
      as_aux_lemma =>
      have HRI := Lib.hid HST.out.pl.inv
      have hnS : S.length ≤ 64 := by have := HRI.out.len; have := HRI.out.ac0; have := HTR.out; omega
      have HIN := Lib.hid HST.out.pl.trd
      have HPL := Lib.hid HST.out.pl
      have hll := HST.out.ll
      obtain ⟨m, hm⟩ : ∃ m, Hid (S.length = m) := ⟨_, Lib.hid rfl⟩
      rw [hm.out] at hnS
      have HLM : Hid ((curR cy L).length = m) := Lib.hid (by rw [HPL.out.slen, hm.out])
      go_wp2_with fail
      refine (awake17 _).mono ?_
      rintro e w6 ⟨rfl, hb6⟩
      have HT6 := Lib.hid (HST.out.past hb6)
      have HK1 := Lib.hid (tradesG_any w6 HT6.out.prog)
      rw [hm.out] at HK1
      clear hb6
      go_wp2_with fail
      refine HK1.out.mono ?_
      rintro e w7 ⟨v7, rfl, ho7, hb7⟩
      obtain ⟨A7, c7, rfl⟩ := own_form ho7
      have HT7 := Lib.hid (HT6.out.past hb7)
      have HO7 := Lib.hid (Rd.of_own ho7)
      have HK2 := Lib.hid (refTrades_any _ _ _ _ _ _ _ _ _ _ _ _ _ _ _ w7 HT7.out.doc (by omega))
      rw [HPL.out.list, HLM.out, tC_flat] at HK2
      clear hb7 ho7 HK1
      go_wp2_with fail
      refine HK2.out.mono ?_
      rintro e w8 ⟨v8, rfl, ho8, hb8⟩
      obtain ⟨A8, c8, rfl⟩ := own_form ho8
      have HT8 := Lib.hid (HT7.out.past hb8)
      have HSM := Lib.hid (sameT17_any A7 A8 m c7 c8 (tradesS S) w8 (HO7.out.past hb8) (Rd.of_own ho8) (by omega))
      clear hb8 ho8 HK2
      go_wp2_with fail
      refine HSM.out.mono ?_
      rintro e w9 ⟨rfl, hb9⟩
      have HT9 := Lib.hid (HT8.out.past hb9)
      have HK3 := Lib.hid (legsG_any w9 HT9.out.prog HIN.out)
      rw [hm.out] at HK3
      clear hb9 HSM
      go_wp2_with fail
      refine HK3.out.mono ?_
      rintro e w11 ⟨v11, rfl, ho11, hb11⟩
      obtain ⟨A11, c11, rfl⟩ := own_form ho11
      have HT11 := Lib.hid (HT9.out.past hb11)
      have HO11 := Lib.hid (Rd.of_own ho11)
      have HK4 := Lib.hid (refLegs17_any _ _ _ _ _ _ _ _ _ _ _ _ _ _ _ w11 HT11.out.doc (by omega) (by rw [HPL.out.list]; exact HIN.out))
      rw [HPL.out.list, HLM.out] at HK4
      clear hb11 ho11 HK3
      go_wp2_with fail
      refine HK4.out.mono ?_
      rintro e w12 ⟨v12, rfl, ho12, hb12⟩
      obtain ⟨A12, c12, rfl⟩ := own_form ho12
      have HT12 := Lib.hid (HT11.out.past hb12)
      have HSL := Lib.hid (sameLegs A11 A12 (4 * m) c11 c12 (legsS S) w12 (HO11.out.past hb12) (Rd.of_own ho12) (by omega))
      clear hb12 ho12 HK4
      go_wp2_with fail
      refine HSL.out.mono ?_
      rintro e w13 ⟨rfl, hb13⟩
      have HB13 := Lib.hid (Below.past HBW1.out (HT12.out.past hb13).below HBW1.out.size)
      clear hb13 HSL
      go_wp2_with fail
      go_ret
      exact ⟨rfl, HB13.out⟩
end Go.Proofs.YtelbolhckhdioaaGreat
