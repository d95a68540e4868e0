import Derived.Test.YtelbolhckhdioaaChaP
import Derived.Test.YtelbolhckhdioaaMapF
import Derived.Test.YtelbolhckhdioaaMonE
import Derived.Maps.Views
import Derived.DeepKeys5
namespace Go.Proofs.Ytelbolhckhdioaa
open Go.RowKit Go.ChangeShapes

/-! ### Spots and entries -/
structure Spt where
  k : Int
  m : Int
  a : Int
theorem Spt.same {s t : Spt} (h1 : s.k = t.k) (h2 : s.m = t.m) (h3 : s.a = t.a) : s = t := by cases s; cases t; simp_all
instance : DecidableEq Spt := fun s t => if h : s.k = t.k ∧ s.m = t.m ∧ s.a = t.a then isTrue (Spt.same h.1 h.2.1 h.2.2) else isFalse (fun e => h (by rw [e]; exact ⟨rfl, rfl, rfl⟩))
def Spt.cells (s : Spt) : List Value := [.int .i64 s.k, .int .i64 s.m, .int .i64 s.a]
theorem Spt.cells_len (s : Spt) : s.cells.length = 3 := rfl
def Spt.acc (s : Spt) : Acc := ⟨s.k, s.m⟩
structure Ent where
  k : Int
  m : Int
  a : Int
  z : Int
def Ent.cells (s : Ent) : List Value := [.int .i64 s.k, .int .i64 s.m, .int .i64 s.a, .int .i64 s.z]
theorem Ent.cells_len (s : Ent) : s.cells.length = 4 := rfl
def Ent.spt (e : Ent) : Spt := ⟨e.k, e.m, e.a⟩
structure EntOk (e : Ent) : Prop where
  k : inI e.k
  m : inI e.m
  a : inI e.a
  z : inI e.z

theorem own_pastK {w w' : World} {base : Nat} {e : TypeId} {size : Nat} {v : Value} {n : Nat} {xs : List Value} (h : w.ownsRow base e size v n xs) (hb : Below w.heap.size w w') : w'.ownsRow base e size v n xs := by
  refine ⟨h.1, ?_⟩
  rcases h.2 with h0 | ⟨g, cap, cur, rfl, hb1, hh, h1⟩
  · exact .inl h0
  · refine .inr ⟨g, cap, cur, rfl, hb1, ?_, h1⟩
    have hlt : g < w.heap.size := by
      rcases Nat.lt_or_ge g w.heap.size with hlt | hge
      · exact hlt
      · rw [Array.getElem?_eq_none hge] at hh; cases hh
    rw [hb.block g hlt]; exact hh

/-! ### The map of the spots' amounts -/
def spv (s : Spt) : Value := .agg #[.int .i64 s.k, .int .i64 s.m, .int .i64 s.a]
theorem spLaw : Maps.Keyed Try.prog 174 := Maps.Keyed.of_law (deep_law_gate (by kernel_rfl) (of_decide_eq_true (by kernel_rfl)) (of_decide_eq_true (by kernel_rfl)) (by kernel_rfl) (by kernel_rfl))
theorem keyOf_nest {P : Program} {k e a : TypeId} {f1 f2 g1 g2 : Field} {p t u : Int} (hu : P.underlying k = some (.struct #[f1, f2])) (n1 : (f1.name != "_") = true) (n2 : (f2.name != "_") = true) (t1 : f1.type = a) (t2 : f2.type = e) (o1 : f1.offset = 0) (o2 : f2.offset = 2)
    (hua : P.underlying a = some (.struct #[g1, g2])) (m1 : (g1.name != "_") = true) (m2 : (g2.name != "_") = true) (s1 : g1.type = e) (s2 : g2.type = e) (r1 : g1.offset = 0) (r2 : g2.offset = 1)
    (hk : P.keyType k = true) (hck : P.cellsOf k = 3) (hca : P.cellsOf a = 2) (hue : P.underlying e = some (.int .i64)) (hce : P.cellsOf e = 1) (hs : 1 < P.types.size) (hp : (Lit.int .i64 p).wf = true) (ht : (Lit.int .i64 t).wf = true) (hu' : (Lit.int .i64 u).wf = true) :
    ∃ kl, keyOf P k (.agg #[.int .i64 p, .int .i64 t, .int .i64 u]) = some kl := by
  obtain ⟨d, hd⟩ : ∃ d, P.types.size = d + 2 := ⟨P.types.size - 2, by omega⟩
  have h2 : Value.formed P k (.agg #[.int .i64 p, .int .i64 t, .int .i64 u]) = true := by simp [Value.formed, hu, hck]
  refine Option.isSome_iff_exists.1 ?_
  unfold keyOf
  simp only [hu, hk, h2, hd, Bool.and_self, if_true, Value.cells, Program.keyLits]
  simp [n1, n2, t1, t2, o1, o2, hua, s1, s2, r1, r2, hck, hca, hue, hce, hp, ht, hu']
  rw [if_pos (fun i hi => by
    obtain rfl | rfl : i = 0 ∨ i = 1 := by omega
    · simpa using m1
    · simpa using m2)]
  rfl
theorem spt_key (s : Spt) (h1 : inI s.k) (h2 : inI s.m) (h3 : inI s.a) : ∃ kl, keyOf Try.prog 174 (spv s) = some kl :=
  keyOf_nest (P := Try.prog) (e := 3) (a := 52) Try.underlying174 (by kernel_rfl) (by kernel_rfl) rfl rfl rfl rfl Try.underlying52 (by kernel_rfl) (by kernel_rfl) rfl rfl rfl rfl (by kernel_rfl) (by kernel_rfl) (by kernel_rfl) Try.underlying3 (by kernel_rfl) (of_decide_eq_true (by kernel_rfl)) (WalkArith.wf_i64 (by unfold inI at h1; omega)) (WalkArith.wf_i64 (by unfold inI at h2; omega)) (WalkArith.wf_i64 (by unfold inI at h3; omega))
theorem spv_inj {s t : Spt} (h : spv s = spv t) : s = t := by
  simp [spv] at h; exact Spt.same h.1 h.2.1 h.2.2

/-- How a side's amounts read. -/
def grpDK : List Int → DataW Unit
  | [] => .nil
  | z :: zs => .slice (lits .i64 (z :: zs)) []
theorem grpD_neK {zs : List Int} (h : zs ≠ []) : grpDK zs = .slice (lits .i64 zs) [] := by cases zs with | nil => exact absurd rfl h | cons => rfl
theorem lits_injK {a b : List Int} (h : lits (H := Unit) .i64 a = lits .i64 b) : a = b := by
  unfold lits at h
  exact (List.map_inj_right (fun x y hxy => by cases hxy; rfl)).1 h
/-- The map reads as the function f of sides. -/
def GrpIsK (D : DataW Unit) (f : Spt → List Int) : Prop :=
  Maps.IsMap D ∧ ∀ s kl, keyOf Try.prog 174 (spv s) = some kl → Maps.has D kl = !(f s).isEmpty ∧ D.atKey kl .nil = grpDK (f s)
def updSK (f : Spt → List Int) (s0 : Spt) (zs : List Int) (g : Spt → List Int) : Prop := g s0 = zs ∧ ∀ s, s ≠ s0 → g s = f s
theorem GrpIsK.start : GrpIsK (.map []) (fun _ => []) := ⟨⟨[], rfl⟩, fun s kl _ => ⟨rfl, rfl⟩⟩
theorem GrpIsK.put {D : DataW Unit} {f g : Spt → List Int} (h : GrpIsK D f) {s0 : Spt} {k0 : Lit} {zs : List Int} (hk : keyOf Try.prog 174 (spv s0) = some k0) (hu : updSK f s0 zs g) (hz : zs ≠ []) : GrpIsK (D.put k0 (.slice (lits .i64 zs) [])) g := by
  obtain ⟨hm, hall⟩ := h
  obtain ⟨g0, g1⟩ := hu
  refine ⟨?_, fun s kl hkl => ?_⟩
  · obtain ⟨es, rfl⟩ := hm
    exact ⟨_, rfl⟩
  · by_cases e : s = s0
    · subst e
      obtain rfl : k0 = kl := by rw [hk] at hkl; exact Option.some.inj hkl
      have hkey := spLaw.key hk
      refine ⟨by rw [Maps.has_put_same hm hkey, g0]; cases zs with | nil => exact absurd rfl hz | cons => rfl, ?_⟩
      rw [Maps.atKey_put_same hm hkey, g0, grpD_neK hz]
    · have hne : kl ≠ k0 := fun e' => e (by subst e'; exact spv_inj (spLaw.inj hkl hk))
      rw [g1 s e]
      refine ⟨by rw [Maps.has_put_other hne]; exact (hall s kl hkl).1, ?_⟩
      rw [Maps.atKey_put_other hne]
      exact (hall s kl hkl).2
theorem grp_rowK {w : World} {base : Nat} {e : TypeId} {v : Value} {zs ys : List Int} (ho : w.ownsInts base e .i64 v zs) (h : grpDK ys = rowDatum (H := Unit) .i64 v zs) : zs = ys := by
  rcases ho.datum (H := Unit) with ⟨h1, h2⟩ | h1
  · rw [h1] at h
    rw [h2]
    cases ys with
    | nil => rfl
    | cons => cases h
  · rw [h1] at h
    cases ys with
    | nil => cases h
    | cons y ys =>
      rw [grpD_neK (by simp)] at h
      injection h with h
      exact (lits_injK h).symm
theorem groups_pastK {H : Type} {w w' : World} {P : Program} {k e : TypeId} {base : Nat} {q : IntKind} {b n : Nat} {D : DataW H} (h : w.ownsGroups P k base e q b n D) (hb : Below w.heap.size w w') : w'.ownsGroups P k base e q b n D := by
  obtain ⟨es, clock, hb0, F, hs, rfl, hbb, hlen, hap⟩ := h
  have hlt : b < w.heap.size := (Array.getElem?_eq_some_iff.1 hb0).1
  have hs1 : ∀ x ∈ es.toList, ∀ z, rowElem (H := H) w base e q x.val = some z → rowElem w' base e q x.val = some z := by
    intro x _ z hz
    obtain ⟨zs, ho, rfl⟩ := rowElem_inv hz
    exact rowElem_mk ⟨own_pastK ho.1 hb, ho.2⟩
  obtain ⟨F2, hmap2, _⟩ := F.stay hs1
  refine ⟨es, clock, (hb.block b hlt).trans hb0, F2, hs, by rw [hmap2], hbb, ?_, hap⟩
  intro x hx zs ho
  obtain ⟨y, hy⟩ := F.reads x hx
  obtain ⟨z, hz, _⟩ := WideElems.rd_val hy
  obtain ⟨zs0, ho0, _⟩ := rowElem_inv hz
  rw [ho.unique (w := w') ⟨own_pastK ho0.1 hb, ho0.2⟩]
  exact hlen x hx zs0 ho0
theorem groups_ltK {H : Type} {w : World} {P : Program} {k e : TypeId} {base : Nat} {q : IntKind} {b n : Nat} {D : DataW H} (h : w.ownsGroups P k base e q b n D) : b < w.heap.size := by
  obtain ⟨es, clock, hb0, _⟩ := h
  exact (Array.getElem?_eq_some_iff.1 hb0).1

/-- The amounts at a spot. -/
def atB (l : List Ent) (s : Spt) : List Int := (l.filter fun e => decide (e.spt = s)).map Ent.z
theorem atB_snoc (l : List Ent) (x : Ent) (s : Spt) : atB (l ++ [x]) s = if x.spt = s then atB l s ++ [x.z] else atB l s := by
  unfold atB; rw [List.filter_append, List.map_append]
  by_cases h : x.spt = s
  · rw [if_pos h]; simp [h]
  · rw [if_neg h]; simp [h]
theorem atB_upd (l : List Ent) (x : Ent) : updSK (fun s => atB l s) x.spt (atB l x.spt ++ [x.z]) (fun s => atB (l ++ [x]) s) := by
  constructor
  · simp only [atB_snoc]; simp
  · intro s hs
    simp only [atB_snoc]; rw [if_neg (fun h => hs h.symm)]
end Go.Proofs.Ytelbolhckhdioaa
