import Derived.Test.YtfnhffcjhdeleaaNetA
import Derived.Test.YtfnhffcjhdeleaaMapE
import Derived.Maps.Views
import Derived.DeepKeys5
namespace Go.Proofs.Ytfnhffcjhdeleaa
open Go.RowKit Go.ChangeShapes

/-! ### The map of the sides' amounts -/
def sdv (s : Sid) : Value := .agg #[.int .i64 s.m, .int .i64 s.a]
theorem sidLaw : Maps.Keyed Try.prog 160 := Maps.Keyed.of_law (deep_law_gate (by kernel_rfl) (of_decide_eq_true (by kernel_rfl)) (of_decide_eq_true (by kernel_rfl)) (by kernel_rfl) (by kernel_rfl))
theorem keyOf_twoN {P : Program} {k e : TypeId} {f1 f2 : Field} {p t : Int} (hu : P.underlying k = some (.struct #[f1, f2])) (n1 : (f1.name != "_") = true) (n2 : (f2.name != "_") = true) (t1 : f1.type = e) (t2 : f2.type = e) (o1 : f1.offset = 0) (o2 : f2.offset = 1)
    (hk : P.keyType k = true) (hck : P.cellsOf k = 2) (hue : P.underlying e = some (.int .i64)) (hce : P.cellsOf e = 1) (hs : 0 < P.types.size) (hp : (Lit.int .i64 p).wf = true) (ht : (Lit.int .i64 t).wf = true) :
    keyOf P k (.agg #[.int .i64 p, .int .i64 t]) = some (.string (keyBytes [.int .i64 p, .int .i64 t])) := by
  obtain ⟨d, hd⟩ : ∃ d, P.types.size = d + 1 := ⟨P.types.size - 1, by omega⟩
  have h2 : Value.formed P k (.agg #[.int .i64 p, .int .i64 t]) = true := by simp [Value.formed, hu, hck]
  unfold keyOf
  simp only [hu, hk, h2, hd, Bool.and_self, if_true, Value.cells, Program.keyLits]
  simp [n1, n2, t1, t2, o1, o2, hck, hue, hce, hp, ht, Program.keyLits]
theorem sid_key (s : Sid) (h1 : inI s.m) (h2 : inI s.a) : ∃ kl, keyOf Try.prog 160 (sdv s) = some kl :=
  ⟨_, keyOf_twoN (P := Try.prog) (e := 3) Try.underlying160 (by kernel_rfl) (by kernel_rfl) rfl rfl rfl rfl (by kernel_rfl) (by kernel_rfl) Try.underlying3 (by kernel_rfl) (of_decide_eq_true (by kernel_rfl)) (WalkArith.wf_i64 (by unfold inI at h1; omega)) (WalkArith.wf_i64 (by unfold inI at h2; omega))⟩
theorem sdv_inj {s t : Sid} (h : sdv s = sdv t) : s = t := by
  simp [sdv] at h; exact Sid.same h.1 h.2

/-- How a side's amounts read. -/
def grpD : List Int → DataW Unit
  | [] => .nil
  | z :: zs => .slice (lits .i64 (z :: zs)) []
theorem grpD_ne {zs : List Int} (h : zs ≠ []) : grpD zs = .slice (lits .i64 zs) [] := by cases zs with | nil => exact absurd rfl h | cons => rfl
theorem lits_inj {a b : List Int} (h : lits (H := Unit) .i64 a = lits .i64 b) : a = b := by
  unfold lits at h
  exact (List.map_inj_right (fun x y hxy => by cases hxy; rfl)).1 h
/-- The map reads as the function f of sides. -/
def GrpIs (D : DataW Unit) (f : Sid → List Int) : Prop :=
  Maps.IsMap D ∧ ∀ s kl, keyOf Try.prog 160 (sdv s) = some kl → Maps.has D kl = !(f s).isEmpty ∧ D.atKey kl .nil = grpD (f s)
def updS (f : Sid → List Int) (s0 : Sid) (zs : List Int) (g : Sid → List Int) : Prop := g s0 = zs ∧ ∀ s, s ≠ s0 → g s = f s
theorem GrpIs.start : GrpIs (.map []) (fun _ => []) := ⟨⟨[], rfl⟩, fun s kl _ => ⟨rfl, rfl⟩⟩
theorem GrpIs.put {D : DataW Unit} {f g : Sid → List Int} (h : GrpIs D f) {s0 : Sid} {k0 : Lit} {zs : List Int} (hk : keyOf Try.prog 160 (sdv s0) = some k0) (hu : updS f s0 zs g) (hz : zs ≠ []) : GrpIs (D.put k0 (.slice (lits .i64 zs) [])) g := by
  obtain ⟨hm, hall⟩ := h
  obtain ⟨g0, g1⟩ := hu
  refine ⟨?_, fun s kl hkl => ?_⟩
  · obtain ⟨es, rfl⟩ := hm
    exact ⟨_, rfl⟩
  · by_cases e : s = s0
    · subst e
      obtain rfl : k0 = kl := by rw [hk] at hkl; exact Option.some.inj hkl
      have hkey := sidLaw.key hk
      refine ⟨by rw [Maps.has_put_same hm hkey, g0]; cases zs with | nil => exact absurd rfl hz | cons => rfl, ?_⟩
      rw [Maps.atKey_put_same hm hkey, g0, grpD_ne hz]
    · have hne : kl ≠ k0 := fun e' => e (by subst e'; exact sdv_inj (sidLaw.inj hkl hk))
      rw [g1 s e]
      refine ⟨by rw [Maps.has_put_other hne]; exact (hall s kl hkl).1, ?_⟩
      rw [Maps.atKey_put_other hne]
      exact (hall s kl hkl).2
theorem grp_row {w : World} {base : Nat} {e : TypeId} {v : Value} {zs ys : List Int} (ho : w.ownsInts base e .i64 v zs) (h : grpD ys = rowDatum (H := Unit) .i64 v zs) : zs = ys := by
  rcases ho.datum (H := Unit) with ⟨h1, h2⟩ | h1
  · rw [h1] at h
    rw [h2]
    cases ys with
    | nil => rfl
    | cons => cases h
  · rw [h1] at h
    cases ys with
    | nil => cases h
    | cons y ys =>
      rw [grpD_ne (by simp)] at h
      injection h with h
      exact (lits_inj h).symm
theorem owed_upd (l : List Leg) (x : Leg) : updS (fun s => owedL l s.m s.a) ⟨x.member, x.asset⟩ (owedL l x.member x.asset ++ [x.amount]) (fun s => owedL (l ++ [x]) s.m s.a) := by
  constructor
  · simp only [owedL_snoc]; simp
  · intro s hs
    have : ¬ (x.member = s.m ∧ x.asset = s.a) := fun h => hs (Sid.same h.1.symm h.2.symm)
    simp only [owedL_snoc]; rw [if_neg this]
theorem groups_past {H : Type} {w w' : World} {P : Program} {k e : TypeId} {base : Nat} {q : IntKind} {b n : Nat} {D : DataW H} (h : w.ownsGroups P k base e q b n D) (hb : Below w.heap.size w w') : w'.ownsGroups P k base e q b n D := by
  obtain ⟨es, clock, hb0, F, hs, rfl, hbb, hlen, hap⟩ := h
  have hlt : b < w.heap.size := (Array.getElem?_eq_some_iff.1 hb0).1
  have hs1 : ∀ x ∈ es.toList, ∀ z, rowElem (H := H) w base e q x.val = some z → rowElem w' base e q x.val = some z := by
    intro x _ z hz
    obtain ⟨zs, ho, rfl⟩ := rowElem_inv hz
    exact rowElem_mk ⟨own_past' ho.1 hb, ho.2⟩
  obtain ⟨F2, hmap2, _⟩ := F.stay hs1
  refine ⟨es, clock, (hb.block b hlt).trans hb0, F2, hs, by rw [hmap2], hbb, ?_, hap⟩
  intro x hx zs ho
  obtain ⟨y, hy⟩ := F.reads x hx
  obtain ⟨z, hz, _⟩ := WideElems.rd_val hy
  obtain ⟨zs0, ho0, _⟩ := rowElem_inv hz
  rw [ho.unique (w := w') ⟨own_past' ho0.1 hb, ho0.2⟩]
  exact hlen x hx zs0 ho0
theorem groups_lt {H : Type} {w : World} {P : Program} {k e : TypeId} {base : Nat} {q : IntKind} {b n : Nat} {D : DataW H} (h : w.ownsGroups P k base e q b n D) : b < w.heap.size := by
  obtain ⟨es, clock, hb0, _⟩ := h
  exact (Array.getElem?_eq_some_iff.1 hb0).1
end Go.Proofs.Ytfnhffcjhdeleaa
