import Derived.Test.YtelbolhckhdioaaBokB
import Derived.Test.YtelbolhckhdioaaTwoR
import Derived.Deep.RegionLaw
import Derived.BigRegion
namespace Go.Proofs.Ytelbolhckhdioaa
open Go.RowKit Go.ChangeShapes Go.ChangeMaps

/-- step_append_blk, and where the new row lies. -/
theorem step_append_blkK {P : Program} {ops : Array Oper} {o : Oper} {a : Act} {W : World} {K : Act → World → Prop} {Q : Exit → Act → World → Prop} {E : Prop}
    (hgd : o.guard = none) (s x : Operand) (t : TypeId) (ho : o.op = .call { callee := .builtin .append, args := #[s, x], argTypes := #[t, t] })
    (base : Nat) (e : TypeId) (i : TypeInfo) (z : Value) (size bytes : Nat) (ht : P.underlying t = some (.slice e)) (hi : P.info? e = some i) (hz : i.zero = some z)
    (hsize : i.size = size) (hby : i.bytes = bytes) (hzs : z.cells.size = size) (hsz : 0 < size)
    (v : Value) (n : Nat) (xs : List Value) (hs : a.eval s = v) (hown : W.ownsRow base e size v n xs)
    (g m c : Nat) (arr : Array Value) (hx : a.eval x = .slice (some ⟨g, 0, none⟩) m c) (hb : Blk W g e arr) (hl : arr.size = m * size) (h1 : ∀ u ∈ arr.toList, u.oneCell' = true)
    (h63 : n + m ≤ 1000000) (hsz2 : bytes ≤ 1000000) (hbase : base ≤ W.heap.size)
    (h : ∀ v' w', w'.ownsRow base e size v' (n + m) (xs ++ arr.toList) → W.grownBy w' v.ownBlock → (v'.ownBlock = v.ownBlock ∨ v'.ownBlock = some W.heap.size) → K (a.put o.dst v') w') :
    if Region.wanted o (yielded ops a.tmps) = true then Oper.wp P o a W K Q else E := by
  have hw : Region.wanted o (yielded ops a.tmps) = true := by simp [Region.wanted, hgd]
  rw [if_pos hw]
  have hbb : (n + m) * bytes ≤ 140737488355328 := by
    have : (n + m) * bytes ≤ 1000000 * 1000000 := Nat.mul_le_mul h63 hsz2
    omega
  have hnews : ∀ (j : Nat) (u : Value), arr.toList[j]? = some u → W.cell? ((⟨g, 0, none⟩ : Addr).add j) = some u := by
    intro j u hu
    have hj : (⟨g, 0, none⟩ : Addr).add j = ⟨g, j, none⟩ := by
      unfold Addr.add; split
      · rename_i h0; rw [h0]
      · simp
    rw [hj, hb.cell j]
    simpa using hu
  obtain ⟨v', w', hr, h2, h3, _, h5⟩ := run_append_own_at (P := P) W base t o.type e i z size bytes ht hi hz hsize hby hzs hsz v n xs hown ⟨g, 0, none⟩ m c arr.toList (by simpa using hl) hnews h1 (by simp only [maxLen]; omega) hbb hbase
  unfold Oper.wp execOp
  simp only [ho, resolve, invoke, builtin, Sem.run_bind, Sem.run_pure, Result.andThen_ok, List.map_toArray, List.map_cons, List.map_nil, hs, hx, hr]
  exact h v' w' h2 h3 h5


/-! ### Frames -/
theorem own_grownR {w w' : World} {base : Nat} {e : TypeId} {size n : Nat} {u : Value} {xs : List Value} {row : Option Nat} (h : w.ownsRow base e size u n xs) (hg : w.grownBy w' row) (hne : ∀ k, row = some k → u.ownBlock ≠ some k) : w'.ownsRow base e size u n xs := by
  refine ⟨h.1, ?_⟩
  rcases h.2 with h0 | ⟨g, cap, cur, rfl, hb, hh, h1⟩
  · exact .inl h0
  · refine .inr ⟨g, cap, cur, rfl, hb, ?_, h1⟩
    have hlt : g < w.heap.size := by
      rcases Nat.lt_or_ge g w.heap.size with hlt | hge
      · exact hlt
      · rw [Array.getElem?_eq_none hge] at hh; cases hh
    rw [hg.block g hlt (fun e' => hne g e'.symm rfl)]; exact hh
theorem own_map_ne {w : World} {base : Nat} {e : TypeId} {size n b : Nat} {v : Value} {xs : List Value} {es : Array MapEntry} {c : Nat} (h : w.ownsRow base e size v n xs) (hb : w.heap[b]? = some (.map es c)) : v.ownBlock ≠ some b := fun e1 => by
  rcases h.2 with ⟨rfl, _⟩ | ⟨g, cap, cur, rfl, _, hh, _⟩
  · cases e1
  · have : g = b := Option.some.inj e1
    subst this
    rw [hb] at hh; cases hh
theorem own_neK {w : World} {base base' : Nat} {e e' : TypeId} {size size' n n' : Nat} {v v' : Value} {xs xs' : List Value} (h : w.ownsRow base e size v n xs) (h' : w.ownsRow base' e' size' v' n' xs') (hne : e ≠ e') : ∀ k, v'.ownBlock = some k → v.ownBlock ≠ some k := fun k e1 e2 => by
  rcases h.2 with ⟨rfl, _⟩ | ⟨g, cap, cur, rfl, _, hh, _⟩
  · cases e2
  · rcases h'.2 with ⟨rfl, _⟩ | ⟨g', cap', cur', rfl, _, hh', _⟩
    · cases e1
    · have a1 : g = k := Option.some.inj e2
      have a2 : g' = k := Option.some.inj e1
      subst a1; subst a2
      rw [hh] at hh'
      injection hh' with hh'
      injection hh' with _ hh'
      exact hne hh'
theorem groups_map {w : World} {P : Program} {k e : TypeId} {base : Nat} {q : IntKind} {b n : Nat} {D : DataW Unit} (h : w.ownsGroups P k base e q b n D) : ∃ es c, w.heap[b]? = some (.map es c) := by
  obtain ⟨es, c, hb, _⟩ := h; exact ⟨es, c, hb⟩
theorem shuns_past {w w' : World} {b : Nat} {No : Nat → Prop} (h : w.Shuns b No) (hlt : b < w.heap.size) (hb : Below w.heap.size w w') : w'.Shuns b No := fun es c h1 => h es c ((hb.block b hlt).symm.trans h1)

/-! ### Nine rows of amounts -/
def matC (R : Nat → Value) : Array Value := #[R 0, R 1, R 2, R 3, R 4, R 5, R 6, R 7, R 8]
theorem matC_get (R : Nat → Value) (j : Nat) (h : j < 9) : (matC R)[j]? = some (R j) := by
  obtain rfl | rfl | rfl | rfl | rfl | rfl | rfl | rfl | rfl : j = 0 ∨ j = 1 ∨ j = 2 ∨ j = 3 ∨ j = 4 ∨ j = 5 ∨ j = 6 ∨ j = 7 ∨ j = 8 := by omega
  all_goals rfl
def setR (R : Nat → Value) (j : Nat) (v : Value) : Nat → Value := fun i => if i = j then v else R i
theorem matC_set (R : Nat → Value) (j : Nat) (h : j < 9) (v : Value) : (matC R).setIfInBounds j v = matC (setR R j v) := by
  obtain rfl | rfl | rfl | rfl | rfl | rfl | rfl | rfl | rfl : j = 0 ∨ j = 1 ∨ j = 2 ∨ j = 3 ∨ j = 4 ∨ j = 5 ∨ j = 6 ∨ j = 7 ∨ j = 8 := by omega
  all_goals rfl
structure MatV (w : World) (gm base : Nat) (R : Nat → Value) (f : Nat → List Int) : Prop where
  blk : Blk w gm 71 (matC R)
  row : ∀ j, j < 9 → w.ownsRow base 2 1 (R j) (f j).length ((f j).flatMap i64Cells)
  ap : ∀ i j, i < 9 → j < 9 → i ≠ j → ApartVN (R i) (R j)
theorem MatV.past {w w' : World} {gm base : Nat} {R : Nat → Value} {f : Nat → List Int} (h : MatV w gm base R f) (hb : Below w.heap.size w w') : MatV w' gm base R f :=
  ⟨h.blk.past hb, fun j hj => own_pastK (h.row j hj) hb, h.ap⟩
theorem MatV.grownR {w w' : World} {gm base : Nat} {R : Nat → Value} {f : Nat → List Int} (h : MatV w gm base R f) {row : Option Nat} (hg : w.grownBy w' row) (h1 : row ≠ some gm) (h2 : ∀ k, row = some k → ∀ j, j < 9 → (R j).ownBlock ≠ some k) : MatV w' gm base R f :=
  ⟨h.blk.grown hg h1, fun j hj => own_grownR (h.row j hj) hg (fun k e => h2 k e j hj), h.ap⟩
/-- The blocks of the nine rows. -/
def NoR (R : Nat → Value) (k : Nat) : Prop := ∃ j, j < 9 ∧ (R j).ownBlock = some k
def ofK (l : List Ent) (j : Nat) : List Int := (l.filter fun e => decide (e.a = (j : Int))).map Ent.z
theorem ofK_snoc (l : List Ent) (x : Ent) (j : Nat) : ofK (l ++ [x]) j = if x.a = (j : Int) then ofK l j ++ [x.z] else ofK l j := by
  unfold ofK; rw [List.filter_append, List.map_append]
  by_cases h : x.a = (j : Int)
  · rw [if_pos h]; simp [h]
  · rw [if_neg h]; simp [h]

/-! ### The spots, as they came -/
def sptsOf (l : List Ent) : List Spt := l.foldl (fun acc e => if e.spt ∈ acc then acc else acc ++ [e.spt]) []
theorem sptsOf_snoc (l : List Ent) (x : Ent) : sptsOf (l ++ [x]) = if x.spt ∈ sptsOf l then sptsOf l else sptsOf l ++ [x.spt] := by
  unfold sptsOf; rw [List.foldl_append]; rfl
theorem spts_fold_mem (s : Spt) : ∀ (l : List Ent) (acc : List Spt), s ∈ l.foldl (fun acc e => if e.spt ∈ acc then acc else acc ++ [e.spt]) acc ↔ s ∈ acc ∨ ∃ e ∈ l, e.spt = s
  | [], acc => by simp
  | x :: l, acc => by
    rw [List.foldl_cons, spts_fold_mem s l]
    constructor
    · rintro (h | ⟨e, he, h⟩)
      · split at h
        · exact .inl h
        · rcases List.mem_append.1 h with h | h
          · exact .inl h
          · simp at h; exact .inr ⟨x, by simp, h.symm⟩
      · exact .inr ⟨e, by simp [he], h⟩
    · rintro (h | ⟨e, he, h⟩)
      · left; split
        · exact h
        · exact List.mem_append.2 (.inl h)
      · rcases List.mem_cons.1 he with rfl | he
        · left; split
          · rename_i hm; rw [← h]; exact hm
          · rw [← h]; simp
        · exact .inr ⟨e, he, h⟩
theorem spts_mem {s : Spt} {l : List Ent} : s ∈ sptsOf l ↔ ∃ e ∈ l, e.spt = s := by
  unfold sptsOf; rw [spts_fold_mem]; simp
theorem spts_at {s : Spt} {l : List Ent} : s ∈ sptsOf l ↔ atB l s ≠ [] := by
  rw [spts_mem]
  unfold atB
  constructor
  · rintro ⟨e, he, h⟩ h0
    have : e ∈ l.filter fun e => decide (e.spt = s) := List.mem_filter.2 ⟨he, by simp [h]⟩
    rw [List.map_eq_nil_iff.1 h0] at this; cases this
  · intro h
    obtain ⟨z, hz⟩ := List.exists_mem_of_ne_nil _ h
    obtain ⟨e, he, _⟩ := List.mem_map.1 hz
    have := List.mem_filter.1 he
    exact ⟨e, this.1, by simpa using this.2⟩
theorem spts_fold_len : ∀ (l : List Ent) (acc : List Spt), (l.foldl (fun acc e => if e.spt ∈ acc then acc else acc ++ [e.spt]) acc).length ≤ acc.length + l.length
  | [], acc => by simp
  | x :: l, acc => by
    have h := spts_fold_len l (if x.spt ∈ acc then acc else acc ++ [x.spt])
    rw [List.foldl_cons, List.length_cons]
    refine Nat.le_trans h ?_
    split
    · omega
    · rw [List.length_append]; simp; omega
theorem spts_len (l : List Ent) : (sptsOf l).length ≤ l.length := by
  have := spts_fold_len l []
  simpa [sptsOf] using this
end Go.Proofs.Ytelbolhckhdioaa
