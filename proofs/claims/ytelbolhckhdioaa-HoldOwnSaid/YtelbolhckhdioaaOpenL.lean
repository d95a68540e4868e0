/-
  An argument that is a slice, opened to the list of what its elements are, whatever these hold.
-/
import Derived.Test.YtelbolhckhdioaaLaw
import Derived.Deep.Slices
namespace Go.Proofs.Ytelbolhckhdioaa
open Go.ChangeShapes Go.WideShapes Go.ChangeAt Go.RowKit Go.Deep

section
variable {H : Type} {enc : TypeId × Value → H} {P : Program} {w : World} {base : Nat} {held : Bool}
theorem open_list_of {α : Type} (cells : α → List Value) (Good : α → Prop) (sz : Nat) (hsz : ∀ a, (cells a).length = sz) (hpos : 0 < sz) {t e : TypeId} {fuel : Nat} {cs : List Value} {x : DataW H × List MemPlace} (ht : P.underlying t = some (.slice e)) (hC : P.cellsOf e = sz)
    (hel : ∀ (m : Nat) (cs' : List Value) (y : DataW H × List MemPlace), DataW.trod enc P w base (fun _ => true) held m e cs' = some y → ∃ b, cs' = cells b ∧ Good b)
    (h : DataW.trod enc P w base (fun _ => true) held fuel t cs = some x) :
    ∃ (A : Option Addr) (len cap : Nat) (bs : List α), cs = [.slice A len cap] ∧ len ≤ cap ∧ cap ≤ maxLen ∧ bs.length = len ∧ (∀ b ∈ bs, Good b) ∧ Rd w w.heap.size sz A len (bs.flatMap cells) := by
  rcases open_slice ht h with ⟨rfl, _⟩ | ⟨a, len, cap, m, n', D, Pl, rfl, hb, hl, hm, hmm, hx, hi⟩
  · exact ⟨none, 0, 0, [], rfl, Nat.le_refl _, by simp [maxLen], rfl, by simp, Rd.nil ..⟩
  · rw [if_pos rfl] at hmm
    subst hmm
    have hZ : ∀ i, i < len → ∃ b, Good b ∧ ∀ j u, (cells b)[j]? = some u → w.cell? (a.add (i * sz + j)) = some u := fun i hi' => by
      obtain ⟨cs', hc, htr⟩ := hi i (by omega)
      obtain ⟨b, rfl, hg⟩ := hel _ _ _ htr
      obtain ⟨_, hlen', hat⟩ := World.cells?_some hc
      rw [hC] at hat
      refine ⟨b, hg, fun j u hu => ?_⟩
      have hj : j < sz := by rw [← hsz b]; exact (List.getElem?_eq_some_iff.1 hu).1
      have := hat j hj
      rw [Go.Deep.add_add] at this
      rw [this, hu]
    have hlist : ∀ k, k ≤ len → ∃ bs : List α, bs.length = k ∧ (∀ b ∈ bs, Good b) ∧ ∀ i b, bs[i]? = some b → ∀ j u, (cells b)[j]? = some u → w.cell? (a.add (i * sz + j)) = some u := by
      intro k
      induction k with
      | zero => exact fun _ => ⟨[], rfl, by simp, fun i b h => by simp at h⟩
      | succ k ih =>
        intro hk
        obtain ⟨bs, h1, h2, h3⟩ := ih (by omega)
        obtain ⟨b, hg, hc⟩ := hZ k (by omega)
        refine ⟨bs ++ [b], by simp [h1], fun c hc => ?_, fun i c hi' => ?_⟩
        · rcases List.mem_append.1 hc with hc | hc
          · exact h2 c hc
          · rw [List.mem_singleton.1 hc]; exact hg
        · rcases Nat.lt_or_ge i bs.length with h | h
          · rw [List.getElem?_append_left h] at hi'
            exact h3 i c hi'
          · rw [List.getElem?_append_right h] at hi'
            have hik : i - bs.length = 0 := by
              have := (List.getElem?_eq_some_iff.1 hi').1
              simpa using this
            rw [hik] at hi'
            simp at hi'
            subst hi'
            obtain rfl : i = k := by omega
            exact hc
    obtain ⟨bs, h1, h2, h3⟩ := hlist len (Nat.le_refl _)
    have hfl := flat_len cells sz hsz bs
    refine ⟨some a, len, m, bs, rfl, hl, hm, h1, h2, by rw [hfl, h1], fun hn => ?_⟩
    obtain ⟨b, off, spot⟩ := a
    obtain ⟨b0, hb0⟩ : ∃ b0, bs[0]? = some b0 := ⟨_, List.getElem?_eq_getElem (by omega)⟩
    obtain ⟨u0, hu0⟩ : ∃ u0, (cells b0)[0]? = some u0 := ⟨_, List.getElem?_eq_getElem (by rw [hsz]; exact hpos)⟩
    have hc0 := h3 0 _ hb0 0 _ hu0
    have hspot : spot = none := by simpa [Addr.add] using World.cell?_spot hc0
    subst hspot
    have hblt : b < w.heap.size := by
      rcases Nat.lt_or_ge b w.heap.size with hlt | hge
      · exact hlt
      · simp [Addr.add, World.cell?, Array.getElem?_eq_none hge] at hc0
    refine ⟨b, off, rfl, hblt, fun j u hu => ?_⟩
    have hjl : j < len * sz := by rw [← h1, ← hfl]; exact (List.getElem?_eq_some_iff.1 hu).1
    have hdiv : j / sz < len := Nat.div_lt_of_lt_mul (by rw [Nat.mul_comm]; exact hjl)
    have hmod : j % sz < sz := Nat.mod_lt _ hpos
    have hj : j / sz * sz + j % sz = j := by rw [Nat.mul_comm]; exact Nat.div_add_mod j sz
    obtain ⟨bj, hbj⟩ : ∃ bj, bs[j / sz]? = some bj := ⟨_, List.getElem?_eq_getElem (by omega)⟩
    have hg := flat_get cells sz hsz bs (j / sz) _ (j % sz) hbj hmod
    rw [hj, hu] at hg
    have := h3 _ _ hbj _ u hg.symm
    rw [hj] at this
    rw [← Go.WideShapes.add_plain]
    exact this
/-- A field of a struct, by its type and place. -/
theorem field_at {fs : Array Field} {xs : List (TypeId × Nat)} (e : (fs.map fun f => (f.type, f.offset)).toList = xs) {i : Nat} {t o : Nat} (h : xs[i]? = some (t, o)) : ∃ f, fs[i]? = some f ∧ f.type = t ∧ f.offset = o := by
  rw [← e] at h
  simp only [Array.toList_map, List.getElem?_map, Option.map_eq_some_iff] at h
  obtain ⟨f, h1, h2⟩ := h
  injection h2 with h3 h4
  exact ⟨f, by simpa using h1, h3, h4⟩
theorem list3_of {cs : List Value} (h : cs.length = 3) : ∃ a b c, cs = [a, b, c] := by
  match cs, h with
  | [a, b, c], _ => exact ⟨a, b, c, rfl⟩
end
end Go.Proofs.Ytelbolhckhdioaa
