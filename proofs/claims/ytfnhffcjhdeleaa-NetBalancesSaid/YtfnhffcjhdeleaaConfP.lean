import Derived.Test.YtfnhffcjhdeleaaConfO
import Derived.Test.YtfnhffcjhdeleaaConfH
namespace Go.Proofs.Ytfnhffcjhdeleaa
open Go.RowKit

/-! ### A row of numbers that is written -/
/-- A row of the call's own that holds numbers, ahead of block T. -/
structure IntRow (w : World) (B T : Nat) (e : TypeId) (sz : Nat) (v : Value) (n : Nat) : Prop where
  row : ∃ xs, w.ownsRow B e sz v n xs ∧ ∀ j, j < n * sz → ∃ z : Int, xs[j]? = some (.int .i64 z)
  top : ∀ k, v.ownBlock = some k → k < T
theorem IntRow.past {w w' : World} {B T : Nat} {e : TypeId} {sz : Nat} {v : Value} {n : Nat} (h : IntRow w B T e sz v n) (hb : Below w.heap.size w w') : IntRow w' B T e sz v n := by
  obtain ⟨⟨xs, h1, h2⟩, h3⟩ := h
  exact ⟨⟨xs, own_past' h1 hb, h2⟩, h3⟩
theorem IntRow.far {w : World} {B T : Nat} {e : TypeId} {sz : Nat} {v : Value} {n : Nat} (h : IntRow w B T e sz v n) {p : Addr} (hp : v.ownBlock ≠ some p.block) (u : Value) : IntRow (w.setCell p u) B T e sz v n := by
  obtain ⟨⟨xs, h1, h2⟩, h3⟩ := h
  exact ⟨⟨xs, own_far h1 hp u, h2⟩, h3⟩
theorem own_set {w : World} {B g : Nat} {e : TypeId} {sz n c j : Nat} {xs : List Value} (h : w.ownsRow B e sz (.slice (some ⟨g, 0, none⟩) n c) n xs) (hj : j < n * sz) (u : Value) : (w.setCell ⟨g, j, none⟩ u).ownsRow B e sz (.slice (some ⟨g, 0, none⟩) n c) n (xs.set j u) := by
  refine ⟨by rw [List.length_set]; exact h.1, ?_⟩
  rcases h.2 with ⟨h0, _⟩ | ⟨g', cap, cur, hv, hb, hh, h1, h2, h3, h4⟩
  · cases h0
  · cases hv
    refine .inr ⟨g, c, cur.setIfInBounds j u, rfl, hb, Blk.put (show Blk w g e cur from hh) j u, h1, h2, by simpa using h3, ?_⟩
    rw [Array.toList_setIfInBounds, List.take_set, h4]
theorem IntRow.set {w : World} {B T g : Nat} {e : TypeId} {sz n c j : Nat} (h : IntRow w B T e sz (.slice (some ⟨g, 0, none⟩) n c) n) (hj : j < n * sz) (z : Int) : IntRow (w.setCell ⟨g, j, none⟩ (.int .i64 z)) B T e sz (.slice (some ⟨g, 0, none⟩) n c) n := by
  obtain ⟨⟨xs, h1, h2⟩, h3⟩ := h
  refine ⟨⟨_, own_set h1 hj (.int .i64 z), fun i hi => ?_⟩, h3⟩
  rw [List.getElem?_set]
  split
  · rw [if_pos (by rw [h1.1]; exact hj)]; exact ⟨z, rfl⟩
  · exact h2 i hi
/-- Where a row lies, and a number of it. -/
theorem IntRow.at {w : World} {B T : Nat} {e : TypeId} {sz : Nat} {A : Option Addr} {n c : Nat} (h : IntRow w B T e sz (.slice A n c) n) {j : Nat} (hj : j < n * sz) : ∃ g off z, A = some ⟨g, off, none⟩ ∧ Hid (off = 0) ∧ B ≤ g ∧ g < T ∧ g < w.heap.size ∧ w.cell? ⟨g, off + j, none⟩ = some (.int .i64 z) ∧ w.frozen? ⟨g, off + j, none⟩ = false := by
  obtain ⟨⟨xs, h1, h2⟩, h3⟩ := h
  obtain ⟨z, hz⟩ := h2 j hj
  have hn : 0 < n := by
    rcases Nat.eq_zero_or_pos n with h0 | h0
    · subst h0; simp at hj
    · exact h0
  rcases h1.2 with ⟨h0, h0'⟩ | ⟨g, cap, cur, hv, hb, hh, _, _, _, h4⟩
  · omega
  · cases hv
    have hbl : Blk w g e cur := hh
    refine ⟨g, 0, z, rfl, Lib.hid rfl, hb, h3 g rfl, hbl.lt, ?_, ?_⟩
    · rw [Nat.zero_add, hbl.cell j]
      rw [← h4, List.getElem?_take] at hz
      rw [if_pos hj] at hz
      simpa using hz
    · exact hbl.frozen _
theorem IntRow.of {w : World} {B T : Nat} {e : TypeId} {sz : Nat} {v : Value} {n : Nat} {xs : List Value} (h : w.ownsRow B e sz v n xs) (hT : w.heap.size ≤ T) (hx : ∀ u ∈ xs, ∃ z : Int, u = .int .i64 z) : IntRow w B T e sz v n := by
  refine ⟨⟨xs, h, fun j hj => ?_⟩, fun k hk => Nat.lt_of_lt_of_le (h.lt k hk).2 hT⟩
  have hl : j < xs.length := by rw [h.1]; exact hj
  obtain ⟨z, hz⟩ := hx xs[j] (List.getElem_mem _)
  exact ⟨z, by rw [List.getElem?_eq_getElem hl, hz]⟩
theorem membInts (l : List Memb) : ∀ u ∈ l.flatMap Memb.cells, ∃ z : Int, u = .int .i64 z := by
  intro u hu
  obtain ⟨f, _, h2⟩ := List.mem_flatMap.1 hu
  simp [Memb.cells] at h2
  rcases h2 with rfl | rfl <;> exact ⟨_, rfl⟩
theorem secuInts (l : List Secu) : ∀ u ∈ l.flatMap Secu.cells, ∃ z : Int, u = .int .i64 z := by
  intro u hu
  obtain ⟨f, _, h2⟩ := List.mem_flatMap.1 hu
  simp [Secu.cells] at h2
  rcases h2 with rfl | rfl <;> exact ⟨_, rfl⟩
theorem cycInts (l : List Cyc) : ∀ u ∈ l.flatMap Cyc.cells, ∃ z : Int, u = .int .i64 z := by
  intro u hu
  obtain ⟨f, _, h2⟩ := List.mem_flatMap.1 hu
  simp [Cyc.cells] at h2
  rcases h2 with rfl | rfl | rfl | rfl <;> exact ⟨_, rfl⟩

/-- What stands while the first copy is written: the config, both copies' heads, the first one's rows (any numbers), the second one. -/
structure HasRel (w0 : World) (P : Array Value) (cf : Conf) (bD bX T : Nat) (D X : Array Value) (B1 : Option Addr) (n1 d1 : Nat) (B2 : Option Addr) (n2 d2 : Nat) (B3 : Option Addr) (n3 d3 : Nat) (C1 C2 C3 : Option Addr) (c1 c2 c3 : Nat) (w : World) : Prop where
  p : Blk w w0.heap.size 89 P
  d : Blk w bD 89 D
  x : Blk w bX 89 X
  r1 : IntRow w (w0.heap.size + 1) T 165 2 (.slice B1 n1 d1) n1
  r2 : IntRow w (w0.heap.size + 1) T 167 2 (.slice B2 n2 d2) n2
  r3 : IntRow w (w0.heap.size + 1) T 169 4 (.slice B3 n3 d3) n3
  own : CfOwn w T C1 n1 c1 C2 n2 c2 C3 n3 c3 cf
  below : Below w0.heap.size w0 w

section
variable {w0 w : World} {P : Array Value} {cf : Conf} {bD bX T g : Nat} {D X : Array Value} {B1 : Option Addr} {n1 d1 : Nat} {B2 : Option Addr} {n2 d2 : Nat} {B3 : Option Addr} {n3 d3 : Nat} {C1 C2 C3 : Option Addr} {c1 c2 c3 : Nat}
theorem HasRel.set1 (h : HasRel w0 P cf bD bX T D X (some ⟨g, 0, none⟩) n1 d1 B2 n2 d2 B3 n3 d3 C1 C2 C3 c1 c2 c3 w) {j : Nat} (hj : j < n1 * 2) (z : Int) : HasRel w0 P cf bD bX T D X (some ⟨g, 0, none⟩) n1 d1 B2 n2 d2 B3 n3 d3 C1 C2 C3 c1 c2 c3 (w.setCell ⟨g, j, none⟩ (.int .i64 z)) := by
  obtain ⟨hp, hd, hx, h1, h2, h3, ho, hb⟩ := h
  obtain ⟨xs, hxs, _⟩ := h1.row
  obtain ⟨ys, hys, _⟩ := h2.row
  obtain ⟨zs, hzs, _⟩ := h3.row
  have hlt := hxs.lt g rfl
  have hT := h1.top g rfl
  have ne : ∀ {k : Nat} {cs : Array Value}, Blk w k 89 cs → k ≠ g := fun hk e => own_blk_ne hxs hk (by decide) (by rw [e]; rfl)
  refine ⟨hp.far (p := ⟨g, j, none⟩) (ne hp) _, hd.far (p := ⟨g, j, none⟩) (ne hd) _, hx.far (p := ⟨g, j, none⟩) (ne hx) _, h1.set hj z, h2.far (p := ⟨g, j, none⟩) ?_ _, h3.far (p := ⟨g, j, none⟩) ?_ _, ⟨ownsRow_setCell_below ho.m hT _, ownsRow_setCell_below ho.s hT _, ownsRow_setCell_below ho.c hT _, ho.hm, ho.hs, ho.hc⟩, hb.setCell (p := ⟨g, j, none⟩) (by show w0.heap.size ≤ g; omega) _⟩
  · rcases own_ne hys hxs (by decide) with e | e
    · rw [e]; simp
    · exact e
  · rcases own_ne hzs hxs (by decide) with e | e
    · rw [e]; simp
    · exact e
theorem HasRel.set2 (h : HasRel w0 P cf bD bX T D X B1 n1 d1 (some ⟨g, 0, none⟩) n2 d2 B3 n3 d3 C1 C2 C3 c1 c2 c3 w) {j : Nat} (hj : j < n2 * 2) (z : Int) : HasRel w0 P cf bD bX T D X B1 n1 d1 (some ⟨g, 0, none⟩) n2 d2 B3 n3 d3 C1 C2 C3 c1 c2 c3 (w.setCell ⟨g, j, none⟩ (.int .i64 z)) := by
  obtain ⟨hp, hd, hx, h1, h2, h3, ho, hb⟩ := h
  obtain ⟨ys, hys, _⟩ := h1.row
  obtain ⟨xs, hxs, _⟩ := h2.row
  obtain ⟨zs, hzs, _⟩ := h3.row
  have hlt := hxs.lt g rfl
  have hT := h2.top g rfl
  have ne : ∀ {k : Nat} {cs : Array Value}, Blk w k 89 cs → k ≠ g := fun hk e => own_blk_ne hxs hk (by decide) (by rw [e]; rfl)
  refine ⟨hp.far (p := ⟨g, j, none⟩) (ne hp) _, hd.far (p := ⟨g, j, none⟩) (ne hd) _, hx.far (p := ⟨g, j, none⟩) (ne hx) _, h1.far (p := ⟨g, j, none⟩) ?_ _, h2.set hj z, h3.far (p := ⟨g, j, none⟩) ?_ _, ⟨ownsRow_setCell_below ho.m hT _, ownsRow_setCell_below ho.s hT _, ownsRow_setCell_below ho.c hT _, ho.hm, ho.hs, ho.hc⟩, hb.setCell (p := ⟨g, j, none⟩) (by show w0.heap.size ≤ g; omega) _⟩
  · rcases own_ne hys hxs (by decide) with e | e
    · rw [e]; simp
    · exact e
  · rcases own_ne hzs hxs (by decide) with e | e
    · rw [e]; simp
    · exact e
theorem HasRel.set3 (h : HasRel w0 P cf bD bX T D X B1 n1 d1 B2 n2 d2 (some ⟨g, 0, none⟩) n3 d3 C1 C2 C3 c1 c2 c3 w) {j : Nat} (hj : j < n3 * 4) (z : Int) : HasRel w0 P cf bD bX T D X B1 n1 d1 B2 n2 d2 (some ⟨g, 0, none⟩) n3 d3 C1 C2 C3 c1 c2 c3 (w.setCell ⟨g, j, none⟩ (.int .i64 z)) := by
  obtain ⟨hp, hd, hx, h1, h2, h3, ho, hb⟩ := h
  obtain ⟨ys, hys, _⟩ := h1.row
  obtain ⟨zs, hzs, _⟩ := h2.row
  obtain ⟨xs, hxs, _⟩ := h3.row
  have hlt := hxs.lt g rfl
  have hT := h3.top g rfl
  have ne : ∀ {k : Nat} {cs : Array Value}, Blk w k 89 cs → k ≠ g := fun hk e => own_blk_ne hxs hk (by decide) (by rw [e]; rfl)
  refine ⟨hp.far (p := ⟨g, j, none⟩) (ne hp) _, hd.far (p := ⟨g, j, none⟩) (ne hd) _, hx.far (p := ⟨g, j, none⟩) (ne hx) _, h1.far (p := ⟨g, j, none⟩) ?_ _, h2.far (p := ⟨g, j, none⟩) ?_ _, h3.set hj z, ⟨ownsRow_setCell_below ho.m hT _, ownsRow_setCell_below ho.s hT _, ownsRow_setCell_below ho.c hT _, ho.hm, ho.hs, ho.hc⟩, hb.setCell (p := ⟨g, j, none⟩) (by show w0.heap.size ≤ g; omega) _⟩
  · rcases own_ne hys hxs (by decide) with e | e
    · rw [e]; simp
    · exact e
  · rcases own_ne hzs hxs (by decide) with e | e
    · rw [e]; simp
    · exact e
end

/-! ### A member, a security, whichever the number -/
theorem member_any (A1 A2 A3 : Option Addr) (n1 n2 n3 cp1 cp2 cp3 : Nat) (cf : Conf) (i : Int) (w : World) (hr : CfRd w A1 n1 A2 n2 A3 n3 cf) :
    ∃ (m : Memb) (k : Int), ((1 ≤ i ∧ i ≤ n1 ∧ k = 0 ∧ cf.members[(i - 1).toNat]? = some m) ∨ ((i < 1 ∨ (n1 : Int) < i) ∧ k = 9 ∧ m = ⟨0, 0⟩)) ∧
    Calls Try.prog 118 #[.agg #[.slice A1 n1 cp1, .slice A2 n2 cp2, .slice A3 n3 cp3, .int .i64 cf.line, .int .i64 cf.capital, .int .i64 cf.lead, .int .i64 cf.trades, .int .i64 cf.bids], .int .i64 i] w fun e w' => e = .returned (.tuple #[.agg #[.int .i64 m.coll, .int .i64 m.fund], .int .i64 k]) ∧ Below w.heap.size w w' := by
  by_cases h : 1 ≤ i ∧ i ≤ n1
  · have hl := hr.m.len Memb.cells_len (by omega)
    obtain ⟨x, hx⟩ : ∃ x, cf.members[(i - 1).toNat]? = some x := ⟨_, List.getElem?_eq_getElem (by omega)⟩
    exact ⟨x, 0, .inl ⟨h.1, h.2, rfl, hx⟩, member_yes A1 A2 A3 n1 n2 n3 cp1 cp2 cp3 cf i w hr h.1 h.2 x hx⟩
  · exact ⟨⟨0, 0⟩, 9, .inr ⟨by omega, rfl, rfl⟩, member_no A1 A2 A3 n1 n2 n3 cp1 cp2 cp3 cf i w (by omega)⟩
theorem sec_any (A1 A2 A3 : Option Addr) (n1 n2 n3 cp1 cp2 cp3 : Nat) (cf : Conf) (i : Int) (w : World) (hr : CfRd w A1 n1 A2 n2 A3 n3 cf) :
    ∃ (m : Secu) (k : Int), ((1 ≤ i ∧ i ≤ n2 ∧ k = 0 ∧ cf.secs[(i - 1).toNat]? = some m) ∨ ((i < 1 ∨ (n2 : Int) < i) ∧ k = 10 ∧ m = ⟨0, 0⟩)) ∧
    Calls Try.prog 119 #[.agg #[.slice A1 n1 cp1, .slice A2 n2 cp2, .slice A3 n3 cp3, .int .i64 cf.line, .int .i64 cf.capital, .int .i64 cf.lead, .int .i64 cf.trades, .int .i64 cf.bids], .int .i64 i] w fun e w' => e = .returned (.tuple #[.agg #[.int .i64 m.price, .int .i64 m.cap], .int .i64 k]) ∧ Below w.heap.size w w' := by
  by_cases h : 1 ≤ i ∧ i ≤ n2
  · have hl := hr.s.len Secu.cells_len (by omega)
    obtain ⟨x, hx⟩ : ∃ x, cf.secs[(i - 1).toNat]? = some x := ⟨_, List.getElem?_eq_getElem (by omega)⟩
    exact ⟨x, 0, .inl ⟨h.1, h.2, rfl, hx⟩, sec_yes A1 A2 A3 n1 n2 n3 cp1 cp2 cp3 cf i w hr h.1 h.2 x hx⟩
  · exact ⟨⟨0, 0⟩, 10, .inr ⟨by omega, rfl, rfl⟩, sec_no A1 A2 A3 n1 n2 n3 cp1 cp2 cp3 cf i w (by omega)⟩
end Go.Proofs.Ytfnhffcjhdeleaa
