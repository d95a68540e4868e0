import Derived.Test.YtkdiongmegnicaaTabC
namespace Go.Proofs.Ytkdiongmegnicaa
open Go.RowKit

/-! ### Copy; Set -/
theorem own_monoT {w : World} {base base' : Nat} {e : TypeId} {size n : Nat} {v : Value} {xs : List Value} (h : w.ownsRow base e size v n xs) (hb : base' ≤ base) : w.ownsRow base' e size v n xs := by
  refine ⟨h.1, ?_⟩
  rcases h.2 with h0 | ⟨g, cap, cur, rfl, hb1, hh, h1⟩
  · exact .inl h0
  · exact .inr ⟨g, cap, cur, rfl, Nat.le_trans hb hb1, hh, h1⟩
def CopyTPost (room : Int) (S : List RowT) (w : World) (e : Ending) (w' : World) : Prop :=
  ∃ g' v', e = .returned (.pointer (some ⟨g', 0, none⟩)) ∧ w.heap.size ≤ g' ∧ TabV w' g' w.heap.size room v' S ∧ Below w.heap.size w w'
set_option maxHeartbeats 4000000 in
set_option maxRecDepth 100000 in
theorem copyT_any (g base : Nat) (room : Int) (v : Value) (S : List RowT) (w : World) (hx : TabV w g base room v S) :
    Calls Try.prog 29 #[.pointer (some ⟨g, 0, none⟩)] w (CopyTPost room S w) := by
  obtain ⟨X, c, hv⟩ := hx.form
  subst hv
  have HRS := Lib.hid hx.ris
  have hln := hx.len
  have hrm := hx.rm
  have HBG := Lib.hid hx.blk
  have hC := Lib.hid (cloneR_any X S.length c S w.drew ((Rd.of_own hx.row).past (Below.drew (Below.refl _ _))) hx.len)
  obtain ⟨n, hn⟩ : ∃ n, Hid (S.length = n) := ⟨_, Lib.hid rfl⟩
  rw [hn.out] at hC HBG
  have p0 := HBG.out.cell 0
  have p1 := HBG.out.cell 1
  simp at p0 p1
  clear hx
  go_enter Try.func29, Try.ntmps29
  go_wp2_with fail
  go_region_with (go_at_call 85; refine hC.out.mono ?_; rintro e w1 ⟨v, rfl, hov, hb0⟩; obtain ⟨A2, c2, rfl⟩ := own_form hov; have hb : Below w.heap.size w w1 := undrewT hb0; have bl1 := HBG.out.past hb; have m0 := bl1.cell 0; have m1 := bl1.cell 1; simp at m0 m1)
  all_goals
    have hs := hb.size
    have hbz := (Below.refl w1.heap.size w1).alloc (Nat.le_refl _) (.cells #[.int .i64 room, .slice A2 n c2] 144)
    have HV : Hid (TabV (w1.alloc (.cells #[.int .i64 room, .slice A2 n c2] 144)) w1.heap.size w.heap.size room (.slice A2 n c2) S) :=
      Lib.hid ⟨⟨A2, c2, by rw [hn.out]⟩, Blk.new w1 144 _ _ rfl, by rw [hn.out]; exact own_pastT hov hbz, HRS.out, hln, hrm⟩
    have HBB := Lib.hid (Below.past hb hbz hs)
    clear hov hb0 hb hbz bl1
    go_wp2_with fail
    go_ret
    exact ⟨_, _, rfl, hs, HV.out, HBB.out⟩
theorem own_someT {w : World} {base : Nat} {e : TypeId} {size n c : Nat} {A : Option Addr} {xs : List Value} (h : w.ownsRow base e size (.slice A n c) n xs) (hn : 0 < n) : ∃ g cs, A = some ⟨g, 0, none⟩ ∧ base ≤ g ∧ Blk w g e cs := by
  rcases h.2 with ⟨_, h0⟩ | ⟨gg, cap, cs, e, h1, h2, _⟩
  · omega
  · injection e with e1 e2 e3
    exact ⟨gg, cs, e1, h1, h2⟩
theorem own_setT {w : World} {B g : Nat} {e : TypeId} {sz n c j : Nat} {xs : List Value} (h : w.ownsRow B e sz (.slice (some ⟨g, 0, none⟩) n c) n xs) (hj : j < n * sz) (u : Value) : (w.setCell ⟨g, j, none⟩ u).ownsRow B e sz (.slice (some ⟨g, 0, none⟩) n c) n (xs.set j u) := by
  refine ⟨by rw [List.length_set]; exact h.1, ?_⟩
  rcases h.2 with ⟨h0, _⟩ | ⟨g', cap, cur, hv, hb, hh, h1, h2, h3, h4⟩
  · cases h0
  · cases hv
    refine .inr ⟨g, c, cur.setIfInBounds j u, rfl, hb, Blk.put (show Blk w g e cur from hh) j u, h1, h2, by simpa using h3, ?_⟩
    rw [Array.toList_setIfInBounds, List.take_set, h4]
theorem OnlyG.setOwnT {g : Nat} {v : Value} {a w : World} (h : OnlyG g v a w) (p : Addr) (hp : v.ownBlock = some p.block) (u : Value) : OnlyG g v a (w.setCell p u) :=
  ⟨h.os, h.tape, h.output, by have := h.size; simpa [World.setCell] using this, fun k hk h1 h2 => (Below.heap_setCell w p u k (fun e => h2 (by rw [hp, e]))).trans (h.block k hk h1 h2)⟩
theorem set_row : ∀ (l : List RowT) (i : Nat) (f : RowT), l[i]? = some f → ∀ s : ByteArray, (l.flatMap RowT.cells).set (i * 2 + 1) (.string s) = (l.set i ⟨f.id, s⟩).flatMap RowT.cells
  | [], i, f, h, s => by simp at h
  | x :: l, 0, f, h, s => by
    simp at h; subst h
    simp [RowT.cells]
  | x :: l, i + 1, f, h, s => by
    have ih := set_row l i f (by simpa using h) s
    rw [List.set_cons_succ, List.flatMap_cons, List.flatMap_cons, ← ih]
    simp only [RowT.cells, List.cons_append, List.nil_append, show (i + 1) * 2 + 1 = i * 2 + 1 + 2 from by omega, List.set_cons_succ]
theorem ris_set {S : List RowT} (h : RisT S) {i : Nat} {f : RowT} (hf : S[i]? = some f) (s : ByteArray) : RisT (S.set i ⟨f.id, s⟩) := by
  have key : ∀ (j : Nat) (x : RowT), (S.set i ⟨f.id, s⟩)[j]? = some x → ∃ y, S[j]? = some y ∧ y.id = x.id := fun j x hx => by
    rw [List.getElem?_set] at hx
    split at hx
    · rename_i e
      subst e
      split at hx
      · cases hx; exact ⟨f, hf, rfl⟩
      · cases hx
    · exact ⟨x, hx, rfl⟩
  intro a b x y hab hx hy
  obtain ⟨x', hx', e1⟩ := key a x hx
  obtain ⟨y', hy', e2⟩ := key b y hy
  have := h a b x' y' hab hx' hy'
  omega
def SetTPost (g base : Nat) (room : Int) (v : Value) (S : List RowT) (w : World) (e : Ending) (w' : World) : Prop :=
  e = .returned (.int .i64 0) ∧ TabV w' g base room v S ∧ OnlyG g v w w'
set_option maxHeartbeats 4000000 in
theorem setT_yes (g base : Nat) (room : Int) (v : Value) (S : List RowT) (id : Int) (s : ByteArray) (w : World) (hx : TabV w g base room v S) (hi : isT S id = true) (r : RowT) (hr : S[posT S id]? = some r) :
    Calls Try.prog 33 #[.pointer (some ⟨g, 0, none⟩), .int .i64 id, .string s] w (SetTPost g base room v (S.set (posT S id) ⟨r.id, s⟩) w) := by
  have HF := Lib.hid (findT_any g base room v S id w hx)
  rw [hi] at HF
  have HX := Lib.hid hx
  have HL := (List.getElem?_eq_some_iff.1 hr).1
  obtain ⟨I, hI⟩ : ∃ I, Hid (posT S id = I) := ⟨_, Lib.hid rfl⟩
  have HR := Lib.hid hr
  rw [hI.out] at HF HR HL ⊢
  clear hx hi hr
  go_enter Try.func33, Try.ntmps33
  go_wp2_with fail
  refine HF.out.mono ?_
  rintro e w1 ⟨rfl, hb⟩
  have hx1 := HX.out.past hb
  obtain ⟨X, c, hv⟩ := hx1.form
  subst hv
  have p1 := hx1.blk.cell 1
  simp at p1
  obtain ⟨gv, cs, rfl, hbg, hbk⟩ := own_someT hx1.row (by omega)
  obtain ⟨b, off, he, _, hc⟩ := (Rd.of_own hx1.row).elem RowT.cells_len HR.out HL
  cases he
  have c1 := hc 1 _ rfl
  simp only [Nat.zero_add] at c1
  have z1 := hbk.frozen (I * 2 + 1)
  have hz : (I : Int) < (S.length : Int) := by omega
  have hll : (S.set I ⟨r.id, s⟩).length = S.length := by simp
  have HV : Hid (TabV (w1.setCell ⟨gv, I * 2 + 1, none⟩ (.string s)) g base room (.slice (some ⟨gv, 0, none⟩) S.length c) (S.set I ⟨r.id, s⟩)) := Lib.hid (by
    refine ⟨⟨_, c, by rw [hll]⟩, hx1.blk.far (p := ⟨gv, I * 2 + 1, none⟩) (fun e => own_blk_ne hx1.row hx1.blk (by decide) (by rw [e]; rfl)) _, ?_, ris_set hx1.ris HR.out s, by rw [hll]; exact hx1.len, hx1.rm⟩
    rw [hll, ← set_row S I r HR.out s]
    exact own_setT hx1.row (by omega) _)
  have HO := Lib.hid ((OnlyG.of_below (g := g) (v := .slice (some ⟨gv, 0, none⟩) S.length c) hb).setOwnT ⟨gv, I * 2 + 1, none⟩ rfl (.string s))
  clear hx1 hc hb HF hbk hbg hll
  go_wp2_with fail
  go_ret
  exact ⟨rfl, HV.out, HO.out⟩
set_option maxHeartbeats 2000000 in
theorem setT_no (g base : Nat) (room : Int) (v : Value) (S : List RowT) (id : Int) (s : ByteArray) (w : World) (hx : TabV w g base room v S) (hi : isT S id = false) :
    Calls Try.prog 33 #[.pointer (some ⟨g, 0, none⟩), .int .i64 id, .string s] w fun e w' => e = .returned (.int .i64 8) ∧ Below w.heap.size w w' := by
  have HF := Lib.hid (findT_any g base room v S id w hx)
  rw [hi] at HF
  clear hx hi
  go_enter Try.func33, Try.ntmps33
  go_wp2_with fail
  refine HF.out.mono ?_
  rintro e w1 ⟨rfl, hb⟩
  go_wp2_with fail
  go_ret
  exact ⟨rfl, hb⟩
theorem setT_nil (id : Int) (s : ByteArray) (w : World) : Calls Try.prog 33 #[.pointer none, .int .i64 id, .string s] w fun e w' => e = .returned (.int .i64 8) ∧ w = w' := by
  go_enter Try.func33, Try.ntmps33
  go_wp2_with fail
  refine (findT_nil _ _).mono ?_
  rintro e w1 ⟨rfl, rfl⟩
  go_wp2_with fail
  go_ret
  exact ⟨rfl, rfl⟩
end Go.Proofs.Ytkdiongmegnicaa
