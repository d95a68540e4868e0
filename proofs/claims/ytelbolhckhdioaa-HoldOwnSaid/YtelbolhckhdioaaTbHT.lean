import Derived.Test.YtelbolhckhdioaaTbHS
namespace Go.Proofs.Ytelbolhckhdioaa.TTbH
open Go.RowKit Go.Proofs.Ytelbolhckhdioaa

/-! ### Set -/
theorem set_row : ∀ (l : List RowT) (i : Nat) (f : RowT), l[i]? = some f → ∀ s : HoldV, ((((l.flatMap RowT.cells).set (i * 5 + 1) (.int .i64 s.k)).set (i * 5 + 2) (.int .i64 s.m)).set (i * 5 + 3) (.int .i64 s.a)).set (i * 5 + 4) (.int .i64 s.z) = (l.set i ⟨f.id, s⟩).flatMap RowT.cells
  | [], i, f, h, s => by simp at h
  | x :: l, 0, f, h, s => by
    simp at h; subst h
    simp [RowT.cells]
  | x :: l, i + 1, f, h, s => by
    have ih := set_row l i f (by simpa using h) s
    rw [List.set_cons_succ, List.flatMap_cons, List.flatMap_cons, ← ih]
    simp only [RowT.cells, List.cons_append, List.nil_append, show (i + 1) * 5 + 1 = i * 5 + 1 + 5 from by omega, show (i + 1) * 5 + 2 = i * 5 + 2 + 5 from by omega, show (i + 1) * 5 + 3 = i * 5 + 3 + 5 from by omega, show (i + 1) * 5 + 4 = i * 5 + 4 + 5 from by omega, List.set_cons_succ]
def SetTPost (g base : Nat) (room : Int) (v : Value) (S : List RowT) (w : World) (e : Ending) (w' : World) : Prop :=
  e = .returned (.int .i64 0) ∧ TabV w' g base room v S ∧ OnlyG g v w w'
set_option maxHeartbeats 8000000 in
set_option maxRecDepth 100000 in
theorem setT_yes (g base : Nat) (room : Int) (v : Value) (S : List RowT) (id : Int) (s : HoldV) (w : World) (hx : TabV w g base room v S) (hi : isT S id = true) (r : RowT) (hr : S[posT S id]? = some r) :
    Calls Try.prog 81 #[.pointer (some ⟨g, 0, none⟩), .int .i64 id, .agg #[.int .i64 s.k, .int .i64 s.m, .int .i64 s.a, .int .i64 s.z]] w (SetTPost g base room v (S.set (posT S id) ⟨r.id, s⟩) w) := by
  have hB0 := (Below.refl w.heap.size w).alloc (Nat.le_refl _) (.cells #[.int .i64 s.k, .int .i64 s.m, .int .i64 s.a, .int .i64 s.z] 60)
  have bz0 := Blk.new w 60 #[.int .i64 s.k, .int .i64 s.m, .int .i64 s.a, .int .i64 s.z] w.heap.size rfl
  obtain ⟨W, hW⟩ : ∃ W, Hid (w.alloc (.cells #[.int .i64 s.k, .int .i64 s.m, .int .i64 s.a, .int .i64 s.z] 60) = W) := ⟨_, Lib.hid rfl⟩
  obtain ⟨xb, hxb⟩ : ∃ xb, Hid (w.heap.size = xb) := ⟨_, Lib.hid rfl⟩
  rw [hW.out] at hB0 bz0
  rw [hxb.out] at bz0
  have HX := Lib.hid (hx.past hB0)
  have HF := Lib.hid (findT_any g base room v S id W HX.out)
  rw [hi] at HF
  have HL := (List.getElem?_eq_some_iff.1 hr).1
  obtain ⟨I, hI⟩ : ∃ I, Hid (posT S id = I) := ⟨_, Lib.hid rfl⟩
  have HR := Lib.hid hr
  rw [hI.out] at HF HR HL ⊢
  have HB0 := Lib.hid hB0
  have HZ := Lib.hid bz0
  clear hx hi hr hB0 bz0
  go_enter Try.func81, Try.ntmps81
  go_upto_region 1 with fail
  rw [hW.out, hxb.out]
  go_wp2_with fail
  refine HF.out.mono ?_
  rintro e w1 ⟨rfl, hb⟩
  have hx1 := HX.out.past hb
  have HZ1 := Lib.hid (HZ.out.past hb)
  have hB := Below.past HB0.out hb HB0.out.size
  obtain ⟨X, c, hv⟩ := hx1.form
  subst hv
  have p1 := hx1.blk.cell 1
  simp at p1
  obtain ⟨gv, cs, rfl, hbg, hbk⟩ := own_someZ hx1.row (by omega)
  obtain ⟨b, off, he, _, hc⟩ := (Rd.of_own hx1.row).elem RowT.cells_len HR.out HL
  cases he
  have c1 := hc 1 _ rfl
  have c2 := hc 2 _ rfl
  have c3 := hc 3 _ rfl
  have c4 := hc 4 _ rfl
  simp only [Nat.zero_add] at c1 c2 c3 c4
  have z1 := hbk.frozen (I * 5 + 1)
  have z2 := hbk.frozen (I * 5 + 2)
  have z3 := hbk.frozen (I * 5 + 3)
  have z4 := hbk.frozen (I * 5 + 4)
  have x0 := HZ1.out.cell 0
  have x1 := HZ1.out.cell 1
  have x2 := HZ1.out.cell 2
  have x3 := HZ1.out.cell 3
  simp at x0 x1 x2 x3
  have hz : (I : Int) < (S.length : Int) := by omega
  have hll : (S.set I ⟨r.id, s⟩).length = S.length := by simp
  have HV : Hid (TabV ((((w1.setCell ⟨gv, I * 5 + 1, none⟩ (.int .i64 s.k)).setCell ⟨gv, I * 5 + 2, none⟩ (.int .i64 s.m)).setCell ⟨gv, I * 5 + 3, none⟩ (.int .i64 s.a)).setCell ⟨gv, I * 5 + 4, none⟩ (.int .i64 s.z)) g base room (.slice (some ⟨gv, 0, none⟩) S.length c) (S.set I ⟨r.id, s⟩)) := Lib.hid (by
    have hgg : g ≠ gv := fun e => own_blk_ne hx1.row hx1.blk (by decide) (by rw [e]; rfl)
    refine ⟨⟨_, c, by rw [hll]⟩, (((hx1.blk.far (p := ⟨gv, I * 5 + 1, none⟩) hgg _).far (p := ⟨gv, I * 5 + 2, none⟩) hgg _).far (p := ⟨gv, I * 5 + 3, none⟩) hgg _).far (p := ⟨gv, I * 5 + 4, none⟩) hgg _, ?_, ris_set hx1.ris HR.out s, by rw [hll]; exact hx1.len, hx1.rm⟩
    rw [hll, ← set_row S I r HR.out s]
    exact own_setZ (own_setZ (own_setZ (own_setZ hx1.row (by omega) _) (by omega) _) (by omega) _) (by omega) _)
  have HO := Lib.hid (((((OnlyG.of_below (g := g) (v := .slice (some ⟨gv, 0, none⟩) S.length c) hB).setOwnZ ⟨gv, I * 5 + 1, none⟩ rfl (.int .i64 s.k)).setOwnZ ⟨gv, I * 5 + 2, none⟩ rfl (.int .i64 s.m)).setOwnZ ⟨gv, I * 5 + 3, none⟩ rfl (.int .i64 s.a)).setOwnZ ⟨gv, I * 5 + 4, none⟩ rfl (.int .i64 s.z))
  clear hx1 hc hb HF hbk hbg hll hB
  go_wp2_with fail
  go_region
  all_goals
    go_wp2_with fail
    go_ret
    exact ⟨rfl, HV.out.past (Below.drew (Below.refl _ _)), HO.out.drewZ⟩
set_option maxHeartbeats 2000000 in
theorem setT_no (g base : Nat) (room : Int) (v : Value) (S : List RowT) (id : Int) (s : HoldV) (w : World) (hx : TabV w g base room v S) (hi : isT S id = false) :
    Calls Try.prog 81 #[.pointer (some ⟨g, 0, none⟩), .int .i64 id, .agg #[.int .i64 s.k, .int .i64 s.m, .int .i64 s.a, .int .i64 s.z]] w fun e w' => e = .returned (.int .i64 8) ∧ Below w.heap.size w w' := by
  have hB0 := (Below.refl w.heap.size w).alloc (Nat.le_refl _) (.cells #[.int .i64 s.k, .int .i64 s.m, .int .i64 s.a, .int .i64 s.z] 60)
  obtain ⟨W, hW⟩ : ∃ W, Hid (w.alloc (.cells #[.int .i64 s.k, .int .i64 s.m, .int .i64 s.a, .int .i64 s.z] 60) = W) := ⟨_, Lib.hid rfl⟩
  rw [hW.out] at hB0
  have HF := Lib.hid (findT_any g base room v S id W (hx.past hB0))
  rw [hi] at HF
  have HB0 := Lib.hid hB0
  clear hx hi hB0
  go_enter Try.func81, Try.ntmps81
  go_upto_region 1 with fail
  rw [hW.out]
  go_wp2_with fail
  refine HF.out.mono ?_
  rintro e w1 ⟨rfl, hb⟩
  have HB := Lib.hid (Below.past HB0.out hb HB0.out.size)
  clear hb
  go_wp2_with fail
  go_ret
  exact ⟨rfl, HB.out⟩
end Go.Proofs.Ytelbolhckhdioaa.TTbH
