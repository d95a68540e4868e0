import Derived.Test.YtkdiongmegnicaaTabP
import Derived.IntWalk
namespace Go.Proofs.Ytkdiongmegnicaa
open Go.RowKit

/-! ### One row of a list is written: its two cells -/
theorem set2T : ∀ (l : List RowT) (i : Nat) (f : RowT), i < l.length → ((l.flatMap RowT.cells).set (i * 2) (.int .i64 f.id)).set (i * 2 + 1) (.string f.v) = (l.set i f).flatMap RowT.cells
  | [], i, f, h => by simp at h
  | x :: l, 0, f, _ => by simp [RowT.cells]
  | x :: l, i + 1, f, h => by
    have ih := set2T l i f (by simpa using h)
    rw [List.set_cons_succ, List.flatMap_cons, List.flatMap_cons, ← ih]
    simp only [RowT.cells, List.cons_append, List.nil_append, show (i + 1) * 2 = i * 2 + 2 from by omega, show i * 2 + 2 + 1 = i * 2 + 1 + 2 from by omega, List.set_cons_succ]
theorem own_set2T {w : World} {B g n c i : Nat} {e : TypeId} {l : List RowT} (h : w.ownsRow B e 2 (.slice (some ⟨g, 0, none⟩) n c) n (l.flatMap RowT.cells)) (hl : l.length = n) (hi : i < n) (f : RowT) :
    ((w.setCell ⟨g, i * 2, none⟩ (.int .i64 f.id)).setCell ⟨g, i * 2 + 1, none⟩ (.string f.v)).ownsRow B e 2 (.slice (some ⟨g, 0, none⟩) n c) n ((l.set i f).flatMap RowT.cells) := by
  rw [← set2T l i f (by omega)]
  exact own_setT (own_setT h (by omega) _) (by omega) _
theorem swapT_at {l : List RowT} {f y : RowT} {k : Nat} (hk : 0 < k) (hy : l[k - 1]? = some y) : ((l.take k ++ f :: l.drop k).set (k - 1) f).set k y = l.take (k - 1) ++ f :: l.drop (k - 1) := by
  obtain ⟨hlt, e⟩ := List.getElem?_eq_some_iff.1 hy
  obtain ⟨j, rfl⟩ : ∃ j, k = j + 1 := ⟨k - 1, by omega⟩
  simp only [Nat.add_sub_cancel] at hy hlt e ⊢
  have h1 : l.take (j + 1) = l.take j ++ [y] := by rw [List.take_add_one, hy]; rfl
  have h2 : l.drop j = y :: l.drop (j + 1) := by rw [← e]; exact List.drop_eq_getElem_cons hlt
  have hj : (l.take j).length = j := by rw [List.length_take]; omega
  rw [h1, h2, List.append_assoc, List.set_append, if_neg (by rw [hj]; omega), hj, Nat.sub_self, List.set_append, if_neg (by rw [hj]; omega), hj, show j + 1 - j = 1 from by omega]
  rfl
theorem own_swapT {V : World} {B gg off m c j : Nat} {e : TypeId} {l l' : List RowT} {f y : RowT} (h0 : off = 0) (h : V.ownsRow B e 2 (.slice (some ⟨gg, off, none⟩) (m + 1) c) (m + 1) (l.flatMap RowT.cells)) (hl : l.length = m + 1) (h1 : j - 1 < m + 1) (h2 : j < m + 1) (hs : (l.set (j - 1) f).set j y = l') :
    ((((V.setCell ⟨gg, off + (j - 1) * 2, none⟩ (.int .i64 f.id)).setCell ⟨gg, off + (j - 1) * 2 + 1, none⟩ (.string f.v)).setCell ⟨gg, off + j * 2, none⟩ (.int .i64 y.id)).setCell ⟨gg, off + j * 2 + 1, none⟩ (.string y.v)).ownsRow B e 2 (.slice (some ⟨gg, off, none⟩) (m + 1) c) (m + 1) (l'.flatMap RowT.cells) := by
  subst h0
  subst hs
  simp only [Nat.zero_add]
  exact own_set2T (own_set2T h hl h1 f) (by rw [List.length_set]; exact hl) h2 y
theorem below_swapT {V a : World} {B gg off j : Nat} {f y : RowT} (h : Below B a V) (hg : B ≤ gg) : Below B a ((((V.setCell ⟨gg, off + (j - 1) * 2, none⟩ (.int .i64 f.id)).setCell ⟨gg, off + (j - 1) * 2 + 1, none⟩ (.string f.v)).setCell ⟨gg, off + j * 2, none⟩ (.int .i64 y.id)).setCell ⟨gg, off + j * 2 + 1, none⟩ (.string y.v)) :=
  (((h.setCell (p := ⟨gg, off + (j - 1) * 2, none⟩) hg _).setCell (p := ⟨gg, off + (j - 1) * 2 + 1, none⟩) hg _).setCell (p := ⟨gg, off + j * 2, none⟩) hg _).setCell (p := ⟨gg, off + j * 2 + 1, none⟩) hg _
theorem rowsD_next {L : List RowT} {k : Nat} {f : RowT} (hT : L.take (k + 1) = L.take k ++ [f]) : rowsD (L.take (k + 1)) = putD (rowsD (L.take k)) f := by
  rw [hT, rowsD, List.foldl_append]; rfl

/-! ### The document's Rows -/
set_option maxHeartbeats 8000000 in
set_option maxRecDepth 100000 in
theorem refRowsT_any (g base : Nat) (room : Int) (u : Value) (L : List RowT) (w : World) (hx : QtbV w g base room u L) :
    Calls Try.prog 83 #[.pointer (some ⟨g, 0, none⟩)] w fun e w' => ∃ v, e = .returned v ∧ w'.ownsRow w.heap.size 57 2 v L.length ((rowsD L).flatMap RowT.cells) ∧ Below w.heap.size w w' := by
  obtain ⟨A, c, hv⟩ := hx.form
  subst hv
  have hl := hx.len
  have hrd := Rd.of_own hx.row
  have bg := hx.blk
  obtain ⟨n, hn⟩ : ∃ n, Hid (L.length = n) := ⟨_, Lib.hid rfl⟩
  rw [hn.out] at bg hrd hl ⊢
  have HL := hn
  have HBG := Lib.hid bg
  obtain ⟨j0, hj0, jz0, jz1, jz2⟩ := info_parts qrowInfo
  have p1 := bg.cell 1
  simp at p1
  clear bg hx
  go_enter Try.func83, Try.ntmps83
  go_wp2_with fail
  clear p1
  go_loopw [3, 4, 5] (fun v i _ wr => ∃ k : Nat, k ≤ n ∧ i = .int .i64 k ∧ Hid ((rowsD (L.take k)).length = k) ∧ wr.ownsRow w.heap.size 57 2 v k ((rowsD (L.take k)).flatMap RowT.cells) ∧ Below w.heap.size w wr) (fun _ i _ _ => n - (intOf i).toNat)
  case atStart => exact ⟨0, Nat.zero_le _, rfl, Lib.hid rfl, World.ownsRow_nil _ _ _ _, Below.refl _ _⟩
  case round =>
    obtain ⟨m, hk, rfl, HM, hown, hb⟩ := hrel
    have bg1 := HBG.out.past hb
    have p1 := bg1.cell 1
    simp at p1
    by_cases hlt : m < n
    · have hlz : (m : Int) < (n : Int) := by omega
      have hg_f : L[m]? = some (L[m]'(by have := HL.out; omega)) := List.getElem?_eq_getElem _
      obtain ⟨b_f, off_f, rfl, hbb_f, hc_f⟩ := (hrd.below hb).elem RowT.cells_len hg_f hlt
      have HT_f := Lib.hid (show L.take (m + 1) = L.take m ++ [(L[m]'(by have := HL.out; omega))] from List.take_succ_eq_append_getElem (by have := HL.out; omega))
      have HM_f := Lib.hid (show (L[m]'(by have := HL.out; omega)) ∈ L from List.getElem_mem _)
      generalize (L[m]'(by have := HL.out; omega)) = f at *
      have c0 := hc_f 0 _ rfl
      have c1 := hc_f 1 _ rfl
      clear hc_f hg_f
      simp only [Nat.add_zero] at c0
      have HF := Lib.hid (rowsD_next HT_f.out)
      have HSO := Lib.hid (rowsD_sorted (L.take m))
      have hs := hb.size
      clear bg1
      obtain ⟨cur, hcur⟩ : ∃ cur, Hid (rowsD (L.take m) = cur) := ⟨_, Lib.hid rfl⟩
      rw [hcur.out] at HF HSO HM hown
      obtain ⟨A5, c5, rfl⟩ := own_form hown
      go_wp2_with (at_builtin; refine wpList_append_lit _ _ rfl (.tmp 17) (.tmp 25) 45 rfl w.heap.size 57 j0 _ 2 24 Try.underlying45 hj0 jz0 jz1 jz2 rfl (by decide) _ _ _ rfl hown _ 1 1 rfl (by first | rfl | simp) rfl (by simp [Value.oneCell']) (by omega) (by omega) (by omega) ?_; intro v' w' hown' hg'; have hbw := below_own (hb.alloc hs _) hg' hown (by simp; omega) (Nat.le_refl _); obtain ⟨A6, c6, rfl⟩ := own_form hown')
      have HO0 : Hid (w'.ownsRow w.heap.size 57 2 (.slice A6 (m + 1) c6) (m + 1) ((cur.take m ++ f :: cur.drop m).flatMap RowT.cells)) := Lib.hid (by
        rw [List.take_of_length_le (by rw [HM.out]; exact Nat.le_refl _), List.drop_of_length_le (by rw [HM.out]; exact Nat.le_refl _), List.flatMap_append]
        exact hown')
      clear p1 c0 c1 hown' hg' hown
      go_loopw [5] (fun kk wz => ∃ j : Nat, j ≤ m ∧ kk = .int .i64 j ∧ Hid (wz.ownsRow w.heap.size 57 2 (.slice A6 (m + 1) c6) (m + 1) ((cur.take j ++ f :: cur.drop j).flatMap RowT.cells)) ∧ Hid (∀ x ∈ cur.drop j, f.id < x.id) ∧ Below w.heap.size w wz) (fun kk _ => (intOf kk).toNat)
      case atStart => exact ⟨m, Nat.le_refl _, rfl, HO0, Lib.hid (by rw [List.drop_of_length_le (by rw [HM.out]; exact Nat.le_refl _)]; simp), hbw⟩
      case round =>
        clear HO0 hbw
        obtain ⟨j, hj, rfl, HO, HD, hbz⟩ := hrel
        by_cases hj0' : j = 0
        · subst hj0'
          have HP : Hid (putD cur f = cur.take 0 ++ f :: cur.drop 0) := Lib.hid (by rw [putD_top HD.out]; rfl)
          have qz : decide ((0 : Int) < 0) = false := rfl
          go_wp2_with fail
          go_quiet (fail)
          go_wp2_with fail
          go_roundw
          case rel => exact ⟨m + 1, by omega, by go_num, Lib.hid (by rw [HF.out, (putD_perm cur f).length_eq, List.length_cons, HM.out]), by rw [HF.out, HP.out]; exact own_drewN HO.out nq, below_drewN hbz nq⟩
          case measure => simp [intOf]; omega
        · have q2 : (0 : Int) < (j : Int) := by omega
          have q3 : (1 : Int) ≤ (j : Int) := by omega
          have q4 : 0 < j := by omega
          obtain ⟨y, hy⟩ : ∃ y, cur[j - 1]? = some y := ⟨_, List.getElem?_eq_getElem (by have := HM.out; omega)⟩
          have hlen : (cur.take j).length = j := by rw [List.length_take]; have := HM.out; omega
          have hgf : (cur.take j ++ f :: cur.drop j)[j]? = some f := by rw [List.getElem?_append_right (by omega), hlen, Nat.sub_self]; rfl
          have hgy : (cur.take j ++ f :: cur.drop j)[j - 1]? = some y := by rw [List.getElem?_append_left (by omega), List.getElem?_take, if_pos (by omega)]; exact hy
          have HY := Lib.hid hy
          obtain ⟨gg, off, hA, hoff, hg1, hBk⟩ : ∃ gg off, A6 = some ⟨gg, off, none⟩ ∧ Hid (off = 0) ∧ w.heap.size ≤ gg ∧ ∃ cs, Blk wr gg 57 cs := by
            rcases HO.out.2 with ⟨_, h0⟩ | ⟨gg, cap, cs, e, h1, h2, _⟩
            · omega
            · injection e with e1 e2 e3
              exact ⟨gg, 0, e1, Lib.hid rfl, h1, cs, h2⟩
          subst hA
          obtain ⟨cs, hBk⟩ := hBk
          obtain ⟨b1, o1, e1, hb1, hc1⟩ := (Rd.of_own HO.out).elem RowT.cells_len hgf (by omega)
          cases e1
          obtain ⟨b2, o2, e2, hb2, hc2⟩ := (Rd.of_own HO.out).elem RowT.cells_len hgy (by omega)
          cases e2
          have c0 := hc1 0 _ rfl
          have d0 := hc2 0 _ rfl
          have c1 := hc1 1 _ rfl
          have d1 := hc2 1 _ rfl
          simp only [Nat.add_zero] at c0 d0
          have y0 := hBk.frozen (off + j * 2)
          have z0 := hBk.frozen (off + (j - 1) * 2)
          have y1 := hBk.frozen (off + j * 2 + 1)
          have z1 := hBk.frozen (off + (j - 1) * 2 + 1)
          have HJ : Hid (((j - 1 : Nat) : Int) = (j : Int) - 1) := Lib.hid (by omega)
          have HLN : Hid ((cur.take j ++ f :: cur.drop j).length = m + 1) := Lib.hid (by rw [List.length_append, List.length_cons, List.length_take, List.length_drop]; have := HM.out; omega)
          have s5 : j - 1 < m + 1 := by omega
          have s6 : j < m + 1 := by omega
          have s7 : j - 1 ≤ m := by omega
          have s1 : IntKind.i64.wrap ((j : Int) - 1) = (j : Int) - 1 := IntWalk.i64_in _ (by omega)
          have s2 : (j : Int) - 1 < (m : Int) + 1 := by omega
          have s3 : (j : Int) < (m : Int) + 1 := by omega
          have s4 : ((j : Int) - 1).toNat = j - 1 := by omega
          have hggl := hBk.lt
          clear hc1 hc2 hgf hgy hy hBk hlen
          by_cases hp : f.id < y.id
          · have r1 := decide_eq_true hp
            have HD2 : Hid (∀ x ∈ cur.drop (j - 1), f.id < x.id) := Lib.hid (by
              obtain ⟨hlt', e⟩ := List.getElem?_eq_some_iff.1 HY.out
              have h2 : cur.drop (j - 1) = y :: cur.drop j := by
                rw [List.drop_eq_getElem_cons hlt', e, show j - 1 + 1 = j by omega]
              intro x hx
              rw [h2] at hx
              rcases List.mem_cons.1 hx with rfl | hx
              · exact hp
              · exact HD.out x hx)
            have HSW := Lib.hid (swapT_at (f := f) (by omega) HY.out)
            clear hp
            go_wp2_with fail
            go_quiet (fail)
            have HO2 := Lib.hid (own_drewN HO.out nq)
            have hbV := below_drewN hbz nq
            have C0 : (wr.drewN nq).cell? _ = _ := c0
            have D0 : (wr.drewN nq).cell? _ = _ := d0
            have Y0 : (wr.drewN nq).frozen? _ = _ := y0
            have Z0 : (wr.drewN nq).frozen? _ = _ := z0
            have C1 : (wr.drewN nq).cell? _ = _ := c1
            have D1 : (wr.drewN nq).cell? _ = _ := d1
            have Y1 : (wr.drewN nq).frozen? _ = _ := y1
            have Z1 : (wr.drewN nq).frozen? _ = _ := z1
            clear c0 d0 y0 z0 c1 d1 y1 z1
            generalize wr.drewN nq = V at HO2 hbV C0 D0 Y0 Z0 C1 D1 Y1 Z1 ⊢
            go_wp2_with fail
            go_region
            have HSR : Hid (((((V.setCell ⟨gg, off + (j - 1) * 2, none⟩ (.int .i64 f.id)).setCell ⟨gg, off + (j - 1) * 2 + 1, none⟩ (.string f.v)).setCell ⟨gg, off + j * 2, none⟩ (.int .i64 y.id)).setCell ⟨gg, off + j * 2 + 1, none⟩ (.string y.v)).ownsRow w.heap.size 57 2 (.slice (some ⟨gg, off, none⟩) (m + 1) c6) (m + 1) ((cur.take (j - 1) ++ f :: cur.drop (j - 1)).flatMap RowT.cells)) := Lib.hid (own_swapT hoff.out HO2.out HLN.out s5 s6 HSW.out)
            have HBR : Below w.heap.size w ((((V.setCell ⟨gg, off + (j - 1) * 2, none⟩ (.int .i64 f.id)).setCell ⟨gg, off + (j - 1) * 2 + 1, none⟩ (.string f.v)).setCell ⟨gg, off + j * 2, none⟩ (.int .i64 y.id)).setCell ⟨gg, off + j * 2 + 1, none⟩ (.string y.v)) := below_swapT hbV hg1
            obtain ⟨V2, hV2⟩ : ∃ V2, Hid (((((V.setCell ⟨gg, off + (j - 1) * 2, none⟩ (.int .i64 f.id)).setCell ⟨gg, off + (j - 1) * 2 + 1, none⟩ (.string f.v)).setCell ⟨gg, off + j * 2, none⟩ (.int .i64 y.id)).setCell ⟨gg, off + j * 2 + 1, none⟩ (.string y.v)) = V2) := ⟨_, Lib.hid rfl⟩
            rw [hV2.out] at HSR HBR
            rw [hV2.out]
            clear C0 C1 D0 D1 Y0 Y1 Z0 Z1 s4
            go_wp2_with fail
            clear s1
            go_roundw
            case rel =>
              exact ⟨j - 1, s7, by rw [HJ.out], Lib.hid (own_drewN HSR.out 1), HD2, HBR.drew⟩
            case measure => simp [intOf]; omega
          · have r1 := decide_eq_false hp
            have HP := Lib.hid (putD_stop HSO.out (by omega) HY.out hp HD.out)
            clear hp
            go_wp2_with fail
            go_quiet (fail)
            clear s1 s4
            go_wp2_with fail
            go_roundw
            case rel => exact ⟨m + 1, by omega, by go_num, Lib.hid (by rw [HF.out, (putD_perm cur f).length_eq, List.length_cons, HM.out]), by rw [HF.out, HP.out]; exact own_drewN HO.out nq, below_drewN hbz nq⟩
            case measure => simp [intOf]; omega
    · have hlz : ¬ (m : Int) < (n : Int) := by omega
      obtain rfl : n = m := by omega
      have hT : L.take n = L := List.take_of_length_le (by rw [hn.out]; exact Nat.le_refl _)
      rw [hT] at hown
      clear hT
      go_wp2_with fail
      go_ret
      exact ⟨_, rfl, hown, hb⟩

end Go.Proofs.Ytkdiongmegnicaa
