import Derived.Test.YtelbolhckhdioaaGreatRpW
import Derived.Test.YtelbolhckhdioaaGreatRgB
namespace Go.Proofs.YtelbolhckhdioaaGreat
open Go.RowKit

/-! ### Trades by their numbers, as rows -/
def tC (x : TRow) : List Value := trD x.v
theorem tC_len (x : TRow) : (tC x).length = 6 := rfl
def mkT (r : RowR) : TRow := ⟨r.t.id, r.t⟩
def curR (c : Int) (l : List RowR) : List TRow := (l.filter (hereR c)).map mkT
def trR (c : Int) (l : List RowR) (k : Nat) : List TRow := TTbR.rowsD (curR c (l.take k))
theorem curR_yes {c : Int} {l : List RowR} {k : Nat} {f : RowR} (hT : l.take (k + 1) = l.take k ++ [f]) (he : hereR c f = true) : curR c (l.take (k + 1)) = curR c (l.take k) ++ [mkT f] := by
  rw [curR, filtR_yes hT he, List.map_append]; rfl
theorem curR_no {c : Int} {l : List RowR} {k : Nat} {f : RowR} (hT : l.take (k + 1) = l.take k ++ [f]) (he : hereR c f = false) : curR c (l.take (k + 1)) = curR c (l.take k) := by
  rw [curR, filtR_no hT he]; rfl
theorem trR_yes {c : Int} {l : List RowR} {k : Nat} {f : RowR} (hT : l.take (k + 1) = l.take k ++ [f]) (he : hereR c f = true) : trR c l (k + 1) = TTbR.putD (trR c l k) (mkT f) := by
  rw [trR, curR_yes hT he, TTbR.rowsD, List.foldl_append]; rfl
theorem trR_no {c : Int} {l : List RowR} {k : Nat} {f : RowR} (hT : l.take (k + 1) = l.take k ++ [f]) (he : hereR c f = false) : trR c l (k + 1) = trR c l k := by
  rw [trR, curR_no hT he]; rfl
theorem curR_id {c : Int} {l : List RowR} : ∀ x ∈ curR c l, x.id = x.v.id := fun x hx => by
  obtain ⟨r, _, rfl⟩ := List.mem_map.1 hx; rfl
theorem trR_id {c : Int} {l : List RowR} {k : Nat} : ∀ x ∈ trR c l k, x.id = x.v.id := fun x hx => curR_id x ((TTbR.rowsD_perm _).mem_iff.1 hx)
theorem trR_len (c : Int) (l : List RowR) (k : Nat) : (trR c l k).length ≤ k := by
  rw [trR, (TTbR.rowsD_perm _).length_eq, curR, List.length_map]
  exact Nat.le_trans (List.length_filter_le _ _) (by rw [List.length_take]; omega)

/-! ### One trade of a list is written: its six cells -/
theorem set6R : ∀ (l : List TRow) (i : Nat) (f : TRow), i < l.length → (((((((l.flatMap tC).set (i * 6) (.int .i64 f.v.id)).set (i * 6 + 1) (.int .i64 f.v.buyer)).set (i * 6 + 2) (.int .i64 f.v.seller)).set (i * 6 + 3) (.int .i64 f.v.sec)).set (i * 6 + 4) (.int .i64 f.v.qty)).set (i * 6 + 5) (.int .i64 f.v.price)) = (l.set i f).flatMap tC
  | [], i, f, h => by simp at h
  | x :: l, 0, f, _ => by simp [tC, trD]
  | x :: l, i + 1, f, h => by
    have ih := set6R l i f (by simpa using h)
    rw [List.set_cons_succ, List.flatMap_cons, List.flatMap_cons, ← ih]
    simp only [tC, trD, List.cons_append, List.nil_append, show (i + 1) * 6 = i * 6 + 6 from by omega, show i * 6 + 6 + 1 = i * 6 + 1 + 6 from by omega, show i * 6 + 6 + 2 = i * 6 + 2 + 6 from by omega, show i * 6 + 6 + 3 = i * 6 + 3 + 6 from by omega, show i * 6 + 6 + 4 = i * 6 + 4 + 6 from by omega, show i * 6 + 6 + 5 = i * 6 + 5 + 6 from by omega, List.set_cons_succ]
theorem own_set6R {w : World} {B g n c i : Nat} {e : TypeId} {l : List TRow} (h : w.ownsRow B e 6 (.slice (some ⟨g, 0, none⟩) n c) n (l.flatMap tC)) (hl : l.length = n) (hi : i < n) (f : TRow) :
    ((((((w.setCell ⟨g, i * 6, none⟩ (.int .i64 f.v.id)).setCell ⟨g, i * 6 + 1, none⟩ (.int .i64 f.v.buyer)).setCell ⟨g, i * 6 + 2, none⟩ (.int .i64 f.v.seller)).setCell ⟨g, i * 6 + 3, none⟩ (.int .i64 f.v.sec)).setCell ⟨g, i * 6 + 4, none⟩ (.int .i64 f.v.qty)).setCell ⟨g, i * 6 + 5, none⟩ (.int .i64 f.v.price)).ownsRow B e 6 (.slice (some ⟨g, 0, none⟩) n c) n ((l.set i f).flatMap tC) := by
  rw [← set6R l i f (by omega)]
  exact own_setZ (own_setZ (own_setZ (own_setZ (own_setZ (own_setZ h (by omega) _) (by omega) _) (by omega) _) (by omega) _) (by omega) _) (by omega) _
theorem swapR_at {l : List TRow} {f y : TRow} {k : Nat} (hk : 0 < k) (hy : l[k - 1]? = some y) : ((l.take k ++ f :: l.drop k).set (k - 1) f).set k y = l.take (k - 1) ++ f :: l.drop (k - 1) := by
  obtain ⟨hlt, e⟩ := List.getElem?_eq_some_iff.1 hy
  obtain ⟨j, rfl⟩ : ∃ j, k = j + 1 := ⟨k - 1, by omega⟩
  simp only [Nat.add_sub_cancel] at hy hlt e ⊢
  have h1 : l.take (j + 1) = l.take j ++ [y] := by rw [List.take_add_one, hy]; rfl
  have h2 : l.drop j = y :: l.drop (j + 1) := by rw [← e]; exact List.drop_eq_getElem_cons hlt
  have hj : (l.take j).length = j := by rw [List.length_take]; omega
  rw [h1, h2, List.append_assoc, List.set_append, if_neg (by rw [hj]; omega), hj, Nat.sub_self, List.set_append, if_neg (by rw [hj]; omega), hj, show j + 1 - j = 1 from by omega]
  rfl
theorem own_swapR {V : World} {B gg off m c j : Nat} {e : TypeId} {l l' : List TRow} {f y : TRow} (h0 : off = 0) (h : V.ownsRow B e 6 (.slice (some ⟨gg, off, none⟩) (m + 1) c) (m + 1) (l.flatMap tC)) (hl : l.length = m + 1) (h1 : j - 1 < m + 1) (h2 : j < m + 1) (hs : (l.set (j - 1) f).set j y = l') :
    ((((((((((((V.setCell ⟨gg, off + (j - 1) * 6, none⟩ (.int .i64 f.v.id)).setCell ⟨gg, off + (j - 1) * 6 + 1, none⟩ (.int .i64 f.v.buyer)).setCell ⟨gg, off + (j - 1) * 6 + 2, none⟩ (.int .i64 f.v.seller)).setCell ⟨gg, off + (j - 1) * 6 + 3, none⟩ (.int .i64 f.v.sec)).setCell ⟨gg, off + (j - 1) * 6 + 4, none⟩ (.int .i64 f.v.qty)).setCell ⟨gg, off + (j - 1) * 6 + 5, none⟩ (.int .i64 f.v.price)).setCell ⟨gg, off + j * 6, none⟩ (.int .i64 y.v.id)).setCell ⟨gg, off + j * 6 + 1, none⟩ (.int .i64 y.v.buyer)).setCell ⟨gg, off + j * 6 + 2, none⟩ (.int .i64 y.v.seller)).setCell ⟨gg, off + j * 6 + 3, none⟩ (.int .i64 y.v.sec)).setCell ⟨gg, off + j * 6 + 4, none⟩ (.int .i64 y.v.qty)).setCell ⟨gg, off + j * 6 + 5, none⟩ (.int .i64 y.v.price)).ownsRow B e 6 (.slice (some ⟨gg, off, none⟩) (m + 1) c) (m + 1) (l'.flatMap tC) := by
  subst h0
  subst hs
  simp only [Nat.zero_add]
  exact own_set6R (own_set6R h hl h1 f) (by rw [List.length_set]; exact hl) h2 y
theorem below_swapR {V a : World} {B gg off j : Nat} {f y : TRow} (h : Below B a V) (hg : B ≤ gg) : Below B a ((((((((((((V.setCell ⟨gg, off + (j - 1) * 6, none⟩ (.int .i64 f.v.id)).setCell ⟨gg, off + (j - 1) * 6 + 1, none⟩ (.int .i64 f.v.buyer)).setCell ⟨gg, off + (j - 1) * 6 + 2, none⟩ (.int .i64 f.v.seller)).setCell ⟨gg, off + (j - 1) * 6 + 3, none⟩ (.int .i64 f.v.sec)).setCell ⟨gg, off + (j - 1) * 6 + 4, none⟩ (.int .i64 f.v.qty)).setCell ⟨gg, off + (j - 1) * 6 + 5, none⟩ (.int .i64 f.v.price)).setCell ⟨gg, off + j * 6, none⟩ (.int .i64 y.v.id)).setCell ⟨gg, off + j * 6 + 1, none⟩ (.int .i64 y.v.buyer)).setCell ⟨gg, off + j * 6 + 2, none⟩ (.int .i64 y.v.seller)).setCell ⟨gg, off + j * 6 + 3, none⟩ (.int .i64 y.v.sec)).setCell ⟨gg, off + j * 6 + 4, none⟩ (.int .i64 y.v.qty)).setCell ⟨gg, off + j * 6 + 5, none⟩ (.int .i64 y.v.price)) :=
  ((((((((((((h.setCell (p := ⟨gg, off + (j - 1) * 6, none⟩) hg _).setCell (p := ⟨gg, off + (j - 1) * 6 + 1, none⟩) hg _).setCell (p := ⟨gg, off + (j - 1) * 6 + 2, none⟩) hg _).setCell (p := ⟨gg, off + (j - 1) * 6 + 3, none⟩) hg _).setCell (p := ⟨gg, off + (j - 1) * 6 + 4, none⟩) hg _).setCell (p := ⟨gg, off + (j - 1) * 6 + 5, none⟩) hg _).setCell (p := ⟨gg, off + j * 6, none⟩) hg _).setCell (p := ⟨gg, off + j * 6 + 1, none⟩) hg _).setCell (p := ⟨gg, off + j * 6 + 2, none⟩) hg _).setCell (p := ⟨gg, off + j * 6 + 3, none⟩) hg _).setCell (p := ⟨gg, off + j * 6 + 4, none⟩) hg _).setCell (p := ⟨gg, off + j * 6 + 5, none⟩) hg _)

set_option maxHeartbeats 16000000 in
set_option maxRecDepth 100000 in
theorem refTrades_any (g base : Nat) (B1 : Option Addr) (n1 d1 : Nat) (B2 : Option Addr) (n2 d2 : Nat) (B3 : Option Addr) (n3 d3 : Nat) (cf : Conf) (c : Int) (v : Value) (l : List RowR) (w : World) (hx : RegV w g base B1 n1 d1 B2 n2 d2 B3 n3 d3 cf c v l) (hl : l.length ≤ 1000) :
    Calls Tryz.prog 25 #[.pointer (some ⟨g, 0, none⟩)] w fun e w' => ∃ v, e = .returned v ∧ w'.ownsRow w.heap.size 38 6 v (curR c l).length ((TTbR.rowsD (curR c l)).flatMap tC) ∧ Below w.heap.size w w' := by
  obtain ⟨A, cp, hv⟩ := hx.form
  subst hv
  have HX := Lib.hid hx
  obtain ⟨n, hn⟩ : ∃ n, Hid (l.length = n) := ⟨_, Lib.hid rfl⟩
  have HXB := Lib.hid hx.blk
  have HL := hn
  rw [hn.out] at HXB hl
  have HRD := Lib.hid (Rd.of_own hx.row)
  rw [hn.out] at HRD
  clear hx
  obtain ⟨j0, hj0, jz0, jz1, jz2⟩ := info_parts tradeInfo
  go_enter Tryz.func25, Tryz.ntmps25
  go_wp2_with fail
  go_loopw [3, 4, 5] (fun v i _ wr => ∃ k m : Nat, k ≤ n ∧ m ≤ k ∧ i = .int .i64 k ∧ Hid ((trR c l k).length = m) ∧ wr.ownsRow w.heap.size 38 6 v m ((trR c l k).flatMap tC) ∧ Hid (Below w.heap.size w wr)) (fun _ i _ _ => n - (intOf i).toNat)
  case atStart => exact ⟨0, 0, Nat.zero_le _, Nat.le_refl _, rfl, Lib.hid rfl, World.ownsRow_nil _ _ _ _, Lib.hid (Below.refl _ _)⟩
  case round =>
    obtain ⟨k, m, hk, hmk, rfl, HM, hown, HB⟩ := hrel
    have bg1 := HXB.out.past HB.out
    have p8 := bg1.cell 8
    simp at p8
    by_cases hlt : k < n
    · have hlz : (k : Int) < (n : Int) := by omega
      have hg_f : l[k]? = some (l[k]'(by have := HL.out; omega)) := List.getElem?_eq_getElem _
      obtain ⟨b_f, off_f, rfl, hbb_f, hc_f⟩ := (HRD.out.below HB.out).elem RowR.cells_len hg_f hlt
      have HT_f := Lib.hid (show l.take (k + 1) = l.take k ++ [(l[k]'(by have := HL.out; omega))] from List.take_succ_eq_append_getElem (by have := HL.out; omega))
      have HM_f := Lib.hid (show (l[k]'(by have := HL.out; omega)) ∈ l from List.getElem_mem _)
      have HG_f := Lib.hid hg_f
      generalize (l[k]'(by have := HL.out; omega)) = f at *
      have c0 := hc_f 0 _ rfl
      have c1 := hc_f 1 _ rfl
      have c2 := hc_f 2 _ rfl
      have c3 := hc_f 3 _ rfl
      have c4 := hc_f 4 _ rfl
      have c5 := hc_f 5 _ rfl
      have c6 := hc_f 6 _ rfl
      have c7 := hc_f 7 _ rfl
      clear hc_f hg_f
      simp only [Nat.add_zero] at c0
      have HH := Lib.hid (hereR_any g base B1 n1 d1 B2 n2 d2 B3 n3 d3 cf c _ l k f wr (HX.out.past HB.out) HG_f.out)
      have hs := HB.out.size
      have HOW := Lib.hid hown
      clear bg1 hown
      go_wp2_with fail
      refine HH.out.mono ?_
      rintro e w2 ⟨rfl, hb2⟩
      have HB2 := Lib.hid (Below.past HB.out hb2 hs)
      have hown := own_past' HOW.out hb2
      cases hh : hereR c f with
      | true =>
        have bg2 := HXB.out.past HB2.out
        obtain ⟨b2, o2, he2, _, hd⟩ := (HRD.out.below HB2.out).elem RowR.cells_len HG_f.out hlt
        cases he2
        clear p8 c0 c1 c2 c3 c4 c5 c6 c7
        have p8 := bg2.cell 8
        simp at p8
        have c0 := hd 0 _ rfl
        have c1 := hd 1 _ rfl
        have c2 := hd 2 _ rfl
        have c3 := hd 3 _ rfl
        have c4 := hd 4 _ rfl
        have c5 := hd 5 _ rfl
        simp only [Nat.add_zero] at c0
        have HF := Lib.hid (trR_yes HT_f.out hh)
        have HSO : Hid ((trR c l k).Pairwise fun a b => a.id ≤ b.id) := Lib.hid (TTbR.rowsD_sorted _)
        have HID : Hid (∀ x ∈ trR c l k, x.id = x.v.id) := Lib.hid trR_id
        have hs2 := HB2.out.size
        have hb := HB2.out
        clear hd bg2 hb2 HOW HH hh
        obtain ⟨cur, hcur⟩ : ∃ cur, Hid (trR c l k = cur) := ⟨_, Lib.hid rfl⟩
        rw [hcur.out] at HF HSO HM hown HID
        obtain ⟨A5, c5', rfl⟩ := own_form hown
        go_wp2_with (at_builtin; refine wpList_append_lit _ _ rfl (.tmp 21) (.tmp 30) 39 rfl w.heap.size 38 j0 _ 6 48 Tryz.underlying39 hj0 jz0 jz1 jz2 rfl (by decide) _ _ _ rfl hown _ 1 1 rfl (by first | rfl | simp) rfl (by simp [Value.oneCell']) (by omega) (by omega) (by omega) ?_; intro v' w' hown' hg'; have hbw := below_own (hb.alloc hs2 _) hg' hown (by simp; omega) (Nat.le_refl _); obtain ⟨A6, c6', rfl⟩ := own_form hown')
        have HO0 : Hid (w'.ownsRow w.heap.size 38 6 (.slice A6 (m + 1) c6') (m + 1) ((cur.take m ++ mkT f :: cur.drop m).flatMap tC)) := Lib.hid (by
          rw [List.take_of_length_le (by rw [HM.out]; exact Nat.le_refl _), List.drop_of_length_le (by rw [HM.out]; exact Nat.le_refl _), List.flatMap_append]
          exact hown')
        clear p8 c0 c1 c2 c3 c4 c5 hown' hg' hown
        go_loopw [5] (fun kk wz => ∃ j : Nat, j ≤ m ∧ kk = .int .i64 j ∧ Hid (wz.ownsRow w.heap.size 38 6 (.slice A6 (m + 1) c6') (m + 1) ((cur.take j ++ mkT f :: cur.drop j).flatMap tC)) ∧ Hid (∀ x ∈ cur.drop j, f.t.id < x.id) ∧ Below w.heap.size w wz) (fun kk _ => (intOf kk).toNat)
        case atStart => exact ⟨m, Nat.le_refl _, rfl, HO0, Lib.hid (by rw [List.drop_of_length_le (by rw [HM.out]; exact Nat.le_refl _)]; simp), hbw⟩
        case round =>
          clear HO0 hbw
          obtain ⟨j, hj, rfl, HO, HD, hbz⟩ := hrel
          by_cases hj0' : j = 0
          · subst hj0'
            have HP : Hid (TTbR.putD cur (mkT f) = cur.take 0 ++ mkT f :: cur.drop 0) := Lib.hid (by rw [TTbR.putD_top (f := mkT f) HD.out]; rfl)
            have qz : decide ((0 : Int) < 0) = false := rfl
            go_wp2_with fail
            go_quiet (fail)
            go_wp2_with fail
            go_roundw
            case rel => exact ⟨k + 1, m + 1, by omega, by omega, by go_num, Lib.hid (by rw [HF.out, (TTbR.putD_perm cur (mkT f)).length_eq, List.length_cons, HM.out]), by rw [HF.out, HP.out]; exact own_drewN HO.out nq, Lib.hid (below_drewN hbz nq)⟩
            case measure => simp [intOf]; omega
          · have q2 : (0 : Int) < (j : Int) := by omega
            have q3 : (1 : Int) ≤ (j : Int) := by omega
            have q4 : 0 < j := by omega
            obtain ⟨y, hy⟩ : ∃ y, cur[j - 1]? = some y := ⟨_, List.getElem?_eq_getElem (by have := HM.out; omega)⟩
            have hyid : y.id = y.v.id := HID.out y (List.mem_of_getElem? hy)
            have hlen : (cur.take j).length = j := by rw [List.length_take]; have := HM.out; omega
            have hgf : (cur.take j ++ mkT f :: cur.drop j)[j]? = some (mkT f) := by rw [List.getElem?_append_right (by omega), hlen, Nat.sub_self]; rfl
            have hgy : (cur.take j ++ mkT f :: cur.drop j)[j - 1]? = some y := by rw [List.getElem?_append_left (by omega), List.getElem?_take, if_pos (by omega)]; exact hy
            have HY := Lib.hid hy
            obtain ⟨gg, off, hA, hoff, hg1, hBk⟩ : ∃ gg off, A6 = some ⟨gg, off, none⟩ ∧ Hid (off = 0) ∧ w.heap.size ≤ gg ∧ ∃ cs, Blk wr gg 38 cs := by
              rcases HO.out.2 with ⟨_, h0⟩ | ⟨gg, cap, cs, e, h1, h2, _⟩
              · omega
              · injection e with e1 e2 e3
                exact ⟨gg, 0, e1, Lib.hid rfl, h1, cs, h2⟩
            subst hA
            obtain ⟨cs, hBk⟩ := hBk
            obtain ⟨b1, o1, e1, hb1, hc1⟩ := (Rd.of_own HO.out).elem tC_len hgf (by omega)
            cases e1
            obtain ⟨b2, o2, e2, hb2, hc2⟩ := (Rd.of_own HO.out).elem tC_len hgy (by omega)
            cases e2
            have c0 := hc1 0 (.int .i64 f.t.id) rfl
            have c1 := hc1 1 (.int .i64 f.t.buyer) rfl
            have c2 := hc1 2 (.int .i64 f.t.seller) rfl
            have c3 := hc1 3 (.int .i64 f.t.sec) rfl
            have c4 := hc1 4 (.int .i64 f.t.qty) rfl
            have c5 := hc1 5 (.int .i64 f.t.price) rfl
            have d0 := hc2 0 (.int .i64 y.v.id) rfl
            have d1 := hc2 1 (.int .i64 y.v.buyer) rfl
            have d2 := hc2 2 (.int .i64 y.v.seller) rfl
            have d3 := hc2 3 (.int .i64 y.v.sec) rfl
            have d4 := hc2 4 (.int .i64 y.v.qty) rfl
            have d5 := hc2 5 (.int .i64 y.v.price) rfl
            simp only [Nat.add_zero] at c0 d0
            have y0 := hBk.frozen (off + j * 6)
            have y1 := hBk.frozen (off + j * 6 + 1)
            have y2 := hBk.frozen (off + j * 6 + 2)
            have y3 := hBk.frozen (off + j * 6 + 3)
            have y4 := hBk.frozen (off + j * 6 + 4)
            have y5 := hBk.frozen (off + j * 6 + 5)
            have z0 := hBk.frozen (off + (j - 1) * 6)
            have z1 := hBk.frozen (off + (j - 1) * 6 + 1)
            have z2 := hBk.frozen (off + (j - 1) * 6 + 2)
            have z3 := hBk.frozen (off + (j - 1) * 6 + 3)
            have z4 := hBk.frozen (off + (j - 1) * 6 + 4)
            have z5 := hBk.frozen (off + (j - 1) * 6 + 5)
            have HJ : Hid (((j - 1 : Nat) : Int) = (j : Int) - 1) := Lib.hid (by omega)
            have HLN : Hid ((cur.take j ++ mkT f :: cur.drop j).length = m + 1) := Lib.hid (by rw [List.length_append, List.length_cons, List.length_take, List.length_drop]; have := HM.out; omega)
            have s5 : j - 1 < m + 1 := by omega
            have s6 : j < m + 1 := by omega
            have s7 : j - 1 ≤ m := by omega
            have s1 : IntKind.i64.wrap ((j : Int) - 1) = (j : Int) - 1 := IntWalk.i64_in _ (by omega)
            have s2 : (j : Int) - 1 < (m : Int) + 1 := by omega
            have s3 : (j : Int) < (m : Int) + 1 := by omega
            have s4 : ((j : Int) - 1).toNat = j - 1 := by omega
            have hggl := hBk.lt
            clear hc1 hc2 hgf hgy hy hBk hlen
            by_cases hp : f.t.id < y.v.id
            · have r1 := decide_eq_true hp
              have HD2 : Hid (∀ x ∈ cur.drop (j - 1), f.t.id < x.id) := Lib.hid (by
                obtain ⟨hlt', e⟩ := List.getElem?_eq_some_iff.1 HY.out
                have h2 : cur.drop (j - 1) = y :: cur.drop j := by
                  rw [List.drop_eq_getElem_cons hlt', e, show j - 1 + 1 = j by omega]
                intro x hx
                rw [h2] at hx
                rcases List.mem_cons.1 hx with rfl | hx
                · rw [hyid]; exact hp
                · exact HD.out x hx)
              have HSW := Lib.hid (swapR_at (f := mkT f) (by omega) HY.out)
              clear hp hyid
              go_wp2_with fail
              go_quiet (fail)
              have HO2 := Lib.hid (own_drewN HO.out nq)
              have hbV := below_drewN hbz nq
              have C0 : (wr.drewN nq).cell? _ = _ := c0
              have D0 : (wr.drewN nq).cell? _ = _ := d0
              have Y0 : (wr.drewN nq).frozen? _ = _ := y0
              have Z0 : (wr.drewN nq).frozen? _ = _ := z0
              have C1 : (wr.drewN nq).cell? _ = _ := c1
              have D1 : (wr.drewN nq).cell? _ = _ := d1
              have Y1 : (wr.drewN nq).frozen? _ = _ := y1
              have Z1 : (wr.drewN nq).frozen? _ = _ := z1
              have C2 : (wr.drewN nq).cell? _ = _ := c2
              have D2 : (wr.drewN nq).cell? _ = _ := d2
              have Y2 : (wr.drewN nq).frozen? _ = _ := y2
              have Z2 : (wr.drewN nq).frozen? _ = _ := z2
              have C3 : (wr.drewN nq).cell? _ = _ := c3
              have D3 : (wr.drewN nq).cell? _ = _ := d3
              have Y3 : (wr.drewN nq).frozen? _ = _ := y3
              have Z3 : (wr.drewN nq).frozen? _ = _ := z3
              have C4 : (wr.drewN nq).cell? _ = _ := c4
              have D4 : (wr.drewN nq).cell? _ = _ := d4
              have Y4 : (wr.drewN nq).frozen? _ = _ := y4
              have Z4 : (wr.drewN nq).frozen? _ = _ := z4
              have C5 : (wr.drewN nq).cell? _ = _ := c5
              have D5 : (wr.drewN nq).cell? _ = _ := d5
              have Y5 : (wr.drewN nq).frozen? _ = _ := y5
              have Z5 : (wr.drewN nq).frozen? _ = _ := z5
              clear c0 d0 y0 z0 c1 d1 y1 z1 c2 d2 y2 z2 c3 d3 y3 z3 c4 d4 y4 z4 c5 d5 y5 z5
              generalize wr.drewN nq = V at HO2 hbV C0 D0 Y0 Z0 C1 D1 Y1 Z1 C2 D2 Y2 Z2 C3 D3 Y3 Z3 C4 D4 Y4 Z4 C5 D5 Y5 Z5 ⊢
              go_wp2_with fail
              go_region
              have HSR : Hid (((((((((((((V.setCell ⟨gg, off + (j - 1) * 6, none⟩ (.int .i64 f.t.id)).setCell ⟨gg, off + (j - 1) * 6 + 1, none⟩ (.int .i64 f.t.buyer)).setCell ⟨gg, off + (j - 1) * 6 + 2, none⟩ (.int .i64 f.t.seller)).setCell ⟨gg, off + (j - 1) * 6 + 3, none⟩ (.int .i64 f.t.sec)).setCell ⟨gg, off + (j - 1) * 6 + 4, none⟩ (.int .i64 f.t.qty)).setCell ⟨gg, off + (j - 1) * 6 + 5, none⟩ (.int .i64 f.t.price)).setCell ⟨gg, off + j * 6, none⟩ (.int .i64 y.v.id)).setCell ⟨gg, off + j * 6 + 1, none⟩ (.int .i64 y.v.buyer)).setCell ⟨gg, off + j * 6 + 2, none⟩ (.int .i64 y.v.seller)).setCell ⟨gg, off + j * 6 + 3, none⟩ (.int .i64 y.v.sec)).setCell ⟨gg, off + j * 6 + 4, none⟩ (.int .i64 y.v.qty)).setCell ⟨gg, off + j * 6 + 5, none⟩ (.int .i64 y.v.price)).ownsRow w.heap.size 38 6 (.slice (some ⟨gg, off, none⟩) (m + 1) c6') (m + 1) ((cur.take (j - 1) ++ mkT f :: cur.drop (j - 1)).flatMap tC)) := Lib.hid (own_swapR (f := mkT f) hoff.out HO2.out HLN.out s5 s6 HSW.out)
              have HBR : Below w.heap.size w ((((((((((((V.setCell ⟨gg, off + (j - 1) * 6, none⟩ (.int .i64 f.t.id)).setCell ⟨gg, off + (j - 1) * 6 + 1, none⟩ (.int .i64 f.t.buyer)).setCell ⟨gg, off + (j - 1) * 6 + 2, none⟩ (.int .i64 f.t.seller)).setCell ⟨gg, off + (j - 1) * 6 + 3, none⟩ (.int .i64 f.t.sec)).setCell ⟨gg, off + (j - 1) * 6 + 4, none⟩ (.int .i64 f.t.qty)).setCell ⟨gg, off + (j - 1) * 6 + 5, none⟩ (.int .i64 f.t.price)).setCell ⟨gg, off + j * 6, none⟩ (.int .i64 y.v.id)).setCell ⟨gg, off + j * 6 + 1, none⟩ (.int .i64 y.v.buyer)).setCell ⟨gg, off + j * 6 + 2, none⟩ (.int .i64 y.v.seller)).setCell ⟨gg, off + j * 6 + 3, none⟩ (.int .i64 y.v.sec)).setCell ⟨gg, off + j * 6 + 4, none⟩ (.int .i64 y.v.qty)).setCell ⟨gg, off + j * 6 + 5, none⟩ (.int .i64 y.v.price)) := below_swapR (f := mkT f) hbV hg1
              obtain ⟨V2, hV2⟩ : ∃ V2, Hid (((((((((((((V.setCell ⟨gg, off + (j - 1) * 6, none⟩ (.int .i64 f.t.id)).setCell ⟨gg, off + (j - 1) * 6 + 1, none⟩ (.int .i64 f.t.buyer)).setCell ⟨gg, off + (j - 1) * 6 + 2, none⟩ (.int .i64 f.t.seller)).setCell ⟨gg, off + (j - 1) * 6 + 3, none⟩ (.int .i64 f.t.sec)).setCell ⟨gg, off + (j - 1) * 6 + 4, none⟩ (.int .i64 f.t.qty)).setCell ⟨gg, off + (j - 1) * 6 + 5, none⟩ (.int .i64 f.t.price)).setCell ⟨gg, off + j * 6, none⟩ (.int .i64 y.v.id)).setCell ⟨gg, off + j * 6 + 1, none⟩ (.int .i64 y.v.buyer)).setCell ⟨gg, off + j * 6 + 2, none⟩ (.int .i64 y.v.seller)).setCell ⟨gg, off + j * 6 + 3, none⟩ (.int .i64 y.v.sec)).setCell ⟨gg, off + j * 6 + 4, none⟩ (.int .i64 y.v.qty)).setCell ⟨gg, off + j * 6 + 5, none⟩ (.int .i64 y.v.price)) = V2) := ⟨_, Lib.hid rfl⟩
              rw [hV2.out] at HSR HBR
              rw [hV2.out]
              clear C0 D0 Y0 Z0 C1 D1 Y1 Z1 C2 D2 Y2 Z2 C3 D3 Y3 Z3 C4 D4 Y4 Z4 C5 D5 Y5 Z5 s4
              go_wp2_with fail
              clear s1
              go_roundw
              case rel =>
                exact ⟨j - 1, s7, by rw [HJ.out], Lib.hid (own_drewN HSR.out 1), HD2, HBR.drew⟩
              case measure => simp [intOf]; omega
            · have r1 := decide_eq_false hp
              have HP := Lib.hid (TTbR.putD_stop (f := mkT f) HSO.out (by omega) HY.out (by rw [hyid]; exact hp) HD.out)
              clear hp hyid
              go_wp2_with fail
              go_quiet (fail)
              clear s1 s4
              go_wp2_with fail
              go_roundw
              case rel => exact ⟨k + 1, m + 1, by omega, by omega, by go_num, Lib.hid (by rw [HF.out, (TTbR.putD_perm cur (mkT f)).length_eq, List.length_cons, HM.out]), by rw [HF.out, HP.out]; exact own_drewN HO.out nq, Lib.hid (below_drewN hbz nq)⟩
              case measure => simp [intOf]; omega
      | false =>
        have HF := Lib.hid (trR_no HT_f.out hh)
        clear hb2 p8 c0 c1 c2 c3 c4 c5 c6 c7 HH HOW
        go_wp2_with fail
        go_roundw
        case rel => exact ⟨k + 1, m, by omega, by omega, by go_num, by rw [HF.out]; exact HM, by rw [HF.out]; exact hown, HB2⟩
        case measure => simp [intOf]; omega
    · have hlz : ¬ (k : Int) < (n : Int) := by omega
      have HE : Hid (trR c l k = TTbR.rowsD (curR c l) ∧ (curR c l).length = m) := Lib.hid (by
        have hT : l.take k = l := List.take_of_length_le (by rw [hn.out]; omega)
        have h := HM.out
        rw [trR, hT] at h ⊢
        exact ⟨rfl, by rw [← h, (TTbR.rowsD_perm _).length_eq]⟩)
      go_wp2_with fail
      go_ret
      exact ⟨_, rfl, by rw [HE.out.2, ← HE.out.1]; exact hown, HB.out⟩
end Go.Proofs.YtelbolhckhdioaaGreat
