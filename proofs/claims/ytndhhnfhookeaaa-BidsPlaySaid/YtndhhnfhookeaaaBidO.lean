import Derived.Test.YtndhhnfhookeaaaBidN
namespace Go.Proofs.Ytndhhnfhookeaaa
open Go.RowKit

theorem own_swap {V : World} {B gg off m c j : Nat} {l l' : List BidV} {f y : BidV} (h0 : off = 0) (h : V.ownsRow B 90 5 (.slice (some ⟨gg, off, none⟩) (m + 1) c) (m + 1) (l.flatMap BidV.cells)) (hl : l.length = m + 1) (h1 : j - 1 < m + 1) (h2 : j < m + 1) (hs : (l.set (j - 1) f).set j y = l') :
    ((((((((((V.setCell ⟨gg, off + (j - 1) * 5, none⟩ (.int .i64 f.seq)).setCell ⟨gg, off + (j - 1) * 5 + 1, none⟩ (.int .i64 f.mem)).setCell ⟨gg, off + (j - 1) * 5 + 2, none⟩ (.int .i64 f.sec)).setCell ⟨gg, off + (j - 1) * 5 + 3, none⟩ (.int .i64 f.qty)).setCell ⟨gg, off + (j - 1) * 5 + 4, none⟩ (.int .i64 f.price)).setCell ⟨gg, off + j * 5, none⟩ (.int .i64 y.seq)).setCell ⟨gg, off + j * 5 + 1, none⟩ (.int .i64 y.mem)).setCell ⟨gg, off + j * 5 + 2, none⟩ (.int .i64 y.sec)).setCell ⟨gg, off + j * 5 + 3, none⟩ (.int .i64 y.qty)).setCell ⟨gg, off + j * 5 + 4, none⟩ (.int .i64 y.price)).ownsRow B 90 5 (.slice (some ⟨gg, off, none⟩) (m + 1) c) (m + 1) (l'.flatMap BidV.cells) := by
  subst h0
  subst hs
  simp only [Nat.zero_add]
  exact own_set5 (own_set5 h hl h1 f) (by rw [List.length_set]; exact hl) h2 y
theorem below_swap {V a : World} {B gg off j : Nat} {f y : BidV} (h : Below B a V) (hg : B ≤ gg) : Below B a ((((((((((V.setCell ⟨gg, off + (j - 1) * 5, none⟩ (.int .i64 f.seq)).setCell ⟨gg, off + (j - 1) * 5 + 1, none⟩ (.int .i64 f.mem)).setCell ⟨gg, off + (j - 1) * 5 + 2, none⟩ (.int .i64 f.sec)).setCell ⟨gg, off + (j - 1) * 5 + 3, none⟩ (.int .i64 f.qty)).setCell ⟨gg, off + (j - 1) * 5 + 4, none⟩ (.int .i64 f.price)).setCell ⟨gg, off + j * 5, none⟩ (.int .i64 y.seq)).setCell ⟨gg, off + j * 5 + 1, none⟩ (.int .i64 y.mem)).setCell ⟨gg, off + j * 5 + 2, none⟩ (.int .i64 y.sec)).setCell ⟨gg, off + j * 5 + 3, none⟩ (.int .i64 y.qty)).setCell ⟨gg, off + j * 5 + 4, none⟩ (.int .i64 y.price)) :=
  (((((((((h.setCell (p := ⟨gg, off + (j - 1) * 5, none⟩) hg _).setCell (p := ⟨gg, off + (j - 1) * 5 + 1, none⟩) hg _).setCell (p := ⟨gg, off + (j - 1) * 5 + 2, none⟩) hg _).setCell (p := ⟨gg, off + (j - 1) * 5 + 3, none⟩) hg _).setCell (p := ⟨gg, off + (j - 1) * 5 + 4, none⟩) hg _).setCell (p := ⟨gg, off + j * 5, none⟩) hg _).setCell (p := ⟨gg, off + j * 5 + 1, none⟩) hg _).setCell (p := ⟨gg, off + j * 5 + 2, none⟩) hg _).setCell (p := ⟨gg, off + j * 5 + 3, none⟩) hg _).setCell (p := ⟨gg, off + j * 5 + 4, none⟩) hg _

set_option maxHeartbeats 8000000 in
set_option maxRecDepth 100000 in
theorem refSecB_any (g base : Nat) (B1 : Option Addr) (n1 d1 : Nat) (B2 : Option Addr) (n2 d2 : Nat) (B3 : Option Addr) (n3 d3 : Nat) (cf : Conf) (v : Value) (l : List BidV) (sec : Int) (w : World) (hx : RefV w g base B1 n1 d1 B2 n2 d2 B3 n3 d3 cf v l) (hl : l.length ≤ 1000) (hrise : RiseB l) :
    Calls Try.prog 58 #[.pointer (some ⟨g, 0, none⟩), .int .i64 sec] w fun e w' => ∃ v, e = .returned v ∧ w'.ownsRow w.heap.size 90 5 v (l.filter (secF sec)).length ((sortB (l.filter (secF sec))).flatMap BidV.cells) ∧ Below w.heap.size w w' := by
  obtain ⟨⟨A, c, rfl⟩, bg, hrow⟩ := hx
  have hrd := Rd.of_own hrow
  have hgw := bg.lt
  obtain ⟨n, hn⟩ : ∃ n, Hid (l.length = n) := ⟨_, Lib.hid rfl⟩
  rw [hn.out] at bg hrd hl
  have HL := hn
  have HBG := Lib.hid bg
  have HRI := Lib.hid hrise
  obtain ⟨j0, hj0, jz0, jz1, jz2⟩ := info_parts bidInfo
  have p8 := bg.cell 8
  simp at p8
  clear hrow bg hrise
  go_enter Try.func58, Try.ntmps58
  go_wp2_with fail
  clear p8
  go_loopw [5, 6, 7] (fun v i _ wr => ∃ k m : Nat, k ≤ n ∧ m ≤ k ∧ i = .int .i64 k ∧ Hid ((secR l sec k).length = m) ∧ wr.ownsRow w.heap.size 90 5 v m ((secR l sec k).flatMap BidV.cells) ∧ Below w.heap.size w wr) (fun _ i _ _ => n - (intOf i).toNat)
  case atStart => exact ⟨0, 0, Nat.zero_le _, Nat.le_refl _, rfl, Lib.hid rfl, World.ownsRow_nil _ _ _ _, Below.refl _ _⟩
  case round =>
    obtain ⟨k, m, hk, hmk, rfl, HM, hown, hb⟩ := hrel
    have bg1 := HBG.out.past hb
    have p8 := bg1.cell 8
    simp at p8
    by_cases hlt : k < n
    · have hlz : (k : Int) < (n : Int) := by omega
      have hg_f : l[k]? = some (l[k]'(by have := HL.out; omega)) := List.getElem?_eq_getElem _
      obtain ⟨b_f, off_f, rfl, hbb_f, hc_f⟩ := (hrd.below hb).elem BidV.cells_len hg_f hlt
      have HT_f := Lib.hid (show l.take (k + 1) = l.take k ++ [(l[k]'(by have := HL.out; omega))] from List.take_succ_eq_append_getElem (by have := HL.out; omega))
      have HM_f := Lib.hid (show (l[k]'(by have := HL.out; omega)) ∈ l from List.getElem_mem _)
      generalize (l[k]'(by have := HL.out; omega)) = f at *
      have c0 := hc_f 0 _ rfl
      have c1 := hc_f 1 _ rfl
      have c2 := hc_f 2 _ rfl
      have c3 := hc_f 3 _ rfl
      have c4 := hc_f 4 _ rfl
      clear hc_f hg_f
      simp only [Nat.add_zero] at c0
      by_cases hsec : f.sec = sec
      · have q1 : (f.sec != sec) = false := by simp [hsec]
        have HF := Lib.hid (secR_yes HT_f.out (show secF sec f = true by simp [secF, hsec]))
        have HSO := Lib.hid (secR_sorted HRI.out sec k)
        have hs := hb.size
        clear hsec bg1
        obtain ⟨cur, hcur⟩ : ∃ cur, Hid (secR l sec k = cur) := ⟨_, Lib.hid rfl⟩
        rw [hcur.out] at HF HSO HM hown
        obtain ⟨A5, c5, rfl⟩ := own_form hown
        go_wp2_with (at_builtin; refine wpList_append_lit _ _ rfl (.tmp 29) (.tmp 37) 88 rfl w.heap.size 90 j0 _ 5 40 Try.underlying88 hj0 jz0 jz1 jz2 rfl (by decide) _ _ _ rfl hown _ 1 1 rfl (by first | rfl | simp) rfl (by simp [Value.oneCell']) (by omega) (by omega) (by omega) ?_; intro v' w' hown' hg'; have hbw := below_own (hb.alloc hs _) hg' hown (by simp; omega) (Nat.le_refl _); obtain ⟨A6, c6, rfl⟩ := own_form hown')
        have HO0 : Hid (w'.ownsRow w.heap.size 90 5 (.slice A6 (m + 1) c6) (m + 1) ((cur.take m ++ f :: cur.drop m).flatMap BidV.cells)) := Lib.hid (by
          rw [List.take_of_length_le (by rw [HM.out]; exact Nat.le_refl _), List.drop_of_length_le (by rw [HM.out]; exact Nat.le_refl _), List.flatMap_append]
          exact hown')
        clear p8 c0 c1 c2 c3 c4 hown' hg' hown
        go_loopw [7] (fun kk wz => ∃ j : Nat, j ≤ m ∧ kk = .int .i64 j ∧ Hid (wz.ownsRow w.heap.size 90 5 (.slice A6 (m + 1) c6) (m + 1) ((cur.take j ++ f :: cur.drop j).flatMap BidV.cells)) ∧ Hid (∀ x ∈ cur.drop j, f.price < x.price) ∧ Below w.heap.size w wz) (fun kk _ => (intOf kk).toNat)
        case atStart => exact ⟨m, Nat.le_refl _, rfl, HO0, Lib.hid (by rw [List.drop_of_length_le (by rw [HM.out]; exact Nat.le_refl _)]; simp), hbw⟩
        case round =>
          clear HO0 hbw
          obtain ⟨j, hj, rfl, HO, HD, hbz⟩ := hrel
          by_cases hj0' : j = 0
          · subst hj0'
            have HP : Hid (putB cur f = cur.take 0 ++ f :: cur.drop 0) := Lib.hid (by rw [putB_top HD.out]; rfl)
            have qz : decide ((0 : Int) < 0) = false := rfl
            go_wp2_with fail
            go_quiet (fail)
            go_wp2_with fail
            go_roundw
            case rel => exact ⟨k + 1, m + 1, by omega, by omega, by go_num, Lib.hid (by rw [HF.out, (putB_perm cur f).length_eq, List.length_cons, HM.out]), by rw [HF.out, HP.out]; exact own_drewN HO.out nq, below_drewN hbz nq⟩
            case measure => simp [intOf]; omega
          · have q2 : (0 : Int) < (j : Int) := by omega
            have q3 : (1 : Int) ≤ (j : Int) := by omega
            have q4 : 0 < j := by omega
            obtain ⟨y, hy⟩ : ∃ y, cur[j - 1]? = some y := ⟨_, List.getElem?_eq_getElem (by have := HM.out; omega)⟩
            have hlen : (cur.take j).length = j := by rw [List.length_take]; have := HM.out; omega
            have hgf : (cur.take j ++ f :: cur.drop j)[j]? = some f := by rw [List.getElem?_append_right (by omega), hlen, Nat.sub_self]; rfl
            have hgy : (cur.take j ++ f :: cur.drop j)[j - 1]? = some y := by rw [List.getElem?_append_left (by omega), List.getElem?_take, if_pos (by omega)]; exact hy
            have HY := Lib.hid hy
            obtain ⟨gg, off, hA, hoff, hg1, hBk⟩ : ∃ gg off, A6 = some ⟨gg, off, none⟩ ∧ Hid (off = 0) ∧ w.heap.size ≤ gg ∧ ∃ cs, Blk wr gg 90 cs := by
              rcases HO.out.2 with ⟨_, h0⟩ | ⟨gg, cap, cs, e, h1, h2, _⟩
              · omega
              · injection e with e1 e2 e3
                exact ⟨gg, 0, e1, Lib.hid rfl, h1, cs, h2⟩
            subst hA
            obtain ⟨cs, hBk⟩ := hBk
            obtain ⟨b1, o1, e1, hb1, hc1⟩ := (Rd.of_own HO.out).elem BidV.cells_len hgf (by omega)
            cases e1
            obtain ⟨b2, o2, e2, hb2, hc2⟩ := (Rd.of_own HO.out).elem BidV.cells_len hgy (by omega)
            cases e2
            have c0 := hc1 0 _ rfl
            have d0 := hc2 0 _ rfl
            have c1 := hc1 1 _ rfl
            have d1 := hc2 1 _ rfl
            have c2 := hc1 2 _ rfl
            have d2 := hc2 2 _ rfl
            have c3 := hc1 3 _ rfl
            have d3 := hc2 3 _ rfl
            have c4 := hc1 4 _ rfl
            have d4 := hc2 4 _ rfl
            simp only [Nat.add_zero] at c0 d0
            have y0 := hBk.frozen (off + j * 5)
            have z0 := hBk.frozen (off + (j - 1) * 5)
            have y1 := hBk.frozen (off + j * 5 + 1)
            have z1 := hBk.frozen (off + (j - 1) * 5 + 1)
            have y2 := hBk.frozen (off + j * 5 + 2)
            have z2 := hBk.frozen (off + (j - 1) * 5 + 2)
            have y3 := hBk.frozen (off + j * 5 + 3)
            have z3 := hBk.frozen (off + (j - 1) * 5 + 3)
            have y4 := hBk.frozen (off + j * 5 + 4)
            have z4 := hBk.frozen (off + (j - 1) * 5 + 4)
            have HJ : Hid (((j - 1 : Nat) : Int) = (j : Int) - 1) := Lib.hid (by omega)
            have HLN : Hid ((cur.take j ++ f :: cur.drop j).length = m + 1) := Lib.hid (by rw [List.length_append, List.length_cons, List.length_take, List.length_drop]; have := HM.out; omega)
            have s5 : j - 1 < m + 1 := by omega
            have s6 : j < m + 1 := by omega
            have s7 : j - 1 ≤ m := by omega
            have s1 : IntKind.i64.wrap ((j : Int) - 1) = (j : Int) - 1 := IntWalk.i64_in _ (by omega)
            have s2 : (j : Int) - 1 < (m : Int) + 1 := by omega
            have s3 : (j : Int) < (m : Int) + 1 := by omega
            have s4 : ((j : Int) - 1).toNat = j - 1 := by omega
            have hggl := hBk.lt
            clear hc1 hc2 hgf hgy hy hBk hlen
            by_cases hp : f.price < y.price
            · have r1 := decide_eq_true hp
              have HD2 : Hid (∀ x ∈ cur.drop (j - 1), f.price < x.price) := Lib.hid (by
                obtain ⟨hlt', e⟩ := List.getElem?_eq_some_iff.1 HY.out
                have h2 : cur.drop (j - 1) = y :: cur.drop j := by
                  rw [List.drop_eq_getElem_cons hlt', e, show j - 1 + 1 = j by omega]
                intro x hx
                rw [h2] at hx
                rcases List.mem_cons.1 hx with rfl | hx
                · exact hp
                · exact HD.out x hx)
              have HSW := Lib.hid (swap_at (f := f) (by omega) HY.out)
              clear hp
              go_wp2_with fail
              go_quiet (fail)
              have HO2 := Lib.hid (own_drewN HO.out nq)
              have hbV := below_drewN hbz nq
              have C0 : (wr.drewN nq).cell? _ = _ := c0
              have D0 : (wr.drewN nq).cell? _ = _ := d0
              have Y0 : (wr.drewN nq).frozen? _ = _ := y0
              have Z0 : (wr.drewN nq).frozen? _ = _ := z0
              have C1 : (wr.drewN nq).cell? _ = _ := c1
              have D1 : (wr.drewN nq).cell? _ = _ := d1
              have Y1 : (wr.drewN nq).frozen? _ = _ := y1
              have Z1 : (wr.drewN nq).frozen? _ = _ := z1
              have C2 : (wr.drewN nq).cell? _ = _ := c2
              have D2 : (wr.drewN nq).cell? _ = _ := d2
              have Y2 : (wr.drewN nq).frozen? _ = _ := y2
              have Z2 : (wr.drewN nq).frozen? _ = _ := z2
              have C3 : (wr.drewN nq).cell? _ = _ := c3
              have D3 : (wr.drewN nq).cell? _ = _ := d3
              have Y3 : (wr.drewN nq).frozen? _ = _ := y3
              have Z3 : (wr.drewN nq).frozen? _ = _ := z3
              have C4 : (wr.drewN nq).cell? _ = _ := c4
              have D4 : (wr.drewN nq).cell? _ = _ := d4
              have Y4 : (wr.drewN nq).frozen? _ = _ := y4
              have Z4 : (wr.drewN nq).frozen? _ = _ := z4
              clear c0 d0 y0 z0 c1 d1 y1 z1 c2 d2 y2 z2 c3 d3 y3 z3 c4 d4 y4 z4
              generalize wr.drewN nq = V at HO2 hbV C0 D0 Y0 Z0 C1 D1 Y1 Z1 C2 D2 Y2 Z2 C3 D3 Y3 Z3 C4 D4 Y4 Z4 ⊢
              go_wp2_with fail
              go_region
              have HSR : Hid (((((((((((V.setCell ⟨gg, off + (j - 1) * 5, none⟩ (.int .i64 f.seq)).setCell ⟨gg, off + (j - 1) * 5 + 1, none⟩ (.int .i64 f.mem)).setCell ⟨gg, off + (j - 1) * 5 + 2, none⟩ (.int .i64 f.sec)).setCell ⟨gg, off + (j - 1) * 5 + 3, none⟩ (.int .i64 f.qty)).setCell ⟨gg, off + (j - 1) * 5 + 4, none⟩ (.int .i64 f.price)).setCell ⟨gg, off + j * 5, none⟩ (.int .i64 y.seq)).setCell ⟨gg, off + j * 5 + 1, none⟩ (.int .i64 y.mem)).setCell ⟨gg, off + j * 5 + 2, none⟩ (.int .i64 y.sec)).setCell ⟨gg, off + j * 5 + 3, none⟩ (.int .i64 y.qty)).setCell ⟨gg, off + j * 5 + 4, none⟩ (.int .i64 y.price)).ownsRow w.heap.size 90 5 (.slice (some ⟨gg, off, none⟩) (m + 1) c6) (m + 1) ((cur.take (j - 1) ++ f :: cur.drop (j - 1)).flatMap BidV.cells)) := Lib.hid (own_swap hoff.out HO2.out HLN.out s5 s6 HSW.out)
              have HBR : Below w.heap.size w ((((((((((V.setCell ⟨gg, off + (j - 1) * 5, none⟩ (.int .i64 f.seq)).setCell ⟨gg, off + (j - 1) * 5 + 1, none⟩ (.int .i64 f.mem)).setCell ⟨gg, off + (j - 1) * 5 + 2, none⟩ (.int .i64 f.sec)).setCell ⟨gg, off + (j - 1) * 5 + 3, none⟩ (.int .i64 f.qty)).setCell ⟨gg, off + (j - 1) * 5 + 4, none⟩ (.int .i64 f.price)).setCell ⟨gg, off + j * 5, none⟩ (.int .i64 y.seq)).setCell ⟨gg, off + j * 5 + 1, none⟩ (.int .i64 y.mem)).setCell ⟨gg, off + j * 5 + 2, none⟩ (.int .i64 y.sec)).setCell ⟨gg, off + j * 5 + 3, none⟩ (.int .i64 y.qty)).setCell ⟨gg, off + j * 5 + 4, none⟩ (.int .i64 y.price)) := below_swap hbV hg1
              obtain ⟨V2, hV2⟩ : ∃ V2, Hid (((((((((((V.setCell ⟨gg, off + (j - 1) * 5, none⟩ (.int .i64 f.seq)).setCell ⟨gg, off + (j - 1) * 5 + 1, none⟩ (.int .i64 f.mem)).setCell ⟨gg, off + (j - 1) * 5 + 2, none⟩ (.int .i64 f.sec)).setCell ⟨gg, off + (j - 1) * 5 + 3, none⟩ (.int .i64 f.qty)).setCell ⟨gg, off + (j - 1) * 5 + 4, none⟩ (.int .i64 f.price)).setCell ⟨gg, off + j * 5, none⟩ (.int .i64 y.seq)).setCell ⟨gg, off + j * 5 + 1, none⟩ (.int .i64 y.mem)).setCell ⟨gg, off + j * 5 + 2, none⟩ (.int .i64 y.sec)).setCell ⟨gg, off + j * 5 + 3, none⟩ (.int .i64 y.qty)).setCell ⟨gg, off + j * 5 + 4, none⟩ (.int .i64 y.price)) = V2) := ⟨_, Lib.hid rfl⟩
              rw [hV2.out] at HSR HBR
              rw [hV2.out]
              clear C0 C1 C2 C3 C4 D0 D1 D2 D3 D4 Y0 Y1 Y2 Y3 Y4 Z0 Z1 Z2 Z3 Z4 s4
              go_wp2_with fail
              clear s1
              go_roundw
              case rel =>
                exact ⟨j - 1, s7, by rw [HJ.out], Lib.hid (own_drewN HSR.out 1), HD2, HBR.drew⟩
              case measure => simp [intOf]; omega
            · have r1 := decide_eq_false hp
              have HP := Lib.hid (putB_stop HSO.out (by omega) HY.out hp HD.out)
              clear hp
              go_wp2_with fail
              go_quiet (fail)
              clear s1 s4
              go_wp2_with fail
              go_roundw
              case rel => exact ⟨k + 1, m + 1, by omega, by omega, by go_num, Lib.hid (by rw [HF.out, (putB_perm cur f).length_eq, List.length_cons, HM.out]), by rw [HF.out, HP.out]; exact own_drewN HO.out nq, below_drewN hbz nq⟩
              case measure => simp [intOf]; omega
      · have q1 : (f.sec != sec) = true := by simp [hsec]
        have HF := Lib.hid (secR_no HT_f.out (show secF sec f = false by simp [secF, hsec]))
        clear hsec bg1
        go_wp2_with fail
        go_roundw
        case rel => exact ⟨k + 1, m, by omega, by omega, by go_num, by rw [HF.out]; exact HM, by rw [HF.out]; exact hown, hb⟩
        case measure => simp [intOf]; omega
    · have hlz : ¬ (k : Int) < (n : Int) := by omega
      have HE : Hid ((l.filter (secF sec)).length = m ∧ sortB (l.filter (secF sec)) = secR l sec k) := Lib.hid (by
        have hT : l.take k = l := List.take_of_length_le (by rw [hn.out]; omega)
        refine ⟨?_, ?_⟩
        · rw [← HM.out, secR_len, hT]
        · rw [secR, hT, fold_sort (List.Pairwise.filter _ HRI.out)])
      go_wp2_with fail
      go_ret
      exact ⟨_, rfl, by rw [HE.out.1, HE.out.2]; exact hown, hb⟩
end Go.Proofs.Ytndhhnfhookeaaa
