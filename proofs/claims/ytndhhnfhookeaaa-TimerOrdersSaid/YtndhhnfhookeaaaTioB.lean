import Derived.Test.YtndhhnfhookeaaaTioA
import Derived.Test.YtndhhnfhookeaaaTimR
import Derived.Deep.RegionHeld3
import Derived.IntWalk
namespace Go.Proofs.Ytndhhnfhookeaaa
open Go.RowKit

set_option maxHeartbeats 1000000 in
theorem timerOrders_long (A : Option Addr) (n cp : Nat) (a now : Int) (w : World) (h : 40 < n) :
    Calls Try.prog 3 #[.slice A n cp, .int .u8 a, .int .i64 now] w fun e w' => e = .returned (.bool true) ∧ Below w.heap.size w w' := by
  have q1 : (40 : Int) < (n : Int) := by omega
  go_enter Try.func3, Try.ntmps3
  go_wp2_with fail
  refine (awake21 _).mono ?_
  rintro e w1 ⟨rfl, hb⟩
  go_wp2_with fail
  go_ret
  exact ⟨rfl, hb⟩

/-- What stands at the head of each round of the second loop. -/
structure OrdRel (w : World) (B ga gc : Nat) (vx : Value) (d k : Nat) (M left : List Tim) : Prop where
  c : ∃ ts, Wh w gc 40 B ts ∧ Once ts ∧ sortT ts = M.drop k ∧ ts.length ≤ 40
  x : w.ownsRow B 29 4 vx d ((M.take d).flatMap Tim.cells)
  a : Wh w ga 40 B left
  ne : gc ≠ ga
theorem OrdRel.past {w w' : World} {B ga gc : Nat} {vx : Value} {d k : Nat} {M left : List Tim} (h : OrdRel w B ga gc vx d k M left) (hb : Below w.heap.size w w') : OrdRel w' B ga gc vx d k M left := by
  obtain ⟨⟨ts, h1, h2, h3, h4⟩, hx, ha, hne⟩ := h
  exact ⟨⟨ts, h1.past hb, h2, h3, h4⟩, own_past hx hb, ha.past hb, hne⟩
/-- The next one of the copy. -/
theorem OrdRel.next {w w' : World} {B ga gc : Nat} {vx v' : Value} {d k : Nat} {M left ts : List Tim} {x : Tim} {r : List Tim} (h : OrdRel w B ga gc vx d k M left) (ho : Only gc (.slice none 0 0) w w') (hw : Wh w gc 40 B ts) (honce : Once ts) (hs : sortT ts = x :: r) (hr : r = M.drop (k + 1)) (hl : ts.length ≤ 40) (hv : Whv w' gc 40 w.heap.size v' (ts.filter fun f => !eqT f x)) (hB : B ≤ w.heap.size) : OrdRel w' B ga gc vx d (k + 1) M left := by
  obtain ⟨_, hx, ha, hne⟩ := h
  refine ⟨⟨_, (hv.mono hB).wh, once_filter honce _, by rw [first_law honce hs, hr], Nat.le_trans (List.length_filter_le _ _) hl⟩, own_besideN hx hw ho, ha.besideN hw ho hne.symm, hne⟩

set_option maxHeartbeats 40000000 in
set_option maxRecDepth 100000 in
theorem timerOrders_few (A : Option Addr) (n cp a : Nat) (now : Int) (l : List Tim) (w : World) (hr : Rd w w.heap.size 4 A n (l.flatMap Tim.cells)) (hn : n ≤ 40) (ha : a ≤ 255) :
    Calls Try.prog 3 #[.slice A n cp, .int .u8 (a : Nat), .int .i64 now] w fun e w' => e = .returned (.bool true) ∧ Below w.heap.size w w' := by
  have q1 : ¬ (40 : Int) < (n : Int) := by omega
  have HL := Lib.hid (hr.len Tim.cells_len (by omega))
  obtain ⟨t, ht⟩ : ∃ t : Nat, Hid (a % (n + 1) = t) := ⟨_, Lib.hid rfl⟩
  have htn : t ≤ n := by have := Nat.mod_lt a (show 0 < n + 1 by omega); rw [ht.out] at this; omega
  have e1 : (a : Int) % ((n : Int) + 1) = (t : Int) := by rw [← ht.out]; simp
  have e2 : ((a : Int)).tmod ((n : Int) + 1) = (t : Int) := by rw [Int.tmod_eq_emod_of_nonneg (by omega)]; exact e1
  have hnn : (n : Int) + 1 ≠ 0 := by omega
  have HN := Lib.hid (fun w => timerNew_any 40 w)
  go_enter Try.func3, Try.ntmps3
  go_wp2_with fail
  refine (HN.out _).mono ?_
  rintro e w1 ⟨rfl, hW1, hb1⟩
  go_wp2_with fail
  refine (HN.out _).mono ?_
  rintro e w2 ⟨rfl, hW2, hb2⟩
  have hg1 := hW1.out.lt
  have HT0 : Hid (Two w2 w.heap.size w.heap.size w1.heap.size 40 (setAll (l.take 0)) (setAll ((turnT l t).take 0))) := by
    obtain ⟨va, h1⟩ := hW1.out.whv
    obtain ⟨vb, h2⟩ := hW2.out.whv
    refine Lib.hid ⟨⟨va, vb, h1.past hb2, h2.mono hb1.size, fun k e1 e2 => ?_⟩, by omega⟩
    have := (h1.own_le k e1).2
    have := (h2.own_le k e2).1
    omega
  have hbb := Below.past hb1 hb2 hb1.size
  clear hW1 hW2 hb1 hb2
  go_wp2_with fail
  go_loopw [10] (fun i wr => ∃ k : Nat, k ≤ n ∧ i = .int .i64 k ∧ Hid (Two wr w.heap.size w.heap.size w1.heap.size 40 (setAll (l.take k)) (setAll ((turnT l t).take k))) ∧ Below w.heap.size w wr) (fun i _ => n - (intOf i).toNat)
  case atStart => exact ⟨0, Nat.zero_le _, rfl, HT0, hbb⟩
  case round =>
    clear e1 e2 hnn HT0 hbb
    obtain ⟨k, hk, rfl, HT, hb⟩ := hrel
    have hsb := hb.size
    by_cases hlt : k < n
    · as_aux_lemma =>
      have hlz : (k : Int) < (n : Int) := by omega
      obtain ⟨x, hx⟩ : ∃ x : Nat, Hid ((k + t) % n = x) := ⟨_, Lib.hid rfl⟩
      have hxn : x < n := by rw [← hx.out]; exact Nat.mod_lt _ (by omega)
      have e1 : ((k : Int) + (t : Int)) % (n : Int) = (x : Int) := by rw [← hx.out]; simp
      have e2 : ((k : Int) + (t : Int)).tmod (n : Int) = (x : Int) := by rw [Int.tmod_eq_emod_of_nonneg (by omega)]; exact e1
      have hxz : (x : Int) < (n : Int) := by omega
      have hnz : (n : Int) ≠ 0 := by omega
      obtain ⟨f, hgf⟩ : ∃ f, l[k]? = some f := ⟨_, List.getElem?_eq_getElem (by rw [HL.out]; exact hlt)⟩
      obtain ⟨g, hgg⟩ : ∃ g, l[x]? = some g := ⟨_, List.getElem?_eq_getElem (by rw [HL.out]; exact hxn)⟩
      have HTA : Hid (setAll (l.take (k + 1)) = setT (setAll (l.take k)) f) := Lib.hid (by rw [List.take_add_one, hgf]; exact setAll_snoc _ _)
      have HTB : Hid (setAll ((turnT l t).take (k + 1)) = setT (setAll ((turnT l t).take k)) g) := Lib.hid (by rw [turnT_take (l := l) (k := t) (i := k) (x := g) (by rw [HL.out]; exact htn) (by rw [HL.out]; exact hlt) (by rw [HL.out, hx.out]; exact hgg)]; exact setAll_snoc _ _)
      have hla : (setAll (l.take k)).length ≤ k := Nat.le_trans (setAll_len _) (by rw [List.length_take]; exact Nat.min_le_left _ _)
      have hlb : (setAll ((turnT l t).take k)).length ≤ k := Nat.le_trans (setAll_len _) (by rw [List.length_take]; exact Nat.min_le_left _ _)
      have HR := Lib.hid hr
      obtain ⟨b_f, off_f, rfl, hbf, hc⟩ := (hr.below hb).elem Tim.cells_len hgf hlt
      have c0 := hc 0 _ rfl
      have c1 := hc 1 _ rfl
      have c2 := hc 2 _ rfl
      have c3 := hc 3 _ rfl
      simp only [Nat.add_zero] at c0
      have HS := Lib.hid (setTwo_any w.heap.size w.heap.size w1.heap.size 40 _ _ f wr HT.out (by omega) (by omega) hsb (Nat.le_refl _))
      rw [← HTA.out] at HS
      clear hc hgf hr
      go_wp2_with fail
      refine HS.out.mono ?_
      rintro e w3 ⟨code, rfl, hT3, hb3⟩
      have hb4 := Below.trans hb hb3
      have hs4 := hb4.size
      obtain ⟨b_g, off_g, he, hbg, hd⟩ := (HR.out.below hb4).elem Tim.cells_len hgg hxn
      cases he
      have d0 := hd 0 _ rfl
      have d1 := hd 1 _ rfl
      have d2 := hd 2 _ rfl
      have d3 := hd 3 _ rfl
      simp only [Nat.add_zero] at d0
      have HS2 := Lib.hid (setTwo_any w.heap.size w1.heap.size w.heap.size 40 _ _ g w3 hT3.symm (by omega) (by omega) hs4 (by omega))
      rw [← HTB.out] at HS2
      clear c0 c1 c2 c3 hd hgg hT3 hb3
      go_wp2_with fail
      refine HS2.out.mono ?_
      rintro e w5 ⟨code2, rfl, hT5, hb5⟩
      have HT5 := Lib.hid hT5.symm
      have hb6 := Below.trans hb4 hb5
      clear hT5 hb5 d0 d1 d2 d3
      go_wp2_with fail
      go_roundw
      case rel => exact ⟨k + 1, by omega, by go_num, HT5, hb6⟩
      case measure => simp [intOf]; omega
    · as_aux_lemma =>
      have hlz : ¬ (k : Int) < (n : Int) := by omega
      obtain rfl : n = k := by omega
      rw [List.take_of_length_le (by rw [HL.out]; exact Nat.le_refl _), List.take_of_length_le (by rw [turnT_len, HL.out]; exact Nat.le_refl _)] at HT
      have HSE := Lib.hid (sortT_set (l := turnT l t) (m := l) (turnT_mem l t))
      have HSO := Lib.hid (setAll_once l)
      have HMEM : Hid (∀ x ∈ sortT (setAll l), hasT l x = true) := Lib.hid fun x hx => hasT_iff.2 ((setAll_mem l x).1 ((sortT_perm _).mem_iff.1 hx))
      have hSl : (setAll l).length ≤ 40 := Nat.le_trans (setAll_len l) (by rw [HL.out]; exact hn)
      have hS2l : (setAll (turnT l t)).length ≤ 40 := Nat.le_trans (setAll_len _) (by rw [turnT_len, HL.out]; exact hn)
      generalize setAll l = S at HT HSE HSO HMEM hSl
      generalize setAll (turnT l t) = S2 at HT HSE hS2l
      clear htn ht HN
      have HC := Lib.hid (copy_any w.heap.size 40 w.heap.size S wr HT.out.left (by omega))
      have HR := Lib.hid hr
      clear hr
      go_wp2_with fail
      refine HC.out.mono ?_
      rintro e w3 ⟨gc, rfl, hgc, hWc, hb3⟩
      have HT3 := Lib.hid (HT.out.past hb3)
      have hb4 := Below.past hb hb3 hsb
      have hs4 := hb4.size
      have hga := HT.out.left.lt
      have hgb := HT.out.right.lt
      have HF := Lib.hid (firev_any w.heap.size 40 w.heap.size S now w3 HT3.out.left (by omega))
      obtain ⟨d, hd⟩ : ∃ d, Hid (dueN now (sortT S) = d) := ⟨_, Lib.hid rfl⟩
      have hFL1 := fire_law now S
      have hFL2 := fire_law now S2
      rw [HSE.out] at hFL2
      rw [hd.out] at hFL1 hFL2
      have hdle : d ≤ S.length := by rw [← hd.out, ← sortT_len S]; exact dueN_le _ _
      have hS12 : S2.length = S.length := by rw [← sortT_len S2, HSE.out, sortT_len]
      have HG1 : Hid ((S.filter (dueP now)).length = d) := Lib.hid (by rw [← sortT_len, hFL1.1, List.length_take, sortT_len]; omega)
      have HG2 : Hid ((S2.filter (dueP now)).length = d) := Lib.hid (by rw [← sortT_len, hFL2.1, List.length_take, sortT_len]; omega)
      have HL1 : Hid ((S.filter fun f => !dueP now f).length ≤ 40) := Lib.hid (Nat.le_trans (List.length_filter_le _ _) hSl)
      have HL2 : Hid ((S2.filter fun f => !dueP now f).length = (S.filter fun f => !dueP now f).length) := Lib.hid (by rw [← sortT_len, hFL2.2, ← hFL1.2, sortT_len])
      have HCN := Lib.hid (cut_none now S)
      have HF1 := Lib.hid hFL1
      have HF2 := Lib.hid hFL2
      have HWc := Lib.hid hWc
      clear hFL1 hFL2 hb3 hWc HC hb
      go_wp2_with fail
      refine HF.out.mono ?_
      rintro e w5 ⟨vx, rfl, hx5, va5, hv5, ho5⟩
      rw [HG1.out] at hx5
      obtain ⟨Ax, cx, rfl⟩ := own_form hx5
      have HB5 : Hid (Wh w5 w1.heap.size 40 w.heap.size S2) := Lib.hid (HT3.out.right.besideN HT3.out.left ho5 (by omega))
      have HC5 : Hid (Wh w5 gc 40 wr.heap.size S) := Lib.hid (HWc.out.besideN HT3.out.left ho5 (by omega))
      have HA5 := Lib.hid (hv5.mono hs4).wh
      have hb6 := Below.trans hb4 (ho5.frame (Nat.le_refl _) hs4 (by simp [Value.ownBlock]))
      have hs6 := hb6.size
      have HX5 := Lib.hid (own_mono hx5 hs4)
      have HFb := Lib.hid (firev_any w1.heap.size 40 w.heap.size S2 now w5 HB5.out (by omega))
      clear hx5 hv5 ho5 hb4
      go_wp2_with fail
      refine HFb.out.mono ?_
      rintro e w7 ⟨vy, rfl, hy7, vb7, hv7, ho7⟩
      rw [HG2.out] at hy7
      obtain ⟨Ay, cy, rfl⟩ := own_form hy7
      have HX7 := Lib.hid (own_besideN HX5.out HB5.out ho7)
      have HA7 := Lib.hid (HA5.out.besideN HB5.out ho7 (by omega))
      have HC7 := Lib.hid (HC5.out.besideN HB5.out ho7 (by omega))
      have HB7 := Lib.hid (hv7.mono hs6).wh
      have hb8 := Below.trans hb6 (ho7.frame (by omega) hs6 (by simp [Value.ownBlock]))
      have hs8 := hb8.size
      have hx7 := HX7.out
      rw [HF1.out.1] at hx7
      rw [HF2.out.1] at hy7
      have HSm := Lib.hid (refSame_yes Ax d cx Ay cy ((sortT S).take d) _ _ w7 (Rd.of_own hx7) (Rd.of_own hy7) (by omega))
      have HXX := Lib.hid hx7
      clear hx7 hy7 hv7 ho7 hb6 HX5 HX7
      go_wp2_with fail
      refine HSm.out.mono ?_
      rintro e w9 ⟨rfl, hd9⟩
      have hb9 : Below w7.heap.size w7 w9 := hd9.below (Below.refl _ _)
      have HA9 := Lib.hid (HA7.out.past hb9)
      have HB9 := Lib.hid (HB7.out.past hb9)
      have HC9 := Lib.hid (HC7.out.past hb9)
      have HX9 := Lib.hid (own_past HXX.out hb9)
      have hb10 := Below.past hb8 hb9 hs8
      have hs10 := hb10.size
      have HAl := Lib.hid (all_any _ _ _ _ w9 HA9.out (by have := HL1.out; omega))
      clear hd9 hb9 hb8
      go_wp2_with fail
      refine HAl.out.mono ?_
      rintro e w11 ⟨v11, rfl, hown11, hb11⟩
      have HA11 := Lib.hid (HA9.out.past hb11)
      have HB11 := Lib.hid (HB9.out.past hb11)
      have HC11 := Lib.hid (HC9.out.past hb11)
      have HX11 := Lib.hid (own_past HX9.out hb11)
      have hb12 := Below.past hb10 hb11 hs10
      have hs12 := hb12.size
      have HBl := Lib.hid (all_any _ _ _ _ w11 HB11.out (by have := HL1.out; have := HL2.out; omega))
      have HO11 := Lib.hid hown11
      clear hb11 hown11 hb10
      go_wp2_with fail
      refine HBl.out.mono ?_
      rintro e w13 ⟨v13, rfl, hown13, hb13⟩
      rw [HL2.out, HF2.out.2, ← HF1.out.2] at hown13
      have hown11 := own_past HO11.out hb13
      obtain ⟨A11, c11, rfl⟩ := own_form hown11
      obtain ⟨A13, c13, rfl⟩ := own_form hown13
      have HSn := Lib.hid (refSame_yes A11 _ c11 A13 c13 _ _ _ w13 (Rd.of_own hown11) (Rd.of_own hown13) (by have := HL1.out; omega))
      have HA13 := Lib.hid (HA11.out.past hb13)
      have HC13 := Lib.hid (HC11.out.past hb13)
      have HX13 := Lib.hid (own_past HX11.out hb13)
      have hb14 := Below.past hb12 hb13 hs12
      have hs14 := hb14.size
      clear hb13 hown11 hown13 hb12 HO11
      go_wp2_with fail
      refine HSn.out.mono ?_
      rintro e w15 ⟨rfl, hd15⟩
      have hb15 : Below w13.heap.size w13 w15 := hd15.below (Below.refl _ _)
      have HREL : Hid (OrdRel w15 w.heap.size w.heap.size gc (.slice Ax d cx) d 0 (sortT S) (S.filter fun f => !dueP now f)) :=
        Lib.hid ⟨⟨S, by obtain ⟨v, hv⟩ := (HC13.out.past hb15).whv; exact (hv.mono hsb).wh, HSO.out, rfl, hSl⟩, own_past HX13.out hb15, HA13.out.past hb15, by omega⟩
      have hb16 := Below.past hb14 hb15 hs14
      clear hb15 hd15 hb14 HA13 HC13 HX13 HA11 HB11 HC11 HX11 HA9 HB9 HC9 HX9 HA7 HB7 HC7 HXX HA5 HB5 HC5 HT3 HT HWc HF HFb HSm HSn HAl HBl
      go_wp2_with fail
      have hle1 := HL1.out
      go_loopw [14, 15, 16] (fun i _ _ wr => ∃ k : Nat, k ≤ d ∧ i = .int .i64 k ∧ Hid (OrdRel wr w.heap.size w.heap.size gc (.slice Ax d cx) d k (sortT S) (S.filter fun f => !dueP now f)) ∧ Below w.heap.size w wr) (fun i _ _ _ => d - (intOf i).toNat)
      case atStart => exact ⟨0, Nat.zero_le _, rfl, HREL, hb16⟩
      case round =>
        clear HREL hb16
        obtain ⟨k, hk, rfl, HO, hb⟩ := hrel
        have hsb2 := hb.size
        obtain ⟨⟨ts, hwc, honce, hsd, htl⟩, hxo, hwa, hne⟩ := HO.out
        by_cases hlt : k < d
        · as_aux_lemma =>
          have hlz : (k : Int) < (d : Int) := by omega
          obtain ⟨x, hxk, hss, hxd⟩ := first_at (now := now) hsd (by rw [hd.out]; exact hlt)
          have HFI := Lib.hid (first_yes gc 40 w.heap.size ts _ x now wr hwc (by omega) honce hss hxd)
          have HH : Hid (hasT l x = true) := Lib.hid (HMEM.out x (List.mem_of_getElem? hxk))
          have hxt : ((sortT S).take d)[k]? = some x := by rw [List.getElem?_take, if_pos hlt]; exact hxk
          have q3 : decide (now < x.due) = false := decide_eq_false (by omega)
          have HNX : Hid (∀ w' v', Only gc (.slice none 0 0) wr w' → Whv w' gc 40 wr.heap.size v' (ts.filter fun f => !eqT f x) → OrdRel w' w.heap.size w.heap.size gc (.slice Ax d cx) d (k + 1) (sortT S) (S.filter fun f => !dueP now f)) :=
            Lib.hid fun w' v' ho hv => HO.out.next ho hwc honce hss rfl htl hv hsb2
          have hgc2 : w.heap.size ≤ gc := by omega
          have HPR : Hid (∀ y, 0 < k → (sortT S)[k - 1]? = some y → tB y x = true) := Lib.hid fun y h0 hy => below_at (sortT_sorted S) (sort_once HSO.out) (k := k - 1) hy (by rw [show k - 1 + 1 = k by omega]; exact hxk)
          have HPY : Hid (0 < k → ∃ y, ((sortT S).take d)[k - 1]? = some y ∧ (sortT S)[k - 1]? = some y) := Lib.hid fun h0 => by
            have hlk : k - 1 < (sortT S).length := by have := (List.getElem?_eq_some_iff.1 hxk).1; omega
            exact ⟨_, by rw [List.getElem?_take, if_pos (by omega)]; exact List.getElem?_eq_getElem hlk, List.getElem?_eq_getElem hlk⟩
          clear hwc hsd hxo hwa hne hss honce
          go_wp2_with fail
          refine HFI.out.mono ?_
          rintro e w2 ⟨rfl, v', hv2, ho2⟩
          have HO2 := Lib.hid (HNX.out w2 v' ho2 hv2)
          have hb2 := Below.trans hb (ho2.frame hgc2 hsb2 (by simp [Value.ownBlock]))
          have hs2 := hb2.size
          have hbz := (Below.refl w2.heap.size w2).alloc (Nat.le_refl _) (.cells #[.int .i64 x.due, .int .i64 x.kind, .int .i64 x.mem, .int .i64 x.lev] 29)
          have bt := Blk.new w2 29 #[.int .i64 x.due, .int .i64 x.kind, .int .i64 x.mem, .int .i64 x.lev] w2.heap.size rfl
          obtain ⟨W, hW⟩ : ∃ W, Hid (w2.alloc (.cells #[.int .i64 x.due, .int .i64 x.kind, .int .i64 x.mem, .int .i64 x.lev] 29) = W) := ⟨_, Lib.hid rfl⟩
          rw [hW.out] at hbz bt
          have HOW := Lib.hid (HO2.out.past hbz)
          have hbW := Below.past hb2 hbz hs2
          have hsW := hbW.size
          have t0 := bt.cell 0
          have t1 := bt.cell 1
          have t2 := bt.cell 2
          have t3 := bt.cell 3
          simp at t0 t1 t2 t3
          have HBT := Lib.hid bt
          have hrx := Rd.of_own HOW.out.x
          have HRX := Lib.hid hrx
          obtain ⟨b_x, off_x, hAx, hbx, hcx⟩ := hrx.elem Tim.cells_len hxt hlt
          subst hAx
          have c0 := hcx 0 _ rfl
          have c1 := hcx 1 _ rfl
          have c2 := hcx 2 _ rfl
          have c3 := hcx 3 _ rfl
          simp only [Nat.add_zero] at c0
          have hq : ∀ w, (binOp .neq 29 (.agg #[.int .i64 x.due, .int .i64 x.kind, .int .i64 x.mem, .int .i64 x.lev]) (.agg #[.int .i64 x.due, .int .i64 x.kind, .int .i64 x.mem, .int .i64 x.lev])).run Try.prog w = .ok (.bool false) w := fun w => tim_neq x x true (eqT_refl x) w
          have HHas : Hid (∀ w', Below W.heap.size W w' → Calls Try.prog 21 #[.slice A n cp, .agg #[.int .i64 x.due, .int .i64 x.kind, .int .i64 x.mem, .int .i64 x.lev]] w' fun e w'' => e = .returned (.bool true) ∧ Below w'.heap.size w' w'') := Lib.hid fun w' hw' => by
            have h := refHas_any A n cp l x w' (((HR.out.below hbW).mono hsW).past hw') (by omega)
            rw [HH.out] at h; exact h
          have hWW := Below.refl W.heap.size W
          have HHB := Lib.hid hbx
          clear hv2 ho2 hb hb2 bt hxt hxk hrx hbz
          go_upto_region 18 with fail
          rw [hW.out]
          by_cases hk0 : k = 0
          · subst hk0
            rw [Nat.zero_mul, Nat.add_zero] at c0 c1 c2 c3
            have q4 : decide ((0 : Int) < 0) = false := rfl
            have KP : Hid (∀ w', Below W.heap.size W w' → (w'.cell? ⟨w2.heap.size, 0, none⟩ = some (.int .i64 x.due) ∧ w'.cell? ⟨w2.heap.size, 1, none⟩ = some (.int .i64 x.kind) ∧ w'.cell? ⟨w2.heap.size, 2, none⟩ = some (.int .i64 x.mem) ∧ w'.cell? ⟨w2.heap.size, 3, none⟩ = some (.int .i64 x.lev) ∧ w'.cell? ⟨b_x, off_x, none⟩ = some (.int .i64 x.due) ∧ w'.cell? ⟨b_x, off_x + 1, none⟩ = some (.int .i64 x.kind) ∧ w'.cell? ⟨b_x, off_x + 2, none⟩ = some (.int .i64 x.mem) ∧ w'.cell? ⟨b_x, off_x + 3, none⟩ = some (.int .i64 x.lev) ∧ Below W.heap.size W w')) := Lib.hid fun w' hb => ⟨(HBT.out.past hb).cell 0, (HBT.out.past hb).cell 1, (HBT.out.past hb).cell 2, (HBT.out.past hb).cell 3, (hb.cell (p := ⟨b_x, off_x, none⟩) hbx).trans c0, (hb.cell (p := ⟨b_x, off_x + 1, none⟩) hbx).trans c1, (hb.cell (p := ⟨b_x, off_x + 2, none⟩) hbx).trans c2, (hb.cell (p := ⟨b_x, off_x + 3, none⟩) hbx).trans c3, hb⟩
            clear hbx c0 c1 c2 c3 t0 t1 t2 t3
            obtain ⟨t0, t1, t2, t3, c0, c1, c2, c3, _⟩ := KP.out W hWW
            refine wp_region_held_drew (S := fun w' => w'.cell? ⟨w2.heap.size, 0, none⟩ = some (.int .i64 x.due) ∧ w'.cell? ⟨w2.heap.size, 1, none⟩ = some (.int .i64 x.kind) ∧ w'.cell? ⟨w2.heap.size, 2, none⟩ = some (.int .i64 x.mem) ∧ w'.cell? ⟨w2.heap.size, 3, none⟩ = some (.int .i64 x.lev) ∧ w'.cell? ⟨b_x, off_x, none⟩ = some (.int .i64 x.due) ∧ w'.cell? ⟨b_x, off_x + 1, none⟩ = some (.int .i64 x.kind) ∧ w'.cell? ⟨b_x, off_x + 2, none⟩ = some (.int .i64 x.mem) ∧ w'.cell? ⟨b_x, off_x + 3, none⟩ = some (.int .i64 x.lev) ∧ Below W.heap.size W w') (by kernel_rfl) (KP.out _ (Below.drew hWW)) (fun hHeld => ?_)
            refine wpAnyH_take (i := 0) (v := ?_) rfl (by kernel_rfl) (by kernel_rfl) (by kernel_rfl) (fun _ _ _ h => h) (Or.inl ⟨by rfl, ?_⟩) (by assumption) ?_
            rotate_left
            · (intro w' hSw; (try dsimp only at hSw); first | (go_simp; done) | (go_simp; with_reducible rfl))
            try simp only [Act.put, List.getElem_toArray, List.getElem_cons_zero, List.getElem_cons_succ, List.setIfInBounds_toArray, List.set_cons_zero, List.set_cons_succ]
            refine wpAnyH_take (i := 1) (v := ?_) rfl (by kernel_rfl) (by kernel_rfl) (by kernel_rfl) (fun _ _ _ h => h) (Or.inl ⟨by rfl, ?_⟩) (by assumption) ?_
            rotate_left
            · (intro w' hSw; (try dsimp only at hSw); first | (go_simp; done) | (go_simp; with_reducible rfl))
            try simp only [Act.put, List.getElem_toArray, List.getElem_cons_zero, List.getElem_cons_succ, List.setIfInBounds_toArray, List.set_cons_zero, List.set_cons_succ]
            refine wpAnyH_take (i := 2) (v := ?_) rfl (by kernel_rfl) (by kernel_rfl) (by kernel_rfl) (fun _ _ _ h => h) (Or.inl ⟨by rfl, ?_⟩) (by assumption) ?_
            rotate_left
            · (intro w' hSw; (try dsimp only at hSw); first | (go_simp; done) | (go_simp; with_reducible rfl))
            try simp only [Act.put, List.getElem_toArray, List.getElem_cons_zero, List.getElem_cons_succ, List.setIfInBounds_toArray, List.set_cons_zero, List.set_cons_succ]
            refine wpAnyH_take (i := 3) (v := ?_) rfl (by kernel_rfl) (by kernel_rfl) (by kernel_rfl) (fun _ _ _ h => h) (Or.inl ⟨by rfl, ?_⟩) (by assumption) ?_
            rotate_left
            · (intro w' hSw; (try dsimp only at hSw); first | (go_simp; done) | (go_simp; with_reducible rfl))
            try simp only [Act.put, List.getElem_toArray, List.getElem_cons_zero, List.getElem_cons_succ, List.setIfInBounds_toArray, List.set_cons_zero, List.set_cons_succ]
            refine wpAnyH_take (i := 4) (v := ?_) rfl (by kernel_rfl) (by kernel_rfl) (by kernel_rfl) (fun _ _ _ h => h) (Or.inl ⟨by rfl, ?_⟩) (by assumption) ?_
            rotate_left
            · (intro w' hSw; (try dsimp only at hSw); first | (go_simp; done) | (go_simp; with_reducible rfl))
            try simp only [Act.put, List.getElem_toArray, List.getElem_cons_zero, List.getElem_cons_succ, List.setIfInBounds_toArray, List.set_cons_zero, List.set_cons_succ]
            refine wpAnyH_take (i := 5) (v := ?_) rfl (by kernel_rfl) (by kernel_rfl) (by kernel_rfl) (fun _ _ _ h => h) (Or.inl ⟨by rfl, ?_⟩) (by assumption) ?_
            rotate_left
            · (intro w' hSw; (try dsimp only at hSw); first | (go_simp; done) | (go_simp; with_reducible rfl))
            try simp only [Act.put, List.getElem_toArray, List.getElem_cons_zero, List.getElem_cons_succ, List.setIfInBounds_toArray, List.set_cons_zero, List.set_cons_succ]
            refine wpAnyH_take (i := 6) (v := ?_) rfl (by kernel_rfl) (by kernel_rfl) (by kernel_rfl) (fun _ _ _ h => h) (Or.inl ⟨by rfl, ?_⟩) (by assumption) ?_
            rotate_left
            · (intro w' hSw; (try dsimp only at hSw); first | (go_simp; done) | (go_simp; with_reducible rfl))
            try simp only [Act.put, List.getElem_toArray, List.getElem_cons_zero, List.getElem_cons_succ, List.setIfInBounds_toArray, List.set_cons_zero, List.set_cons_succ]
            refine wpAnyH_take (i := 7) (v := ?_) rfl (by kernel_rfl) (by kernel_rfl) (by kernel_rfl) (fun _ _ _ h => h) (Or.inl ⟨by rfl, ?_⟩) (by assumption) ?_
            rotate_left
            · (intro w' hSw; (try dsimp only at hSw); first | (go_simp; done) | (go_simp; with_reducible rfl))
            try simp only [Act.put, List.getElem_toArray, List.getElem_cons_zero, List.getElem_cons_succ, List.setIfInBounds_toArray, List.set_cons_zero, List.set_cons_succ]
            refine wpAnyH_take (i := 8) (v := ?_) rfl (by kernel_rfl) (by kernel_rfl) (by kernel_rfl) (fun _ _ _ h => h) (Or.inl ⟨by rfl, ?_⟩) (by assumption) ?_
            rotate_left
            · (intro w' hSw; (try dsimp only at hSw); first | (go_simp; done) | (go_simp; with_reducible rfl))
            try simp only [Act.put, List.getElem_toArray, List.getElem_cons_zero, List.getElem_cons_succ, List.setIfInBounds_toArray, List.set_cons_zero, List.set_cons_succ]
            refine wpAnyH_take (i := 9) (v := ?_) rfl (by kernel_rfl) (by kernel_rfl) (by kernel_rfl) (fun _ _ _ h => h) (Or.inl ⟨by rfl, ?_⟩) (by assumption) ?_
            rotate_left
            · (intro w' hSw; (try dsimp only at hSw); first | (go_simp; done) | (go_simp; with_reducible rfl))
            try simp only [Act.put, List.getElem_toArray, List.getElem_cons_zero, List.getElem_cons_succ, List.setIfInBounds_toArray, List.set_cons_zero, List.set_cons_succ]
            refine wpAnyH_take (i := 10) (v := ?_) rfl (by kernel_rfl) (by kernel_rfl) (by kernel_rfl) (fun _ _ _ h => h) (Or.inl ⟨by rfl, ?_⟩) (by assumption) ?_
            rotate_left
            · (intro w' hSw; (try dsimp only at hSw); first | (go_simp; done) | (go_simp; with_reducible rfl))
            try simp only [Act.put, List.getElem_toArray, List.getElem_cons_zero, List.getElem_cons_succ, List.setIfInBounds_toArray, List.set_cons_zero, List.set_cons_succ]
            refine wpAnyH_take (i := 11) (v := ?_) rfl (by kernel_rfl) (by kernel_rfl) (by kernel_rfl) (fun _ _ _ h => h) (Or.inl ⟨by rfl, ?_⟩) (by assumption) ?_
            rotate_left
            · (intro w' hSw; (try dsimp only at hSw); first | (go_simp; done) | (go_simp; with_reducible rfl))
            try simp only [Act.put, List.getElem_toArray, List.getElem_cons_zero, List.getElem_cons_succ, List.setIfInBounds_toArray, List.set_cons_zero, List.set_cons_succ]
            refine wpAnyH_take (i := 12) (v := ?_) rfl (by kernel_rfl) (by kernel_rfl) (by kernel_rfl) (fun _ _ _ h => h) (Or.inl ⟨by rfl, ?_⟩) (by assumption) ?_
            rotate_left
            · (intro w' hSw; (try dsimp only at hSw); first | (go_simp; done) | (go_simp; with_reducible rfl))
            try simp only [Act.put, List.getElem_toArray, List.getElem_cons_zero, List.getElem_cons_succ, List.setIfInBounds_toArray, List.set_cons_zero, List.set_cons_succ]
            refine wpAnyH_take (i := 13) (v := ?_) rfl (by kernel_rfl) (by kernel_rfl) (by kernel_rfl) (fun _ _ _ h => h) (Or.inl ⟨by rfl, ?_⟩) (by assumption) ?_
            rotate_left
            · (intro w' hSw; (try dsimp only at hSw); first | (go_simp; done) | (go_simp; with_reducible rfl))
            try simp only [Act.put, List.getElem_toArray, List.getElem_cons_zero, List.getElem_cons_succ, List.setIfInBounds_toArray, List.set_cons_zero, List.set_cons_succ]
            refine wpAnyH_take (i := 14) (v := ?_) rfl (by kernel_rfl) (by kernel_rfl) (by kernel_rfl) (fun _ _ _ h => h) (Or.inl ⟨by rfl, ?_⟩) (by assumption) ?_
            rotate_left
            · (intro w' hSw; (try dsimp only at hSw); first | (go_simp; done) | (go_simp; with_reducible rfl))
            try simp only [Act.put, List.getElem_toArray, List.getElem_cons_zero, List.getElem_cons_succ, List.setIfInBounds_toArray, List.set_cons_zero, List.set_cons_succ]
            refine wpAnyH_take (i := 15) (v := ?_) rfl (by kernel_rfl) (by kernel_rfl) (by kernel_rfl) (fun _ _ _ h => h) (Or.inl ⟨by rfl, ?_⟩) (by assumption) ?_
            rotate_left
            · (intro w' hSw; (try dsimp only at hSw); first | (go_simp; done) | (go_simp; with_reducible rfl))
            try simp only [Act.put, List.getElem_toArray, List.getElem_cons_zero, List.getElem_cons_succ, List.setIfInBounds_toArray, List.set_cons_zero, List.set_cons_succ]
            refine wpAnyH_take (i := 16) (v := ?_) rfl (by kernel_rfl) (by kernel_rfl) (by kernel_rfl) (fun _ _ _ h => h) (Or.inl ⟨by rfl, ?_⟩) (by assumption) ?_
            rotate_left
            · (intro w' hSw; (try dsimp only at hSw); first | (go_simp; done) | (go_simp; with_reducible rfl))
            try simp only [Act.put, List.getElem_toArray, List.getElem_cons_zero, List.getElem_cons_succ, List.setIfInBounds_toArray, List.set_cons_zero, List.set_cons_succ]
            refine wpAnyH_take (i := 17) (v := ?_) rfl (by kernel_rfl) (by kernel_rfl) (by kernel_rfl) (fun _ _ _ h => h) (Or.inl ⟨by rfl, ?_⟩) (by assumption) ?_
            rotate_left
            · (intro w' hSw; (try dsimp only at hSw); first | (go_simp; done) | (go_simp; with_reducible rfl))
            try simp only [Act.put, List.getElem_toArray, List.getElem_cons_zero, List.getElem_cons_succ, List.setIfInBounds_toArray, List.set_cons_zero, List.set_cons_succ]
            refine wpAnyH_take (i := 18) (v := ?_) rfl (by kernel_rfl) (by kernel_rfl) (by kernel_rfl) (fun _ _ _ h => h) (Or.inl ⟨by rfl, ?_⟩) (by assumption) ?_
            rotate_left
            · (intro w' hSw; (try dsimp only at hSw); first | (go_simp; done) | (go_simp; with_reducible rfl))
            try simp only [Act.put, List.getElem_toArray, List.getElem_cons_zero, List.getElem_cons_succ, List.setIfInBounds_toArray, List.set_cons_zero, List.set_cons_succ]
            refine wpAnyH_ready (rs := [19]) (by kernel_rfl) (by simp) ?_
            refine AllReadyH.cons rfl (fun K hK => ?_) AllReadyH.nil
            go_simp
            go_at_call 21
            refine (HHas.out _ hHeld.2.2.2.2.2.2.2.2).mono ?_
            rintro e w4 ⟨rfl, hb4⟩
            refine hK.out _ _ (KP.out _ (Below.next hHeld.2.2.2.2.2.2.2.2 hb4)) (fun hHeld2 => ?_)
            try simp only [Act.put, List.getElem_toArray, List.getElem_cons_zero, List.getElem_cons_succ, List.setIfInBounds_toArray, List.set_cons_zero, List.set_cons_succ]
            refine wpAnyH_take (i := 20) (v := ?_) rfl (by kernel_rfl) (by kernel_rfl) (by kernel_rfl) (fun _ _ _ h => h) (Or.inl ⟨by rfl, ?_⟩) (by assumption) ?_
            rotate_left
            · (intro w' hSw; (try dsimp only at hSw); first | (go_simp; done) | (go_simp; with_reducible rfl))
            try simp only [Act.put, List.getElem_toArray, List.getElem_cons_zero, List.getElem_cons_succ, List.setIfInBounds_toArray, List.set_cons_zero, List.set_cons_succ]
            refine wpAnyH_take (i := 21) (v := ?_) rfl (by kernel_rfl) (by kernel_rfl) (by kernel_rfl) (fun _ _ _ h => h) (Or.inl ⟨by rfl, ?_⟩) (by assumption) ?_
            rotate_left
            · (intro w' hSw; (try dsimp only at hSw); first | (go_simp; done) | (go_simp; with_reducible rfl))
            try simp only [Act.put, List.getElem_toArray, List.getElem_cons_zero, List.getElem_cons_succ, List.setIfInBounds_toArray, List.set_cons_zero, List.set_cons_succ]
            refine wpAnyH_take (i := 22) (v := ?_) rfl (by kernel_rfl) (by kernel_rfl) (by kernel_rfl) (fun _ _ _ h => h) (Or.inl ⟨by rfl, ?_⟩) (by assumption) ?_
            rotate_left
            · (intro w' hSw; (try dsimp only at hSw); first | (go_simp; done) | (go_simp; with_reducible rfl))
            try simp only [Act.put, List.getElem_toArray, List.getElem_cons_zero, List.getElem_cons_succ, List.setIfInBounds_toArray, List.set_cons_zero, List.set_cons_succ]
            refine wpAnyH_take (i := 23) (v := ?_) rfl (by kernel_rfl) (by kernel_rfl) (by kernel_rfl) (fun _ _ _ h => h) (Or.inl ⟨by rfl, ?_⟩) (by assumption) ?_
            rotate_left
            · (intro w' hSw; (try dsimp only at hSw); first | (go_simp; done) | (go_simp; with_reducible rfl))
            try simp only [Act.put, List.getElem_toArray, List.getElem_cons_zero, List.getElem_cons_succ, List.setIfInBounds_toArray, List.set_cons_zero, List.set_cons_succ]
            refine wpAnyH_take (i := 24) (v := ?_) rfl (by kernel_rfl) (by kernel_rfl) (by kernel_rfl) (fun _ _ _ h => h) (Or.inl ⟨by rfl, ?_⟩) (by assumption) ?_
            rotate_left
            · (intro w' hSw; (try dsimp only at hSw); first | (go_simp; done) | (go_simp; with_reducible rfl))
            try simp only [Act.put, List.getElem_toArray, List.getElem_cons_zero, List.getElem_cons_succ, List.setIfInBounds_toArray, List.set_cons_zero, List.set_cons_succ]
            refine wpAnyH_take (i := 25) (v := ?_) rfl (by kernel_rfl) (by kernel_rfl) (by kernel_rfl) (fun _ _ _ h => h) (Or.inl ⟨by rfl, ?_⟩) (by assumption) ?_
            rotate_left
            · (intro w' hSw; (try dsimp only at hSw); first | (go_simp; done) | (go_simp; with_reducible rfl))
            try simp only [Act.put, List.getElem_toArray, List.getElem_cons_zero, List.getElem_cons_succ, List.setIfInBounds_toArray, List.set_cons_zero, List.set_cons_succ]
            refine wpAnyH_take (i := 26) (v := undef) rfl (by kernel_rfl) (by kernel_rfl) (by kernel_rfl) (fun _ _ _ h => h) (Or.inr ⟨by rfl, rfl⟩) (by assumption) ?_
            try simp only [Act.put, List.getElem_toArray, List.getElem_cons_zero, List.getElem_cons_succ, List.setIfInBounds_toArray, List.set_cons_zero, List.set_cons_succ]
            refine wpAnyH_take (i := 27) (v := undef) rfl (by kernel_rfl) (by kernel_rfl) (by kernel_rfl) (fun _ _ _ h => h) (Or.inr ⟨by rfl, rfl⟩) (by assumption) ?_
            try simp only [Act.put, List.getElem_toArray, List.getElem_cons_zero, List.getElem_cons_succ, List.setIfInBounds_toArray, List.set_cons_zero, List.set_cons_succ]
            refine wpAnyH_take (i := 28) (v := undef) rfl (by kernel_rfl) (by kernel_rfl) (by kernel_rfl) (fun _ _ _ h => h) (Or.inr ⟨by rfl, rfl⟩) (by assumption) ?_
            try simp only [Act.put, List.getElem_toArray, List.getElem_cons_zero, List.getElem_cons_succ, List.setIfInBounds_toArray, List.set_cons_zero, List.set_cons_succ]
            refine wpAnyH_take (i := 29) (v := undef) rfl (by kernel_rfl) (by kernel_rfl) (by kernel_rfl) (fun _ _ _ h => h) (Or.inr ⟨by rfl, rfl⟩) (by assumption) ?_
            try simp only [Act.put, List.getElem_toArray, List.getElem_cons_zero, List.getElem_cons_succ, List.setIfInBounds_toArray, List.set_cons_zero, List.set_cons_succ]
            refine wpAnyH_take (i := 30) (v := undef) rfl (by kernel_rfl) (by kernel_rfl) (by kernel_rfl) (fun _ _ _ h => h) (Or.inr ⟨by rfl, rfl⟩) (by assumption) ?_
            try simp only [Act.put, List.getElem_toArray, List.getElem_cons_zero, List.getElem_cons_succ, List.setIfInBounds_toArray, List.set_cons_zero, List.set_cons_succ]
            refine wpAnyH_take (i := 31) (v := undef) rfl (by kernel_rfl) (by kernel_rfl) (by kernel_rfl) (fun _ _ _ h => h) (Or.inr ⟨by rfl, rfl⟩) (by assumption) ?_
            try simp only [Act.put, List.getElem_toArray, List.getElem_cons_zero, List.getElem_cons_succ, List.setIfInBounds_toArray, List.set_cons_zero, List.set_cons_succ]
            refine wpAnyH_take (i := 32) (v := undef) rfl (by kernel_rfl) (by kernel_rfl) (by kernel_rfl) (fun _ _ _ h => h) (Or.inr ⟨by rfl, rfl⟩) (by assumption) ?_
            try simp only [Act.put, List.getElem_toArray, List.getElem_cons_zero, List.getElem_cons_succ, List.setIfInBounds_toArray, List.set_cons_zero, List.set_cons_succ]
            refine wpAnyH_take (i := 33) (v := undef) rfl (by kernel_rfl) (by kernel_rfl) (by kernel_rfl) (fun _ _ _ h => h) (Or.inr ⟨by rfl, rfl⟩) (by assumption) ?_
            try simp only [Act.put, List.getElem_toArray, List.getElem_cons_zero, List.getElem_cons_succ, List.setIfInBounds_toArray, List.set_cons_zero, List.set_cons_succ]
            refine wpAnyH_take (i := 34) (v := ?_) rfl (by kernel_rfl) (by kernel_rfl) (by kernel_rfl) (fun _ _ _ h => h) (Or.inl ⟨by rfl, ?_⟩) (by assumption) ?_
            rotate_left
            · (intro w' hSw; (try dsimp only at hSw); first | (go_simp; done) | (go_simp; with_reducible rfl))
            try simp only [Act.put, List.getElem_toArray, List.getElem_cons_zero, List.getElem_cons_succ, List.setIfInBounds_toArray, List.set_cons_zero, List.set_cons_succ]
            refine wpAnyH_take (i := 35) (v := ?_) rfl (by kernel_rfl) (by kernel_rfl) (by kernel_rfl) (fun _ _ _ h => h) (Or.inl ⟨by rfl, ?_⟩) (by assumption) ?_
            rotate_left
            · (intro w' hSw; (try dsimp only at hSw); first | (go_simp; done) | (go_simp; with_reducible rfl))
            try simp only [Act.put, List.getElem_toArray, List.getElem_cons_zero, List.getElem_cons_succ, List.setIfInBounds_toArray, List.set_cons_zero, List.set_cons_succ]
            refine wpAnyH_done (by kernel_rfl) ?_ _
            all_goals
              go_split_ands
              have hb5 : Below W.heap.size W w4 := by assumption
              have HO4 := Lib.hid (HOW.out.past hb5)
              have hb6 := Below.past hbW hb5 hsW
              go_wp2_with fail
              go_roundw
              case rel => exact ⟨0 + 1, by omega, by go_num, HO4, hb6⟩
              case measure => simp [intOf]; omega
          · have q4 : decide ((0 : Int) < (k : Int)) = true := decide_eq_true (by omega)
            have q5 : (0 : Int) < (k : Int) := by omega
            have q6 : 0 < k := by omega
            have q8 : (1 : Int) ≤ (k : Int) := by omega
            have q7 : decide (0 < k) = true := decide_eq_true q6
            obtain ⟨y, hyt, hym⟩ := HPY.out (by omega)
            have HTB := Lib.hid (HPR.out y (by omega) hym)
            have hk1 : k - 1 < d := by omega
            obtain ⟨b_y, off_y, hAy, hby, hcy⟩ := HRX.out.elem Tim.cells_len hyt hk1
            cases hAy
            have y0 := hcy 0 _ rfl
            have y1 := hcy 1 _ rfl
            have y2 := hcy 2 _ rfl
            have y3 := hcy 3 _ rfl
            simp only [Nat.add_zero] at y0
            have KP : Hid (∀ w', Below W.heap.size W w' → (w'.cell? ⟨w2.heap.size, 0, none⟩ = some (.int .i64 x.due) ∧ w'.cell? ⟨w2.heap.size, 1, none⟩ = some (.int .i64 x.kind) ∧ w'.cell? ⟨w2.heap.size, 2, none⟩ = some (.int .i64 x.mem) ∧ w'.cell? ⟨w2.heap.size, 3, none⟩ = some (.int .i64 x.lev) ∧ w'.cell? ⟨b_x, off_x + k * 4, none⟩ = some (.int .i64 x.due) ∧ w'.cell? ⟨b_x, off_x + k * 4 + 1, none⟩ = some (.int .i64 x.kind) ∧ w'.cell? ⟨b_x, off_x + k * 4 + 2, none⟩ = some (.int .i64 x.mem) ∧ w'.cell? ⟨b_x, off_x + k * 4 + 3, none⟩ = some (.int .i64 x.lev) ∧ w'.cell? ⟨b_x, off_x + (k - 1) * 4, none⟩ = some (.int .i64 y.due) ∧ w'.cell? ⟨b_x, off_x + (k - 1) * 4 + 1, none⟩ = some (.int .i64 y.kind) ∧ w'.cell? ⟨b_x, off_x + (k - 1) * 4 + 2, none⟩ = some (.int .i64 y.mem) ∧ w'.cell? ⟨b_x, off_x + (k - 1) * 4 + 3, none⟩ = some (.int .i64 y.lev) ∧ Below W.heap.size W w')) := Lib.hid fun w' hb => ⟨(HBT.out.past hb).cell 0, (HBT.out.past hb).cell 1, (HBT.out.past hb).cell 2, (HBT.out.past hb).cell 3, (hb.cell (p := ⟨b_x, off_x + k * 4, none⟩) hbx).trans c0, (hb.cell (p := ⟨b_x, off_x + k * 4 + 1, none⟩) hbx).trans c1, (hb.cell (p := ⟨b_x, off_x + k * 4 + 2, none⟩) hbx).trans c2, (hb.cell (p := ⟨b_x, off_x + k * 4 + 3, none⟩) hbx).trans c3, (hb.cell (p := ⟨b_x, off_x + (k - 1) * 4, none⟩) hbx).trans y0, (hb.cell (p := ⟨b_x, off_x + (k - 1) * 4 + 1, none⟩) hbx).trans y1, (hb.cell (p := ⟨b_x, off_x + (k - 1) * 4 + 2, none⟩) hbx).trans y2, (hb.cell (p := ⟨b_x, off_x + (k - 1) * 4 + 3, none⟩) hbx).trans y3, hb⟩
            clear hbx hby hcx hcy c0 c1 c2 c3 t0 t1 t2 t3 y0 y1 y2 y3
            obtain ⟨t0, t1, t2, t3, c0, c1, c2, c3, y0, y1, y2, y3, _⟩ := KP.out W hWW
            have s1 : IntKind.i64.wrap ((k : Int) - 1) = (k : Int) - 1 := IntWalk.i64_in _ (by omega)
            have s2 : 0 ≤ (k : Int) - 1 := by omega
            have s3 : (k : Int) - 1 < (d : Int) := by omega
            have s4 : ((k : Int) - 1).toNat = k - 1 := by omega
            refine wp_region_held_drew (S := fun w' => w'.cell? ⟨w2.heap.size, 0, none⟩ = some (.int .i64 x.due) ∧ w'.cell? ⟨w2.heap.size, 1, none⟩ = some (.int .i64 x.kind) ∧ w'.cell? ⟨w2.heap.size, 2, none⟩ = some (.int .i64 x.mem) ∧ w'.cell? ⟨w2.heap.size, 3, none⟩ = some (.int .i64 x.lev) ∧ w'.cell? ⟨b_x, off_x + k * 4, none⟩ = some (.int .i64 x.due) ∧ w'.cell? ⟨b_x, off_x + k * 4 + 1, none⟩ = some (.int .i64 x.kind) ∧ w'.cell? ⟨b_x, off_x + k * 4 + 2, none⟩ = some (.int .i64 x.mem) ∧ w'.cell? ⟨b_x, off_x + k * 4 + 3, none⟩ = some (.int .i64 x.lev) ∧ w'.cell? ⟨b_x, off_x + (k - 1) * 4, none⟩ = some (.int .i64 y.due) ∧ w'.cell? ⟨b_x, off_x + (k - 1) * 4 + 1, none⟩ = some (.int .i64 y.kind) ∧ w'.cell? ⟨b_x, off_x + (k - 1) * 4 + 2, none⟩ = some (.int .i64 y.mem) ∧ w'.cell? ⟨b_x, off_x + (k - 1) * 4 + 3, none⟩ = some (.int .i64 y.lev) ∧ Below W.heap.size W w') (by kernel_rfl) (KP.out _ (Below.drew hWW)) (fun hHeld => ?_)
            refine wpAnyH_take (i := 0) (v := ?_) rfl (by kernel_rfl) (by kernel_rfl) (by kernel_rfl) (fun _ _ _ h => h) (Or.inl ⟨by rfl, ?_⟩) (by assumption) ?_
            rotate_left
            · (intro w' hSw; (try dsimp only at hSw); first | (go_simp; done) | (go_simp; with_reducible rfl))
            try simp only [Act.put, List.getElem_toArray, List.getElem_cons_zero, List.getElem_cons_succ, List.setIfInBounds_toArray, List.set_cons_zero, List.set_cons_succ]
            refine wpAnyH_take (i := 1) (v := ?_) rfl (by kernel_rfl) (by kernel_rfl) (by kernel_rfl) (fun _ _ _ h => h) (Or.inl ⟨by rfl, ?_⟩) (by assumption) ?_
            rotate_left
            · (intro w' hSw; (try dsimp only at hSw); first | (go_simp; done) | (go_simp; with_reducible rfl))
            try simp only [Act.put, List.getElem_toArray, List.getElem_cons_zero, List.getElem_cons_succ, List.setIfInBounds_toArray, List.set_cons_zero, List.set_cons_succ]
            refine wpAnyH_take (i := 2) (v := ?_) rfl (by kernel_rfl) (by kernel_rfl) (by kernel_rfl) (fun _ _ _ h => h) (Or.inl ⟨by rfl, ?_⟩) (by assumption) ?_
            rotate_left
            · (intro w' hSw; (try dsimp only at hSw); first | (go_simp; done) | (go_simp; with_reducible rfl))
            try simp only [Act.put, List.getElem_toArray, List.getElem_cons_zero, List.getElem_cons_succ, List.setIfInBounds_toArray, List.set_cons_zero, List.set_cons_succ]
            refine wpAnyH_take (i := 3) (v := ?_) rfl (by kernel_rfl) (by kernel_rfl) (by kernel_rfl) (fun _ _ _ h => h) (Or.inl ⟨by rfl, ?_⟩) (by assumption) ?_
            rotate_left
            · (intro w' hSw; (try dsimp only at hSw); first | (go_simp; done) | (go_simp; with_reducible rfl))
            try simp only [Act.put, List.getElem_toArray, List.getElem_cons_zero, List.getElem_cons_succ, List.setIfInBounds_toArray, List.set_cons_zero, List.set_cons_succ]
            refine wpAnyH_take (i := 4) (v := ?_) rfl (by kernel_rfl) (by kernel_rfl) (by kernel_rfl) (fun _ _ _ h => h) (Or.inl ⟨by rfl, ?_⟩) (by assumption) ?_
            rotate_left
            · (intro w' hSw; (try dsimp only at hSw); first | (go_simp; done) | (go_simp; with_reducible rfl))
            try simp only [Act.put, List.getElem_toArray, List.getElem_cons_zero, List.getElem_cons_succ, List.setIfInBounds_toArray, List.set_cons_zero, List.set_cons_succ]
            refine wpAnyH_take (i := 5) (v := ?_) rfl (by kernel_rfl) (by kernel_rfl) (by kernel_rfl) (fun _ _ _ h => h) (Or.inl ⟨by rfl, ?_⟩) (by assumption) ?_
            rotate_left
            · (intro w' hSw; (try dsimp only at hSw); first | (go_simp; done) | (go_simp; with_reducible rfl))
            try simp only [Act.put, List.getElem_toArray, List.getElem_cons_zero, List.getElem_cons_succ, List.setIfInBounds_toArray, List.set_cons_zero, List.set_cons_succ]
            refine wpAnyH_take (i := 6) (v := ?_) rfl (by kernel_rfl) (by kernel_rfl) (by kernel_rfl) (fun _ _ _ h => h) (Or.inl ⟨by rfl, ?_⟩) (by assumption) ?_
            rotate_left
            · (intro w' hSw; (try dsimp only at hSw); first | (go_simp; done) | (go_simp; with_reducible rfl))
            try simp only [Act.put, List.getElem_toArray, List.getElem_cons_zero, List.getElem_cons_succ, List.setIfInBounds_toArray, List.set_cons_zero, List.set_cons_succ]
            refine wpAnyH_take (i := 7) (v := ?_) rfl (by kernel_rfl) (by kernel_rfl) (by kernel_rfl) (fun _ _ _ h => h) (Or.inl ⟨by rfl, ?_⟩) (by assumption) ?_
            rotate_left
            · (intro w' hSw; (try dsimp only at hSw); first | (go_simp; done) | (go_simp; with_reducible rfl))
            try simp only [Act.put, List.getElem_toArray, List.getElem_cons_zero, List.getElem_cons_succ, List.setIfInBounds_toArray, List.set_cons_zero, List.set_cons_succ]
            refine wpAnyH_take (i := 8) (v := ?_) rfl (by kernel_rfl) (by kernel_rfl) (by kernel_rfl) (fun _ _ _ h => h) (Or.inl ⟨by rfl, ?_⟩) (by assumption) ?_
            rotate_left
            · (intro w' hSw; (try dsimp only at hSw); first | (go_simp; done) | (go_simp; with_reducible rfl))
            try simp only [Act.put, List.getElem_toArray, List.getElem_cons_zero, List.getElem_cons_succ, List.setIfInBounds_toArray, List.set_cons_zero, List.set_cons_succ]
            refine wpAnyH_take (i := 9) (v := ?_) rfl (by kernel_rfl) (by kernel_rfl) (by kernel_rfl) (fun _ _ _ h => h) (Or.inl ⟨by rfl, ?_⟩) (by assumption) ?_
            rotate_left
            · (intro w' hSw; (try dsimp only at hSw); first | (go_simp; done) | (go_simp; with_reducible rfl))
            try simp only [Act.put, List.getElem_toArray, List.getElem_cons_zero, List.getElem_cons_succ, List.setIfInBounds_toArray, List.set_cons_zero, List.set_cons_succ]
            refine wpAnyH_take (i := 10) (v := ?_) rfl (by kernel_rfl) (by kernel_rfl) (by kernel_rfl) (fun _ _ _ h => h) (Or.inl ⟨by rfl, ?_⟩) (by assumption) ?_
            rotate_left
            · (intro w' hSw; (try dsimp only at hSw); first | (go_simp; done) | (go_simp; with_reducible rfl))
            try simp only [Act.put, List.getElem_toArray, List.getElem_cons_zero, List.getElem_cons_succ, List.setIfInBounds_toArray, List.set_cons_zero, List.set_cons_succ]
            refine wpAnyH_take (i := 11) (v := ?_) rfl (by kernel_rfl) (by kernel_rfl) (by kernel_rfl) (fun _ _ _ h => h) (Or.inl ⟨by rfl, ?_⟩) (by assumption) ?_
            rotate_left
            · (intro w' hSw; (try dsimp only at hSw); first | (go_simp; done) | (go_simp; with_reducible rfl))
            try simp only [Act.put, List.getElem_toArray, List.getElem_cons_zero, List.getElem_cons_succ, List.setIfInBounds_toArray, List.set_cons_zero, List.set_cons_succ]
            refine wpAnyH_take (i := 12) (v := ?_) rfl (by kernel_rfl) (by kernel_rfl) (by kernel_rfl) (fun _ _ _ h => h) (Or.inl ⟨by rfl, ?_⟩) (by assumption) ?_
            rotate_left
            · (intro w' hSw; (try dsimp only at hSw); first | (go_simp; done) | (go_simp; with_reducible rfl))
            try simp only [Act.put, List.getElem_toArray, List.getElem_cons_zero, List.getElem_cons_succ, List.setIfInBounds_toArray, List.set_cons_zero, List.set_cons_succ]
            refine wpAnyH_take (i := 13) (v := ?_) rfl (by kernel_rfl) (by kernel_rfl) (by kernel_rfl) (fun _ _ _ h => h) (Or.inl ⟨by rfl, ?_⟩) (by assumption) ?_
            rotate_left
            · (intro w' hSw; (try dsimp only at hSw); first | (go_simp; done) | (go_simp; with_reducible rfl))
            try simp only [Act.put, List.getElem_toArray, List.getElem_cons_zero, List.getElem_cons_succ, List.setIfInBounds_toArray, List.set_cons_zero, List.set_cons_succ]
            refine wpAnyH_take (i := 14) (v := ?_) rfl (by kernel_rfl) (by kernel_rfl) (by kernel_rfl) (fun _ _ _ h => h) (Or.inl ⟨by rfl, ?_⟩) (by assumption) ?_
            rotate_left
            · (intro w' hSw; (try dsimp only at hSw); first | (go_simp; done) | (go_simp; with_reducible rfl))
            try simp only [Act.put, List.getElem_toArray, List.getElem_cons_zero, List.getElem_cons_succ, List.setIfInBounds_toArray, List.set_cons_zero, List.set_cons_succ]
            refine wpAnyH_take (i := 15) (v := ?_) rfl (by kernel_rfl) (by kernel_rfl) (by kernel_rfl) (fun _ _ _ h => h) (Or.inl ⟨by rfl, ?_⟩) (by assumption) ?_
            rotate_left
            · (intro w' hSw; (try dsimp only at hSw); first | (go_simp; done) | (go_simp; with_reducible rfl))
            try simp only [Act.put, List.getElem_toArray, List.getElem_cons_zero, List.getElem_cons_succ, List.setIfInBounds_toArray, List.set_cons_zero, List.set_cons_succ]
            refine wpAnyH_take (i := 16) (v := ?_) rfl (by kernel_rfl) (by kernel_rfl) (by kernel_rfl) (fun _ _ _ h => h) (Or.inl ⟨by rfl, ?_⟩) (by assumption) ?_
            rotate_left
            · (intro w' hSw; (try dsimp only at hSw); first | (go_simp; done) | (go_simp; with_reducible rfl))
            try simp only [Act.put, List.getElem_toArray, List.getElem_cons_zero, List.getElem_cons_succ, List.setIfInBounds_toArray, List.set_cons_zero, List.set_cons_succ]
            refine wpAnyH_take (i := 17) (v := ?_) rfl (by kernel_rfl) (by kernel_rfl) (by kernel_rfl) (fun _ _ _ h => h) (Or.inl ⟨by rfl, ?_⟩) (by assumption) ?_
            rotate_left
            · (intro w' hSw; (try dsimp only at hSw); first | (go_simp; done) | (go_simp; with_reducible rfl))
            try simp only [Act.put, List.getElem_toArray, List.getElem_cons_zero, List.getElem_cons_succ, List.setIfInBounds_toArray, List.set_cons_zero, List.set_cons_succ]
            refine wpAnyH_take (i := 18) (v := ?_) rfl (by kernel_rfl) (by kernel_rfl) (by kernel_rfl) (fun _ _ _ h => h) (Or.inl ⟨by rfl, ?_⟩) (by assumption) ?_
            rotate_left
            · (intro w' hSw; (try dsimp only at hSw); first | (go_simp; done) | (go_simp; with_reducible rfl))
            try simp only [Act.put, List.getElem_toArray, List.getElem_cons_zero, List.getElem_cons_succ, List.setIfInBounds_toArray, List.set_cons_zero, List.set_cons_succ]
            refine wpAnyH_ready (rs := [19]) (by kernel_rfl) (by simp) ?_
            refine AllReadyH.cons rfl (fun K hK => ?_) AllReadyH.nil
            go_simp
            go_at_call 21
            refine (HHas.out _ hHeld.2.2.2.2.2.2.2.2.2.2.2.2).mono ?_
            rintro e w4 ⟨rfl, hb4⟩
            refine hK.out _ _ (KP.out _ (Below.next hHeld.2.2.2.2.2.2.2.2.2.2.2.2 hb4)) (fun hHeld2 => ?_)
            try simp only [Act.put, List.getElem_toArray, List.getElem_cons_zero, List.getElem_cons_succ, List.setIfInBounds_toArray, List.set_cons_zero, List.set_cons_succ]
            refine wpAnyH_take (i := 20) (v := ?_) rfl (by kernel_rfl) (by kernel_rfl) (by kernel_rfl) (fun _ _ _ h => h) (Or.inl ⟨by rfl, ?_⟩) (by assumption) ?_
            rotate_left
            · (intro w' hSw; (try dsimp only at hSw); first | (go_simp; done) | (go_simp; with_reducible rfl))
            try simp only [Act.put, List.getElem_toArray, List.getElem_cons_zero, List.getElem_cons_succ, List.setIfInBounds_toArray, List.set_cons_zero, List.set_cons_succ]
            refine wpAnyH_take (i := 21) (v := ?_) rfl (by kernel_rfl) (by kernel_rfl) (by kernel_rfl) (fun _ _ _ h => h) (Or.inl ⟨by rfl, ?_⟩) (by assumption) ?_
            rotate_left
            · (intro w' hSw; (try dsimp only at hSw); first | (go_simp; done) | (go_simp; with_reducible rfl))
            try simp only [Act.put, List.getElem_toArray, List.getElem_cons_zero, List.getElem_cons_succ, List.setIfInBounds_toArray, List.set_cons_zero, List.set_cons_succ]
            refine wpAnyH_take (i := 22) (v := ?_) rfl (by kernel_rfl) (by kernel_rfl) (by kernel_rfl) (fun _ _ _ h => h) (Or.inl ⟨by rfl, ?_⟩) (by assumption) ?_
            rotate_left
            · (intro w' hSw; (try dsimp only at hSw); first | (go_simp; done) | (go_simp; with_reducible rfl))
            try simp only [Act.put, List.getElem_toArray, List.getElem_cons_zero, List.getElem_cons_succ, List.setIfInBounds_toArray, List.set_cons_zero, List.set_cons_succ]
            refine wpAnyH_take (i := 23) (v := ?_) rfl (by kernel_rfl) (by kernel_rfl) (by kernel_rfl) (fun _ _ _ h => h) (Or.inl ⟨by rfl, ?_⟩) (by assumption) ?_
            rotate_left
            · (intro w' hSw; (try dsimp only at hSw); first | (go_simp; done) | (go_simp; with_reducible rfl))
            try simp only [Act.put, List.getElem_toArray, List.getElem_cons_zero, List.getElem_cons_succ, List.setIfInBounds_toArray, List.set_cons_zero, List.set_cons_succ]
            refine wpAnyH_take (i := 24) (v := ?_) rfl (by kernel_rfl) (by kernel_rfl) (by kernel_rfl) (fun _ _ _ h => h) (Or.inl ⟨by rfl, ?_⟩) (by assumption) ?_
            rotate_left
            · (intro w' hSw; (try dsimp only at hSw); first | (go_simp; done) | (go_simp; with_reducible rfl))
            try simp only [Act.put, List.getElem_toArray, List.getElem_cons_zero, List.getElem_cons_succ, List.setIfInBounds_toArray, List.set_cons_zero, List.set_cons_succ]
            refine wpAnyH_take (i := 25) (v := ?_) rfl (by kernel_rfl) (by kernel_rfl) (by kernel_rfl) (fun _ _ _ h => h) (Or.inl ⟨by rfl, ?_⟩) (by assumption) ?_
            rotate_left
            · (intro w' hSw; (try dsimp only at hSw); first | (go_simp; done) | (go_simp; with_reducible rfl))
            try simp only [Act.put, List.getElem_toArray, List.getElem_cons_zero, List.getElem_cons_succ, List.setIfInBounds_toArray, List.set_cons_zero, List.set_cons_succ]
            refine wpAnyH_take (i := 26) (v := ?_) rfl (by kernel_rfl) (by kernel_rfl) (by kernel_rfl) (fun _ _ _ h => h) (Or.inl ⟨by rfl, ?_⟩) (by assumption) ?_
            rotate_left
            · (intro w' hSw; (try dsimp only at hSw); first | (go_simp; done) | (go_simp; with_reducible rfl))
            try simp only [Act.put, List.getElem_toArray, List.getElem_cons_zero, List.getElem_cons_succ, List.setIfInBounds_toArray, List.set_cons_zero, List.set_cons_succ]
            refine wpAnyH_take (i := 27) (v := ?_) rfl (by kernel_rfl) (by kernel_rfl) (by kernel_rfl) (fun _ _ _ h => h) (Or.inl ⟨by rfl, ?_⟩) (by assumption) ?_
            rotate_left
            · (intro w' hSw; (try dsimp only at hSw); first | (go_simp; done) | (go_simp; with_reducible rfl))
            try simp only [Act.put, List.getElem_toArray, List.getElem_cons_zero, List.getElem_cons_succ, List.setIfInBounds_toArray, List.set_cons_zero, List.set_cons_succ]
            refine wpAnyH_take (i := 28) (v := ?_) rfl (by kernel_rfl) (by kernel_rfl) (by kernel_rfl) (fun _ _ _ h => h) (Or.inl ⟨by rfl, ?_⟩) (by assumption) ?_
            rotate_left
            · (intro w' hSw; (try dsimp only at hSw); first | (go_simp; done) | (go_simp; with_reducible rfl))
            try simp only [Act.put, List.getElem_toArray, List.getElem_cons_zero, List.getElem_cons_succ, List.setIfInBounds_toArray, List.set_cons_zero, List.set_cons_succ]
            refine wpAnyH_take (i := 29) (v := ?_) rfl (by kernel_rfl) (by kernel_rfl) (by kernel_rfl) (fun _ _ _ h => h) (Or.inl ⟨by rfl, ?_⟩) (by assumption) ?_
            rotate_left
            · (intro w' hSw; (try dsimp only at hSw); first | (go_simp; done) | (go_simp; with_reducible rfl))
            try simp only [Act.put, List.getElem_toArray, List.getElem_cons_zero, List.getElem_cons_succ, List.setIfInBounds_toArray, List.set_cons_zero, List.set_cons_succ]
            refine wpAnyH_take (i := 30) (v := ?_) rfl (by kernel_rfl) (by kernel_rfl) (by kernel_rfl) (fun _ _ _ h => h) (Or.inl ⟨by rfl, ?_⟩) (by assumption) ?_
            rotate_left
            · (intro w' hSw; (try dsimp only at hSw); first | (go_simp; done) | (go_simp; with_reducible rfl))
            try simp only [Act.put, List.getElem_toArray, List.getElem_cons_zero, List.getElem_cons_succ, List.setIfInBounds_toArray, List.set_cons_zero, List.set_cons_succ]
            refine wpAnyH_take (i := 31) (v := ?_) rfl (by kernel_rfl) (by kernel_rfl) (by kernel_rfl) (fun _ _ _ h => h) (Or.inl ⟨by rfl, ?_⟩) (by assumption) ?_
            rotate_left
            · (intro w' hSw; (try dsimp only at hSw); first | (go_simp; done) | (go_simp; with_reducible rfl))
            try simp only [Act.put, List.getElem_toArray, List.getElem_cons_zero, List.getElem_cons_succ, List.setIfInBounds_toArray, List.set_cons_zero, List.set_cons_succ]
            refine wpAnyH_ready (rs := [32]) (by kernel_rfl) (by simp) ?_
            refine AllReadyH.cons rfl (fun K hK => ?_) AllReadyH.nil
            go_simp
            go_at_call 22
            refine (refBelow_any y x _).mono ?_
            rw [HTB.out]
            rintro e w4 ⟨rfl, hb4⟩
            refine hK.out _ _ (KP.out _ (Below.next hHeld2.2.2.2.2.2.2.2.2.2.2.2.2 hb4)) (fun hHeld3 => ?_)
            try simp only [Act.put, List.getElem_toArray, List.getElem_cons_zero, List.getElem_cons_succ, List.setIfInBounds_toArray, List.set_cons_zero, List.set_cons_succ]
            refine wpAnyH_take (i := 33) (v := ?_) rfl (by kernel_rfl) (by kernel_rfl) (by kernel_rfl) (fun _ _ _ h => h) (Or.inl ⟨by rfl, ?_⟩) (by assumption) ?_
            rotate_left
            · (intro w' hSw; (try dsimp only at hSw); first | (go_simp; done) | (go_simp; with_reducible rfl))
            try simp only [Act.put, List.getElem_toArray, List.getElem_cons_zero, List.getElem_cons_succ, List.setIfInBounds_toArray, List.set_cons_zero, List.set_cons_succ]
            refine wpAnyH_take (i := 34) (v := ?_) rfl (by kernel_rfl) (by kernel_rfl) (by kernel_rfl) (fun _ _ _ h => h) (Or.inl ⟨by rfl, ?_⟩) (by assumption) ?_
            rotate_left
            · (intro w' hSw; (try dsimp only at hSw); first | (go_simp; done) | (go_simp; with_reducible rfl))
            try simp only [Act.put, List.getElem_toArray, List.getElem_cons_zero, List.getElem_cons_succ, List.setIfInBounds_toArray, List.set_cons_zero, List.set_cons_succ]
            refine wpAnyH_take (i := 35) (v := ?_) rfl (by kernel_rfl) (by kernel_rfl) (by kernel_rfl) (fun _ _ _ h => h) (Or.inl ⟨by rfl, ?_⟩) (by assumption) ?_
            rotate_left
            · (intro w' hSw; (try dsimp only at hSw); first | (go_simp; done) | (go_simp; with_reducible rfl))
            try simp only [Act.put, List.getElem_toArray, List.getElem_cons_zero, List.getElem_cons_succ, List.setIfInBounds_toArray, List.set_cons_zero, List.set_cons_succ]
            refine wpAnyH_done (by kernel_rfl) ?_ _
            all_goals
              clear s1 s2 s3 s4
              go_split_ands
              have hb5 : Below W.heap.size W w4 := by assumption
              have HO4 := Lib.hid (HOW.out.past hb5)
              have hb6 := Below.past hbW hb5 hsW
              go_wp2_with fail
              go_roundw
              case rel => exact ⟨k + 1, by omega, by go_num, HO4, hb6⟩
              case measure => simp [intOf]; omega
        · as_aux_lemma =>
          have hlz : ¬ (k : Int) < (d : Int) := by omega
          obtain rfl : d = k := by omega
          have HFN := Lib.hid (first_none gc 40 w.heap.size ts now wr hwc (by omega) (by rw [hsd, ← hd.out]; exact dueN_rest now (sortT S)))
          have HWC := Lib.hid hwc
          have HWA := Lib.hid hwa
          have HSD := Lib.hid hsd
          have htsl : ts.length = (S.filter fun f => !dueP now f).length := by rw [← sortT_len ts, hsd, ← HF1.out.2, sortT_len]
          have HTS := Lib.hid htsl
          clear hwc hsd hxo hwa hne honce HO htsl
          go_wp2_with fail
          refine HFN.out.mono ?_
          rintro e w2 ⟨rfl, hb2⟩
          have hbz := (Below.refl w2.heap.size w2).alloc (Nat.le_refl _) (.cells #[.int .i64 0, .int .i64 0, .int .i64 0, .int .i64 0] 29)
          have HC2 := Lib.hid ((HWC.out.past hb2).past hbz)
          have HA2 := Lib.hid ((HWA.out.past hb2).past hbz)
          have hb3 := Below.past (Below.past hb hb2 hsb2) hbz (by have := hb2.size; omega)
          have hs3 := hb3.size
          clear hb2 hbz
          go_wp2_with fail
          refine (awake21 _).mono ?_
          rintro e w4 ⟨rfl, hb4⟩
          have HC4 := Lib.hid (HC2.out.past hb4)
          have HA4 := Lib.hid (HA2.out.past hb4)
          have hb5 := Below.past hb3 hb4 hs3
          have hs5 := hb5.size
          have HAL := Lib.hid (all_any gc 40 w.heap.size ts w4 HC4.out (by omega))
          clear hb4 hb3
          go_wp2_with fail
          refine HAL.out.mono ?_
          rintro e w6 ⟨v6, rfl, hown6, hb6⟩
          have HA6 := Lib.hid (HA4.out.past hb6)
          have hb7 := Below.past hb5 hb6 hs5
          have hs7 := hb7.size
          have HAM := Lib.hid (all_any w.heap.size 40 w.heap.size _ w6 HA6.out (by omega))
          have HO6 := Lib.hid hown6
          clear hb6 hb5 hown6
          go_wp2_with fail
          refine HAM.out.mono ?_
          rintro e w8 ⟨v8, rfl, hown8, hb8⟩
          have hown6 := own_past HO6.out hb8
          rw [HSD.out, HTS.out, ← HF1.out.2] at hown6
          obtain ⟨A6, c6, rfl⟩ := own_form hown6
          obtain ⟨A8, c8, rfl⟩ := own_form hown8
          have HSM := Lib.hid (refSame_yes A6 _ c6 A8 c8 _ _ _ w8 (Rd.of_own hown6) (Rd.of_own hown8) (by omega))
          rw [← HTS.out] at HSM
          have HA8 := Lib.hid (HA6.out.past hb8)
          have hb9 := Below.past hb7 hb8 hs7
          have hs9 := hb9.size
          rw [← HTS.out]
          clear hb8 hb7 hown6 hown8
          go_wp2_with fail
          refine HSM.out.mono ?_
          rintro e w10 ⟨rfl, hd10⟩
          have hb10 : Below w8.heap.size w8 w10 := hd10.below (Below.refl _ _)
          have hb11 := Below.past hb9 hb10 hs9
          have hs11 := hb11.size
          have HFE := Lib.hid (firev_any w.heap.size 40 w.heap.size _ now w10 (HA8.out.past hb10) (by omega))
          clear hb10 hd10 hb9
          go_wp2_with fail
          refine HFE.out.mono ?_
          rintro e w12 ⟨v12, rfl, hown12, va, hva, ho12⟩
          rw [HCN.out] at hown12
          obtain ⟨A12, c12, rfl⟩ := own_form hown12
          have hb13 := Below.trans hb11 (ho12.frame (Nat.le_refl _) hs11 (by simp [Value.ownBlock]))
          clear hown12 hva ho12 hb11
          go_wp2_with fail
          go_ret
          exact ⟨rfl, hb13⟩
end Go.Proofs.Ytndhhnfhookeaaa
