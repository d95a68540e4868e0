import Derived.Test.YtoohfbgbhjadgaaMrgA
namespace Go.Proofs.Ytoohfbgbhjadgaa
open Go.RowKit

/-- What Merge hands back. -/
def MrgPost (w : World) (ks ls : List (List Int)) (n : Nat) (e : Ending) (w' : World) : Prop := ∃ (A : Option Addr) (c : Nat), e = .returned (.slice A n c) ∧ Rd w' w'.heap.size 1 A n ((ordK (ks ++ ls)).flatMap nC) ∧ Below w.heap.size w w'

/-- What is out, at the head of a round. -/
def MrgOut (w : World) (ks ls : List (List Int)) (i k : Nat) (v : Value) (wr : World) : Prop := ∃ out : List Nat, Hid (MInv ks ls i k out) ∧ wr.ownsRow w.heap.size 3 1 v (i + k) (out.flatMap nC) ∧ Below w.heap.size w wr

theorem MrgOut.mk {w : World} {ks ls : List (List Int)} {i k : Nat} {v : Value} {wr : World} {out : List Nat} (h : MInv ks ls i k out) (ho : wr.ownsRow w.heap.size 3 1 v (i + k) (out.flatMap nC)) (hb : Below w.heap.size w wr) : MrgOut w ks ls i k v wr := ⟨out, Lib.hid h, ho, hb⟩

set_option maxHeartbeats 8000000 in
set_option maxRecDepth 100000 in
theorem merge_rising (A1 : Option Addr) (n1 c1 : Nat) (A2 : Option Addr) (n2 c2 : Nat) (va vb : List KeyV) (w : World) (hr1 : Rd w w.heap.size 1 A1 n1 (va.flatMap KeyV.cells)) (hr2 : Rd w w.heap.size 1 A2 n2 (vb.flatMap KeyV.cells)) (hk1 : KeysRd w w.heap.size va) (hk2 : KeysRd w w.heap.size vb) (hn1 : n1 ≤ 1000) (hn2 : n2 ≤ 1000)
    (hra : riK (keysOf va) false n1 = true) (hrb : riK (keysOf vb) false n2 = true) :
    Calls Try.prog 25 #[.slice A1 n1 c1, .slice A2 n2 c2] w (MrgPost w (keysOf va) (keysOf vb) (n1 + n2)) := by
  have HL := Lib.hid (show va.length = n1 from hr1.len KeyV.cells_len (by omega))
  have HM := Lib.hid (show vb.length = n2 from hr2.len KeyV.cells_len (by omega))
  have HLa := Lib.hid (show (keysOf va).length = n1 by rw [keysOf_len, HL.out])
  have HLb := Lib.hid (show (keysOf vb).length = n2 by rw [keysOf_len, HM.out])
  have HK1 := Lib.hid hk1
  have HK2 := Lib.hid hk2
  have HRA := Lib.hid (show riK (keysOf va) false (keysOf va).length = true by rw [HLa.out]; exact hra)
  have HRB := Lib.hid (show riK (keysOf vb) false (keysOf vb).length = true by rw [HLb.out]; exact hrb)
  have HC1 := Lib.hid (rises_any A1 n1 c1 false va w.heap.size w hr1 hk1 (by omega))
  have HC2 := Lib.hid (fun w' (hd : Drawn w w') => rises_any A2 n2 c2 false vb w.heap.size w' (hr2.keep fun p _ => hd.keep p) (hk2.keep fun p _ => hd.keep p) (by omega))
  rw [hra] at HC1
  rw [hrb] at HC2
  obtain ⟨i0, hi0, hz0, hz1, hz2⟩ := info_parts intInfo
  clear hk1 hk2 hra hrb
  go_enter Try.func25, Try.ntmps25
  go_wp2_with fail
  go_step3
  go_wp2_with fail
  refine HC1.out.mono ?_
  rintro e w1 ⟨rfl, hd1⟩
  go_wp2_with fail
  refine (HC2.out w1 hd1).mono ?_
  rintro e w2 ⟨rfl, hd2⟩
  have hb2 := (hd1.trans hd2).bel
  clear hd1 hd2 HC1 HC2
  go_wp2_with fail
  go_step3
  go_wp2_with fail
  go_loopg [5, 6, 7, 23] n1 (fun gg v5 v6 _ v23 wr => ∃ (i k : Nat), v23 = .int .i64 i ∧ v6 = .int .i64 k ∧ i ≤ n1 ∧ k ≤ n2 ∧ n1 - i ≤ gg ∧ MrgOut w2 (keysOf va) (keysOf vb) i k v5 wr)
  case atStart => exact ⟨0, 0, rfl, rfl, Nat.zero_le _, Nat.zero_le _, Nat.le_refl _, .mk (MInv.start _ _) (World.ownsRow_nil _ _ _ _) (Below.refl _ _)⟩
  case round =>
    obtain ⟨i, k, rfl, rfl, hi, hk, hg, hmo⟩ := hrel
    by_cases hlt : i < n1
    · as_aux_lemma =>
      have hlz : (i : Int) < (n1 : Int) := by omega
      obtain ⟨wo, hwo⟩ : ∃ wo : World, Hid (wo = wr) := ⟨_, Lib.hid rfl⟩
      go_wp2_with fail
      go_loopg [5, 6] n2 (fun gg v5 v6 wi => ∃ (k : Nat), v6 = .int .i64 k ∧ k ≤ n2 ∧ n2 - k ≤ gg ∧ MrgOut w2 (keysOf va) (keysOf vb) i k v5 wi)
      case atStart => exact ⟨k, rfl, hk, by omega, hmo⟩
      case round =>
        clear hmo hk
        obtain ⟨k, rfl, hk, hg2, out, HI, hown, hb⟩ := hrel
        by_cases hlt2 : k < n2
        · have hlz2 : (k : Int) < (n2 : Int) := by omega
          have hrw := (hr1.past hb2).below hb
          have hrx := (hr2.past hb2).below hb
          have hg_f : va[i]? = some (va[i]'(by have := HL.out; omega)) := List.getElem?_eq_getElem _
          obtain ⟨b_f, off_f, rfl, hbb_f, hc_f⟩ := (hrw).elem KeyV.cells_len hg_f hlt
          have HT_f := Lib.hid (show va.take (i + 1) = va.take i ++ [(va[i]'(by have := HL.out; omega))] from List.take_succ_eq_append_getElem (by have := HL.out; omega))
          have HM_f := Lib.hid (show (va[i]'(by have := HL.out; omega)) ∈ va from List.getElem_mem _)
          have HG_f := Lib.hid hg_f
          generalize (va[i]'(by have := HL.out; omega)) = f at *
          have c0 := hc_f 0 _ rfl
          clear hc_f hg_f
          simp only [Nat.add_zero, Nat.mul_one] at c0
          have hg_g : vb[k]? = some (vb[k]'(by have := HM.out; omega)) := List.getElem?_eq_getElem _
          obtain ⟨b_g, off_g, rfl, hbb_g, hc_g⟩ := (hrx).elem KeyV.cells_len hg_g hlt2
          have HT_g := Lib.hid (show vb.take (k + 1) = vb.take k ++ [(vb[k]'(by have := HM.out; omega))] from List.take_succ_eq_append_getElem (by have := HM.out; omega))
          have HM_g := Lib.hid (show (vb[k]'(by have := HM.out; omega)) ∈ vb from List.getElem_mem _)
          have HG_g := Lib.hid hg_g
          generalize (vb[k]'(by have := HM.out; omega)) = g at *
          have d0 := hc_g 0 _ rfl
          clear hc_g hg_g
          simp only [Nat.add_zero, Nat.mul_one] at d0
          have HCA := Lib.hid (keysOf_at HG_f.out)
          have HCB := Lib.hid (keysOf_at HG_g.out)
          obtain ⟨k1, l1⟩ := HK1.out f HM_f.out
          obtain ⟨k2, l2⟩ := HK2.out g HM_g.out
          obtain ⟨fA, fc, fk⟩ := f
          obtain ⟨gA, gc, gk⟩ := g
          simp only at k1 k2 l1 l2 HCA HCB
          have HX := Lib.hid (fun q => rankCmp_any fA fk.length fc gA gk.length gc fk gk w2.heap.size w2.heap.size (wr.drewN q) ((((k1.below hb2).mono hb2.size).below hb).keep fun _ _ => rfl) ((((k2.below hb2).mono hb2.size).below hb).keep fun _ _ => rfl) (by omega) (by omega))
          have HZ : Hid (cmpL ((keysOf va).getD i []) ((keysOf vb).getD k []) = cmpL fk gk) := Lib.hid (by rw [HCA.out, HCB.out])
          generalize cmpL fk gk = z at HX HZ
          simp only [KeyV.val] at c0 d0
          have hownV := fun q => own_drewN hown q
          clear k1 k2 hrw hrx
          by_cases hz : z ≤ 0
          · have HI2 := Lib.hid (HI.out.takeA HRA.out HRB.out (by rw [HLa.out]; exact hlt) (.inr (by rw [HZ.out]; exact hz)))
            go_wp2_with fail
            go_quiet ((go_at_call 16; exact quiet_left (HX.out _)))
            have hbV := below_drewN hb nq
            have hoV := hownV nq
            clear hownV hown hb c0 d0
            generalize wr.drewN nq = V at hbV hoV ⊢
            have hs := hbV.size
            go_wp2_with (at_builtin; refine wpList_append_lit _ _ rfl (.tmp 40) (.tmp 42) 28 rfl w2.heap.size 3 i0 _ 1 8 Try.underlying28 hi0 hz0 hz1 hz2 rfl (by decide) _ _ _ rfl hoV _ 1 1 rfl (by first | rfl | simp) rfl (by simp [Value.oneCell']) (by omega) (by omega) (by omega) ?_; intro v' w' hown' hg'; have hbw := below_own (hbV.alloc hs _) hg' hoV (by simp; omega) (Nat.le_refl _))
            go_roundg (n1 - (i + 1))
            case measure => omega
            case rel => exact ⟨i + 1, k, by go_num, rfl, by omega, hk, Nat.le_refl _, .mk HI2.out (by rw [show i + 1 + k = i + k + 1 by omega]; simpa [nC] using hown') hbw⟩
          · have hz' : 0 < z := by omega
            have HI2 := Lib.hid (HI.out.takeB HRA.out HRB.out (by rw [HLb.out]; exact hlt2) (.inr (by rw [HZ.out]; exact hz')))
            rw [HLa.out] at HI2
            obtain ⟨x, hx⟩ : ∃ x : Nat, Hid (n1 + k = x) := ⟨_, Lib.hid rfl⟩
            rw [hx.out] at HI2
            have e1 : (n1 : Int) + (k : Int) = (x : Int) := by have := hx.out; omega
            go_wp2_with fail
            go_quiet ((go_at_call 16; exact quiet_left (HX.out _)))
            have hbV := below_drewN hb nq
            have hoV := hownV nq
            clear hownV hown hb c0 d0
            generalize wr.drewN nq = V at hbV hoV ⊢
            have hs := hbV.size
            go_wp2_with (at_builtin; refine wpList_append_lit _ _ rfl (.tmp 44) (.tmp 49) 28 rfl w2.heap.size 3 i0 _ 1 8 Try.underlying28 hi0 hz0 hz1 hz2 rfl (by decide) _ _ _ rfl hoV _ 1 1 rfl (by first | rfl | simp) rfl (by simp [Value.oneCell']) (by omega) (by omega) (by omega) ?_; intro v' w' hown' hg'; have hbw := below_own (hbV.alloc hs _) hg' hoV (by simp; omega) (Nat.le_refl _))
            go_roundg (n2 - (k + 1))
            case measure => omega
            case rel => exact ⟨k + 1, by go_num, by omega, Nat.le_refl _, .mk HI2.out (by rw [show i + (k + 1) = i + k + 1 by omega]; simpa [nC] using hown') hbw⟩
        · have hlz2 : ¬ (k : Int) < (n2 : Int) := by omega
          have HI2 := Lib.hid (HI.out.takeA HRA.out HRB.out (by rw [HLa.out]; exact hlt) (.inl (by rw [HLb.out]; omega)))
          have hoV := hown
          have hbV := hb
          have hs := hbV.size
          go_wp2_with (at_builtin; refine wpList_append_lit _ _ rfl (.tmp 53) (.tmp 55) 28 rfl w2.heap.size 3 i0 _ 1 8 Try.underlying28 hi0 hz0 hz1 hz2 rfl (by decide) _ _ _ rfl hoV _ 1 1 rfl (by first | rfl | simp) rfl (by simp [Value.oneCell']) (by omega) (by omega) (by omega) ?_; intro v' w' hown' hg'; have hbw := below_own (hbV.alloc hs _) hg' hoV (by simp; omega) (Nat.le_refl _))
          go_roundg (n1 - (i + 1))
          case measure => omega
          case rel => exact ⟨i + 1, k, by go_num, rfl, by omega, hk, Nat.le_refl _, .mk HI2.out (by rw [show i + 1 + k = i + k + 1 by omega]; simpa [nC] using hown') hbw⟩
    · as_aux_lemma =>
      have hlz : ¬ (i : Int) < (n1 : Int) := by omega
      obtain rfl : n1 = i := by omega
      go_wp2_with fail
      go_loopg [5, 6] n2 (fun gg v5 v6 wi => ∃ (k : Nat), v6 = .int .i64 k ∧ k ≤ n2 ∧ n2 - k ≤ gg ∧ MrgOut w2 (keysOf va) (keysOf vb) n1 k v5 wi)
      case atStart => exact ⟨k, rfl, hk, by omega, hmo⟩
      case round =>
        clear hmo hk
        obtain ⟨k, rfl, hk, hg2, out, HI, hown, hb⟩ := hrel
        by_cases hlt2 : k < n2
        · have hlz2 : (k : Int) < (n2 : Int) := by omega
          have HI2 := Lib.hid (HI.out.takeB HRA.out HRB.out (by rw [HLb.out]; exact hlt2) (.inl (by rw [HLa.out])))
          rw [HLa.out] at HI2
          obtain ⟨x, hx⟩ : ∃ x : Nat, Hid (n1 + k = x) := ⟨_, Lib.hid rfl⟩
          rw [hx.out] at HI2
          have e1 : (n1 : Int) + (k : Int) = (x : Int) := by have := hx.out; omega
          have hoV := hown
          have hbV := hb
          have hs := hbV.size
          go_wp2_with (at_builtin; refine wpList_append_lit _ _ rfl (.tmp 64) (.tmp 69) 28 rfl w2.heap.size 3 i0 _ 1 8 Try.underlying28 hi0 hz0 hz1 hz2 rfl (by decide) _ _ _ rfl hoV _ 1 1 rfl (by first | rfl | simp) rfl (by simp [Value.oneCell']) (by omega) (by omega) (by omega) ?_; intro v' w' hown' hg'; have hbw := below_own (hbV.alloc hs _) hg' hoV (by simp; omega) (Nat.le_refl _))
          go_roundg (n2 - (k + 1))
          case measure => omega
          case rel => exact ⟨k + 1, by go_num, by omega, Nat.le_refl _, .mk HI2.out (by rw [show n1 + (k + 1) = n1 + k + 1 by omega]; simpa [nC] using hown') hbw⟩
        · have hlz2 : ¬ (k : Int) < (n2 : Int) := by omega
          obtain rfl : n2 = k := by omega
          obtain ⟨A', c', rfl⟩ := own_form hown
          have hrd := Rd.of_own hown
          have hE := HI.out
          rw [show MInv (keysOf va) (keysOf vb) n1 n2 out = MInv (keysOf va) (keysOf vb) (keysOf va).length (keysOf vb).length out by rw [HLa.out, HLb.out]] at hE
          rw [hE.done] at hrd
          have hRD := Lib.hid hrd
          clear hown hE hrd
          go_wp2_with fail
          go_ret
          exact ⟨_, _, rfl, hRD.out, Below.next hb2 hb⟩
end Go.Proofs.Ytoohfbgbhjadgaa
