import Derived.Test.YtelbolhckhdioaaBokF
import Derived.Test.YtelbolhckhdioaaOnlyG
import Derived.IntWalk
namespace Go.Proofs.Ytelbolhckhdioaa
open Go.RowKit Go.ChangeShapes Go.ChangeMaps

/-! ### Post -/
def fundB (c : Chg) : Bool := !c.fr && (decide (c.zb < 0) && decide (c.nw < 0))
def postL (bl : List Int) (cs : List Chg) : List Int := cs.foldl (fun b c => b.set c.pl c.nw) bl
theorem postL_len (cs : List Chg) : ∀ bl : List Int, (postL bl cs).length = bl.length := by
  induction cs with
  | nil => intro bl; rfl
  | cons c cs ih => intro bl; show (postL (bl.set c.pl c.nw) cs).length = _; rw [ih, List.length_set]
theorem postL_snoc (bl : List Int) (cs : List Chg) (c : Chg) : postL bl (cs ++ [c]) = (postL bl cs).set c.pl c.nw := by
  unfold postL; rw [List.foldl_append]; rfl
/-- What Post tells, and the balances behind it. -/
def postK (M A : Nat) (bl : List Int) (l : List Ent) : Int := if chgK M A bl l = 0 then (if (chgL M A bl l).any fundB = true then 13 else 0) else chgK M A bl l
def postB (M A : Nat) (bl : List Int) (l : List Ent) : List Int := if postK M A bl l = 0 then postL bl (chgL M A bl l) else bl
def postP (M A : Nat) (bl : List Int) (l : List Ent) (p : Int) : Int := if postK M A bl l = 0 then p + 1 else p
def PostPost (g base M A : Nat) (v : Value) (bl : List Int) (p : Int) (l : List Ent) (w : World) (e : Ending) (w' : World) : Prop :=
  e = .returned (.int .i64 (postK M A bl l)) ∧ BookV w' g base M A v (postB M A bl l) (postP M A bl l p) ∧ OnlyG g v w w'
theorem post_no {g base M A : Nat} {v : Value} {bl : List Int} {p : Int} {l : List Ent} {w w' : World} {K : Int} (hx : BookV w g base M A v bl p) (hk : postK M A bl l = K) (h0 : K ≠ 0) (hb : Below w.heap.size w w') : PostPost g base M A v bl p l w (.returned (.int .i64 K)) w' := by
  refine ⟨by rw [hk], ?_, OnlyG.of_below hb⟩
  rw [postB, postP, hk, if_neg h0, if_neg h0]; exact hx.past hb
theorem chg_pl {M A : Nat} {bl : List Int} {l : List Ent} (hM : M ≤ 16) (h : chgK M A bl l = 0) : ∀ c ∈ chgL M A bl l, c.pl < A * cnt M := fun c hc => by
  have hall : (l.all fun e => okP M A e.spt) = true := by
    unfold chgK at h
    split at h
    · assumption
    · omega
  unfold chgL at hc
  rw [if_pos h] at hc
  obtain ⟨s, hs, rfl⟩ := List.mem_map.1 hc
  obtain ⟨e, he, rfl⟩ := spts_mem.1 hs
  exact (ixS_lt hM (List.all_eq_true.1 hall e he)).1
theorem own_someK {w : World} {base : Nat} {e : TypeId} {size n c : Nat} {A : Option Addr} {xs : List Value} (h : w.ownsRow base e size (.slice A n c) n xs) (hn : 0 < n) : ∃ g cs, A = some ⟨g, 0, none⟩ ∧ base ≤ g ∧ Blk w g e cs := by
  rcases h.2 with ⟨_, h0⟩ | ⟨gg, cap, cs, e, h1, h2, _⟩
  · omega
  · injection e with e1 e2 e3
    exact ⟨gg, cs, e1, h1, h2⟩
theorem own_setK {w : World} {B g : Nat} {e : TypeId} {sz n c j : Nat} {xs : List Value} (h : w.ownsRow B e sz (.slice (some ⟨g, 0, none⟩) n c) n xs) (hj : j < n * sz) (u : Value) : (w.setCell ⟨g, j, none⟩ u).ownsRow B e sz (.slice (some ⟨g, 0, none⟩) n c) n (xs.set j u) := by
  refine ⟨by rw [List.length_set]; exact h.1, ?_⟩
  rcases h.2 with ⟨h0, _⟩ | ⟨g', cap, cur, hv, hb, hh, h1, h2, h3, h4⟩
  · cases h0
  · cases hv
    refine .inr ⟨g, c, cur.setIfInBounds j u, rfl, hb, Blk.put (show Blk w g e cur from hh) j u, h1, h2, by simpa using h3, ?_⟩
    rw [Array.toList_setIfInBounds, List.take_set, h4]
theorem set_flat (bl : List Int) (i : Nat) (z : Int) : (bl.flatMap i64Cells).set i (.int .i64 z) = (bl.set i z).flatMap i64Cells := by
  induction bl generalizing i with
  | nil => rfl
  | cons x bl ih =>
    cases i with
    | zero => rfl
    | succ i => rw [List.set_cons_succ, List.flatMap_cons, List.flatMap_cons, ← ih]; rfl
/-- What holds at the head of each round of the second loop. -/
structure PostSt (W : World) (g base M A : Nat) (v : Value) (p : Int) (bl : List Int) (vc : Value) (cs : List Chg) (w : World) : Prop where
  row : w.ownsRow base 2 1 v (A * cnt M) (bl.flatMap i64Cells)
  chg : w.ownsRow W.heap.size 108 4 vc cs.length (cs.flatMap Chg.cells)
  blk : Blk w g 103 #[.int .i64 M, .int .i64 A, v, .int .i64 p]
  only : OnlyG g v W w
theorem OnlyG.setOwn {g : Nat} {v : Value} {a w : World} (h : OnlyG g v a w) (p : Addr) (hp : v.ownBlock = some p.block) (u : Value) : OnlyG g v a (w.setCell p u) :=
  ⟨h.os, h.tape, h.output, by have := h.size; simpa [World.setCell] using this, fun k hk h1 h2 => (Below.heap_setCell w p u k (fun e => h2 (by rw [hp, e]))).trans (h.block k hk h1 h2)⟩
theorem OnlyG.drew {g : Nat} {v : Value} {a w : World} (h : OnlyG g v a w) : OnlyG g v a w.drew := ⟨h.os, h.tape, h.output, h.size, h.block⟩
section
variable {W w w' : World} {g base M A : Nat} {v vc : Value} {p : Int} {bl : List Int} {cs : List Chg}
theorem PostSt.past (h : PostSt W g base M A v p bl vc cs w) (hb : Below w.heap.size w w') : PostSt W g base M A v p bl vc cs w' :=
  ⟨own_pastK h.row hb, own_pastK h.chg hb, h.blk.past hb, h.only.below hb⟩
theorem PostSt.drew (h : PostSt W g base M A v p bl vc cs w) : PostSt W g base M A v p bl vc cs w.drew := h.past (Below.drew (Below.refl _ _))
end
theorem PostSt.put {W w : World} {g base M A gv c : Nat} {p : Int} {bl : List Int} {vc : Value} {cs : List Chg} (h : PostSt W g base M A (.slice (some ⟨gv, 0, none⟩) (A * cnt M) c) p bl vc cs w) {I : Nat} (hI : I < A * cnt M) (z : Int) : PostSt W g base M A (.slice (some ⟨gv, 0, none⟩) (A * cnt M) c) p (bl.set I z) vc cs (w.setCell ⟨gv, I, none⟩ (.int .i64 z)) := by
  refine ⟨?_, ?_, ?_, h.only.setOwn ⟨gv, I, none⟩ rfl _⟩
  · rw [← set_flat]; exact own_setK h.row (by omega) _
  · exact own_far (p := ⟨gv, I, none⟩) h.chg (fun e => own_neK h.row h.chg (by decide) gv e rfl) _
  · exact h.blk.far (p := ⟨gv, I, none⟩) (fun e => own_blk_ne h.row h.blk (by decide) (by rw [e]; rfl)) _

set_option maxHeartbeats 8000000 in
set_option maxRecDepth 100000 in
theorem postK_any (g base M A : Nat) (v : Value) (bl : List Int) (p : Int) (P : Option Addr) (n c : Nat) (l : List Ent) (w : World) (hx : BookV w g base M A v bl p) (hrl : Rd w w.heap.size 4 P n (l.flatMap Ent.cells)) (hn : n ≤ 1000) (hok : ∀ e ∈ l, EntOk e) (hbl : ∀ z ∈ bl, inI z) (hp : 0 ≤ p ∧ p ≤ 1000000) :
    Calls Try.prog 13 #[.pointer (some ⟨g, 0, none⟩), .slice P n c] w (PostPost g base M A v bl p l w) := by
  have HX := Lib.hid hx
  have HCH := Lib.hid (changes_any g base M A v bl p P n c l w hx hrl hn hok hbl)
  unfold ChgPost at HCH
  obtain ⟨K, hK⟩ : ∃ K, Hid (chgK M A bl l = K) := ⟨_, Lib.hid rfl⟩
  obtain ⟨CS, hCS⟩ : ∃ CS, Hid (chgL M A bl l = CS) := ⟨_, Lib.hid rfl⟩
  rw [hK.out, hCS.out] at HCH
  have hM := hx.hM
  have hNs := hx.small
  have HPL := Lib.hid (fun h => chg_pl (M := M) (A := A) (bl := bl) (l := l) hM h)
  rw [hK.out, hCS.out] at HPL
  have hln : CS.length ≤ 1000 := by
    rw [← hCS.out]; unfold chgL; split
    · rw [List.length_map]; exact Nat.le_trans (spts_len l) (by have := hrl.len Ent.cells_len (by omega); omega)
    · simp
  have HP := Lib.hid hp
  clear hx hrl hok hbl
  go_enter Try.func13, Try.ntmps13
  go_wp2_with fail
  refine HCH.out.mono ?_
  rintro e w1 ⟨vc, rfl, hoc, hb1⟩
  have HB1 := Lib.hid hb1
  by_cases hk0 : K = 0
  · subst hk0
    obtain ⟨Ac, cc, rfl⟩ := own_form hoc
    obtain ⟨m, hm⟩ : ∃ m, Hid (CS.length = m) := ⟨_, Lib.hid rfl⟩
    have HOC := Lib.hid hoc
    rw [hm.out] at HOC hln
    have HRC := Lib.hid (Rd.of_own HOC.out)
    have hs1 := hb1.size
    clear hoc hb1 HCH
    rw [hm.out]
    go_wp2_with fail
    go_loopw [24] (fun i wr => ∃ k : Nat, k ≤ m ∧ i = .int .i64 (k : Nat) ∧ Hid ((CS.take k).any fundB = false) ∧ Hid (Below w1.heap.size w1 wr)) (fun i _ => m - (intOf i).toNat)
    case atStart => exact ⟨0, by omega, rfl, Lib.hid rfl, Lib.hid (Below.refl _ _)⟩
    case round =>
      obtain ⟨k, hk, rfl, HF, HD⟩ := hrel
      have hds := HD.out.size
      by_cases hlt : k < m
      · have hlz : (k : Int) < (m : Int) := by omega
        have hg_f : CS[k]? = some (CS[k]'(by have := hm.out; omega)) := List.getElem?_eq_getElem _
        obtain ⟨b_f, off_f, rfl, hbb_f, hc_f⟩ := (HRC.out.below HD.out).elem Chg.cells_len hg_f hlt
        have HT_f := Lib.hid (show CS.take (k + 1) = CS.take k ++ [(CS[k]'(by have := hm.out; omega))] from List.take_succ_eq_append_getElem (by have := hm.out; omega))
        have HM_f := Lib.hid (show (CS[k]'(by have := hm.out; omega)) ∈ CS from List.getElem_mem _)
        generalize (CS[k]'(by have := hm.out; omega)) = f at *
        have c0 := hc_f 0 _ rfl
        have c1 := hc_f 1 _ rfl
        have c2 := hc_f 2 _ rfl
        have c3 := hc_f 3 _ rfl
        clear hc_f hg_f
        simp only [Nat.add_zero] at c0
        have bX := Blk.new wr 108 #[.int .i64 (f.pl : Nat), .bool f.fr, .int .i64 f.zb, .int .i64 f.nw] wr.heap.size rfl
        have hb2 := (Below.refl wr.heap.size wr).alloc (Nat.le_refl _) (.cells #[.int .i64 (f.pl : Nat), .bool f.fr, .int .i64 f.zb, .int .i64 f.nw] 108)
        obtain ⟨W1, hW1⟩ : ∃ W, Hid (wr.alloc (.cells #[.int .i64 (f.pl : Nat), .bool f.fr, .int .i64 f.zb, .int .i64 f.nw] 108) = W) := ⟨_, Lib.hid rfl⟩
        rw [hW1.out] at bX hb2
        have HD2 := Lib.hid (Below.past HD.out hb2 hds)
        have x0 := (bX).cell 0
        have x1 := (bX).cell 1
        have x2 := (bX).cell 2
        have x3 := (bX).cell 3
        simp at x0 x1 x2 x3
        clear bX hb2
        go_upto_region 9 with fail
        rw [hW1.out]
        clear c0 c1 c2 c3
        obtain ⟨B, hB⟩ : ∃ B, Hid (fundB f = B) := ⟨_, Lib.hid rfl⟩
        obtain ⟨F, hF⟩ : ∃ F, Hid (f.fr = F) := ⟨_, Lib.hid rfl⟩
        rw [hF.out] at x1
        go_cut [40] from 28 to 40 (fun v w' => v = .bool B ∧ W1 = w')
        case first =>
          have hB2 : (!f.fr && (decide (f.zb < 0) && decide (f.nw < 0))) = B := hB.out
          have HBB := Lib.hid hB2
          clear hB2
          cases F with
          | true =>
            have H5 : Hid (B = false) := Lib.hid (by rw [← HBB.out, hF.out]; rfl)
            go_wp2_with fail
            go_meet
            exact ⟨by rw [H5.out], rfl⟩
          | false =>
            by_cases h1 : f.zb < 0
            · by_cases h2 : f.nw < 0
              · have H5 : Hid (B = true) := Lib.hid (by rw [← HBB.out, hF.out, decide_eq_true h1, decide_eq_true h2]; rfl)
                go_wp2_with fail
                go_meet
                exact ⟨by rw [H5.out], rfl⟩
              · have H5 : Hid (B = false) := Lib.hid (by rw [← HBB.out, decide_eq_false h2]; simp)
                go_wp2_with fail
                go_meet
                exact ⟨by rw [H5.out], rfl⟩
            · have H5 : Hid (B = false) := Lib.hid (by rw [← HBB.out, decide_eq_false h1]; simp)
              go_wp2_with fail
              go_meet
              exact ⟨by rw [H5.out], rfl⟩
        case rest =>
        obtain ⟨rfl, rfl⟩ := hcut
        clear x0 x1 x2 x3
        cases B with
        | true =>
          have HK : Hid (postK M A bl l = 13) := Lib.hid (by
            unfold postK
            rw [if_pos hK.out, hCS.out, if_pos (List.any_eq_true.2 ⟨f, HM_f.out, hB.out⟩)])
          have HBF := Lib.hid (Below.past HB1.out HD2.out hs1)
          go_wp2_with fail
          go_ret
          exact post_no HX.out HK.out (by decide) HBF.out
        | false =>
          have HF2 : Hid ((CS.take (k + 1)).any fundB = false) := Lib.hid (by rw [HT_f.out, List.any_append, HF.out]; simp [hB.out])
          go_wp2_with fail
          go_roundw
          case rel => exact ⟨k + 1, by omega, by go_num, HF2, HD2⟩
          case measure => simp [intOf]; omega
      · have hlz : ¬ (k : Int) < (m : Int) := by omega
        obtain rfl : m = k := by omega
        have hT : CS.take m = CS := List.take_of_length_le (by rw [hm.out]; exact Nat.le_refl _)
        have HKF : Hid (postK M A bl l = 0) := Lib.hid (by
          have h := HF.out
          rw [hT] at h
          unfold postK
          rw [if_pos hK.out, hCS.out, if_neg (by rw [h]; simp)])
        have HBX := Lib.hid (Below.past HB1.out HD.out hs1)
        have HST0 : Hid (PostSt w g base M A v p (postL bl (CS.take 0)) (.slice Ac m cc) CS wr) := Lib.hid ⟨own_pastK HX.out.row HBX.out, by rw [hm.out]; exact own_pastK HOC.out HD.out, HX.out.blk.past HBX.out, OnlyG.of_below HBX.out⟩
        have HHP := Lib.hid (HPL.out (by simp))
        clear hT HF HPL HD HB1 HBX HRC HOC
        have HKF0 := HKF
        obtain ⟨hlenb, X, cX, hvX⟩ : bl.length = A * cnt M ∧ ∃ X c, v = .slice X (A * cnt M) c := ⟨HX.out.len, HX.out.form⟩
        subst hvX
        obtain ⟨N, hN⟩ : ∃ N, Hid (A * cnt M = N) := ⟨_, Lib.hid rfl⟩
        have hNle : N ≤ 486 := by rw [← hN.out]; exact hNs
        go_wp2_with fail
        go_loopw [44] (fun i wz => ∃ k : Nat, k ≤ m ∧ i = .int .i64 (k : Nat) ∧ Hid (PostSt w g base M A (.slice X (A * cnt M) cX) p (postL bl (CS.take k)) (.slice Ac m cc) CS wz)) (fun i _ => m - (intOf i).toNat)
        case atStart => exact ⟨0, by omega, rfl, HST0⟩
        case round =>
          clear HST0
          obtain ⟨k, hk, rfl, HST⟩ := hrel
          by_cases hlt : k < m
          · have hlz2 : (k : Int) < (m : Int) := by omega
            have hrc := Rd.of_own (by have := HST.out.chg; rw [hm.out] at this; exact this)
            have hg_f : CS[k]? = some (CS[k]'(by have := hm.out; omega)) := List.getElem?_eq_getElem _
            obtain ⟨b_f, off_f, rfl, hbb_f, hc_f⟩ := (hrc).elem Chg.cells_len hg_f hlt
            have HT_f := Lib.hid (show CS.take (k + 1) = CS.take k ++ [(CS[k]'(by have := hm.out; omega))] from List.take_succ_eq_append_getElem (by have := hm.out; omega))
            have HM_f := Lib.hid (show (CS[k]'(by have := hm.out; omega)) ∈ CS from List.getElem_mem _)
            generalize (CS[k]'(by have := hm.out; omega)) = f at *
            have c0 := hc_f 0 _ rfl
            have c1 := hc_f 1 _ rfl
            have c2 := hc_f 2 _ rfl
            have c3 := hc_f 3 _ rfl
            clear hc_f hg_f
            simp only [Nat.add_zero] at c0
            have hpl := HHP.out f HM_f.out
            have bX := Blk.new wr 108 #[.int .i64 (f.pl : Nat), .bool f.fr, .int .i64 f.zb, .int .i64 f.nw] wr.heap.size rfl
            have hb2 := (Below.refl wr.heap.size wr).alloc (Nat.le_refl _) (.cells #[.int .i64 (f.pl : Nat), .bool f.fr, .int .i64 f.zb, .int .i64 f.nw] 108)
            have HS2 := Lib.hid (HST.out.past hb2)
            obtain ⟨W1, hW1⟩ : ∃ W, Hid (wr.alloc (.cells #[.int .i64 (f.pl : Nat), .bool f.fr, .int .i64 f.zb, .int .i64 f.nw] 108) = W) := ⟨_, Lib.hid rfl⟩
            rw [hW1.out] at bX HS2
            obtain ⟨I, hI⟩ : ∃ I, Hid (f.pl = I) := ⟨_, Lib.hid rfl⟩
            rw [hI.out] at bX hpl
            have HBX := Lib.hid bX
            have hlen2 : (postL bl (CS.take k)).length = A * cnt M := by rw [postL_len]; exact hlenb
            obtain ⟨gv, cs0, rfl, hgv, hbv⟩ := own_someK HS2.out.row (by omega)
            obtain ⟨b, hbI⟩ : ∃ b, (postL bl (CS.take k))[I]? = some b := ⟨_, List.getElem?_eq_getElem (by omega)⟩
            obtain ⟨b1, o1, he1, _, hc1⟩ := (Rd.of_own HS2.out.row).elem i64Cells_len hbI hpl
            cases he1
            have d0 := hc1 0 _ rfl
            simp only [Nat.add_zero, Nat.mul_one, Nat.zero_add] at d0
            have dz := hbv.frozen I
            have bk := HS2.out.blk
            have p2 := bk.cell 2
            simp at p2
            rw [hN.out] at p2 hpl
            have hIz : (I : Int) < (N : Int) := by omega
            have x0 := (bX).cell 0
            have x1 := (bX).cell 1
            have x2 := (bX).cell 2
            have x3 := (bX).cell 3
            simp at x0 x1 x2 x3
            clear bX hb2 hrc hc1 hbI bk hbv HST
            go_upto_region 15 with fail
            rw [hW1.out]
            clear c0 c1 c2 c3
            go_region
            have HS3 := Lib.hid (HS2.out.put (I := I) (by rw [hN.out]; exact hpl) f.nw).drew
            have HTP : Hid (postL bl (CS.take (k + 1)) = (postL bl (CS.take k)).set I f.nw) := Lib.hid (by rw [HT_f.out, postL_snoc, hI.out])
            rw [← HTP.out] at HS3
            obtain ⟨V2, hV2⟩ : ∃ V2, Hid ((W1.setCell ⟨gv, I, none⟩ (.int .i64 f.nw)).drew = V2) := ⟨_, Lib.hid rfl⟩
            rw [hV2.out] at HS3
            rw [hV2.out]
            clear d0 dz p2 x0 x1 x2 x3 HS2 HBX
            go_wp2_with fail
            go_roundw
            case rel => exact ⟨k + 1, by omega, by go_num, HS3⟩
            case measure => simp [intOf]; omega
          · have hlz2 : ¬ (k : Int) < (m : Int) := by omega
            obtain rfl : m = k := by omega
            have hT : CS.take m = CS := List.take_of_length_le (by rw [hm.out]; exact Nat.le_refl _)
            rw [hT] at HST
            have bk := HST.out.blk
            have p3 := bk.cell 3
            have z3 := bk.frozen 3
            simp at p3
            have hwp : IntKind.i64.wrap (p + 1) = p + 1 := IntWalk.i64_in _ (by have := HP.out; omega)
            have HBZ : Hid (Blk (wr.setCell ⟨g, 3, none⟩ (.int .i64 (p + 1))) g 103 #[.int .i64 M, .int .i64 A, .slice X (A * cnt M) cX, .int .i64 (p + 1)]) := Lib.hid (bk.put 3 (.int .i64 (p + 1)))
            have HRZ := Lib.hid (own_far (p := ⟨g, 3, none⟩) HST.out.row (own_blk_ne HST.out.row bk (by decide)) (.int .i64 (p + 1)))
            have HOZ := Lib.hid (HST.out.only.setCell ⟨g, 3, none⟩ rfl (.int .i64 (p + 1)))
            have HPB : Hid (postB M A bl l = postL bl CS ∧ postP M A bl l p = p + 1) := Lib.hid (by
              unfold postB postP
              rw [HKF.out, if_pos rfl, if_pos rfl, hCS.out]; exact ⟨rfl, rfl⟩)
            clear bk hT HST
            go_wp2_with fail
            go_ret
            refine ⟨by rw [HKF.out]; rfl, ?_, HOZ.out⟩
            rw [HPB.out.1, HPB.out.2]
            exact ⟨⟨X, cX, rfl⟩, HBZ.out, HRZ.out, by rw [postL_len]; exact hlenb, hM, HX.out.hA⟩
  · have q1 : (K != 0) = true := by simpa using hk0
    have HK : Hid (postK M A bl l = K) := Lib.hid (by unfold postK; rw [if_neg (by rw [hK.out]; exact hk0), hK.out])
    go_wp2_with fail
    go_ret
    exact post_no HX.out HK.out hk0 HB1.out
end Go.Proofs.Ytelbolhckhdioaa
