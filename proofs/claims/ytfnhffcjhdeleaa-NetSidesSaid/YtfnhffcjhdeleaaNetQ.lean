import Derived.Test.YtfnhffcjhdeleaaNetO
import Derived.Test.YtfnhffcjhdeleaaTwoR
namespace Go.Proofs.Ytfnhffcjhdeleaa
open Go.RowKit Go.ChangeShapes

/-! ### The document's Sides -/
def refP (l : List Leg) (a : Int) : List Int := ((l.filter (ofB a)).filter posB).map Leg.amount
def refM (l : List Leg) (a : Int) : List Int := ((l.filter (ofB a)).filter negB).map fun x => -x.amount
theorem refP_is (l : List Leg) (a : Int) : owedD l a = (refP l a).sum := by
  unfold owedD refP totL
  have : ((l.filter (ofB a)).filter posB).filter (ofB a) = (l.filter (ofB a)).filter posB := List.filter_eq_self.2 fun x hx => (List.mem_filter.1 (List.mem_filter.1 hx).1).2
  rw [this]
theorem refM_is (l : List Leg) (a : Int) : owedC l a = (refM l a).sum := by
  unfold owedC refM totL claimL
  have : (((l.filter (ofB a)).filter negB).map negL).filter (ofB a) = ((l.filter (ofB a)).filter negB).map negL := List.filter_eq_self.2 fun x hx => by
    obtain ⟨y, hy, rfl⟩ := List.mem_map.1 hx
    exact (List.mem_filter.1 (List.mem_filter.1 hy).1).2
  rw [this, List.map_map]; rfl
section
variable {l : List Leg} {a : Int} {f : Leg} {k : Nat}
theorem refP_other (hT : l.take (k + 1) = l.take k ++ [f]) (h : ofB a f = false) : refP (l.take (k + 1)) a = refP (l.take k) a := by unfold refP; rw [filt_no hT h]
theorem refM_other (hT : l.take (k + 1) = l.take k ++ [f]) (h : ofB a f = false) : refM (l.take (k + 1)) a = refM (l.take k) a := by unfold refM; rw [filt_no hT h]
theorem refP_yes (hT : l.take (k + 1) = l.take k ++ [f]) (h : ofB a f = true) (hp : posB f = true) : refP (l.take (k + 1)) a = refP (l.take k) a ++ [f.amount] := by
  unfold refP; rw [filt_yes hT h, List.filter_append, List.map_append]; simp [hp]
theorem refP_no (hT : l.take (k + 1) = l.take k ++ [f]) (h : ofB a f = true) (hp : posB f = false) : refP (l.take (k + 1)) a = refP (l.take k) a := by
  unfold refP; rw [filt_yes hT h, List.filter_append, List.map_append]; simp [hp]
theorem refM_yes (hT : l.take (k + 1) = l.take k ++ [f]) (h : ofB a f = true) (hp : negB f = true) : refM (l.take (k + 1)) a = refM (l.take k) a ++ [-f.amount] := by
  unfold refM; rw [filt_yes hT h, List.filter_append, List.map_append]; simp [hp]
theorem refM_no (hT : l.take (k + 1) = l.take k ++ [f]) (h : ofB a f = true) (hp : negB f = false) : refM (l.take (k + 1)) a = refM (l.take k) a := by
  unfold refM; rw [filt_yes hT h, List.filter_append, List.map_append]; simp [hp]
theorem refL_other (hT : l.take (k + 1) = l.take k ++ [f]) (h : ofB a f = false) (h0 : ((l.take k).filter (ofB a)).any leastB = false) : ((l.take (k + 1)).filter (ofB a)).any leastB = false := by rw [filt_no hT h]; exact h0
theorem refL_same (hT : l.take (k + 1) = l.take k ++ [f]) (h : ofB a f = true) (h0 : ((l.take k).filter (ofB a)).any leastB = false) (hf : leastB f = false) : ((l.take (k + 1)).filter (ofB a)).any leastB = false := by
  rw [filt_yes hT h, List.any_append, h0]; simp [hf]
end
theorem refP_len (l : List Leg) (a : Int) : (refP l a).length ≤ l.length := by unfold refP; rw [List.length_map]; exact Nat.le_trans (List.length_filter_le _ _) (List.length_filter_le _ _)
theorem refM_len (l : List Leg) (a : Int) : (refM l a).length ≤ l.length := by unfold refM; rw [List.length_map]; exact Nat.le_trans (List.length_filter_le _ _) (List.length_filter_le _ _)
structure SidRel (w : World) (l : List Leg) (a : Int) (k : Nat) (v7 v8 : Value) (wr : World) : Prop where
  r7 : wr.ownsRow w.heap.size 2 1 v7 (refP (l.take k) a).length ((refP (l.take k) a).flatMap i64Cells)
  r8 : wr.ownsRow w.heap.size 2 1 v8 (refM (l.take k) a).length ((refM (l.take k) a).flatMap i64Cells)
  ap : ApartVN v7 v8
  below : Below w.heap.size w wr
  least : ((l.take k).filter (ofB a)).any leastB = false

set_option maxHeartbeats 4000000 in
set_option maxRecDepth 100000 in
theorem refSides_any (A : Option Addr) (n c : Nat) (l : List Leg) (a : Int) (w : World) (hr : Rd w w.heap.size 3 A n (l.flatMap Leg.cells)) (hn : n ≤ 1000) (hg : ∀ x ∈ l, inI x.amount) :
    Calls Try.prog 60 #[.slice A n c, .int .i64 a] w (SidesPost l a w) := by
  have HL := Lib.hid (hr.len Leg.cells_len (by omega))
  obtain ⟨i0, hi0, hz0, hz1, hz2⟩ := info_parts i64InfoN
  have HG := Lib.hid hg
  clear hg
  go_enter Try.func60, Try.ntmps60
  go_wp2_with fail
  go_loopw [7, 8, 9] (fun v7 v8 i wr => ∃ k : Nat, k ≤ n ∧ i = .int .i64 k ∧ Hid (SidRel w l a k v7 v8 wr)) (fun _ _ i _ => n - (intOf i).toNat)
  case atStart => exact ⟨0, Nat.zero_le _, rfl, Lib.hid ⟨World.ownsRow_nil _ _ _ _, World.ownsRow_nil _ _ _ _, apart_nilN _, Below.refl _ _, rfl⟩⟩
  case round =>
    obtain ⟨k, hk, rfl, HR⟩ := hrel
    by_cases hlt : k < n
    · have hlz : (k : Int) < (n : Int) := by omega
      have HB := Lib.hid HR.out.below
      have hs := HB.out.size
      have hg_f : l[k]? = some (l[k]'(by have := HL.out; omega)) := List.getElem?_eq_getElem _
      obtain ⟨b_f, off_f, rfl, hbb_f, hc_f⟩ := (hr.below HB.out).elem Leg.cells_len hg_f hlt
      have HT_f := Lib.hid (show l.take (k + 1) = l.take k ++ [(l[k]'(by have := HL.out; omega))] from List.take_succ_eq_append_getElem (by have := HL.out; omega))
      have HM_f := Lib.hid (show (l[k]'(by have := HL.out; omega)) ∈ l from List.getElem_mem _)
      generalize (l[k]'(by have := HL.out; omega)) = f at *
      have c0 := hc_f 0 _ rfl
      have c1 := hc_f 1 _ rfl
      have c2 := hc_f 2 _ rfl
      clear hc_f hg_f
      simp only [Nat.add_zero] at c0
      have hin := HG.out f HM_f.out
      by_cases ha : f.asset = a
      · have q1 : (f.asset != a) = false := by simpa using ha
        have HOB := Lib.hid (show ofB a f = true from decide_eq_true ha)
        clear ha
        have h7 := HR.out.r7
        have h8 := HR.out.r8
        have l7 : (refP (l.take k) a).length ≤ 1000 := Nat.le_trans (refP_len _ _) (by rw [List.length_take]; omega)
        have l8 : (refM (l.take k) a).length ≤ 1000 := Nat.le_trans (refM_len _ _) (by rw [List.length_take]; omega)
        obtain ⟨m7, hm7⟩ : ∃ m, Hid ((refP (l.take k) a).length = m) := ⟨_, Lib.hid rfl⟩
        obtain ⟨m8, hm8⟩ : ∃ m, Hid ((refM (l.take k) a).length = m) := ⟨_, Lib.hid rfl⟩
        rw [hm7.out] at h7 l7
        rw [hm8.out] at h8 l8
        have H7 := Lib.hid h7
        have H8 := Lib.hid h8
        clear h7 h8
        by_cases hp : 0 < f.amount
        · have q2 : ¬ f.amount < 0 := by omega
          have E7 := Lib.hid (refP_yes HT_f.out HOB.out (decide_eq_true hp))
          have E8 := Lib.hid (refM_no HT_f.out HOB.out (show negB f = false from decide_eq_false q2))
          have EL := Lib.hid (refL_same HT_f.out HOB.out HR.out.least (show leastB f = false from decide_eq_false (by omega)))
          clear hin
          go_wp2_with (at_builtin; refine wpList_append_lit_atN _ _ rfl (.tmp 35) (.tmp 37) 35 rfl w.heap.size 2 i0 _ 1 8 Try.underlying35 hi0 hz0 hz1 hz2 rfl (by decide) _ _ _ rfl H7.out _ 1 1 rfl (by first | rfl | simp) rfl (by simp [Value.oneCell']) (by omega) (by omega) (by omega) ?_; intro v' w' hown' hg' hd; have HOWN := Lib.hid hown'; have HGR := Lib.hid hg'; have HDD := Lib.hid hd; clear hown' hg' hd)
          have HREL : Hid (SidRel w l a (k + 1) v' u8 w') := Lib.hid ⟨by rw [E7.out, List.length_append, hm7.out, List.flatMap_append]; exact HOWN.out, by rw [E8.out, hm8.out]; exact own_grownN (H8.out.alloc _) HGR.out HR.out.ap, apart_grownN HR.out.ap H8.out HDD.out, below_own (HB.out.alloc hs _) HGR.out H7.out (by simp; omega) (Nat.le_refl _), EL.out⟩
          go_wp2_with fail
          go_roundw
          case rel => exact ⟨k + 1, by omega, by go_num, HREL⟩
          case measure => simp [intOf]; omega
        · have E7 := Lib.hid (refP_no HT_f.out HOB.out (show posB f = false from decide_eq_false hp))
          by_cases hnn : f.amount < 0
          · by_cases hlm : f.amount = -9223372036854775808
            · have HBAD : Hid (sidesOk l a = false) := Lib.hid (by
                have : (l.filter (ofB a)).any leastB = true := List.any_eq_true.2 ⟨f, List.mem_filter.2 ⟨HM_f.out, HOB.out⟩, decide_eq_true hlm⟩
                unfold sidesOk; rw [this]; simp)
              have q3 : (f.amount == -9223372036854775808) = true := by simpa using hlm
              clear hlm hin
              go_wp2_with fail
              refine bodyPost_ret (v := .tuple #[.int .i64 0, .int .i64 0, .int .i64 2]) (by simp [results, Try.results60, go_sem]) rfl (sides_bad HBAD.out HB.out)
            · have q3 : (f.amount == -9223372036854775808) = false := by simpa using hlm
              have E8 := Lib.hid (refM_yes HT_f.out HOB.out (decide_eq_true hnn))
              have EL := Lib.hid (refL_same HT_f.out HOB.out HR.out.least (decide_eq_false hlm))
              have hwn : IntKind.i64.wrap (-f.amount) = -f.amount := IntWalk.i64_in _ (by unfold inI at hin; omega)
              clear hlm hin
              go_wp2_with (at_builtin; refine wpList_append_lit_atN _ _ rfl (.tmp 43) (.tmp 46) 35 rfl w.heap.size 2 i0 _ 1 8 Try.underlying35 hi0 hz0 hz1 hz2 rfl (by decide) _ _ _ rfl H8.out _ 1 1 rfl (by first | rfl | simp) rfl (by simp [Value.oneCell']) (by omega) (by omega) (by omega) ?_; intro v' w' hown' hg' hd; have HOWN := Lib.hid hown'; have HGR := Lib.hid hg'; have HDD := Lib.hid hd; clear hown' hg' hd)
              have HREL : Hid (SidRel w l a (k + 1) u7 v' w') := Lib.hid ⟨by rw [E7.out, hm7.out]; exact own_grownN (H7.out.alloc _) HGR.out HR.out.ap.symm, by rw [E8.out, List.length_append, hm8.out, List.flatMap_append]; exact HOWN.out, (apart_grownN HR.out.ap.symm H7.out HDD.out).symm, below_own (HB.out.alloc hs _) HGR.out H8.out (by simp; omega) (Nat.le_refl _), EL.out⟩
              clear hwn
              go_wp2_with fail
              go_roundw
              case rel => exact ⟨k + 1, by omega, by go_num, HREL⟩
              case measure => simp [intOf]; omega
          · have E8 := Lib.hid (refM_no HT_f.out HOB.out (show negB f = false from decide_eq_false hnn))
            have EL := Lib.hid (refL_same HT_f.out HOB.out HR.out.least (show leastB f = false from decide_eq_false (by omega)))
            have HREL : Hid (SidRel w l a (k + 1) u7 u8 wr) := Lib.hid ⟨by rw [E7.out, hm7.out]; exact H7.out, by rw [E8.out, hm8.out]; exact H8.out, HR.out.ap, HB.out, EL.out⟩
            clear hin
            go_wp2_with fail
            go_roundw
            case rel => exact ⟨k + 1, by omega, by go_num, HREL⟩
            case measure => simp [intOf]; omega
      · have q1 : (f.asset != a) = true := by simpa using ha
        have HOB := Lib.hid (show ofB a f = false from decide_eq_false ha)
        have HREL : Hid (SidRel w l a (k + 1) u7 u8 wr) := Lib.hid ⟨by rw [refP_other HT_f.out HOB.out]; exact HR.out.r7, by rw [refM_other HT_f.out HOB.out]; exact HR.out.r8, HR.out.ap, HB.out, refL_other HT_f.out HOB.out HR.out.least⟩
        clear ha hin
        go_wp2_with fail
        go_roundw
        case rel => exact ⟨k + 1, by omega, by go_num, HREL⟩
        case measure => simp [intOf]; omega
    · have hlz : ¬ (k : Int) < (n : Int) := by omega
      obtain rfl : n = k := by omega
      have hT : l.take n = l := List.take_of_length_le (by rw [HL.out]; exact Nat.le_refl _)
      obtain ⟨h7, h8, _, hb, hle⟩ := HR.out
      rw [hT] at h7 h8 hle
      obtain ⟨A7, c7, rfl⟩ := own_form h7
      obtain ⟨A8, c8, rfl⟩ := own_form h8
      have HB := Lib.hid hb
      have l7 : (refP l a).length ≤ 1000 := Nat.le_trans (refP_len _ _) (by rw [HL.out]; exact hn)
      have l8 : (refM l a).length ≤ 1000 := Nat.le_trans (refM_len _ _) (by rw [HL.out]; exact hn)
      have HS7 := Lib.hid (refSum_any A7 (refP l a).length c7 (refP l a) wr (Rd.of_own h7) l7 (fun x hx => by
        unfold refP at hx
        obtain ⟨y, hy, rfl⟩ := List.mem_map.1 hx
        exact HG.out y (List.mem_filter.1 (List.mem_filter.1 hy).1).1))
      have HS8 := Lib.hid (refSum_any A8 (refM l a).length c8 (refM l a) wr (Rd.of_own h8) l8 (fun x hx => by
        unfold refM at hx
        obtain ⟨y, hy, rfl⟩ := List.mem_map.1 hx
        have hy1 := (List.mem_filter.1 hy).1
        have h1 := HG.out y (List.mem_filter.1 hy1).1
        have h2 : ¬ y.amount = -9223372036854775808 := fun e => by
          have : (l.filter (ofB a)).any leastB = true := List.any_eq_true.2 ⟨y, hy1, decide_eq_true e⟩
          rw [hle] at this; cases this
        unfold inI at h1 ⊢
        omega))
      obtain ⟨S, hS⟩ : ∃ S, Hid ((refP l a).sum = S) := ⟨_, Lib.hid rfl⟩
      obtain ⟨C, hC⟩ : ∃ C, Hid ((refM l a).sum = C) := ⟨_, Lib.hid rfl⟩
      have HSD : Hid (owedD l a = S) := Lib.hid (by rw [refP_is]; exact hS.out)
      have HSC : Hid (owedC l a = C) := Lib.hid (by rw [refM_is]; exact hC.out)
      obtain ⟨m7, hm7⟩ : ∃ m, Hid ((refP l a).length = m) := ⟨_, Lib.hid rfl⟩
      obtain ⟨m8, hm8⟩ : ∃ m, Hid ((refM l a).length = m) := ⟨_, Lib.hid rfl⟩
      rw [hS.out, hm7.out] at HS7
      rw [hC.out, hm8.out] at HS8
      rw [hm7.out, hm8.out]
      have HLE := Lib.hid hle
      clear HR hT h7 h8 hb hle l7 l8
      by_cases hin : inI S
      · have A7' := Lib.hid (amount_in hin)
        rw [A7'.out.1, A7'.out.2] at HS7
        have HI := Lib.hid hin
        clear hin
        by_cases hic : inI C
        · have A8' := Lib.hid (amount_in hic)
          rw [A8'.out.1, A8'.out.2] at HS8
          have HOK : Hid (sidesOk l a = true) := Lib.hid (by unfold sidesOk; rw [HLE.out, HSD.out, HSC.out, decide_eq_true HI.out, decide_eq_true hic]; rfl)
          clear hic
          go_wp2_with fail
          refine HS7.out.mono ?_
          rintro e w2 ⟨rfl, rfl⟩
          go_wp2_with fail
          refine HS8.out.mono ?_
          rintro e w3 ⟨rfl, rfl⟩
          go_wp2_with fail
          refine bodyPost_ret (v := .tuple #[.int .i64 S, .int .i64 C, .int .i64 0]) (by simp [results, Try.results60, go_sem]) rfl (sides_good HOK.out HSD.out HSC.out HB.out)
        · have A8' := Lib.hid (amount_outN hic)
          rw [A8'.out.1, A8'.out.2] at HS8
          have HBAD : Hid (sidesOk l a = false) := Lib.hid (by unfold sidesOk; rw [HSC.out, decide_eq_false hic]; simp)
          clear hic
          go_wp2_with fail
          refine HS7.out.mono ?_
          rintro e w2 ⟨rfl, rfl⟩
          go_wp2_with fail
          refine HS8.out.mono ?_
          rintro e w3 ⟨rfl, rfl⟩
          go_wp2_with fail
          refine bodyPost_ret (v := .tuple #[.int .i64 0, .int .i64 0, .int .i64 2]) (by simp [results, Try.results60, go_sem]) rfl (sides_bad HBAD.out HB.out)
      · have A7' := Lib.hid (amount_outN hin)
        rw [A7'.out.1, A7'.out.2] at HS7
        have HBAD : Hid (sidesOk l a = false) := Lib.hid (by unfold sidesOk; rw [HSD.out, decide_eq_false hin]; rfl)
        clear hin
        go_wp2_with fail
        refine HS7.out.mono ?_
        rintro e w2 ⟨rfl, rfl⟩
        go_wp2_with fail
        refine HS8.out.mono ?_
        rintro e w3 ⟨rfl, rfl⟩
        go_wp2_with fail
        refine bodyPost_ret (v := .tuple #[.int .i64 0, .int .i64 0, .int .i64 2]) (by simp [results, Try.results60, go_sem]) rfl (sides_bad HBAD.out HB.out)
end Go.Proofs.Ytfnhffcjhdeleaa
