import Derived.Test.YtkdiongmegnicaaTabR
namespace Go.Proofs.Ytkdiongmegnicaa
open Go.RowKit

/-! ### TableOwn -/
set_option maxHeartbeats 1000000 in
set_option maxRecDepth 100000 in
theorem tableOwn_long (room : Int) (A : Option Addr) (n c : Nat) (A2 : Option Addr) (n2 c2 : Nat) (w : World) (hn : 40 < n ∨ 40 < n2) :
    Calls Try.prog 5 #[.int .i64 room, .slice A n c, .slice A2 n2 c2] w fun e w' => e = .returned (.bool true) ∧ Below w.heap.size w w' := by
  by_cases h1 : 40 < n
  · have hz : (40 : Int) < (n : Int) := by omega
    go_enter Try.func5, Try.ntmps5
    go_wp2_with fail
    refine (awake04 _).mono ?_
    rintro e w2 ⟨rfl, hb2⟩
    go_wp2_with fail
    go_ret
    exact ⟨rfl, hb2⟩
  · have hz : ¬ (40 : Int) < (n : Int) := by omega
    have hz2 : (40 : Int) < (n2 : Int) := by omega
    go_enter Try.func5, Try.ntmps5
    go_wp2_with fail
    refine (awake04 _).mono ?_
    rintro e w2 ⟨rfl, hb2⟩
    go_wp2_with fail
    go_ret
    exact ⟨rfl, hb2⟩
theorem QtbV.mono {w : World} {h base base' : Nat} {room : Int} {u : Value} {L : List RowT} (H : QtbV w h base room u L) (hb : base' ≤ base) : QtbV w h base' room u L :=
  ⟨H.form, H.blk, own_monoT H.row hb, H.len, H.rm⟩
set_option maxHeartbeats 32000000 in
set_option maxRecDepth 100000 in
theorem tableOwn_few (room : Int) (hro : -9223372036854775808 ≤ room ∧ room ≤ 9223372036854775807) (A : Option Addr) (n c : Nat) (A2 : Option Addr) (n2 c2 : Nat) (l l2 : List ActT) (w : World) (hr : Rd w w.heap.size 3 A n (l.flatMap ActT.cells)) (hr2 : Rd w w.heap.size 3 A2 n2 (l2.flatMap ActT.cells)) (hn : n ≤ 40) (hn2 : n2 ≤ 40) :
    Calls Try.prog 5 #[.int .i64 room, .slice A n c, .slice A2 n2 c2] w fun e w' => e = .returned (.bool true) ∧ Below w.heap.size w w' := by
  have HL := Lib.hid (hr.len ActT.cells_len (by omega))
  have HL2 := Lib.hid (hr2.len ActT.cells_len (by omega))
  have HR := Lib.hid hr
  have HR2 := Lib.hid hr2
  have HNW := Lib.hid (newT_any room hro w)
  have hnz : ¬ (40 : Int) < (n : Int) := by omega
  have hnz2 : ¬ (40 : Int) < (n2 : Int) := by omega
  clear hr hr2
  by_cases h0 : 0 ≤ room
  · have hR : Hid (max room 0 = room) := Lib.hid (by omega)
    have hR0 : 0 ≤ room ∧ room ≤ 9223372036854775807 := by omega
    go_enter Try.func5, Try.ntmps5
    go_wp2_with fail
    refine HNW.out.mono ?_
    rintro e w1 ⟨g, rfl, hg, ht, hb1⟩
    rw [hR.out] at ht
    have hq := (Below.refl w1.heap.size w1).alloc (Nat.le_refl _) (.cells #[.int .i64 room, .slice none 0 0] 47)
    have hqb := Blk.new w1 47 #[.int .i64 room, .slice none 0 0] w1.heap.size rfl
    obtain ⟨h, hhe⟩ : ∃ h, Hid (w1.heap.size = h) := ⟨_, Lib.hid rfl⟩
    obtain ⟨W2, hW2⟩ : ∃ W2, Hid (w1.alloc (.cells #[.int .i64 room, .slice none 0 0] 47) = W2) := ⟨_, Lib.hid rfl⟩
    have hs1 := hb1.size
    have hbX := ht.past hq
    have hbB := Below.past hb1 hq hs1
    rw [hW2.out] at hqb hbX hbB
    rw [hhe.out] at hqb
    have HST2 : Hid (TwoT w g h room (.slice none 0 0) (.slice none 0 0) [] [] W2) := Lib.hid ⟨hbX, ⟨⟨none, 0, rfl⟩, hqb, World.ownsRow_nil _ _ _ _, by simp, hR0⟩, RelT.nil, hbB, hg, by have := hhe.out; omega⟩
    clear ht hb1 hq hqb hbX hbB HNW
    go_upto_region 5 with fail
    rw [hhe.out, hW2.out]
    go_wp2_with fail
    go_loopw [9] (fun i wr => ∃ (k : Nat) (v u : Value) (S L : List RowT), k ≤ n ∧ i = .int .i64 (k : Nat) ∧ S.length ≤ k ∧ Hid (TwoT w g h room v u S L wr)) (fun i _ => n - (intOf i).toNat)
    case atStart => exact ⟨0, _, _, _, _, by omega, rfl, by simp, HST2⟩
    case round =>
      clear HST2
      obtain ⟨k, v, u, S, L, hk, rfl, hSk, HS⟩ := hrel
      by_cases hlt : k < n
      · have hlz : (k : Int) < (n : Int) := by omega
        have hg_f : l[k]? = some (l[k]'(by have := HL.out; omega)) := List.getElem?_eq_getElem _
        obtain ⟨b_f, off_f, rfl, hbb_f, hc_f⟩ := (HR.out.below HS.out.below).elem ActT.cells_len hg_f hlt
        have HT_f := Lib.hid (show l.take (k + 1) = l.take k ++ [(l[k]'(by have := HL.out; omega))] from List.take_succ_eq_append_getElem (by have := HL.out; omega))
        have HM_f := Lib.hid (show (l[k]'(by have := HL.out; omega)) ∈ l from List.getElem_mem _)
        generalize (l[k]'(by have := HL.out; omega)) = f at *
        have c0 := hc_f 0 _ rfl
        have c1 := hc_f 1 _ rfl
        have c2 := hc_f 2 _ rfl
        clear hc_f hg_f
        simp only [Nat.add_zero] at c0
        have HD := Lib.hid (doesT_any w g h room v u S L f.kd f.id f.s wr HS.out (by omega))
        unfold DoesTPost at HD
        go_wp2_with fail
        refine HD.out.mono ?_
        rintro e w3 ⟨rfl, v3, u3, S3, L3, HS3, hl3⟩
        have HT3 := Lib.hid HS3
        clear HD HS3 HS c0 c1 c2
        go_wp2_with fail
        go_roundw
        case rel => exact ⟨k + 1, _, _, _, _, by omega, by go_num, by omega, HT3⟩
        case measure => simp [intOf]; omega
      · have hlz : ¬ (k : Int) < (n : Int) := by omega
        have hS40 : S.length ≤ 40 := by omega
        obtain ⟨w5, hw5⟩ : ∃ w5, Hid (wr = w5) := ⟨_, Lib.hid rfl⟩
        have HRW := Lib.hid (rowsT_any g w.heap.size room v S wr HS.out.tab)
        have HSL := Lib.hid HS.out.rel.len
        go_wp2_with fail
        refine HRW.out.mono ?_
        rintro e w6 ⟨va, rfl, hova, hb6⟩
        obtain ⟨Aw, cw, rfl⟩ := own_form hova
        have HS6 := Lib.hid (HS.out.past hb6)
        have HCP := Lib.hid (copyT_any g w.heap.size room v S w6 HS6.out.tab)
        unfold CopyTPost at HCP
        have HOV := Lib.hid hova
        have HB6 := Lib.hid hb6
        clear hova hb6 HRW
        go_wp2_with fail
        refine HCP.out.mono ?_
        rintro e w7 ⟨g2, v2, rfl, hg2, ht2, hb7⟩
        have HT2 := Lib.hid ht2
        have HB7 := Lib.hid hb7
        have HS7 := Lib.hid (HS6.out.past hb7)
        have q0 := HS7.out.doc.blk.cell 0
        simp at q0
        have hba := (Below.refl w7.heap.size w7).alloc (Nat.le_refl _) (.cells #[.int .i64 room, .slice none 0 0] 47)
        have hbk := Blk.new w7 47 #[.int .i64 room, .slice none 0 0] w7.heap.size rfl
        obtain ⟨h2, hh2⟩ : ∃ h2, Hid (w7.heap.size = h2) := ⟨_, Lib.hid rfl⟩
        obtain ⟨W8, hW8⟩ : ∃ W8, Hid (w7.alloc (.cells #[.int .i64 room, .slice none 0 0] 47) = W8) := ⟨_, Lib.hid rfl⟩
        rw [hW8.out] at hba hbk
        rw [hh2.out] at hbk
        have HQ8 : Hid (QtbV W8 h2 w7.heap.size room (.slice none 0 0) (L.take 0)) := Lib.hid ⟨⟨none, 0, rfl⟩, hbk, World.ownsRow_nil _ _ _ _, by simp, hR0⟩
        have HBA := Lib.hid hba
        obtain ⟨m, hm⟩ : ∃ m, Hid (L.length = m) := ⟨_, Lib.hid rfl⟩
        have hm40 : m ≤ 40 := by have := HSL.out; have := hm.out; omega
        clear ht2 hb7 hba hbk HCP
        go_upto_region 11 with fail
        rw [hh2.out, hW8.out]
        clear q0
        go_wp2_with fail
        obtain ⟨i0, hi0, hz0, hz1, hz2⟩ := info_parts qrowInfo
        go_loopw [13] (fun i wz => ∃ (j : Nat) (pu : Value), j ≤ m ∧ i = .int .i64 (j : Nat) ∧ Hid (QtbV wz h2 w7.heap.size room pu (L.take j)) ∧ Hid (Below w7.heap.size w7 wz)) (fun i _ => m - (intOf i).toNat)
        case atStart => exact ⟨0, _, Nat.zero_le _, rfl, HQ8, HBA⟩
        case round =>
          clear HQ8 HBA
          obtain ⟨j, pu, hj, rfl, HQ, HBZ⟩ := hrel
          have HSZ := Lib.hid (HS7.out.past HBZ.out)
          obtain ⟨X, cX, hu⟩ := HSZ.out.doc.form
          have q1 := HSZ.out.doc.blk.cell 1
          simp at q1
          by_cases hjt : j < m
          · have hjz : (j : Int) < (m : Int) := by omega
            have hLT : Hid ((L.take j).length = j) := Lib.hid (by rw [List.length_take, hm.out]; omega)
            have hown0 := HSZ.out.doc.row
            rw [hu, hm.out] at hown0
            rw [hu, hm.out] at q1
            have hg_f : L[j]? = some (L[j]'(by have := hm.out; omega)) := List.getElem?_eq_getElem _
            obtain ⟨b_f, off_f, rfl, hbb_f, hc_f⟩ := (Rd.of_own hown0).elem RowT.cells_len hg_f hjt
            have HT_f := Lib.hid (show L.take (j + 1) = L.take j ++ [(L[j]'(by have := hm.out; omega))] from List.take_succ_eq_append_getElem (by have := hm.out; omega))
            have HM_f := Lib.hid (show (L[j]'(by have := hm.out; omega)) ∈ L from List.getElem_mem _)
            generalize (L[j]'(by have := hm.out; omega)) = f at *
            have c0 := hc_f 0 _ rfl
            have c1 := hc_f 1 _ rfl
            clear hc_f hg_f
            simp only [Nat.add_zero] at c0
            obtain ⟨Y, cY, hpu⟩ := HQ.out.form
            rw [hLT.out] at hpu
            subst hpu
            have HRW2 := Lib.hid HQ.out.row
            have HBL2 := Lib.hid HQ.out.blk
            rw [hLT.out] at HRW2
            have l1 := HBL2.out.cell 1
            simp at l1
            have hbz := HBZ.out.size
            have hgz := HBL2.out.lt
            have hbf : b_f < wr.heap.size := by omega
            clear hown0
            go_upto_region 14 with fail
            go_region_law (refine step_append_blkG rfl (.tmp 74) (.tmp 82) 45 rfl w7.heap.size 57 i0 _ 2 24 Try.underlying45 hi0 hz0 hz1 hz2 rfl (by decide) (.slice Y j cY) j ((L.take j).flatMap RowT.cells) (by simp [Act.eval]) (by first | exact HRW2.out.alloc _ | exact own_drewN (HRW2.out.alloc _) 1) wr.heap.size 1 1 #[.int .i64 f.id, .string f.v] (by simp [Act.eval]) (by exact Blk.new wr 57 _ _ rfl) rfl (by simp [Value.oneCell']) (by omega) (by omega) (by simp; omega) ?_; intro v' w' hown' hg' hd; obtain ⟨A', c', rfl⟩ := own_form hown'; have bz : Blk w' h2 47 #[.int .i64 room, .slice Y j cY] := Blk.grown (by first | exact HBL2.out.alloc _ | exact (HBL2.out.alloc _).drewN 1) hg' (own_blk_ne (w := wr) HRW2.out HBL2.out (by decide)); have z1 := bz.cell 1; have zf := bz.frozen 1; simp at z1)
            all_goals
              have HN : Hid (QtbV (w'.setCell ⟨h2, 1, none⟩ (.slice A' (j + 1) c')) h2 w7.heap.size room (.slice A' (j + 1) c') (L.take (j + 1))) := Lib.hid (by
                have hll : (L.take (j + 1)).length = j + 1 := by rw [HT_f.out, List.length_append, hLT.out]; rfl
                refine ⟨⟨A', c', by rw [hll]⟩, bz.put 1 _, ?_, by rw [hll]; omega, hR0⟩
                rw [hll, HT_f.out, List.flatMap_append]
                simpa [RowT.cells] using own_far (p := ⟨h2, 1, none⟩) hown' (own_blk_ne hown' bz (by decide)) _)
              have HNB : Hid (Below w7.heap.size w7 (w'.setCell ⟨h2, 1, none⟩ (.slice A' (j + 1) c'))) := Lib.hid (by
                refine Below.setCell (p := ⟨h2, 1, none⟩) ?_ (by have := hh2.out; simp; omega) _
                refine Below.grown (by first | exact (HBZ.out.alloc hbz _) | exact (HBZ.out.alloc hbz _).drew) hg' (by simp; omega) fun k e => (HRW2.out.lt k e).1)
              clear z1 zf bz hown' hg' hd
              go_wp2_with fail
              go_roundw
              case rel => exact ⟨j + 1, _, by omega, by go_num, HN, HNB⟩
              case measure => simp [intOf]; omega
          · have hjz : ¬ (j : Int) < (m : Int) := by omega
            obtain rfl : m = j := by omega
            have hT : L.take m = L := List.take_of_length_le (by rw [hm.out]; exact Nat.le_refl _)
            rw [hT] at HQ
            clear hT
            rw [hu, hm.out] at q1
            have hs7 := HB7.out.size
            have HST : Hid (TwoT w6 g2 h2 room v2 pu S L wr) := Lib.hid ⟨HT2.out.past HBZ.out, HQ.out.mono hs7, HS.out.rel, Below.past HB7.out HBZ.out hs7, hg2, by have := hh2.out; omega⟩
            go_wp2_with fail
            clear q1
            go_loopw [14] (fun i wz => ∃ (k : Nat) (v' u' : Value) (S' L' : List RowT), k ≤ n2 ∧ i = .int .i64 (k : Nat) ∧ S'.length ≤ 40 + k ∧ Hid (TwoT w6 g2 h2 room v' u' S' L' wz)) (fun i _ => n2 - (intOf i).toNat)
            case atStart => exact ⟨0, _, _, _, _, by omega, rfl, by omega, HST⟩
            case round =>
              clear HST HQ HSZ hu HBZ
              obtain ⟨k, v', u', S', L', hk, rfl, hSk, HC⟩ := hrel
              have HB6w : Hid (Below w.heap.size w wr) := Lib.hid (Below.past HS6.out.below HC.out.below HS6.out.below.size)
              by_cases hlt : k < n2
              · have hlz : (k : Int) < (n2 : Int) := by omega
                have hg_f : l2[k]? = some (l2[k]'(by have := HL2.out; omega)) := List.getElem?_eq_getElem _
                obtain ⟨b_f, off_f, rfl, hbb_f, hc_f⟩ := (HR2.out.below HB6w.out).elem ActT.cells_len hg_f hlt
                have HT_f := Lib.hid (show l2.take (k + 1) = l2.take k ++ [(l2[k]'(by have := HL2.out; omega))] from List.take_succ_eq_append_getElem (by have := HL2.out; omega))
                have HM_f := Lib.hid (show (l2[k]'(by have := HL2.out; omega)) ∈ l2 from List.getElem_mem _)
                generalize (l2[k]'(by have := HL2.out; omega)) = f at *
                have c0 := hc_f 0 _ rfl
                have c1 := hc_f 1 _ rfl
                have c2 := hc_f 2 _ rfl
                clear hc_f hg_f
                simp only [Nat.add_zero] at c0
                have HD := Lib.hid (doesT_any w6 g2 h2 room v' u' S' L' f.kd f.id f.s wr HC.out (by omega))
                unfold DoesTPost at HD
                go_wp2_with fail
                refine HD.out.mono ?_
                rintro e w9 ⟨rfl, v9, u9, S9, L9, HS9, hl9⟩
                have HT9 := Lib.hid HS9
                clear HD HS9 HC c0 c1 c2
                go_wp2_with fail
                go_roundw
                case rel => exact ⟨k + 1, _, _, _, _, by omega, by go_num, by omega, HT9⟩
                case measure => simp [intOf]; omega
              · have hlz : ¬ (k : Int) < (n2 : Int) := by omega
                have HSN := Lib.hid (HS6.out.past HC.out.below)
                have HSM := Lib.hid (sameT_any w g h room v u S L wr HSN.out)
                go_wp2_with fail
                refine HSM.out.mono ?_
                rintro e w9 ⟨rfl, hb9⟩
                have HC9 := Lib.hid (HC.out.past hb9)
                have HSM2 := Lib.hid (sameT_any w6 g2 h2 room v' u' S' L' w9 HC9.out)
                clear hb9 HSM HSN HC HB6w
                go_wp2_with fail
                refine HSM2.out.mono ?_
                rintro e w10 ⟨rfl, hb10⟩
                have HB10 := Lib.hid (Below.past HC9.out.below hb10 HC9.out.below.size)
                have HOV10 := Lib.hid (own_pastT HOV.out HB10.out)
                have HS10 := Lib.hid (HS6.out.past HB10.out)
                clear hb10 HSM2 HC9
                obtain ⟨sn, hsn⟩ : ∃ sn, Hid (S.length = sn) := ⟨_, Lib.hid rfl⟩
                have hsn40 : sn ≤ 40 := by rw [← hsn.out]; exact hS40
                rw [hsn.out] at HOV10
                have HWS : Hid (w.heap.size ≤ w5.heap.size) := Lib.hid (by rw [← hw5.out]; exact HS.out.below.size)
                rw [hw5.out] at HOV10
                have HS5 := HS
                rw [hw5.out] at HS5
                have HB510 : Hid (Below w5.heap.size w5 w10) := Lib.hid (by
                  have h1 := HB6.out
                  rw [hw5.out] at h1
                  exact Below.past h1 HB10.out h1.size)
                clear hw5
                go_wp2_with fail
                rw [hsn.out]
                go_loopw [15] (fun i wz => ∃ (k : Nat) (Z : List RowT), k ≤ sn ∧ i = .int .i64 (k : Nat) ∧ Hid (Z.length = sn) ∧ Hid (wz.ownsRow w5.heap.size 53 2 (.slice Aw sn cw) sn (Z.flatMap RowT.cells)) ∧ Hid (Below w5.heap.size w5 wz)) (fun i _ => sn - (intOf i).toNat)
                case atStart => exact ⟨0, S, by omega, rfl, hsn, HOV10, HB510⟩
                case round =>
                  clear HOV10 HB510 HS10 HB10
                  obtain ⟨k, Z, hk, rfl, HZL, HZ, HZB⟩ := hrel
                  by_cases hlt : k < sn
                  · have hlz : (k : Int) < (sn : Int) := by omega
                    obtain ⟨gz, cs, hX, hbg, hbk⟩ := own_someT HZ.out (by omega)
                    subst hX
                    obtain ⟨r, hzr⟩ : ∃ r, Z[k]? = some r := ⟨_, List.getElem?_eq_getElem (by rw [HZL.out]; exact hlt)⟩
                    obtain ⟨b, off, he, _, hc⟩ := (Rd.of_own HZ.out).elem RowT.cells_len hzr hlt
                    cases he
                    have c1 := hc 1 _ rfl
                    simp only [Nat.zero_add] at c1
                    have z1 := hbk.frozen (k * 2 + 1)
                    have HZ2 : Hid ((wr.setCell ⟨gz, k * 2 + 1, none⟩ (.string ⟨#[99, 104, 97, 110, 103, 101, 100]⟩)).ownsRow w5.heap.size 53 2 (.slice (some ⟨gz, 0, none⟩) sn cw) sn ((Z.set k ⟨r.id, ⟨#[99, 104, 97, 110, 103, 101, 100]⟩⟩).flatMap RowT.cells)) := Lib.hid (by
                      rw [← set_row Z k r hzr]
                      exact own_setT HZ.out (by omega) _)
                    have HZB2 : Hid (Below w5.heap.size w5 (wr.setCell ⟨gz, k * 2 + 1, none⟩ (.string ⟨#[99, 104, 97, 110, 103, 101, 100]⟩))) := Lib.hid (HZB.out.setCell (p := ⟨gz, k * 2 + 1, none⟩) hbg _)
                    clear hc hbk hbg hzr
                    go_wp2_with fail
                    go_roundw
                    case rel => exact ⟨k + 1, _, by omega, by go_num, Lib.hid (by rw [List.length_set]; exact HZL.out), HZ2, HZB2⟩
                    case measure => simp [intOf]; omega
                  · have hlz : ¬ (k : Int) < (sn : Int) := by omega
                    have HSE := Lib.hid (HS5.out.past HZB.out)
                    clear HS5
                    go_wp2_with fail
                    refine (getT_nil _ _).mono ?_
                    rintro e w11 ⟨rfl, rfl⟩
                    go_wp2_with fail
                    refine (dropT_nil _ _).mono ?_
                    rintro e w11 ⟨rfl, rfl⟩
                    go_wp2_with fail
                    refine (nearT_nil _ _).mono ?_
                    rintro e w11 ⟨rfl, hb11⟩
                    have hba := (Below.refl w11.heap.size w11).alloc (Nat.le_refl _) (.cells #[.int .i64 0, .string ⟨#[]⟩] 53)
                    obtain ⟨W12, hW12⟩ : ∃ W12, Hid (w11.alloc (.cells #[.int .i64 0, .string ⟨#[]⟩] 53) = W12) := ⟨_, Lib.hid rfl⟩
                    have HS12 := Lib.hid ((HSE.out.past hb11).past hba)
                    rw [hW12.out] at HS12
                    clear hb11 hba HSE
                    go_upto_region 30 with fail
                    rw [hW12.out]
                    go_wp2_with fail
                    refine (awake04 _).mono ?_
                    rintro e w13 ⟨rfl, hb13⟩
                    have HS13 := Lib.hid (HS12.out.past hb13)
                    have HSM := Lib.hid (sameT_any w g h room v u S L w13 HS13.out)
                    clear hb13 HS12
                    go_wp2_with fail
                    refine HSM.out.mono ?_
                    rintro e w14 ⟨rfl, hb14⟩
                    have HBE := Lib.hid (Below.past HS13.out.below hb14 HS13.out.below.size)
                    clear hb14 HS13 HSM
                    go_wp2_with fail
                    refine (putT_nil _ _ _).mono ?_
                    rintro e w15 ⟨rfl, rfl⟩
                    go_wp2_with fail
                    refine (setT_nil _ _ _).mono ?_
                    rintro e w15 ⟨rfl, rfl⟩
                    go_wp2_with fail
                    refine (lenT_nil _).mono ?_
                    rintro e w15 ⟨rfl, rfl⟩
                    go_wp2_with fail
                    refine (leftT_nil _).mono ?_
                    rintro e w15 ⟨rfl, rfl⟩
                    go_wp2_with fail
                    refine (rowsT_nil _).mono ?_
                    rintro e w15 ⟨rfl, rfl⟩
                    go_wp2_with fail
                    refine (copyT_nil _).mono ?_
                    rintro e w15 ⟨rfl, rfl⟩
                    go_wp2_with fail
                    go_ret
                    exact ⟨rfl, HBE.out⟩
  · have hR : Hid (max room 0 = 0) := Lib.hid (by omega)
    have hR0 : (0 : Int) ≤ 0 ∧ (0 : Int) ≤ 9223372036854775807 := by omega
    go_enter Try.func5, Try.ntmps5
    go_wp2_with fail
    refine HNW.out.mono ?_
    rintro e w1 ⟨g, rfl, hg, ht, hb1⟩
    rw [hR.out] at ht
    have hq := (Below.refl w1.heap.size w1).alloc (Nat.le_refl _) (.cells #[.int .i64 0, .slice none 0 0] 47)
    have hqb := Blk.new w1 47 #[.int .i64 0, .slice none 0 0] w1.heap.size rfl
    obtain ⟨h, hhe⟩ : ∃ h, Hid (w1.heap.size = h) := ⟨_, Lib.hid rfl⟩
    obtain ⟨W2, hW2⟩ : ∃ W2, Hid (w1.alloc (.cells #[.int .i64 0, .slice none 0 0] 47) = W2) := ⟨_, Lib.hid rfl⟩
    have hs1 := hb1.size
    have hbX := ht.past hq
    have hbB := Below.past hb1 hq hs1
    rw [hW2.out] at hqb hbX hbB
    rw [hhe.out] at hqb
    have HST2 : Hid (TwoT w g h 0 (.slice none 0 0) (.slice none 0 0) [] [] W2) := Lib.hid ⟨hbX, ⟨⟨none, 0, rfl⟩, hqb, World.ownsRow_nil _ _ _ _, by simp, hR0⟩, RelT.nil, hbB, hg, by have := hhe.out; omega⟩
    clear ht hb1 hq hqb hbX hbB HNW
    go_upto_region 5 with fail
    rw [hhe.out, hW2.out]
    go_wp2_with fail
    go_loopw [9] (fun i wr => ∃ (k : Nat) (v u : Value) (S L : List RowT), k ≤ n ∧ i = .int .i64 (k : Nat) ∧ S.length ≤ k ∧ Hid (TwoT w g h 0 v u S L wr)) (fun i _ => n - (intOf i).toNat)
    case atStart => exact ⟨0, _, _, _, _, by omega, rfl, by simp, HST2⟩
    case round =>
      clear HST2
      obtain ⟨k, v, u, S, L, hk, rfl, hSk, HS⟩ := hrel
      by_cases hlt : k < n
      · have hlz : (k : Int) < (n : Int) := by omega
        have hg_f : l[k]? = some (l[k]'(by have := HL.out; omega)) := List.getElem?_eq_getElem _
        obtain ⟨b_f, off_f, rfl, hbb_f, hc_f⟩ := (HR.out.below HS.out.below).elem ActT.cells_len hg_f hlt
        have HT_f := Lib.hid (show l.take (k + 1) = l.take k ++ [(l[k]'(by have := HL.out; omega))] from List.take_succ_eq_append_getElem (by have := HL.out; omega))
        have HM_f := Lib.hid (show (l[k]'(by have := HL.out; omega)) ∈ l from List.getElem_mem _)
        generalize (l[k]'(by have := HL.out; omega)) = f at *
        have c0 := hc_f 0 _ rfl
        have c1 := hc_f 1 _ rfl
        have c2 := hc_f 2 _ rfl
        clear hc_f hg_f
        simp only [Nat.add_zero] at c0
        have HD := Lib.hid (doesT_any w g h 0 v u S L f.kd f.id f.s wr HS.out (by omega))
        unfold DoesTPost at HD
        go_wp2_with fail
        refine HD.out.mono ?_
        rintro e w3 ⟨rfl, v3, u3, S3, L3, HS3, hl3⟩
        have HT3 := Lib.hid HS3
        clear HD HS3 HS c0 c1 c2
        go_wp2_with fail
        go_roundw
        case rel => exact ⟨k + 1, _, _, _, _, by omega, by go_num, by omega, HT3⟩
        case measure => simp [intOf]; omega
      · have hlz : ¬ (k : Int) < (n : Int) := by omega
        have hS40 : S.length ≤ 40 := by omega
        obtain ⟨w5, hw5⟩ : ∃ w5, Hid (wr = w5) := ⟨_, Lib.hid rfl⟩
        have HRW := Lib.hid (rowsT_any g w.heap.size 0 v S wr HS.out.tab)
        have HSL := Lib.hid HS.out.rel.len
        go_wp2_with fail
        refine HRW.out.mono ?_
        rintro e w6 ⟨va, rfl, hova, hb6⟩
        obtain ⟨Aw, cw, rfl⟩ := own_form hova
        have HS6 := Lib.hid (HS.out.past hb6)
        have HCP := Lib.hid (copyT_any g w.heap.size 0 v S w6 HS6.out.tab)
        unfold CopyTPost at HCP
        have HOV := Lib.hid hova
        have HB6 := Lib.hid hb6
        clear hova hb6 HRW
        go_wp2_with fail
        refine HCP.out.mono ?_
        rintro e w7 ⟨g2, v2, rfl, hg2, ht2, hb7⟩
        have HT2 := Lib.hid ht2
        have HB7 := Lib.hid hb7
        have HS7 := Lib.hid (HS6.out.past hb7)
        have q0 := HS7.out.doc.blk.cell 0
        simp at q0
        have hba := (Below.refl w7.heap.size w7).alloc (Nat.le_refl _) (.cells #[.int .i64 0, .slice none 0 0] 47)
        have hbk := Blk.new w7 47 #[.int .i64 0, .slice none 0 0] w7.heap.size rfl
        obtain ⟨h2, hh2⟩ : ∃ h2, Hid (w7.heap.size = h2) := ⟨_, Lib.hid rfl⟩
        obtain ⟨W8, hW8⟩ : ∃ W8, Hid (w7.alloc (.cells #[.int .i64 0, .slice none 0 0] 47) = W8) := ⟨_, Lib.hid rfl⟩
        rw [hW8.out] at hba hbk
        rw [hh2.out] at hbk
        have HQ8 : Hid (QtbV W8 h2 w7.heap.size 0 (.slice none 0 0) (L.take 0)) := Lib.hid ⟨⟨none, 0, rfl⟩, hbk, World.ownsRow_nil _ _ _ _, by simp, hR0⟩
        have HBA := Lib.hid hba
        obtain ⟨m, hm⟩ : ∃ m, Hid (L.length = m) := ⟨_, Lib.hid rfl⟩
        have hm40 : m ≤ 40 := by have := HSL.out; have := hm.out; omega
        clear ht2 hb7 hba hbk HCP
        go_upto_region 11 with fail
        rw [hh2.out, hW8.out]
        clear q0
        go_wp2_with fail
        obtain ⟨i0, hi0, hz0, hz1, hz2⟩ := info_parts qrowInfo
        go_loopw [13] (fun i wz => ∃ (j : Nat) (pu : Value), j ≤ m ∧ i = .int .i64 (j : Nat) ∧ Hid (QtbV wz h2 w7.heap.size 0 pu (L.take j)) ∧ Hid (Below w7.heap.size w7 wz)) (fun i _ => m - (intOf i).toNat)
        case atStart => exact ⟨0, _, Nat.zero_le _, rfl, HQ8, HBA⟩
        case round =>
          clear HQ8 HBA
          obtain ⟨j, pu, hj, rfl, HQ, HBZ⟩ := hrel
          have HSZ := Lib.hid (HS7.out.past HBZ.out)
          obtain ⟨X, cX, hu⟩ := HSZ.out.doc.form
          have q1 := HSZ.out.doc.blk.cell 1
          simp at q1
          by_cases hjt : j < m
          · have hjz : (j : Int) < (m : Int) := by omega
            have hLT : Hid ((L.take j).length = j) := Lib.hid (by rw [List.length_take, hm.out]; omega)
            have hown0 := HSZ.out.doc.row
            rw [hu, hm.out] at hown0
            rw [hu, hm.out] at q1
            have hg_f : L[j]? = some (L[j]'(by have := hm.out; omega)) := List.getElem?_eq_getElem _
            obtain ⟨b_f, off_f, rfl, hbb_f, hc_f⟩ := (Rd.of_own hown0).elem RowT.cells_len hg_f hjt
            have HT_f := Lib.hid (show L.take (j + 1) = L.take j ++ [(L[j]'(by have := hm.out; omega))] from List.take_succ_eq_append_getElem (by have := hm.out; omega))
            have HM_f := Lib.hid (show (L[j]'(by have := hm.out; omega)) ∈ L from List.getElem_mem _)
            generalize (L[j]'(by have := hm.out; omega)) = f at *
            have c0 := hc_f 0 _ rfl
            have c1 := hc_f 1 _ rfl
            clear hc_f hg_f
            simp only [Nat.add_zero] at c0
            obtain ⟨Y, cY, hpu⟩ := HQ.out.form
            rw [hLT.out] at hpu
            subst hpu
            have HRW2 := Lib.hid HQ.out.row
            have HBL2 := Lib.hid HQ.out.blk
            rw [hLT.out] at HRW2
            have l1 := HBL2.out.cell 1
            simp at l1
            have hbz := HBZ.out.size
            have hgz := HBL2.out.lt
            have hbf : b_f < wr.heap.size := by omega
            clear hown0
            go_upto_region 14 with fail
            go_region_law (refine step_append_blkG rfl (.tmp 74) (.tmp 82) 45 rfl w7.heap.size 57 i0 _ 2 24 Try.underlying45 hi0 hz0 hz1 hz2 rfl (by decide) (.slice Y j cY) j ((L.take j).flatMap RowT.cells) (by simp [Act.eval]) (by first | exact HRW2.out.alloc _ | exact own_drewN (HRW2.out.alloc _) 1) wr.heap.size 1 1 #[.int .i64 f.id, .string f.v] (by simp [Act.eval]) (by exact Blk.new wr 57 _ _ rfl) rfl (by simp [Value.oneCell']) (by omega) (by omega) (by simp; omega) ?_; intro v' w' hown' hg' hd; obtain ⟨A', c', rfl⟩ := own_form hown'; have bz : Blk w' h2 47 #[.int .i64 0, .slice Y j cY] := Blk.grown (by first | exact HBL2.out.alloc _ | exact (HBL2.out.alloc _).drewN 1) hg' (own_blk_ne (w := wr) HRW2.out HBL2.out (by decide)); have z1 := bz.cell 1; have zf := bz.frozen 1; simp at z1)
            all_goals
              have HN : Hid (QtbV (w'.setCell ⟨h2, 1, none⟩ (.slice A' (j + 1) c')) h2 w7.heap.size 0 (.slice A' (j + 1) c') (L.take (j + 1))) := Lib.hid (by
                have hll : (L.take (j + 1)).length = j + 1 := by rw [HT_f.out, List.length_append, hLT.out]; rfl
                refine ⟨⟨A', c', by rw [hll]⟩, bz.put 1 _, ?_, by rw [hll]; omega, hR0⟩
                rw [hll, HT_f.out, List.flatMap_append]
                simpa [RowT.cells] using own_far (p := ⟨h2, 1, none⟩) hown' (own_blk_ne hown' bz (by decide)) _)
              have HNB : Hid (Below w7.heap.size w7 (w'.setCell ⟨h2, 1, none⟩ (.slice A' (j + 1) c'))) := Lib.hid (by
                refine Below.setCell (p := ⟨h2, 1, none⟩) ?_ (by have := hh2.out; simp; omega) _
                refine Below.grown (by first | exact (HBZ.out.alloc hbz _) | exact (HBZ.out.alloc hbz _).drew) hg' (by simp; omega) fun k e => (HRW2.out.lt k e).1)
              clear z1 zf bz hown' hg' hd
              go_wp2_with fail
              go_roundw
              case rel => exact ⟨j + 1, _, by omega, by go_num, HN, HNB⟩
              case measure => simp [intOf]; omega
          · have hjz : ¬ (j : Int) < (m : Int) := by omega
            obtain rfl : m = j := by omega
            have hT : L.take m = L := List.take_of_length_le (by rw [hm.out]; exact Nat.le_refl _)
            rw [hT] at HQ
            clear hT
            rw [hu, hm.out] at q1
            have hs7 := HB7.out.size
            have HST : Hid (TwoT w6 g2 h2 0 v2 pu S L wr) := Lib.hid ⟨HT2.out.past HBZ.out, HQ.out.mono hs7, HS.out.rel, Below.past HB7.out HBZ.out hs7, hg2, by have := hh2.out; omega⟩
            go_wp2_with fail
            clear q1
            go_loopw [14] (fun i wz => ∃ (k : Nat) (v' u' : Value) (S' L' : List RowT), k ≤ n2 ∧ i = .int .i64 (k : Nat) ∧ S'.length ≤ 40 + k ∧ Hid (TwoT w6 g2 h2 0 v' u' S' L' wz)) (fun i _ => n2 - (intOf i).toNat)
            case atStart => exact ⟨0, _, _, _, _, by omega, rfl, by omega, HST⟩
            case round =>
              clear HST HQ HSZ hu HBZ
              obtain ⟨k, v', u', S', L', hk, rfl, hSk, HC⟩ := hrel
              have HB6w : Hid (Below w.heap.size w wr) := Lib.hid (Below.past HS6.out.below HC.out.below HS6.out.below.size)
              by_cases hlt : k < n2
              · have hlz : (k : Int) < (n2 : Int) := by omega
                have hg_f : l2[k]? = some (l2[k]'(by have := HL2.out; omega)) := List.getElem?_eq_getElem _
                obtain ⟨b_f, off_f, rfl, hbb_f, hc_f⟩ := (HR2.out.below HB6w.out).elem ActT.cells_len hg_f hlt
                have HT_f := Lib.hid (show l2.take (k + 1) = l2.take k ++ [(l2[k]'(by have := HL2.out; omega))] from List.take_succ_eq_append_getElem (by have := HL2.out; omega))
                have HM_f := Lib.hid (show (l2[k]'(by have := HL2.out; omega)) ∈ l2 from List.getElem_mem _)
                generalize (l2[k]'(by have := HL2.out; omega)) = f at *
                have c0 := hc_f 0 _ rfl
                have c1 := hc_f 1 _ rfl
                have c2 := hc_f 2 _ rfl
                clear hc_f hg_f
                simp only [Nat.add_zero] at c0
                have HD := Lib.hid (doesT_any w6 g2 h2 0 v' u' S' L' f.kd f.id f.s wr HC.out (by omega))
                unfold DoesTPost at HD
                go_wp2_with fail
                refine HD.out.mono ?_
                rintro e w9 ⟨rfl, v9, u9, S9, L9, HS9, hl9⟩
                have HT9 := Lib.hid HS9
                clear HD HS9 HC c0 c1 c2
                go_wp2_with fail
                go_roundw
                case rel => exact ⟨k + 1, _, _, _, _, by omega, by go_num, by omega, HT9⟩
                case measure => simp [intOf]; omega
              · have hlz : ¬ (k : Int) < (n2 : Int) := by omega
                have HSN := Lib.hid (HS6.out.past HC.out.below)
                have HSM := Lib.hid (sameT_any w g h 0 v u S L wr HSN.out)
                go_wp2_with fail
                refine HSM.out.mono ?_
                rintro e w9 ⟨rfl, hb9⟩
                have HC9 := Lib.hid (HC.out.past hb9)
                have HSM2 := Lib.hid (sameT_any w6 g2 h2 0 v' u' S' L' w9 HC9.out)
                clear hb9 HSM HSN HC HB6w
                go_wp2_with fail
                refine HSM2.out.mono ?_
                rintro e w10 ⟨rfl, hb10⟩
                have HB10 := Lib.hid (Below.past HC9.out.below hb10 HC9.out.below.size)
                have HOV10 := Lib.hid (own_pastT HOV.out HB10.out)
                have HS10 := Lib.hid (HS6.out.past HB10.out)
                clear hb10 HSM2 HC9
                obtain ⟨sn, hsn⟩ : ∃ sn, Hid (S.length = sn) := ⟨_, Lib.hid rfl⟩
                have hsn40 : sn ≤ 40 := by rw [← hsn.out]; exact hS40
                rw [hsn.out] at HOV10
                have HWS : Hid (w.heap.size ≤ w5.heap.size) := Lib.hid (by rw [← hw5.out]; exact HS.out.below.size)
                rw [hw5.out] at HOV10
                have HS5 := HS
                rw [hw5.out] at HS5
                have HB510 : Hid (Below w5.heap.size w5 w10) := Lib.hid (by
                  have h1 := HB6.out
                  rw [hw5.out] at h1
                  exact Below.past h1 HB10.out h1.size)
                clear hw5
                go_wp2_with fail
                rw [hsn.out]
                go_loopw [15] (fun i wz => ∃ (k : Nat) (Z : List RowT), k ≤ sn ∧ i = .int .i64 (k : Nat) ∧ Hid (Z.length = sn) ∧ Hid (wz.ownsRow w5.heap.size 53 2 (.slice Aw sn cw) sn (Z.flatMap RowT.cells)) ∧ Hid (Below w5.heap.size w5 wz)) (fun i _ => sn - (intOf i).toNat)
                case atStart => exact ⟨0, S, by omega, rfl, hsn, HOV10, HB510⟩
                case round =>
                  clear HOV10 HB510 HS10 HB10
                  obtain ⟨k, Z, hk, rfl, HZL, HZ, HZB⟩ := hrel
                  by_cases hlt : k < sn
                  · have hlz : (k : Int) < (sn : Int) := by omega
                    obtain ⟨gz, cs, hX, hbg, hbk⟩ := own_someT HZ.out (by omega)
                    subst hX
                    obtain ⟨r, hzr⟩ : ∃ r, Z[k]? = some r := ⟨_, List.getElem?_eq_getElem (by rw [HZL.out]; exact hlt)⟩
                    obtain ⟨b, off, he, _, hc⟩ := (Rd.of_own HZ.out).elem RowT.cells_len hzr hlt
                    cases he
                    have c1 := hc 1 _ rfl
                    simp only [Nat.zero_add] at c1
                    have z1 := hbk.frozen (k * 2 + 1)
                    have HZ2 : Hid ((wr.setCell ⟨gz, k * 2 + 1, none⟩ (.string ⟨#[99, 104, 97, 110, 103, 101, 100]⟩)).ownsRow w5.heap.size 53 2 (.slice (some ⟨gz, 0, none⟩) sn cw) sn ((Z.set k ⟨r.id, ⟨#[99, 104, 97, 110, 103, 101, 100]⟩⟩).flatMap RowT.cells)) := Lib.hid (by
                      rw [← set_row Z k r hzr]
                      exact own_setT HZ.out (by omega) _)
                    have HZB2 : Hid (Below w5.heap.size w5 (wr.setCell ⟨gz, k * 2 + 1, none⟩ (.string ⟨#[99, 104, 97, 110, 103, 101, 100]⟩))) := Lib.hid (HZB.out.setCell (p := ⟨gz, k * 2 + 1, none⟩) hbg _)
                    clear hc hbk hbg hzr
                    go_wp2_with fail
                    go_roundw
                    case rel => exact ⟨k + 1, _, by omega, by go_num, Lib.hid (by rw [List.length_set]; exact HZL.out), HZ2, HZB2⟩
                    case measure => simp [intOf]; omega
                  · have hlz : ¬ (k : Int) < (sn : Int) := by omega
                    have HSE := Lib.hid (HS5.out.past HZB.out)
                    clear HS5
                    go_wp2_with fail
                    refine (getT_nil _ _).mono ?_
                    rintro e w11 ⟨rfl, rfl⟩
                    go_wp2_with fail
                    refine (dropT_nil _ _).mono ?_
                    rintro e w11 ⟨rfl, rfl⟩
                    go_wp2_with fail
                    refine (nearT_nil _ _).mono ?_
                    rintro e w11 ⟨rfl, hb11⟩
                    have hba := (Below.refl w11.heap.size w11).alloc (Nat.le_refl _) (.cells #[.int .i64 0, .string ⟨#[]⟩] 53)
                    obtain ⟨W12, hW12⟩ : ∃ W12, Hid (w11.alloc (.cells #[.int .i64 0, .string ⟨#[]⟩] 53) = W12) := ⟨_, Lib.hid rfl⟩
                    have HS12 := Lib.hid ((HSE.out.past hb11).past hba)
                    rw [hW12.out] at HS12
                    clear hb11 hba HSE
                    go_upto_region 30 with fail
                    rw [hW12.out]
                    go_wp2_with fail
                    refine (awake04 _).mono ?_
                    rintro e w13 ⟨rfl, hb13⟩
                    have HS13 := Lib.hid (HS12.out.past hb13)
                    have HSM := Lib.hid (sameT_any w g h 0 v u S L w13 HS13.out)
                    clear hb13 HS12
                    go_wp2_with fail
                    refine HSM.out.mono ?_
                    rintro e w14 ⟨rfl, hb14⟩
                    have HBE := Lib.hid (Below.past HS13.out.below hb14 HS13.out.below.size)
                    clear hb14 HS13 HSM
                    go_wp2_with fail
                    refine (putT_nil _ _ _).mono ?_
                    rintro e w15 ⟨rfl, rfl⟩
                    go_wp2_with fail
                    refine (setT_nil _ _ _).mono ?_
                    rintro e w15 ⟨rfl, rfl⟩
                    go_wp2_with fail
                    refine (lenT_nil _).mono ?_
                    rintro e w15 ⟨rfl, rfl⟩
                    go_wp2_with fail
                    refine (leftT_nil _).mono ?_
                    rintro e w15 ⟨rfl, rfl⟩
                    go_wp2_with fail
                    refine (rowsT_nil _).mono ?_
                    rintro e w15 ⟨rfl, rfl⟩
                    go_wp2_with fail
                    refine (copyT_nil _).mono ?_
                    rintro e w15 ⟨rfl, rfl⟩
                    go_wp2_with fail
                    go_ret
                    exact ⟨rfl, HBE.out⟩
end Go.Proofs.Ytkdiongmegnicaa
