import Derived.Test.YtkdiongmegnicaaTabM
namespace Go.Proofs.Ytkdiongmegnicaa
open Go.RowKit

/-! ### TablePlays -/
structure ActT where
  kd : Int
  id : Int
  s : ByteArray
def ActT.cells (x : ActT) : List Value := [.int .i64 x.kd, .int .i64 x.id, .string x.s]
theorem ActT.cells_len (x : ActT) : x.cells.length = 3 := rfl
set_option maxHeartbeats 1000000 in
theorem tablePlays_long (room : Int) (A : Option Addr) (n c : Nat) (near : Int) (w : World) (hn : 60 < n) :
    Calls Try.prog 4 #[.int .i64 room, .slice A n c, .int .i64 near] w fun e w' => e = .returned (.bool true) ∧ Below w.heap.size w w' := by
  have hz : (60 : Int) < (n : Int) := by omega
  go_enter Try.func4, Try.ntmps4
  go_wp2_with fail
  refine (awake04 _).mono ?_
  rintro e w2 ⟨rfl, hb2⟩
  go_wp2_with fail
  go_ret
  exact ⟨rfl, hb2⟩
set_option maxHeartbeats 16000000 in
set_option maxRecDepth 100000 in
theorem tablePlays_few (room : Int) (hro : -9223372036854775808 ≤ room ∧ room ≤ 9223372036854775807) (A : Option Addr) (n c : Nat) (near : Int) (l : List ActT) (w : World) (hr : Rd w w.heap.size 3 A n (l.flatMap ActT.cells)) (hn : n ≤ 60) :
    Calls Try.prog 4 #[.int .i64 room, .slice A n c, .int .i64 near] w fun e w' => e = .returned (.bool true) ∧ Below w.heap.size w w' := by
  have HL := Lib.hid (hr.len ActT.cells_len (by omega))
  have HR := Lib.hid hr
  have HNW := Lib.hid (newT_any room hro w)
  have hnz : ¬ (60 : Int) < (n : Int) := by omega
  clear hr
  by_cases h0 : 0 ≤ room
  · have hR : Hid (max room 0 = room) := Lib.hid (by omega)
    have hR0 : 0 ≤ room ∧ room ≤ 9223372036854775807 := by omega
    go_enter Try.func4, Try.ntmps4
    go_wp2_with fail
    refine HNW.out.mono ?_
    rintro e w1 ⟨g, rfl, hg, ht, hb1⟩
    rw [hR.out] at ht
    have hq := (Below.refl w1.heap.size w1).alloc (Nat.le_refl _) (.cells #[.int .i64 room, .slice none 0 0] 47)
    have hqb := Blk.new w1 47 #[.int .i64 room, .slice none 0 0] w1.heap.size rfl
    obtain ⟨h, hhe⟩ : ∃ h, Hid (w1.heap.size = h) := ⟨_, Lib.hid rfl⟩
    obtain ⟨W2, hW2⟩ : ∃ W2, Hid (w1.alloc (.cells #[.int .i64 room, .slice none 0 0] 47) = W2) := ⟨_, Lib.hid rfl⟩
    have hs1 := hb1.size
    have hbX := ht.past hq
    have hbB := Below.past hb1 hq hs1
    rw [hW2.out] at hqb hbX hbB
    rw [hhe.out] at hqb
    have HST2 : Hid (TwoT w g h room (.slice none 0 0) (.slice none 0 0) [] [] W2) := Lib.hid ⟨hbX, ⟨⟨none, 0, rfl⟩, hqb, World.ownsRow_nil _ _ _ _, by simp, hR0⟩, RelT.nil, hbB, hg, by have := hhe.out; omega⟩
    clear ht hb1 hq hqb hbX hbB HNW
    go_upto_region 5 with fail
    rw [hhe.out, hW2.out]
    go_wp2_with fail
    go_loopw [9] (fun i wr => ∃ (k : Nat) (v u : Value) (S L : List RowT), k ≤ n ∧ i = .int .i64 (k : Nat) ∧ S.length ≤ k ∧ Hid (TwoT w g h room v u S L wr)) (fun i _ => n - (intOf i).toNat)
    case atStart => exact ⟨0, _, _, _, _, by omega, rfl, by simp, HST2⟩
    case round =>
      clear HST2
      obtain ⟨k, v, u, S, L, hk, rfl, hSk, HS⟩ := hrel
      by_cases hlt : k < n
      · have hlz : (k : Int) < (n : Int) := by omega
        have hg_f : l[k]? = some (l[k]'(by have := HL.out; omega)) := List.getElem?_eq_getElem _
        obtain ⟨b_f, off_f, rfl, hbb_f, hc_f⟩ := (HR.out.below HS.out.below).elem ActT.cells_len hg_f hlt
        have HT_f := Lib.hid (show l.take (k + 1) = l.take k ++ [(l[k]'(by have := HL.out; omega))] from List.take_succ_eq_append_getElem (by have := HL.out; omega))
        have HM_f := Lib.hid (show (l[k]'(by have := HL.out; omega)) ∈ l from List.getElem_mem _)
        generalize (l[k]'(by have := HL.out; omega)) = f at *
        have c0 := hc_f 0 _ rfl
        have c1 := hc_f 1 _ rfl
        have c2 := hc_f 2 _ rfl
        clear hc_f hg_f
        simp only [Nat.add_zero] at c0
        by_cases hsz : f.s.size ≤ 100
        · have hsq : ¬ (100 : Int) < (f.s.size : Int) := by omega
          have HD := Lib.hid (doesT_any w g h room v u S L f.kd f.id f.s wr HS.out (by omega))
          unfold DoesTPost at HD
          go_wp2_with fail
          refine HD.out.mono ?_
          rintro e w3 ⟨rfl, v3, u3, S3, L3, HS3, hl3⟩
          have HSM := Lib.hid (sameT_any w g h room v3 u3 S3 L3 w3 HS3)
          have HT3 := Lib.hid HS3
          clear HD HS3 HS c0 c1 c2
          go_wp2_with fail
          refine HSM.out.mono ?_
          rintro e w4 ⟨rfl, hb4⟩
          have HT4 := Lib.hid (HT3.out.past hb4)
          clear hb4 HSM HT3
          cases hcs : S3[posT S3 near]? with
          | some r =>
            have HCS := Lib.hid hcs
            have HNR := Lib.hid (nearT_yes g w.heap.size room v3 S3 near w4 HT4.out.tab r hcs)
            clear hcs
            go_wp2_with fail
            refine HNR.out.mono ?_
            rintro e w5 ⟨rfl, hb5⟩
            have HT5 := Lib.hid (HT4.out.past hb5)
            have hba := (Below.refl w5.heap.size w5).alloc (Nat.le_refl _) (.cells #[.int .i64 r.id, .string r.v] 53)
            have hbk := Blk.new w5 53 #[.int .i64 r.id, .string r.v] w5.heap.size rfl
            obtain ⟨rb, hrb⟩ : ∃ rb, Hid (w5.heap.size = rb) := ⟨_, Lib.hid rfl⟩
            obtain ⟨W6, hW6⟩ : ∃ W6, Hid (w5.alloc (.cells #[.int .i64 r.id, .string r.v] 53) = W6) := ⟨_, Lib.hid rfl⟩
            have HT6 := Lib.hid (HT5.out.past hba)
            rw [hW6.out] at hbk HT6
            rw [hrb.out] at hbk
            have HBK := Lib.hid hbk
            have HQN := Lib.hid (refNearT_any h w.heap.size room u3 L3 near W6 HT6.out.doc)
            clear hb5 hba hbk HT4 HT5 HNR
            go_upto_region 13 with fail
            rw [hrb.out, hW6.out]
            go_wp2_with fail
            refine HQN.out.mono ?_
            rintro e w7 ⟨⟨i, rfl, hnp⟩, hb7⟩
            obtain ⟨j, q, rfl, hj, hq1, hq2⟩ : ∃ (j : Nat) (q : RowT), i = (j : Nat) ∧ L3[j]? = some q ∧ near ≤ q.id ∧ ∀ z ∈ L3, near ≤ z.id → q.id ≤ z.id := by
              rcases hnp with ⟨_, hnp⟩ | hnp
              · have := HT6.out.rel.near_no hnp
                have h2 := HCS.out
                rw [this, List.getElem?_eq_none (Nat.le_refl _)] at h2; cases h2
              · exact hnp
            have hqr := HT6.out.rel.near_yes hj hq1 hq2
            rw [HCS.out] at hqr
            obtain rfl : r = q := Option.some.inj hqr
            have HT7 := Lib.hid (HT6.out.past hb7)
            obtain ⟨X, c, hu⟩ := HT7.out.doc.form
            have q1 := HT7.out.doc.blk.cell 1
            simp at q1
            subst hu
            have hjl : j < L3.length := (List.getElem?_eq_some_iff.1 hj).1
            have hjz : (j : Int) < (L3.length : Int) := by omega
            have hj0 : (0 : Int) ≤ (j : Int) := by omega
            obtain ⟨b, off, rfl, _, hc⟩ := (Rd.of_own HT7.out.doc.row).elem RowT.cells_len hj hjl
            have d0 := hc 0 _ rfl
            have d1 := hc 1 _ rfl
            simp only [Nat.add_zero] at d0
            have hbk7 := HBK.out.past hb7
            have r0 := hbk7.cell 0
            have r1 := hbk7.cell 1
            simp at r0 r1
            have e0 : (r.id != r.id) = false := by simp
            have e1 : decide ((0 : Int) ≤ (j : Int)) = true := decide_eq_true hj0
            clear hc hb7 hnp hqr hq1 hq2 hj hbk7 HT6 HBK
            go_wp2_with fail
            go_quiet (fail)
            go_wp2_with fail
            go_roundw
            case rel => exact ⟨k + 1, _, _, _, _, by omega, by go_num, by omega, Lib.hid (HT7.out.past (below_drewN (Below.refl _ _) nq))⟩
            case measure => simp [intOf]; omega
          | none =>
            have HLL : Hid (posT S3 near = S3.length) := Lib.hid (by
              have h1 := posT_le S3 near
              have h2 := List.getElem?_eq_none_iff.1 hcs
              omega)
            have HNR := Lib.hid (nearT_no g w.heap.size room v3 S3 near w4 HT4.out.tab HLL.out)
            have HCS := Lib.hid hcs
            clear hcs
            go_wp2_with fail
            refine HNR.out.mono ?_
            rintro e w5 ⟨rfl, hb5⟩
            have HT5 := Lib.hid (HT4.out.past hb5)
            have hba := (Below.refl w5.heap.size w5).alloc (Nat.le_refl _) (.cells #[.int .i64 0, .string ⟨#[]⟩] 53)
            have hbk := Blk.new w5 53 #[.int .i64 0, .string ⟨#[]⟩] w5.heap.size rfl
            obtain ⟨rb, hrb⟩ : ∃ rb, Hid (w5.heap.size = rb) := ⟨_, Lib.hid rfl⟩
            obtain ⟨W6, hW6⟩ : ∃ W6, Hid (w5.alloc (.cells #[.int .i64 0, .string ⟨#[]⟩] 53) = W6) := ⟨_, Lib.hid rfl⟩
            have HT6 := Lib.hid (HT5.out.past hba)
            rw [hW6.out] at hbk HT6
            rw [hrb.out] at hbk
            have HBK := Lib.hid hbk
            have HQN := Lib.hid (refNearT_any h w.heap.size room u3 L3 near W6 HT6.out.doc)
            clear hb5 hba hbk HT4 HT5 HNR
            go_upto_region 13 with fail
            rw [hrb.out, hW6.out]
            go_wp2_with fail
            refine HQN.out.mono ?_
            rintro e w7 ⟨⟨i, rfl, hnp⟩, hb7⟩
            obtain rfl : i = -1 := by
              rcases hnp with ⟨e, _⟩ | ⟨j, q, _, hj, hq1, hq2⟩
              · exact e
              · have := HT6.out.rel.near_yes hj hq1 hq2
                rw [HCS.out] at this; cases this
            have HT7 := Lib.hid (HT6.out.past hb7)
            have hbk7 := HBK.out.past hb7
            have r0 := hbk7.cell 0
            have r1 := hbk7.cell 1
            simp at r0 r1
            clear hb7 hnp hbk7 HT6 HBK
            go_wp2_with fail
            go_quiet (fail)
            go_wp2_with fail
            go_roundw
            case rel => exact ⟨k + 1, _, _, _, _, by omega, by go_num, by omega, Lib.hid (HT7.out.past (below_drewN (Below.refl _ _) nq))⟩
            case measure => simp [intOf]; omega
        · have hsq : (100 : Int) < (f.s.size : Int) := by omega
          go_wp2_with fail
          refine (awake04 _).mono ?_
          rintro e w3 ⟨rfl, hb3⟩
          have HB := Lib.hid (Below.past HS.out.below hb3 HS.out.below.size)
          clear hb3
          go_wp2_with fail
          go_ret
          exact ⟨rfl, HB.out⟩
      · have hlz : ¬ (k : Int) < (n : Int) := by omega
        go_wp2_with fail
        refine (awake04 _).mono ?_
        rintro e w3 ⟨rfl, hb3⟩
        have HB := Lib.hid (Below.past HS.out.below hb3 HS.out.below.size)
        clear hb3
        go_wp2_with fail
        go_ret
        exact ⟨rfl, HB.out⟩
  · have hR : Hid (max room 0 = 0) := Lib.hid (by omega)
    have hR0 : (0 : Int) ≤ 0 ∧ (0 : Int) ≤ 9223372036854775807 := by omega
    go_enter Try.func4, Try.ntmps4
    go_wp2_with fail
    refine HNW.out.mono ?_
    rintro e w1 ⟨g, rfl, hg, ht, hb1⟩
    rw [hR.out] at ht
    have hq := (Below.refl w1.heap.size w1).alloc (Nat.le_refl _) (.cells #[.int .i64 0, .slice none 0 0] 47)
    have hqb := Blk.new w1 47 #[.int .i64 0, .slice none 0 0] w1.heap.size rfl
    obtain ⟨h, hhe⟩ : ∃ h, Hid (w1.heap.size = h) := ⟨_, Lib.hid rfl⟩
    obtain ⟨W2, hW2⟩ : ∃ W2, Hid (w1.alloc (.cells #[.int .i64 0, .slice none 0 0] 47) = W2) := ⟨_, Lib.hid rfl⟩
    have hs1 := hb1.size
    have hbX := ht.past hq
    have hbB := Below.past hb1 hq hs1
    rw [hW2.out] at hqb hbX hbB
    rw [hhe.out] at hqb
    have HST2 : Hid (TwoT w g h 0 (.slice none 0 0) (.slice none 0 0) [] [] W2) := Lib.hid ⟨hbX, ⟨⟨none, 0, rfl⟩, hqb, World.ownsRow_nil _ _ _ _, by simp, hR0⟩, RelT.nil, hbB, hg, by have := hhe.out; omega⟩
    clear ht hb1 hq hqb hbX hbB HNW
    go_upto_region 5 with fail
    rw [hhe.out, hW2.out]
    go_wp2_with fail
    go_loopw [9] (fun i wr => ∃ (k : Nat) (v u : Value) (S L : List RowT), k ≤ n ∧ i = .int .i64 (k : Nat) ∧ S.length ≤ k ∧ Hid (TwoT w g h 0 v u S L wr)) (fun i _ => n - (intOf i).toNat)
    case atStart => exact ⟨0, _, _, _, _, by omega, rfl, by simp, HST2⟩
    case round =>
      clear HST2
      obtain ⟨k, v, u, S, L, hk, rfl, hSk, HS⟩ := hrel
      by_cases hlt : k < n
      · have hlz : (k : Int) < (n : Int) := by omega
        have hg_f : l[k]? = some (l[k]'(by have := HL.out; omega)) := List.getElem?_eq_getElem _
        obtain ⟨b_f, off_f, rfl, hbb_f, hc_f⟩ := (HR.out.below HS.out.below).elem ActT.cells_len hg_f hlt
        have HT_f := Lib.hid (show l.take (k + 1) = l.take k ++ [(l[k]'(by have := HL.out; omega))] from List.take_succ_eq_append_getElem (by have := HL.out; omega))
        have HM_f := Lib.hid (show (l[k]'(by have := HL.out; omega)) ∈ l from List.getElem_mem _)
        generalize (l[k]'(by have := HL.out; omega)) = f at *
        have c0 := hc_f 0 _ rfl
        have c1 := hc_f 1 _ rfl
        have c2 := hc_f 2 _ rfl
        clear hc_f hg_f
        simp only [Nat.add_zero] at c0
        by_cases hsz : f.s.size ≤ 100
        · have hsq : ¬ (100 : Int) < (f.s.size : Int) := by omega
          have HD := Lib.hid (doesT_any w g h 0 v u S L f.kd f.id f.s wr HS.out (by omega))
          unfold DoesTPost at HD
          go_wp2_with fail
          refine HD.out.mono ?_
          rintro e w3 ⟨rfl, v3, u3, S3, L3, HS3, hl3⟩
          have HSM := Lib.hid (sameT_any w g h 0 v3 u3 S3 L3 w3 HS3)
          have HT3 := Lib.hid HS3
          clear HD HS3 HS c0 c1 c2
          go_wp2_with fail
          refine HSM.out.mono ?_
          rintro e w4 ⟨rfl, hb4⟩
          have HT4 := Lib.hid (HT3.out.past hb4)
          clear hb4 HSM HT3
          cases hcs : S3[posT S3 near]? with
          | some r =>
            have HCS := Lib.hid hcs
            have HNR := Lib.hid (nearT_yes g w.heap.size 0 v3 S3 near w4 HT4.out.tab r hcs)
            clear hcs
            go_wp2_with fail
            refine HNR.out.mono ?_
            rintro e w5 ⟨rfl, hb5⟩
            have HT5 := Lib.hid (HT4.out.past hb5)
            have hba := (Below.refl w5.heap.size w5).alloc (Nat.le_refl _) (.cells #[.int .i64 r.id, .string r.v] 53)
            have hbk := Blk.new w5 53 #[.int .i64 r.id, .string r.v] w5.heap.size rfl
            obtain ⟨rb, hrb⟩ : ∃ rb, Hid (w5.heap.size = rb) := ⟨_, Lib.hid rfl⟩
            obtain ⟨W6, hW6⟩ : ∃ W6, Hid (w5.alloc (.cells #[.int .i64 r.id, .string r.v] 53) = W6) := ⟨_, Lib.hid rfl⟩
            have HT6 := Lib.hid (HT5.out.past hba)
            rw [hW6.out] at hbk HT6
            rw [hrb.out] at hbk
            have HBK := Lib.hid hbk
            have HQN := Lib.hid (refNearT_any h w.heap.size 0 u3 L3 near W6 HT6.out.doc)
            clear hb5 hba hbk HT4 HT5 HNR
            go_upto_region 13 with fail
            rw [hrb.out, hW6.out]
            go_wp2_with fail
            refine HQN.out.mono ?_
            rintro e w7 ⟨⟨i, rfl, hnp⟩, hb7⟩
            obtain ⟨j, q, rfl, hj, hq1, hq2⟩ : ∃ (j : Nat) (q : RowT), i = (j : Nat) ∧ L3[j]? = some q ∧ near ≤ q.id ∧ ∀ z ∈ L3, near ≤ z.id → q.id ≤ z.id := by
              rcases hnp with ⟨_, hnp⟩ | hnp
              · have := HT6.out.rel.near_no hnp
                have h2 := HCS.out
                rw [this, List.getElem?_eq_none (Nat.le_refl _)] at h2; cases h2
              · exact hnp
            have hqr := HT6.out.rel.near_yes hj hq1 hq2
            rw [HCS.out] at hqr
            obtain rfl : r = q := Option.some.inj hqr
            have HT7 := Lib.hid (HT6.out.past hb7)
            obtain ⟨X, c, hu⟩ := HT7.out.doc.form
            have q1 := HT7.out.doc.blk.cell 1
            simp at q1
            subst hu
            have hjl : j < L3.length := (List.getElem?_eq_some_iff.1 hj).1
            have hjz : (j : Int) < (L3.length : Int) := by omega
            have hj0 : (0 : Int) ≤ (j : Int) := by omega
            obtain ⟨b, off, rfl, _, hc⟩ := (Rd.of_own HT7.out.doc.row).elem RowT.cells_len hj hjl
            have d0 := hc 0 _ rfl
            have d1 := hc 1 _ rfl
            simp only [Nat.add_zero] at d0
            have hbk7 := HBK.out.past hb7
            have r0 := hbk7.cell 0
            have r1 := hbk7.cell 1
            simp at r0 r1
            have e0 : (r.id != r.id) = false := by simp
            have e1 : decide ((0 : Int) ≤ (j : Int)) = true := decide_eq_true hj0
            clear hc hb7 hnp hqr hq1 hq2 hj hbk7 HT6 HBK
            go_wp2_with fail
            go_quiet (fail)
            go_wp2_with fail
            go_roundw
            case rel => exact ⟨k + 1, _, _, _, _, by omega, by go_num, by omega, Lib.hid (HT7.out.past (below_drewN (Below.refl _ _) nq))⟩
            case measure => simp [intOf]; omega
          | none =>
            have HLL : Hid (posT S3 near = S3.length) := Lib.hid (by
              have h1 := posT_le S3 near
              have h2 := List.getElem?_eq_none_iff.1 hcs
              omega)
            have HNR := Lib.hid (nearT_no g w.heap.size 0 v3 S3 near w4 HT4.out.tab HLL.out)
            have HCS := Lib.hid hcs
            clear hcs
            go_wp2_with fail
            refine HNR.out.mono ?_
            rintro e w5 ⟨rfl, hb5⟩
            have HT5 := Lib.hid (HT4.out.past hb5)
            have hba := (Below.refl w5.heap.size w5).alloc (Nat.le_refl _) (.cells #[.int .i64 0, .string ⟨#[]⟩] 53)
            have hbk := Blk.new w5 53 #[.int .i64 0, .string ⟨#[]⟩] w5.heap.size rfl
            obtain ⟨rb, hrb⟩ : ∃ rb, Hid (w5.heap.size = rb) := ⟨_, Lib.hid rfl⟩
            obtain ⟨W6, hW6⟩ : ∃ W6, Hid (w5.alloc (.cells #[.int .i64 0, .string ⟨#[]⟩] 53) = W6) := ⟨_, Lib.hid rfl⟩
            have HT6 := Lib.hid (HT5.out.past hba)
            rw [hW6.out] at hbk HT6
            rw [hrb.out] at hbk
            have HBK := Lib.hid hbk
            have HQN := Lib.hid (refNearT_any h w.heap.size 0 u3 L3 near W6 HT6.out.doc)
            clear hb5 hba hbk HT4 HT5 HNR
            go_upto_region 13 with fail
            rw [hrb.out, hW6.out]
            go_wp2_with fail
            refine HQN.out.mono ?_
            rintro e w7 ⟨⟨i, rfl, hnp⟩, hb7⟩
            obtain rfl : i = -1 := by
              rcases hnp with ⟨e, _⟩ | ⟨j, q, _, hj, hq1, hq2⟩
              · exact e
              · have := HT6.out.rel.near_yes hj hq1 hq2
                rw [HCS.out] at this; cases this
            have HT7 := Lib.hid (HT6.out.past hb7)
            have hbk7 := HBK.out.past hb7
            have r0 := hbk7.cell 0
            have r1 := hbk7.cell 1
            simp at r0 r1
            clear hb7 hnp hbk7 HT6 HBK
            go_wp2_with fail
            go_quiet (fail)
            go_wp2_with fail
            go_roundw
            case rel => exact ⟨k + 1, _, _, _, _, by omega, by go_num, by omega, Lib.hid (HT7.out.past (below_drewN (Below.refl _ _) nq))⟩
            case measure => simp [intOf]; omega
        · have hsq : (100 : Int) < (f.s.size : Int) := by omega
          go_wp2_with fail
          refine (awake04 _).mono ?_
          rintro e w3 ⟨rfl, hb3⟩
          have HB := Lib.hid (Below.past HS.out.below hb3 HS.out.below.size)
          clear hb3
          go_wp2_with fail
          go_ret
          exact ⟨rfl, HB.out⟩
      · have hlz : ¬ (k : Int) < (n : Int) := by omega
        go_wp2_with fail
        refine (awake04 _).mono ?_
        rintro e w3 ⟨rfl, hb3⟩
        have HB := Lib.hid (Below.past HS.out.below hb3 HS.out.below.size)
        clear hb3
        go_wp2_with fail
        go_ret
        exact ⟨rfl, HB.out⟩
end Go.Proofs.Ytkdiongmegnicaa
