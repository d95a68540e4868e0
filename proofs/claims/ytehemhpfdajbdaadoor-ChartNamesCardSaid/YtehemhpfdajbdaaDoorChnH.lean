import Derived.Test.YtehemhpfdajbdaaDoorChnF
namespace Go.Proofs.YtehemhpfdajbdaaDoor
open Go.RowKit

/-! ### chart.Of: the account of any name -/
theorem cut_len (s p : List UInt8) : (Lib.cut s p).2.1.length ≤ s.length := by
  unfold Lib.cut
  split
  · simp
  · simp
theorem ofA_no {s : List UInt8} (h : ∀ j, j < 10 → isK s j = false) : ofA s = none := by
  unfold ofA
  rw [List.find?_eq_none.2]
  · rfl
  · intro x hx; rw [h x (List.mem_range.1 hx)]; simp
theorem ofA_yes {s : List UInt8} {k : Nat} (hk : k < 10) (h : ∀ j, j < k → isK s j = false) (h2 : isK s k = true) : ofA s = some ⟨(k : Nat), numN s⟩ := by
  unfold ofA
  rw [List.find?_range_eq_some.2 ⟨h2, List.mem_range.2 hk, fun j hj => by rw [h j hj]; rfl⟩]
  rfl
def accV (o : Option Acc) : Value := match o with
  | some a => .agg #[.int .i64 a.kind, .int .i64 a.member]
  | none => .agg #[.int .i64 0, .int .i64 0]
def errV (o : Option Acc) : Int := match o with
  | some _ => 0
  | none => 3

set_option maxRecDepth 10000 in
set_option maxHeartbeats 2000000 in
theorem of_any (s : List UInt8) (hs : s.length ≤ 50) (w : World) (hw : CnOk w) (hm : MlOk w) : Calls Tryd.prog 6 #[.string ⟨s.toArray⟩] w fun e w' => e = .returned (.tuple #[accV (ofA s), .int .i64 (errV (ofA s))]) ∧ Below w.heap.size w w' := by
  have hB0 := (Below.refl w.heap.size w).alloc (Nat.le_refl _) (.cells #[.int .i64 0, .int .i64 0] 23)
  have bx0 := Blk.new w 23 #[.int .i64 0, .int .i64 0] w.heap.size rfl
  obtain ⟨W, hW⟩ : ∃ W, Hid (w.alloc (.cells #[.int .i64 0, .int .i64 0] 23) = W) := ⟨_, Lib.hid rfl⟩
  rw [hW.out] at hB0 bx0
  obtain ⟨m, hm⟩ := hm.past hB0
  have HC := Lib.hid (Tryd.strings_Cut ⟨s.toArray⟩ ⟨#[58]⟩ m W (by show s.toArray.size < _; simp; omega) hm)
  have hcl := cut_len s [58]
  obtain ⟨tx, htx⟩ : ∃ tx, Hid ((Lib.cut s [58]).2.1 = tx) := ⟨_, Lib.hid rfl⟩
  obtain ⟨fd, hfd⟩ : ∃ fd, Hid ((Lib.cut s [58]).2.2 = fd) := ⟨_, Lib.hid rfl⟩
  obtain ⟨cw, hcw⟩ : ∃ cw, Hid (cutW s = cw) := ⟨_, Lib.hid rfl⟩
  obtain ⟨N, hN⟩ : ∃ N, Hid (numN s = N) := ⟨_, Lib.hid rfl⟩
  have hcw1 : (Lib.cut s [58]).1 = cw := hcw.out
  simp only at HC
  rw [hcw1, htx.out, hfd.out] at HC
  rw [htx.out] at hcl
  have HA := Lib.hid (fun (w' : World) (hw' : CnOk w') => atoi_any tx (by omega) w' hw')
  have hNv : valN tx = N := by rw [← hN.out, numN_val, htx.out]
  rw [hNv] at HA
  clear hcw1 hNv hcl hm
  go_enter Tryd.func6, Tryd.ntmps6
  go_upto_region 1 with fail
  rw [hW.out]
  go_wp2_with fail
  refine HC.out.mono ?_
  rintro e w1 ⟨rfl, nq, rfl⟩
  have hB1 := below_drewN hB0 nq
  have bx1 := bx0.drewN nq
  obtain ⟨w1, hw1⟩ : ∃ w1, Hid (W.drewN nq = w1) := ⟨_, Lib.hid rfl⟩
  rw [hw1.out] at hB1 bx1 ⊢
  go_wp2_with fail
  refine (HA.out _ (hw.past hB1)).mono ?_
  rintro e w2 ⟨⟨ev, rfl⟩, hb2⟩
  have hB2 := Below.past hB1 hb2 hB1.size
  have bx2 := bx1.past hb2
  go_wp2_with fail
  go_loopw [22] (fun i wr => ∃ k : Nat, k ≤ 10 ∧ i = .int .i64 k ∧ Hid (∀ j, j < k → isK s j = false) ∧ Below w2.heap.size w2 wr) (fun i _ => 10 - (intOf i).toNat)
  case atStart => exact ⟨0, by omega, rfl, Lib.hid (fun j hj => absurd hj (by omega)), Below.refl _ _⟩
  case round =>
    obtain ⟨k, hk, rfl, hI, hb⟩ := hrel
    have bxr := bx2.past hb
    have hBr := Below.past hB2 hb hB2.size
    have hwr := hw.past hBr
    by_cases hlt : k < 10
    · have hB3 := hBr.alloc hBr.size (.cells #[.int .i64 (k : Nat), .int .i64 N] 23)
      have hb3 := hb.alloc hb.size (.cells #[.int .i64 (k : Nat), .int .i64 N] 23)
      have bx3 := bxr.alloc (.cells #[.int .i64 (k : Nat), .int .i64 N] 23)
      have ba3 := Blk.new wr 23 #[.int .i64 (k : Nat), .int .i64 N] wr.heap.size rfl
      obtain ⟨w3, hw3⟩ : ∃ w3, Hid (wr.alloc (.cells #[.int .i64 (k : Nat), .int .i64 N] 23) = w3) := ⟨_, Lib.hid rfl⟩
      rw [hw3.out] at hB3 hb3 bx3 ba3
      have hcn := hw.past hB3
      have hword := hcn.na.1 k hlt
      have a0 := (ba3).cell 0
      have a1 := (ba3).cell 1
      simp at a0 a1
      have HNM := Lib.hid (name_at k N w3 hcn.na)
      go_upto_region 7 with fail
      rw [hw3.out]
      cases c1 : wdC k == cw with
      | false =>
        go_wp2_with fail
        go_roundw
        case rel =>
          refine ⟨k + 1, by omega, by go_num, Lib.hid fun j hj => ?_, hb3⟩
          rcases Nat.lt_succ_iff_lt_or_eq.1 hj with h | rfl
          · exact hI.out j h
          · unfold isK; rw [hcw.out, c1]; rfl
        case measure => simp [intOf]; omega
      | true =>
        cases c2 : cw == [] with
        | true =>
          have q2 : (cw != []) = false := by rw [bne, c2]; rfl
          go_wp2_with fail
          go_roundw
          case rel =>
            refine ⟨k + 1, by omega, by go_num, Lib.hid fun j hj => ?_, hb3⟩
            rcases Nat.lt_succ_iff_lt_or_eq.1 hj with h | rfl
            · exact hI.out j h
            · unfold isK
              rw [hcw.out, show cw = [] by simpa using c2]
              simp
          case measure => simp [intOf]; omega
        | false =>
          have q2 : (cw != []) = true := by rw [bne, c2]; rfl
          go_wp2_with fail
          refine HNM.out.mono ?_
          rintro e w4 ⟨rfl, hb4⟩
          have hB4 := Below.past hB3 hb4 hB3.size
          have hb5 := Below.past hb3 hb4 hb3.size
          have ba4 := ba3.past hb4
          have bx4 := bx3.past hb4
          clear a0 a1 hword
          have a0 := (ba4).cell 0
          have a1 := (ba4).cell 1
          simp at a0 a1
          cases c3 : nameA ⟨(k : Nat), N⟩ == s with
          | false =>
            go_wp2_with fail
            go_roundw
            case rel =>
              refine ⟨k + 1, by omega, by go_num, Lib.hid fun j hj => ?_, hb5⟩
              rcases Nat.lt_succ_iff_lt_or_eq.1 hj with h | rfl
              · exact hI.out j h
              · unfold isK
                rw [hcw.out, hN.out, c3, Bool.and_false]
            case measure => simp [intOf]; omega
          | true =>
            have f0 := bx4.frozen 0
            have f1 := bx4.frozen 1
            have bx5 := (bx4.put 0 (.int .i64 (k : Nat))).put 1 (.int .i64 N)
            have hB5 := (hB4.setCell (p := ⟨w.heap.size, 0, none⟩) (Nat.le_refl _) (.int .i64 (k : Nat))).setCell (p := ⟨w.heap.size, 1, none⟩) (Nat.le_refl _) (.int .i64 N)
            have HR : Hid (ofA s = some ⟨(k : Nat), N⟩) := Lib.hid (by
              rw [← hN.out]
              refine ofA_yes hlt hI.out ?_
              unfold isK
              rw [hcw.out, hN.out, c1, c3, Bool.true_and, Bool.and_true]
              cases cw with
              | nil => simp at c2
              | cons => rfl)
            have r0 := (bx4).cell 0
            have r1 := (bx4).cell 1
            simp at r0 r1
            have t0 := (bx5).cell 0
            have t1 := (bx5).cell 1
            simp at t0 t1
            go_wp2_with fail
            rw [HR.out]
            refine bodyPost_ret (v := .tuple #[.agg #[.int .i64 (k : Nat), .int .i64 N], .int .i64 0]) (by simp [results, Tryd.results6, go_sem, t0, t1]) rfl ⟨rfl, hB5⟩
    · have hk10 : k = 10 := by omega
      have HR : Hid (ofA s = none) := Lib.hid (ofA_no fun j hj => hI.out j (by omega))
      have f0 := bxr.frozen 0
      have f1 := bxr.frozen 1
      have bx5 := (bxr.put 0 (.int .i64 0)).put 1 (.int .i64 0)
      have hB5 := (hBr.setCell (p := ⟨w.heap.size, 0, none⟩) (Nat.le_refl _) (.int .i64 0)).setCell (p := ⟨w.heap.size, 1, none⟩) (Nat.le_refl _) (.int .i64 0)
      have r0 := (bxr).cell 0
      have r1 := (bxr).cell 1
      simp at r0 r1
      have t0 := (bx5).cell 0
      have t1 := (bx5).cell 1
      simp at t0 t1
      go_wp2_with fail
      rw [HR.out]
      refine bodyPost_ret (v := .tuple #[.agg #[.int .i64 0, .int .i64 0], .int .i64 3]) (by simp [results, Tryd.results6, go_sem, t0, t1]) rfl ⟨rfl, hB5⟩
end Go.Proofs.YtehemhpfdajbdaaDoor
