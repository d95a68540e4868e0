import Derived.Test.YtehemhpfdajbdaaDoorChnD
import Derived.Test.YtehemhpfdajbdaaDoorDigA
namespace Go.Proofs.YtehemhpfdajbdaaDoor
open Go.RowKit

/-! ### The document's Name (printed by mk_chne.py) -/
set_option maxRecDepth 100000 in
set_option maxHeartbeats 4000000 in
theorem refName_at (kd mm : Int) (w : World) : Calls Tryd.prog 9 #[.agg #[.int .i64 kd, .int .i64 mm]] w fun e w' => e = .returned (.string ⟨(nameA ⟨kd, mm⟩).toArray⟩) ∧ Below w.heap.size w w' := by
  have hB0 := (Below.refl w.heap.size w).alloc (Nat.le_refl _) (.cells #[.int .i64 kd, .int .i64 mm] 23)
  have bx0 := Blk.new w 23 #[.int .i64 kd, .int .i64 mm] w.heap.size rfl
  obtain ⟨z, hz⟩ : ∃ z, Hid (idxA 0 (accs 16) ⟨kd, mm⟩ = z) := ⟨_, Lib.hid rfl⟩
  have HOK : Hid (z < 0 ↔ okA ⟨kd, mm⟩ = false) := Lib.hid (by rw [← hz.out]; exact place16 kd mm)
  obtain ⟨W, hW⟩ : ∃ W, Hid (w.alloc (.cells #[.int .i64 kd, .int .i64 mm] 23) = W) := ⟨_, Lib.hid rfl⟩
  rw [hW.out] at hB0 bx0
  have HN : Hid (Calls Tryd.prog 15 #[.int .i64 16, .agg #[.int .i64 kd, .int .i64 mm]] W fun e w' => e = .returned (.int .i64 z) ∧ Below W.heap.size W w') := Lib.hid (by rw [← hz.out]; exact place_yes 16 (by omega) ⟨kd, mm⟩ W)
  have e0 := (bx0).cell 0
  have e1 := (bx0).cell 1
  simp at e0 e1
  have HX := Lib.hid bx0
  clear bx0
  go_enter Tryd.func9, Tryd.ntmps9
  go_upto_region 1 with fail
  rw [hW.out]
  go_wp2_with fail
  refine HN.out.mono ?_
  rintro e w1 ⟨rfl, hb1⟩
  have hB1 := Below.past hB0 hb1 hB0.size
  have bx1 := HX.out.past hb1
  clear e0 e1 hb1
  cases hok : okA ⟨kd, mm⟩ with
  | true =>
    have q0 : decide (z < 0) = false := adcf fun h => by have h2 := HOK.out.1 h; rw [hok] at h2; cases h2
    have hc := (okA_iff ⟨kd, mm⟩).1 hok
    simp only at hc
    have hs1 : w.heap.size < w1.heap.size := bx1.lt
    have hB2 := hB1.alloc hB1.size (.cells #[.string ⟨#[115, 101, 116, 116, 108, 101]⟩, .string ⟨#[101, 115, 116, 97, 116, 101]⟩, .string ⟨#[108, 105, 110, 101]⟩, .string ⟨#[99, 97, 112, 105, 116, 97, 108]⟩, .string ⟨#[98, 97, 110, 107]⟩, .string ⟨#[111, 119, 110, 101, 114]⟩, .string ⟨#[111, 119, 110]⟩, .string ⟨#[99, 111, 108, 108]⟩, .string ⟨#[102, 117, 110, 100]⟩] 9)
    have bx2 := bx1.alloc (.cells #[.string ⟨#[115, 101, 116, 116, 108, 101]⟩, .string ⟨#[101, 115, 116, 97, 116, 101]⟩, .string ⟨#[108, 105, 110, 101]⟩, .string ⟨#[99, 97, 112, 105, 116, 97, 108]⟩, .string ⟨#[98, 97, 110, 107]⟩, .string ⟨#[111, 119, 110, 101, 114]⟩, .string ⟨#[111, 119, 110]⟩, .string ⟨#[99, 111, 108, 108]⟩, .string ⟨#[102, 117, 110, 100]⟩] 9)
    have bw2 := Blk.new w1 9 #[.string ⟨#[115, 101, 116, 116, 108, 101]⟩, .string ⟨#[101, 115, 116, 97, 116, 101]⟩, .string ⟨#[108, 105, 110, 101]⟩, .string ⟨#[99, 97, 112, 105, 116, 97, 108]⟩, .string ⟨#[98, 97, 110, 107]⟩, .string ⟨#[111, 119, 110, 101, 114]⟩, .string ⟨#[111, 119, 110]⟩, .string ⟨#[99, 111, 108, 108]⟩, .string ⟨#[102, 117, 110, 100]⟩] w1.heap.size rfl
    obtain ⟨W2, hW2⟩ : ∃ W2, Hid (w1.alloc (.cells #[.string ⟨#[115, 101, 116, 116, 108, 101]⟩, .string ⟨#[101, 115, 116, 97, 116, 101]⟩, .string ⟨#[108, 105, 110, 101]⟩, .string ⟨#[99, 97, 112, 105, 116, 97, 108]⟩, .string ⟨#[98, 97, 110, 107]⟩, .string ⟨#[111, 119, 110, 101, 114]⟩, .string ⟨#[111, 119, 110]⟩, .string ⟨#[99, 111, 108, 108]⟩, .string ⟨#[102, 117, 110, 100]⟩] 9) = W2) := ⟨_, Lib.hid rfl⟩
    rw [hW2.out] at hB2 bx2 bw2
    clear HN HX bx1 HOK hs1
    have e0 := (bx2).cell 0
    have e1 := (bx2).cell 1
    simp at e0 e1
    rcases hc with ⟨rfl, h1, h2⟩ | ⟨h1, h2, h3, h4⟩
    · have hN : Hid (nameA ⟨kd, 0⟩ = wdC kd.toNat) := Lib.hid (by unfold nameA; rw [if_pos hok]; rfl)
      rcases (show kd = 1 ∨ kd = 2 ∨ kd = 3 ∨ kd = 4 ∨ kd = 5 ∨ kd = 6 by omega) with rfl | rfl | rfl | rfl | rfl | rfl
      · have k1 := bw2.cell 0
        go_upto_region 4 with fail
        rw [hW2.out]
        go_wp2_with fail
        go_ret
        exact ⟨by rw [hN.out]; rfl, hB2⟩
      · have k2 := bw2.cell 1
        go_upto_region 4 with fail
        rw [hW2.out]
        go_wp2_with fail
        go_ret
        exact ⟨by rw [hN.out]; rfl, hB2⟩
      · have k3 := bw2.cell 2
        go_upto_region 4 with fail
        rw [hW2.out]
        go_wp2_with fail
        go_ret
        exact ⟨by rw [hN.out]; rfl, hB2⟩
      · have k4 := bw2.cell 3
        go_upto_region 4 with fail
        rw [hW2.out]
        go_wp2_with fail
        go_ret
        exact ⟨by rw [hN.out]; rfl, hB2⟩
      · have k5 := bw2.cell 4
        go_upto_region 4 with fail
        rw [hW2.out]
        go_wp2_with fail
        go_ret
        exact ⟨by rw [hN.out]; rfl, hB2⟩
      · have k6 := bw2.cell 5
        go_upto_region 4 with fail
        rw [hW2.out]
        go_wp2_with fail
        go_ret
        exact ⟨by rw [hN.out]; rfl, hB2⟩
    · obtain ⟨m, rfl⟩ := Int.eq_ofNat_of_zero_le (show 0 ≤ mm by omega)
      have hm1 : 1 ≤ m := by omega
      have hm2 : m ≤ 16 := by omega
      have hN : Hid (nameA ⟨kd, (m : Nat)⟩ = wdC kd.toNat ++ 58 :: decS m) := Lib.hid (by unfold nameA; rw [if_pos hok, if_neg (by simp only; omega)]; rfl)
      obtain ⟨dd, hdd⟩ : ∃ dd, Hid (decS m = dd) := ⟨_, Lib.hid rfl⟩
      have hdl : dd.length ≤ 2 := by rw [← hdd.out]; unfold decS; split <;> simp
      have HD : Hid (∀ W : World, Calls Tryd.prog 16 #[.int .u64 (m : Nat)] W fun e w' => e = .returned (.string ⟨dd.toArray⟩) ∧ Below W.heap.size W w') := Lib.hid fun W => by
        rw [← hdd.out, ← decS_is (by omega), ← digT_dec m (by omega)]
        exact refDigits_any m (by omega) W
      rw [hdd.out] at hN
      have g1 : ¬ 9223372036854775807 < 3 + 1 + dd.length := by omega
      have g2 : ¬ 9223372036854775807 < 4 + 1 + dd.length := by omega
      have g3 : ¬ 9223372036854775807 < 4 + dd.length := by omega
      have g4 : ¬ 9223372036854775807 < 5 + dd.length := by omega
      have g5 : (m : Int) % 18446744073709551616 = m := by omega
      rcases (show kd = 7 ∨ kd = 8 ∨ kd = 9 by omega) with rfl | rfl | rfl
      · have k7 := bw2.cell 6
        clear h1 h2 h3 h4 hm1 hm2
        go_upto_region 4 with fail
        rw [hW2.out]
        go_wp2_with fail
        refine (HD.out _).mono ?_
        rintro e w3 ⟨rfl, hb3⟩
        have hB3 := Below.past hB2 hb3 hB2.size
        go_wp2_with fail
        go_ret
        refine ⟨?_, hB3⟩
        rw [hN.out]
        exact congrArg (fun b => Ending.returned (.string b)) (bstr3 [111, 119, 110] dd)
      · have k8 := bw2.cell 7
        clear h1 h2 h3 h4 hm1 hm2
        go_upto_region 4 with fail
        rw [hW2.out]
        go_wp2_with fail
        refine (HD.out _).mono ?_
        rintro e w3 ⟨rfl, hb3⟩
        have hB3 := Below.past hB2 hb3 hB2.size
        go_wp2_with fail
        go_ret
        refine ⟨?_, hB3⟩
        rw [hN.out]
        exact congrArg (fun b => Ending.returned (.string b)) (bstr3 [99, 111, 108, 108] dd)
      · have k9 := bw2.cell 8
        clear h1 h2 h3 h4 hm1 hm2
        go_upto_region 4 with fail
        rw [hW2.out]
        go_wp2_with fail
        refine (HD.out _).mono ?_
        rintro e w3 ⟨rfl, hb3⟩
        have hB3 := Below.past hB2 hb3 hB2.size
        go_wp2_with fail
        go_ret
        refine ⟨?_, hB3⟩
        rw [hN.out]
        exact congrArg (fun b => Ending.returned (.string b)) (bstr3 [102, 117, 110, 100] dd)
  | false =>
    have q0 : decide (z < 0) = true := adct (HOK.out.2 hok)
    have hN : Hid (nameA ⟨kd, mm⟩ = []) := Lib.hid (by unfold nameA; rw [if_neg (by rw [hok]; simp)])
    go_wp2_with fail
    go_ret
    exact ⟨by rw [hN.out]; rfl, hB1⟩
theorem refName_any (a : Acc) (w : World) : Calls Tryd.prog 9 #[.agg #[.int .i64 a.kind, .int .i64 a.member]] w fun e w' => e = .returned (.string ⟨(nameA a).toArray⟩) ∧ Below w.heap.size w w' := refName_at a.kind a.member w
end Go.Proofs.YtehemhpfdajbdaaDoor
