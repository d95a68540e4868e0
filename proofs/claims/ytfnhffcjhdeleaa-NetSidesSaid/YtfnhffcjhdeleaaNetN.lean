import Derived.Test.YtfnhffcjhdeleaaNetM
namespace Go.Proofs.Ytfnhffcjhdeleaa
open Go.RowKit Go.ChangeShapes

def clmE (l : List Leg) : Int := if l.any leastB = true then 2 else 0
def clmL (l : List Leg) : List Leg := if l.any leastB = true then [] else claimL l
theorem claimL_yes {l : List Leg} {f : Leg} {k : Nat} (hT : l.take (k + 1) = l.take k ++ [f]) (he : negB f = true) : claimL (l.take (k + 1)) = claimL (l.take k) ++ [negL f] := by
  unfold claimL; rw [filt_yes hT he, List.map_append]; rfl
theorem claimL_no {l : List Leg} {f : Leg} {k : Nat} (hT : l.take (k + 1) = l.take k ++ [f]) (he : negB f = false) : claimL (l.take (k + 1)) = claimL (l.take k) := by
  unfold claimL; rw [filt_no hT he]
theorem claimL_len (l : List Leg) : (claimL l).length ≤ l.length := by unfold claimL; rw [List.length_map]; exact List.length_filter_le _ _
theorem any_least {l : List Leg} {f : Leg} {k : Nat} (hT : l.take (k + 1) = l.take k ++ [f]) (h0 : (l.take k).any leastB = false) (hf : leastB f = false) : (l.take (k + 1)).any leastB = false := by
  rw [hT, List.any_append, h0]; simp [hf]

set_option maxHeartbeats 4000000 in
set_option maxRecDepth 10000 in
theorem netClaims_any (A : Option Addr) (n c : Nat) (l : List Leg) (w : World) (hr : Rd w w.heap.size 3 A n (l.flatMap Leg.cells)) (hn : n ≤ 1000) (hg : ∀ x ∈ l, inI x.amount) :
    Calls Try.prog 61 #[.slice A n c] w (NetsPost w (clmE l) (clmL l)) := by
  have HL := Lib.hid (hr.len Leg.cells_len (by omega))
  obtain ⟨j0, hj0, jz0, jz1, jz2⟩ := info_parts legInfoN
  have HG := Lib.hid hg
  clear hg
  go_enter Try.func61, Try.ntmps61
  go_wp2_with fail
  go_loopw [4, 11] (fun v i wr => ∃ k : Nat, k ≤ n ∧ i = .int .i64 k ∧ Hid ((l.take k).any leastB = false) ∧ Hid (wr.ownsRow w.heap.size 97 3 v (claimL (l.take k)).length ((claimL (l.take k)).flatMap Leg.cells)) ∧ Hid (Below w.heap.size w wr)) (fun _ i _ => n - (intOf i).toNat)
  case atStart => exact ⟨0, Nat.zero_le _, rfl, Lib.hid rfl, Lib.hid (World.ownsRow_nil _ _ _ _), Lib.hid (Below.refl _ _)⟩
  case round =>
    obtain ⟨k, hk, rfl, HA, HR, HB⟩ := hrel
    have hs := HB.out.size
    by_cases hlt : k < n
    · have hlz : (k : Int) < (n : Int) := by omega
      have hg_f : l[k]? = some (l[k]'(by have := HL.out; omega)) := List.getElem?_eq_getElem _
      obtain ⟨b_f, off_f, rfl, hbb_f, hc_f⟩ := (hr.below HB.out).elem Leg.cells_len hg_f hlt
      have HT_f := Lib.hid (show l.take (k + 1) = l.take k ++ [(l[k]'(by have := HL.out; omega))] from List.take_succ_eq_append_getElem (by have := HL.out; omega))
      have HM_f := Lib.hid (show (l[k]'(by have := HL.out; omega)) ∈ l from List.getElem_mem _)
      generalize (l[k]'(by have := HL.out; omega)) = f at *
      have c0 := hc_f 0 _ rfl
      have c1 := hc_f 1 _ rfl
      have c2 := hc_f 2 _ rfl
      clear hc_f hg_f
      simp only [Nat.add_zero] at c0
      have hin := HG.out f HM_f.out
      have HIN := Lib.hid hin
      have hbo := (Below.refl wr.heap.size wr).alloc (Nat.le_refl _) (.cells #[.int .i64 f.member, .int .i64 f.asset, .int .i64 f.amount] 97)
      have HB1 := Lib.hid (Below.past HB.out hbo hs)
      have HR1 := Lib.hid (own_past' HR.out hbo)
      have hcl : (claimL (l.take k)).length ≤ 1000 := Nat.le_trans (claimL_len _) (by rw [List.length_take]; omega)
      obtain ⟨m, hm⟩ : ∃ m, Hid ((claimL (l.take k)).length = m) := ⟨_, Lib.hid rfl⟩
      rw [hm.out] at HR1 hcl
      have bX := Blk.new wr 97 #[.int .i64 f.member, .int .i64 f.asset, .int .i64 f.amount] wr.heap.size rfl
      have HNX : Hid (u4.ownBlock ≠ some wr.heap.size) := Lib.hid fun e => by have := (HR.out.lt _ e).2; omega
      obtain ⟨W1, hW1⟩ : ∃ W, Hid (wr.alloc (.cells #[.int .i64 f.member, .int .i64 f.asset, .int .i64 f.amount] 97) = W) := ⟨_, Lib.hid rfl⟩
      rw [hW1.out] at HB1 HR1 bX
      have hs1 := HB1.out.size
      have hX1 := bX.lt
      have HX := Lib.hid bX
      have x0 := (bX).cell 0
      have x1 := (bX).cell 1
      have x2 := (bX).cell 2
      simp at x0 x1 x2
      clear bX hbo HR hin
      by_cases h0 : 0 ≤ f.amount
      · have HF := Lib.hid (claimL_no HT_f.out (show negB f = false from decide_eq_false (by omega)))
        have HLB := Lib.hid (any_least HT_f.out HA.out (show leastB f = false from decide_eq_false (by omega)))
        go_upto_region 5 with fail
        rw [hW1.out]
        go_wp2_with fail
        clear x0 x1 x2
        go_roundw
        case rel => exact ⟨k + 1, by omega, by go_num, HLB, Lib.hid (by rw [HF.out, hm.out]; exact HR1.out), HB1⟩
        case measure => simp [intOf]; omega
      · by_cases h1 : f.amount = -9223372036854775808
        · have hov : ¬ inI (-f.amount) := by unfold inI; omega
          have HN := Lib.hid (neg_any f.amount HIN.out W1)
          have HAM := Lib.hid (amount_outN hov)
          rw [HAM.out.1, HAM.out.2] at HN
          have HE : Hid (clmE l = 2 ∧ clmL l = []) := Lib.hid (by
            have : l.any leastB = true := List.any_eq_true.2 ⟨f, HM_f.out, decide_eq_true h1⟩
            unfold clmE clmL
            rw [if_pos this, if_pos this]
            exact ⟨rfl, rfl⟩)
          clear hov h1
          go_upto_region 5 with fail
          rw [hW1.out]
          go_wp2_with fail
          refine HN.out.mono ?_
          rintro e w2 ⟨rfl, rfl⟩
          go_wp2_with fail
          go_ret2
          unfold NetsPost
          rw [HE.out.1, HE.out.2]
          exact ⟨.slice none 0 0, rfl, World.ownsRow_nil _ _ _ _, HB1.out⟩
        · have hov : inI (-f.amount) := by have := HIN.out; unfold inI at this ⊢; omega
          have HN := Lib.hid (neg_any f.amount HIN.out W1)
          have HAM := Lib.hid (amount_in hov)
          rw [HAM.out.1, HAM.out.2] at HN
          have HF := Lib.hid (claimL_yes HT_f.out (show negB f = true from decide_eq_true (by omega)))
          have HLB := Lib.hid (any_least HT_f.out HA.out (show leastB f = false from decide_eq_false h1))
          clear hov h1
          have x2f := HX.out.frozen 2
          go_upto_region 5 with fail
          rw [hW1.out]
          go_wp2_with fail
          refine HN.out.mono ?_
          rintro e w2 ⟨rfl, rfl⟩
          have bY := HX.out.put 2 (.int .i64 (-f.amount))
          have HRY := Lib.hid (own_far (p := ⟨wr.heap.size, 2, none⟩) HR1.out HNX.out (.int .i64 (-f.amount)))
          have HBY := Lib.hid (HB1.out.setCell (p := ⟨wr.heap.size, 2, none⟩) hs (.int .i64 (-f.amount)))
          obtain ⟨W2, hW2⟩ : ∃ W, Hid (W1.setCell ⟨wr.heap.size, 2, none⟩ (.int .i64 (-f.amount)) = W) := ⟨_, Lib.hid rfl⟩
          rw [hW2.out] at bY HRY HBY
          have hs2 := HBY.out.size
          go_upto_region 10 with fail
          rw [hW2.out]
          clear x0 x1 x2 x2f
          have x0 := (bY).cell 0
          have x1 := (bY).cell 1
          have x2 := (bY).cell 2
          simp at x0 x1 x2
          clear bY
          go_wp2_with (at_builtin; refine wpList_append_lit _ _ rfl (.tmp 29) (.tmp 31) 90 rfl w.heap.size 97 j0 _ 3 24 Try.underlying90 hj0 jz0 jz1 jz2 rfl (by decide) _ _ _ rfl HRY.out _ 1 1 rfl (by first | rfl | simp) rfl (by simp [Value.oneCell']) (by omega) (by omega) (by omega) ?_; intro v' w' hown' hg'; have HOWN := Lib.hid hown'; have HBW := Lib.hid (below_own (HBY.out.alloc hs2 _) hg' HRY.out (by simp; omega) (Nat.le_refl _)); clear hown' hg')
          clear x0 x1 x2
          go_roundw
          case rel => exact ⟨k + 1, by omega, by go_num, HLB, Lib.hid (by rw [HF.out, List.length_append, hm.out, List.flatMap_append]; exact HOWN.out), HBW⟩
          case measure => simp [intOf]; omega
    · have hlz : ¬ (k : Int) < (n : Int) := by omega
      obtain rfl : n = k := by omega
      have hT : l.take n = l := List.take_of_length_le (by rw [HL.out]; exact Nat.le_refl _)
      have hro := HR.out
      have ha := HA.out
      rw [hT] at hro ha
      have HE : Hid (clmE l = 0 ∧ clmL l = claimL l) := Lib.hid (by
        unfold clmE clmL
        rw [ha]; exact ⟨rfl, rfl⟩)
      have HRO := Lib.hid hro
      clear HR hT hro ha
      go_wp2_with fail
      go_ret2
      unfold NetsPost
      rw [HE.out.1, HE.out.2]
      exact ⟨_, rfl, HRO.out, HB.out⟩
end Go.Proofs.Ytfnhffcjhdeleaa
