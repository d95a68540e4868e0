import Derived.Test.YtfnhffcjhdeleaaNetI
import Derived.Test.YtfnhffcjhdeleaaBase
import Derived.Maps.AppendAt
/-! ## from NetM -/
namespace Go.Proofs.Ytfnhffcjhdeleaa
open Go.RowKit Go.ChangeShapes

/-! ### What is owed, and what is claimed: plain words -/
def posB (x : Leg) : Bool := decide (0 < x.amount)
def negB (x : Leg) : Bool := decide (x.amount < 0)
def ofB (a : Int) (x : Leg) : Bool := decide (x.asset = a)
def leastB (x : Leg) : Bool := decide (x.amount = -9223372036854775808)
def negL (x : Leg) : Leg := ⟨x.member, x.asset, -x.amount⟩
def claimL (l : List Leg) : List Leg := (l.filter negB).map negL
def totL (l : List Leg) (a : Int) : List Int := (l.filter (ofB a)).map Leg.amount
theorem filt_yes {l : List Leg} {p : Leg → Bool} {f : Leg} {k : Nat} (hT : l.take (k + 1) = l.take k ++ [f]) (he : p f = true) : (l.take (k + 1)).filter p = (l.take k).filter p ++ [f] := by
  rw [hT, List.filter_append]; simp [he]
theorem filt_no {l : List Leg} {p : Leg → Bool} {f : Leg} {k : Nat} (hT : l.take (k + 1) = l.take k ++ [f]) (he : p f = false) : (l.take (k + 1)).filter p = (l.take k).filter p := by
  rw [hT, List.filter_append]; simp [he]
theorem filt_len (l : List Leg) (p : Leg → Bool) (k n : Nat) (h : k ≤ n) : ((l.take k).filter p).length ≤ n := Nat.le_trans (List.length_filter_le _ _) (by rw [List.length_take]; omega)

set_option maxHeartbeats 2000000 in
set_option maxRecDepth 10000 in
theorem netDebts_any (A : Option Addr) (n c : Nat) (l : List Leg) (w : World) (hr : Rd w w.heap.size 3 A n (l.flatMap Leg.cells)) (hn : n ≤ 1000) :
    Calls Try.prog 62 #[.slice A n c] w fun e w' => ∃ v, e = .returned v ∧ w'.ownsRow w.heap.size 97 3 v (l.filter posB).length ((l.filter posB).flatMap Leg.cells) ∧ Below w.heap.size w w' := by
  have HL := Lib.hid (hr.len Leg.cells_len (by omega))
  obtain ⟨j0, hj0, jz0, jz1, jz2⟩ := info_parts legInfoN
  go_enter Try.func62, Try.ntmps62
  go_wp2_with fail
  go_loopw [3, 8] (fun v i wr => ∃ k : Nat, k ≤ n ∧ i = .int .i64 k ∧ Hid (wr.ownsRow w.heap.size 97 3 v ((l.take k).filter posB).length (((l.take k).filter posB).flatMap Leg.cells)) ∧ Hid (Below w.heap.size w wr)) (fun _ i _ => n - (intOf i).toNat)
  case atStart => exact ⟨0, Nat.zero_le _, rfl, Lib.hid (World.ownsRow_nil _ _ _ _), Lib.hid (Below.refl _ _)⟩
  case round =>
    obtain ⟨k, hk, rfl, HR, HB⟩ := hrel
    have hs := HB.out.size
    by_cases hlt : k < n
    · have hlz : (k : Int) < (n : Int) := by omega
      have hg_f : l[k]? = some (l[k]'(by have := HL.out; omega)) := List.getElem?_eq_getElem _
      obtain ⟨b_f, off_f, rfl, hbb_f, hc_f⟩ := (hr.below HB.out).elem Leg.cells_len hg_f hlt
      have HT_f := Lib.hid (show l.take (k + 1) = l.take k ++ [(l[k]'(by have := HL.out; omega))] from List.take_succ_eq_append_getElem (by have := HL.out; omega))
      have HM_f := Lib.hid (show (l[k]'(by have := HL.out; omega)) ∈ l from List.getElem_mem _)
      generalize (l[k]'(by have := HL.out; omega)) = f at *
      have c0 := hc_f 0 _ rfl
      have c1 := hc_f 1 _ rfl
      have c2 := hc_f 2 _ rfl
      clear hc_f hg_f
      simp only [Nat.add_zero] at c0
      have hbo := (Below.refl wr.heap.size wr).alloc (Nat.le_refl _) (.cells #[.int .i64 f.member, .int .i64 f.asset, .int .i64 f.amount] 97)
      have HB1 := Lib.hid (Below.past HB.out hbo hs)
      have HR1 := Lib.hid (own_past' HR.out hbo)
      have hfl := filt_len l posB k 1000 (by omega)
      obtain ⟨m, hm⟩ : ∃ m, Hid (((l.take k).filter posB).length = m) := ⟨_, Lib.hid rfl⟩
      rw [hm.out] at HR1 hfl
      by_cases h1 : 0 < f.amount
      · have HF := Lib.hid (filt_yes HT_f.out (show posB f = true from decide_eq_true h1))
        have bX := Blk.new wr 97 #[.int .i64 f.member, .int .i64 f.asset, .int .i64 f.amount] wr.heap.size rfl
        obtain ⟨W1, hW1⟩ : ∃ W, Hid (wr.alloc (.cells #[.int .i64 f.member, .int .i64 f.asset, .int .i64 f.amount] 97) = W) := ⟨_, Lib.hid rfl⟩
        rw [hW1.out] at HB1 HR1 bX
        have hs1 := HB1.out.size
        go_upto_region 5 with fail
        rw [hW1.out]
        have x0 := (bX).cell 0
        have x1 := (bX).cell 1
        have x2 := (bX).cell 2
        simp at x0 x1 x2
        clear bX hbo HR
        go_wp2_with (at_builtin; refine wpList_append_lit _ _ rfl (.tmp 15) (.tmp 17) 90 rfl w.heap.size 97 j0 _ 3 24 Try.underlying90 hj0 jz0 jz1 jz2 rfl (by decide) _ _ _ rfl HR1.out _ 1 1 rfl (by first | rfl | simp) rfl (by simp [Value.oneCell']) (by omega) (by omega) (by omega) ?_; intro v' w' hown' hg'; have HOWN := Lib.hid hown'; have HBW := Lib.hid (below_own (HB1.out.alloc hs1 _) hg' HR1.out (by simp; omega) (Nat.le_refl _)); clear hown' hg')
        go_roundw
        case rel => exact ⟨k + 1, by omega, by go_num, Lib.hid (by rw [HF.out, List.length_append, hm.out, List.flatMap_append]; exact HOWN.out), HBW⟩
        case measure => simp [intOf]; omega
      · have HF := Lib.hid (filt_no HT_f.out (show posB f = false from decide_eq_false h1))
        clear hbo HR
        go_wp2_with fail
        go_roundw
        case rel => exact ⟨k + 1, by omega, by go_num, Lib.hid (by rw [HF.out, hm.out]; exact HR1.out), HB1⟩
        case measure => simp [intOf]; omega
    · have hlz : ¬ (k : Int) < (n : Int) := by omega
      obtain rfl : n = k := by omega
      have hT : l.take n = l := List.take_of_length_le (by rw [HL.out]; exact Nat.le_refl _)
      have hro := HR.out
      rw [hT] at hro
      clear HR hT
      go_wp2_with fail
      go_ret
      exact ⟨_, rfl, hro, HB.out⟩

set_option maxHeartbeats 2000000 in
set_option maxRecDepth 10000 in
theorem netTotal_any (A : Option Addr) (n c : Nat) (l : List Leg) (a : Int) (w : World) (hr : Rd w w.heap.size 3 A n (l.flatMap Leg.cells)) (hn : n ≤ 1000) (hg : ∀ x ∈ l, inI x.amount) :
    Calls Try.prog 101 #[.slice A n c, .int .i64 a] w fun e w' => e = .returned (.tuple #[.int .i64 (amount (totL l a).sum), .int .i64 (over (totL l a).sum)]) ∧ Below w.heap.size w w' := by
  have HL := Lib.hid (hr.len Leg.cells_len (by omega))
  obtain ⟨i0, hi0, hz0, hz1, hz2⟩ := info_parts i64InfoN
  have HG := Lib.hid hg
  clear hg
  obtain ⟨S, hS⟩ : ∃ S, Hid ((totL l a).sum = S) := ⟨_, Lib.hid rfl⟩
  rw [hS.out]
  go_enter Try.func101, Try.ntmps101
  go_wp2_with fail
  go_loopw [6, 11] (fun v i wr => ∃ k : Nat, k ≤ n ∧ i = .int .i64 k ∧ Hid (wr.ownsRow w.heap.size 2 1 v ((l.take k).filter (ofB a)).length ((((l.take k).filter (ofB a)).map Leg.amount).flatMap i64Cells)) ∧ Hid (Below w.heap.size w wr)) (fun _ i _ => n - (intOf i).toNat)
  case atStart => exact ⟨0, Nat.zero_le _, rfl, Lib.hid (World.ownsRow_nil _ _ _ _), Lib.hid (Below.refl _ _)⟩
  case round =>
    obtain ⟨k, hk, rfl, HR, HB⟩ := hrel
    have hs := HB.out.size
    by_cases hlt : k < n
    · have hlz : (k : Int) < (n : Int) := by omega
      have hg_f : l[k]? = some (l[k]'(by have := HL.out; omega)) := List.getElem?_eq_getElem _
      obtain ⟨b_f, off_f, rfl, hbb_f, hc_f⟩ := (hr.below HB.out).elem Leg.cells_len hg_f hlt
      have HT_f := Lib.hid (show l.take (k + 1) = l.take k ++ [(l[k]'(by have := HL.out; omega))] from List.take_succ_eq_append_getElem (by have := HL.out; omega))
      have HM_f := Lib.hid (show (l[k]'(by have := HL.out; omega)) ∈ l from List.getElem_mem _)
      generalize (l[k]'(by have := HL.out; omega)) = f at *
      have c0 := hc_f 0 _ rfl
      have c1 := hc_f 1 _ rfl
      have c2 := hc_f 2 _ rfl
      clear hc_f hg_f
      simp only [Nat.add_zero] at c0
      have hbo := (Below.refl wr.heap.size wr).alloc (Nat.le_refl _) (.cells #[.int .i64 f.member, .int .i64 f.asset, .int .i64 f.amount] 97)
      have HB1 := Lib.hid (Below.past HB.out hbo hs)
      have HR1 := Lib.hid (own_past' HR.out hbo)
      have hfl := filt_len l (ofB a) k 1000 (by omega)
      obtain ⟨m, hm⟩ : ∃ m, Hid (((l.take k).filter (ofB a)).length = m) := ⟨_, Lib.hid rfl⟩
      rw [hm.out] at HR1 hfl
      by_cases h1 : f.asset = a
      · have q1 : (f.asset == a) = true := by simpa using h1
        have HF := Lib.hid (filt_yes (p := ofB a) HT_f.out (show ofB a f = true from decide_eq_true h1))
        have bX := Blk.new wr 97 #[.int .i64 f.member, .int .i64 f.asset, .int .i64 f.amount] wr.heap.size rfl
        obtain ⟨W1, hW1⟩ : ∃ W, Hid (wr.alloc (.cells #[.int .i64 f.member, .int .i64 f.asset, .int .i64 f.amount] 97) = W) := ⟨_, Lib.hid rfl⟩
        rw [hW1.out] at HB1 HR1 bX
        have hs1 := HB1.out.size
        clear h1
        go_upto_region 5 with fail
        rw [hW1.out]
        have x0 := (bX).cell 0
        have x1 := (bX).cell 1
        have x2 := (bX).cell 2
        simp at x0 x1 x2
        clear bX hbo HR
        go_wp2_with (at_builtin; refine wpList_append_lit _ _ rfl (.tmp 19) (.tmp 22) 35 rfl w.heap.size 2 i0 _ 1 8 Try.underlying35 hi0 hz0 hz1 hz2 rfl (by decide) _ _ _ rfl HR1.out _ 1 1 rfl (by first | rfl | simp) rfl (by simp [Value.oneCell']) (by omega) (by omega) (by omega) ?_; intro v' w' hown' hg'; have HOWN := Lib.hid hown'; have HBW := Lib.hid (below_own (HB1.out.alloc hs1 _) hg' HR1.out (by simp; omega) (Nat.le_refl _)); clear hown' hg')
        go_roundw
        case rel => exact ⟨k + 1, by omega, by go_num, Lib.hid (by rw [HF.out, List.length_append, hm.out, List.map_append, List.flatMap_append]; exact HOWN.out), HBW⟩
        case measure => simp [intOf]; omega
      · have q1 : (f.asset == a) = false := by simpa using h1
        have HF := Lib.hid (filt_no (p := ofB a) HT_f.out (show ofB a f = false from decide_eq_false h1))
        clear hbo HR h1
        go_wp2_with fail
        go_roundw
        case rel => exact ⟨k + 1, by omega, by go_num, Lib.hid (by rw [HF.out, hm.out]; exact HR1.out), HB1⟩
        case measure => simp [intOf]; omega
    · have hlz : ¬ (k : Int) < (n : Int) := by omega
      obtain rfl : n = k := by omega
      have hT : l.take n = l := List.take_of_length_le (by rw [HL.out]; exact Nat.le_refl _)
      have hro := HR.out
      rw [hT] at hro
      obtain ⟨Av, cv, rfl⟩ := own_form hro
      have hml : (l.filter (ofB a)).length ≤ 1000 := Nat.le_trans (List.length_filter_le _ _) (by rw [HL.out]; exact hn)
      have HS := Lib.hid (sum_any Av (l.filter (ofB a)).length cv (totL l a) wr (Rd.of_own hro) hml (fun x hx => by
        unfold totL at hx
        obtain ⟨y, hy, rfl⟩ := List.mem_map.1 hx
        exact HG.out y (List.mem_filter.1 hy).1))
      obtain ⟨m, hm⟩ : ∃ m, Hid ((l.filter (ofB a)).length = m) := ⟨_, Lib.hid rfl⟩
      rw [hm.out, hS.out] at HS
      rw [hm.out]
      clear HR hT hro hml
      go_wp2_with fail
      refine HS.out.mono ?_
      rintro e w2 ⟨rfl, hb2⟩
      have HB2 := Lib.hid (Below.past HB.out hb2 hs)
      clear hb2
      go_wp2_with fail
      go_ret2
      exact ⟨rfl, HB2.out⟩
end Go.Proofs.Ytfnhffcjhdeleaa

/-! ## from NetN -/
namespace Go.Proofs.Ytfnhffcjhdeleaa
open Go.RowKit Go.ChangeShapes

def clmE (l : List Leg) : Int := if l.any leastB = true then 2 else 0
def clmL (l : List Leg) : List Leg := if l.any leastB = true then [] else claimL l
theorem claimL_yes {l : List Leg} {f : Leg} {k : Nat} (hT : l.take (k + 1) = l.take k ++ [f]) (he : negB f = true) : claimL (l.take (k + 1)) = claimL (l.take k) ++ [negL f] := by
  unfold claimL; rw [filt_yes hT he, List.map_append]; rfl
theorem claimL_no {l : List Leg} {f : Leg} {k : Nat} (hT : l.take (k + 1) = l.take k ++ [f]) (he : negB f = false) : claimL (l.take (k + 1)) = claimL (l.take k) := by
  unfold claimL; rw [filt_no hT he]
theorem claimL_len (l : List Leg) : (claimL l).length ≤ l.length := by unfold claimL; rw [List.length_map]; exact List.length_filter_le _ _
theorem any_least {l : List Leg} {f : Leg} {k : Nat} (hT : l.take (k + 1) = l.take k ++ [f]) (h0 : (l.take k).any leastB = false) (hf : leastB f = false) : (l.take (k + 1)).any leastB = false := by
  rw [hT, List.any_append, h0]; simp [hf]

set_option maxHeartbeats 4000000 in
set_option maxRecDepth 10000 in
theorem netClaims_any (A : Option Addr) (n c : Nat) (l : List Leg) (w : World) (hr : Rd w w.heap.size 3 A n (l.flatMap Leg.cells)) (hn : n ≤ 1000) (hg : ∀ x ∈ l, inI x.amount) :
    Calls Try.prog 61 #[.slice A n c] w (NetsPost w (clmE l) (clmL l)) := by
  have HL := Lib.hid (hr.len Leg.cells_len (by omega))
  obtain ⟨j0, hj0, jz0, jz1, jz2⟩ := info_parts legInfoN
  have HG := Lib.hid hg
  clear hg
  go_enter Try.func61, Try.ntmps61
  go_wp2_with fail
  go_loopw [4, 11] (fun v i wr => ∃ k : Nat, k ≤ n ∧ i = .int .i64 k ∧ Hid ((l.take k).any leastB = false) ∧ Hid (wr.ownsRow w.heap.size 97 3 v (claimL (l.take k)).length ((claimL (l.take k)).flatMap Leg.cells)) ∧ Hid (Below w.heap.size w wr)) (fun _ i _ => n - (intOf i).toNat)
  case atStart => exact ⟨0, Nat.zero_le _, rfl, Lib.hid rfl, Lib.hid (World.ownsRow_nil _ _ _ _), Lib.hid (Below.refl _ _)⟩
  case round =>
    obtain ⟨k, hk, rfl, HA, HR, HB⟩ := hrel
    have hs := HB.out.size
    by_cases hlt : k < n
    · have hlz : (k : Int) < (n : Int) := by omega
      have hg_f : l[k]? = some (l[k]'(by have := HL.out; omega)) := List.getElem?_eq_getElem _
      obtain ⟨b_f, off_f, rfl, hbb_f, hc_f⟩ := (hr.below HB.out).elem Leg.cells_len hg_f hlt
      have HT_f := Lib.hid (show l.take (k + 1) = l.take k ++ [(l[k]'(by have := HL.out; omega))] from List.take_succ_eq_append_getElem (by have := HL.out; omega))
      have HM_f := Lib.hid (show (l[k]'(by have := HL.out; omega)) ∈ l from List.getElem_mem _)
      generalize (l[k]'(by have := HL.out; omega)) = f at *
      have c0 := hc_f 0 _ rfl
      have c1 := hc_f 1 _ rfl
      have c2 := hc_f 2 _ rfl
      clear hc_f hg_f
      simp only [Nat.add_zero] at c0
      have hin := HG.out f HM_f.out
      have HIN := Lib.hid hin
      have hbo := (Below.refl wr.heap.size wr).alloc (Nat.le_refl _) (.cells #[.int .i64 f.member, .int .i64 f.asset, .int .i64 f.amount] 97)
      have HB1 := Lib.hid (Below.past HB.out hbo hs)
      have HR1 := Lib.hid (own_past' HR.out hbo)
      have hcl : (claimL (l.take k)).length ≤ 1000 := Nat.le_trans (claimL_len _) (by rw [List.length_take]; omega)
      obtain ⟨m, hm⟩ : ∃ m, Hid ((claimL (l.take k)).length = m) := ⟨_, Lib.hid rfl⟩
      rw [hm.out] at HR1 hcl
      have bX := Blk.new wr 97 #[.int .i64 f.member, .int .i64 f.asset, .int .i64 f.amount] wr.heap.size rfl
      have HNX : Hid (u4.ownBlock ≠ some wr.heap.size) := Lib.hid fun e => by have := (HR.out.lt _ e).2; omega
      obtain ⟨W1, hW1⟩ : ∃ W, Hid (wr.alloc (.cells #[.int .i64 f.member, .int .i64 f.asset, .int .i64 f.amount] 97) = W) := ⟨_, Lib.hid rfl⟩
      rw [hW1.out] at HB1 HR1 bX
      have hs1 := HB1.out.size
      have hX1 := bX.lt
      have HX := Lib.hid bX
      have x0 := (bX).cell 0
      have x1 := (bX).cell 1
      have x2 := (bX).cell 2
      simp at x0 x1 x2
      clear bX hbo HR hin
      by_cases h0 : 0 ≤ f.amount
      · have HF := Lib.hid (claimL_no HT_f.out (show negB f = false from decide_eq_false (by omega)))
        have HLB := Lib.hid (any_least HT_f.out HA.out (show leastB f = false from decide_eq_false (by omega)))
        go_upto_region 5 with fail
        rw [hW1.out]
        go_wp2_with fail
        clear x0 x1 x2
        go_roundw
        case rel => exact ⟨k + 1, by omega, by go_num, HLB, Lib.hid (by rw [HF.out, hm.out]; exact HR1.out), HB1⟩
        case measure => simp [intOf]; omega
      · by_cases h1 : f.amount = -9223372036854775808
        · have hov : ¬ inI (-f.amount) := by unfold inI; omega
          have HN := Lib.hid (neg_any f.amount HIN.out W1)
          have HAM := Lib.hid (amount_outN hov)
          rw [HAM.out.1, HAM.out.2] at HN
          have HE : Hid (clmE l = 2 ∧ clmL l = []) := Lib.hid (by
            have : l.any leastB = true := List.any_eq_true.2 ⟨f, HM_f.out, decide_eq_true h1⟩
            unfold clmE clmL
            rw [if_pos this, if_pos this]
            exact ⟨rfl, rfl⟩)
          clear hov h1
          go_upto_region 5 with fail
          rw [hW1.out]
          go_wp2_with fail
          refine HN.out.mono ?_
          rintro e w2 ⟨rfl, rfl⟩
          go_wp2_with fail
          go_ret2
          unfold NetsPost
          rw [HE.out.1, HE.out.2]
          exact ⟨.slice none 0 0, rfl, World.ownsRow_nil _ _ _ _, HB1.out⟩
        · have hov : inI (-f.amount) := by have := HIN.out; unfold inI at this ⊢; omega
          have HN := Lib.hid (neg_any f.amount HIN.out W1)
          have HAM := Lib.hid (amount_in hov)
          rw [HAM.out.1, HAM.out.2] at HN
          have HF := Lib.hid (claimL_yes HT_f.out (show negB f = true from decide_eq_true (by omega)))
          have HLB := Lib.hid (any_least HT_f.out HA.out (show leastB f = false from decide_eq_false h1))
          clear hov h1
          have x2f := HX.out.frozen 2
          go_upto_region 5 with fail
          rw [hW1.out]
          go_wp2_with fail
          refine HN.out.mono ?_
          rintro e w2 ⟨rfl, rfl⟩
          have bY := HX.out.put 2 (.int .i64 (-f.amount))
          have HRY := Lib.hid (own_far (p := ⟨wr.heap.size, 2, none⟩) HR1.out HNX.out (.int .i64 (-f.amount)))
          have HBY := Lib.hid (HB1.out.setCell (p := ⟨wr.heap.size, 2, none⟩) hs (.int .i64 (-f.amount)))
          obtain ⟨W2, hW2⟩ : ∃ W, Hid (W1.setCell ⟨wr.heap.size, 2, none⟩ (.int .i64 (-f.amount)) = W) := ⟨_, Lib.hid rfl⟩
          rw [hW2.out] at bY HRY HBY
          have hs2 := HBY.out.size
          go_upto_region 10 with fail
          rw [hW2.out]
          clear x0 x1 x2 x2f
          have x0 := (bY).cell 0
          have x1 := (bY).cell 1
          have x2 := (bY).cell 2
          simp at x0 x1 x2
          clear bY
          go_wp2_with (at_builtin; refine wpList_append_lit _ _ rfl (.tmp 29) (.tmp 31) 90 rfl w.heap.size 97 j0 _ 3 24 Try.underlying90 hj0 jz0 jz1 jz2 rfl (by decide) _ _ _ rfl HRY.out _ 1 1 rfl (by first | rfl | simp) rfl (by simp [Value.oneCell']) (by omega) (by omega) (by omega) ?_; intro v' w' hown' hg'; have HOWN := Lib.hid hown'; have HBW := Lib.hid (below_own (HBY.out.alloc hs2 _) hg' HRY.out (by simp; omega) (Nat.le_refl _)); clear hown' hg')
          clear x0 x1 x2
          go_roundw
          case rel => exact ⟨k + 1, by omega, by go_num, HLB, Lib.hid (by rw [HF.out, List.length_append, hm.out, List.flatMap_append]; exact HOWN.out), HBW⟩
          case measure => simp [intOf]; omega
    · have hlz : ¬ (k : Int) < (n : Int) := by omega
      obtain rfl : n = k := by omega
      have hT : l.take n = l := List.take_of_length_le (by rw [HL.out]; exact Nat.le_refl _)
      have hro := HR.out
      have ha := HA.out
      rw [hT] at hro ha
      have HE : Hid (clmE l = 0 ∧ clmL l = claimL l) := Lib.hid (by
        unfold clmE clmL
        rw [ha]; exact ⟨rfl, rfl⟩)
      have HRO := Lib.hid hro
      clear HR hT hro ha
      go_wp2_with fail
      go_ret2
      unfold NetsPost
      rw [HE.out.1, HE.out.2]
      exact ⟨_, rfl, HRO.out, HB.out⟩
end Go.Proofs.Ytfnhffcjhdeleaa

/-! ## from NetO -/
namespace Go.Proofs.Ytfnhffcjhdeleaa
open Go.RowKit Go.ChangeShapes

def owedD (l : List Leg) (a : Int) : Int := (totL ((l.filter (ofB a)).filter posB) a).sum
def owedC (l : List Leg) (a : Int) : Int := (totL (claimL (l.filter (ofB a))) a).sum
def sidesOk (l : List Leg) (a : Int) : Bool := decide (inI (owedD l a)) && (!(l.filter (ofB a)).any leastB && decide (inI (owedC l a)))
/-- What Sides tells. -/
def SidesPost (l : List Leg) (a : Int) (w : World) (e : Ending) (w' : World) : Prop :=
  (if sidesOk l a = true then e = .returned (.tuple #[.int .i64 (owedD l a), .int .i64 (owedC l a), .int .i64 0]) else e = .returned (.tuple #[.int .i64 0, .int .i64 0, .int .i64 2])) ∧ Below w.heap.size w w'
theorem sides_bad {l : List Leg} {a : Int} {w w' : World} (h : sidesOk l a = false) (hb : Below w.heap.size w w') : SidesPost l a w (.returned (.tuple #[.int .i64 0, .int .i64 0, .int .i64 2])) w' := by
  unfold SidesPost; rw [h, if_neg (by simp)]; exact ⟨rfl, hb⟩
theorem sides_good {l : List Leg} {a : Int} {w w' : World} {d c : Int} (h : sidesOk l a = true) (hd : owedD l a = d) (hc : owedC l a = c) (hb : Below w.heap.size w w') : SidesPost l a w (.returned (.tuple #[.int .i64 d, .int .i64 c, .int .i64 0])) w' := by
  unfold SidesPost; rw [h, if_pos rfl, hd, hc]; exact ⟨rfl, hb⟩
theorem filt_in {l : List Leg} {p : Leg → Bool} (h : ∀ x ∈ l, inI x.amount) : ∀ x ∈ l.filter p, inI x.amount := fun x hx => h x (List.mem_filter.1 hx).1
theorem claim_in {l : List Leg} (h : ∀ x ∈ l, inI x.amount) (h0 : l.any leastB = false) : ∀ x ∈ claimL l, inI x.amount := fun x hx => by
  unfold claimL at hx
  obtain ⟨y, hy, rfl⟩ := List.mem_map.1 hx
  have hm := (List.mem_filter.1 hy).1
  have h1 := h y hm
  have h2 : ¬ y.amount = -9223372036854775808 := fun e => by
    have : l.any leastB = true := List.any_eq_true.2 ⟨y, hm, decide_eq_true e⟩
    rw [h0] at this; cases this
  unfold inI at h1 ⊢
  simp only [negL]
  omega

set_option maxHeartbeats 4000000 in
set_option maxRecDepth 100000 in
theorem netSides_any (A : Option Addr) (n c : Nat) (l : List Leg) (a : Int) (w : World) (hr : Rd w w.heap.size 3 A n (l.flatMap Leg.cells)) (hn : n ≤ 1000) (hg : ∀ x ∈ l, inI x.amount) :
    Calls Try.prog 59 #[.slice A n c, .int .i64 a] w (SidesPost l a w) := by
  have HL := Lib.hid (hr.len Leg.cells_len (by omega))
  obtain ⟨j0, hj0, jz0, jz1, jz2⟩ := info_parts legInfoN
  have HG := Lib.hid hg
  clear hg
  go_enter Try.func59, Try.ntmps59
  go_wp2_with fail
  go_loopw [7, 13] (fun v i wr => ∃ k : Nat, k ≤ n ∧ i = .int .i64 k ∧ Hid (wr.ownsRow w.heap.size 97 3 v ((l.take k).filter (ofB a)).length (((l.take k).filter (ofB a)).flatMap Leg.cells)) ∧ Hid (Below w.heap.size w wr)) (fun _ i _ => n - (intOf i).toNat)
  case atStart => exact ⟨0, Nat.zero_le _, rfl, Lib.hid (World.ownsRow_nil _ _ _ _), Lib.hid (Below.refl _ _)⟩
  case round =>
    obtain ⟨k, hk, rfl, HR, HB⟩ := hrel
    have hs := HB.out.size
    by_cases hlt : k < n
    · have hlz : (k : Int) < (n : Int) := by omega
      have hg_f : l[k]? = some (l[k]'(by have := HL.out; omega)) := List.getElem?_eq_getElem _
      obtain ⟨b_f, off_f, rfl, hbb_f, hc_f⟩ := (hr.below HB.out).elem Leg.cells_len hg_f hlt
      have HT_f := Lib.hid (show l.take (k + 1) = l.take k ++ [(l[k]'(by have := HL.out; omega))] from List.take_succ_eq_append_getElem (by have := HL.out; omega))
      have HM_f := Lib.hid (show (l[k]'(by have := HL.out; omega)) ∈ l from List.getElem_mem _)
      generalize (l[k]'(by have := HL.out; omega)) = f at *
      have c0 := hc_f 0 _ rfl
      have c1 := hc_f 1 _ rfl
      have c2 := hc_f 2 _ rfl
      clear hc_f hg_f
      simp only [Nat.add_zero] at c0
      have hbo := (Below.refl wr.heap.size wr).alloc (Nat.le_refl _) (.cells #[.int .i64 f.member, .int .i64 f.asset, .int .i64 f.amount] 97)
      have HB1 := Lib.hid (Below.past HB.out hbo hs)
      have HR1 := Lib.hid (own_past' HR.out hbo)
      have hfl := filt_len l (ofB a) k 1000 (by omega)
      obtain ⟨m, hm⟩ : ∃ m, Hid (((l.take k).filter (ofB a)).length = m) := ⟨_, Lib.hid rfl⟩
      rw [hm.out] at HR1 hfl
      by_cases h1 : f.asset = a
      · have q1 : (f.asset == a) = true := by simpa using h1
        have HF := Lib.hid (filt_yes (p := ofB a) HT_f.out (show ofB a f = true from decide_eq_true h1))
        have bX := Blk.new wr 97 #[.int .i64 f.member, .int .i64 f.asset, .int .i64 f.amount] wr.heap.size rfl
        obtain ⟨W1, hW1⟩ : ∃ W, Hid (wr.alloc (.cells #[.int .i64 f.member, .int .i64 f.asset, .int .i64 f.amount] 97) = W) := ⟨_, Lib.hid rfl⟩
        rw [hW1.out] at HB1 HR1 bX
        have hs1 := HB1.out.size
        clear h1
        go_upto_region 5 with fail
        rw [hW1.out]
        have x0 := (bX).cell 0
        have x1 := (bX).cell 1
        have x2 := (bX).cell 2
        simp at x0 x1 x2
        clear bX hbo HR
        go_wp2_with (at_builtin; refine wpList_append_lit _ _ rfl (.tmp 21) (.tmp 23) 90 rfl w.heap.size 97 j0 _ 3 24 Try.underlying90 hj0 jz0 jz1 jz2 rfl (by decide) _ _ _ rfl HR1.out _ 1 1 rfl (by first | rfl | simp) rfl (by simp [Value.oneCell']) (by omega) (by omega) (by omega) ?_; intro v' w' hown' hg'; have HOWN := Lib.hid hown'; have HBW := Lib.hid (below_own (HB1.out.alloc hs1 _) hg' HR1.out (by simp; omega) (Nat.le_refl _)); clear hown' hg')
        go_roundw
        case rel => exact ⟨k + 1, by omega, by go_num, Lib.hid (by rw [HF.out, List.length_append, hm.out, List.flatMap_append]; exact HOWN.out), HBW⟩
        case measure => simp [intOf]; omega
      · have q1 : (f.asset == a) = false := by simpa using h1
        have HF := Lib.hid (filt_no (p := ofB a) HT_f.out (show ofB a f = false from decide_eq_false h1))
        clear hbo HR h1
        go_wp2_with fail
        go_roundw
        case rel => exact ⟨k + 1, by omega, by go_num, Lib.hid (by rw [HF.out, hm.out]; exact HR1.out), HB1⟩
        case measure => simp [intOf]; omega
    · have hlz : ¬ (k : Int) < (n : Int) := by omega
      obtain rfl : n = k := by omega
      have hT : l.take n = l := List.take_of_length_le (by rw [HL.out]; exact Nat.le_refl _)
      have hro := HR.out
      rw [hT] at hro
      obtain ⟨Am, cm, rfl⟩ := own_form hro
      obtain ⟨mine, hmine⟩ : ∃ mine, Hid (l.filter (ofB a) = mine) := ⟨_, Lib.hid rfl⟩
      have hml : (l.filter (ofB a)).length ≤ 1000 := Nat.le_trans (List.length_filter_le _ _) (by rw [HL.out]; exact hn)
      have HGM : Hid (∀ x ∈ mine, inI x.amount) := Lib.hid (by rw [← hmine.out]; exact filt_in HG.out)
      rw [hmine.out] at hro hml ⊢
      have HRM := Lib.hid (Rd.of_own hro)
      obtain ⟨m, hm⟩ : ∃ m, Hid (mine.length = m) := ⟨_, Lib.hid rfl⟩
      have HDB := Lib.hid (netDebts_any Am mine.length cm mine wr HRM.out hml)
      rw [hm.out] at HDB HRM hml ⊢
      clear HR hT hro
      go_wp2_with fail
      refine HDB.out.mono ?_
      rintro e w2 ⟨v2, rfl, ho2, hb2⟩
      obtain ⟨A2, c2, rfl⟩ := own_form ho2
      have HB2 := Lib.hid (Below.past HB.out hb2 hs)
      have HRM2 := Lib.hid (HRM.out.past hb2)
      have hdl : (mine.filter posB).length ≤ 1000 := Nat.le_trans (List.length_filter_le _ _) (by rw [hm.out]; exact hml)
      have HT2 := Lib.hid (netTotal_any A2 (mine.filter posB).length c2 (mine.filter posB) a w2 (Rd.of_own ho2) hdl (filt_in HGM.out))
      obtain ⟨S, hS⟩ : ∃ S, Hid ((totL (mine.filter posB) a).sum = S) := ⟨_, Lib.hid rfl⟩
      have HSD : Hid (owedD l a = S) := Lib.hid (by unfold owedD; rw [hmine.out]; exact hS.out)
      obtain ⟨q, hq⟩ : ∃ q, Hid ((mine.filter posB).length = q) := ⟨_, Lib.hid rfl⟩
      rw [hS.out, hq.out] at HT2
      rw [hq.out]
      clear ho2 hb2 hdl
      go_wp2_with fail
      by_cases hin : inI S
      · have HAM := Lib.hid (amount_in hin)
        rw [HAM.out.1, HAM.out.2] at HT2
        have HI := Lib.hid hin
        clear hin
        refine HT2.out.mono ?_
        rintro e w3 ⟨rfl, hb3⟩
        have HB3 := Lib.hid (Below.past HB2.out hb3 HB2.out.size)
        have HCL := Lib.hid (netClaims_any Am m cm mine w3 (HRM2.out.past hb3) hml HGM.out)
        clear hb3
        cases hle : mine.any leastB with
        | true =>
          have HE : Hid (clmE mine = 2 ∧ clmL mine = []) := Lib.hid (by unfold clmE clmL; rw [hle]; exact ⟨rfl, rfl⟩)
          have HBAD : Hid (sidesOk l a = false) := Lib.hid (by unfold sidesOk; rw [hmine.out, hle]; simp)
          rw [HE.out.1, HE.out.2] at HCL
          clear hle
          go_wp2_with fail
          refine HCL.out.mono ?_
          rintro e w4 ⟨v4, rfl, ho4, hb4⟩
          have HB4 := Lib.hid (Below.past HB3.out hb4 HB3.out.size)
          clear ho4 hb4
          go_wp2_with fail
          refine bodyPost_ret (v := .tuple #[.int .i64 0, .int .i64 0, .int .i64 2]) (by simp [results, Try.results59, go_sem]) rfl (sides_bad HBAD.out HB4.out)
        | false =>
          have HE : Hid (clmE mine = 0 ∧ clmL mine = claimL mine) := Lib.hid (by unfold clmE clmL; rw [hle]; exact ⟨rfl, rfl⟩)
          have HLE := Lib.hid hle
          rw [HE.out.1, HE.out.2] at HCL
          clear hle
          go_wp2_with fail
          refine HCL.out.mono ?_
          rintro e w4 ⟨v4, rfl, ho4, hb4⟩
          obtain ⟨A4, c4, rfl⟩ := own_form ho4
          have HB4 := Lib.hid (Below.past HB3.out hb4 HB3.out.size)
          have hcl : (claimL mine).length ≤ 1000 := Nat.le_trans (claimL_len _) (by rw [hm.out]; exact hml)
          have HT4 := Lib.hid (netTotal_any A4 (claimL mine).length c4 (claimL mine) a w4 (Rd.of_own ho4) hcl (claim_in HGM.out HLE.out))
          obtain ⟨C, hC⟩ : ∃ C, Hid ((totL (claimL mine) a).sum = C) := ⟨_, Lib.hid rfl⟩
          have HSC : Hid (owedC l a = C) := Lib.hid (by unfold owedC; rw [hmine.out]; exact hC.out)
          obtain ⟨p, hp⟩ : ∃ p, Hid ((claimL mine).length = p) := ⟨_, Lib.hid rfl⟩
          rw [hC.out, hp.out] at HT4
          rw [hp.out]
          clear ho4 hb4 hcl
          go_wp2_with fail
          by_cases hic : inI C
          · have HAM4 := Lib.hid (amount_in hic)
            rw [HAM4.out.1, HAM4.out.2] at HT4
            have HOK : Hid (sidesOk l a = true) := Lib.hid (by unfold sidesOk; rw [hmine.out, HLE.out, HSD.out, HSC.out, decide_eq_true HI.out, decide_eq_true hic]; rfl)
            clear hic
            refine HT4.out.mono ?_
            rintro e w5 ⟨rfl, hb5⟩
            have HB5 := Lib.hid (Below.past HB4.out hb5 HB4.out.size)
            clear hb5
            go_wp2_with fail
            refine bodyPost_ret (v := .tuple #[.int .i64 S, .int .i64 C, .int .i64 0]) (by simp [results, Try.results59, go_sem]) rfl (sides_good HOK.out HSD.out HSC.out HB5.out)
          · have HAM4 := Lib.hid (amount_outN hic)
            rw [HAM4.out.1, HAM4.out.2] at HT4
            have HBAD : Hid (sidesOk l a = false) := Lib.hid (by unfold sidesOk; rw [HSC.out, decide_eq_false hic]; simp)
            clear hic
            refine HT4.out.mono ?_
            rintro e w5 ⟨rfl, hb5⟩
            have HB5 := Lib.hid (Below.past HB4.out hb5 HB4.out.size)
            clear hb5
            go_wp2_with fail
            refine bodyPost_ret (v := .tuple #[.int .i64 0, .int .i64 0, .int .i64 2]) (by simp [results, Try.results59, go_sem]) rfl (sides_bad HBAD.out HB5.out)
      · have HAM := Lib.hid (amount_outN hin)
        rw [HAM.out.1, HAM.out.2] at HT2
        have HBAD : Hid (sidesOk l a = false) := Lib.hid (by unfold sidesOk; rw [HSD.out, decide_eq_false hin]; rfl)
        clear hin
        refine HT2.out.mono ?_
        rintro e w3 ⟨rfl, hb3⟩
        have HB3 := Lib.hid (Below.past HB2.out hb3 HB2.out.size)
        clear hb3
        go_wp2_with fail
        refine bodyPost_ret (v := .tuple #[.int .i64 0, .int .i64 0, .int .i64 2]) (by simp [results, Try.results59, go_sem]) rfl (sides_bad HBAD.out HB3.out)
end Go.Proofs.Ytfnhffcjhdeleaa

/-! ## from TwoR -/
namespace Go.Proofs.Ytfnhffcjhdeleaa
open Go.RowKit

def ApartVN (v u : Value) : Prop := ∀ k, v.ownBlock = some k → u.ownBlock ≠ some k
theorem ApartVN.symm {v u : Value} (h : ApartVN v u) : ApartVN u v := fun k h1 h2 => h k h2 h1
theorem apart_nilN (u : Value) : ApartVN (.slice none 0 0) u := fun k h => by cases h
theorem own_grownN {w w' : World} {base : Nat} {e : TypeId} {size n : Nat} {v u : Value} {xs : List Value} (h : w.ownsRow base e size u n xs) (hg : w.grownBy w' v.ownBlock) (ha : ApartVN v u) : w'.ownsRow base e size u n xs := by
  refine ⟨h.1, ?_⟩
  rcases h.2 with h0 | ⟨g, cap, cur, rfl, hb, hh, h1⟩
  · exact .inl h0
  · refine .inr ⟨g, cap, cur, rfl, hb, ?_, h1⟩
    have hlt : g < w.heap.size := by
      rcases Nat.lt_or_ge g w.heap.size with hlt | hge
      · exact hlt
      · rw [Array.getElem?_eq_none hge] at hh; cases hh
    rw [hg.block g hlt (fun e' => ha g e'.symm rfl)]; exact hh

/-- append(out, literals..), with where the new row lies. -/
theorem wpList_append_lit_atN {P : Program} {ops : Array Oper} {rest : List Oper} {o : Oper} {a : Act} {Q : Exit → Act → World → Prop} (W : World) (arr : Array Value) (hgd : o.guard = none) (s x : Operand) (t : TypeId)
    (ho : o.op = .call { callee := .builtin .append, args := #[s, x], argTypes := #[t, t] })
    (base : Nat) (e : TypeId) (i : TypeInfo) (z : Value) (size bytes : Nat) (ht : P.underlying t = some (.slice e)) (hi : P.info? e = some i) (hz : i.zero = some z)
    (hsize : i.size = size) (hby : i.bytes = bytes) (hzs : z.cells.size = size) (hsz : 0 < size)
    (v : Value) (n : Nat) (xs : List Value) (hs : a.eval s = v) (hown : W.ownsRow base e size v n xs)
    (g m c : Nat) (hx : a.eval x = .slice (some ⟨g, 0, none⟩) m c) (hg : g = W.heap.size) (hl : arr.size = m * size) (h1 : ∀ u ∈ arr.toList, u.oneCell' = true)
    (h63 : n + m ≤ 1000000) (hsz2 : bytes ≤ 1000000) (hbase : base ≤ W.heap.size)
    (h : ∀ v' w', w'.ownsRow base e size v' (n + m) (xs ++ arr.toList) → (W.alloc (.cells arr e)).grownBy w' v.ownBlock → (v'.ownBlock = v.ownBlock ∨ v'.ownBlock = some (W.heap.size + 1)) → wpList P ops Q rest (a.put o.dst v') w') : wpList P ops Q (o :: rest) a (W.alloc (.cells arr e)) := by
  subst hg
  refine wpList_append_own_at _ hgd s x t ho base e i z size bytes ht hi hz hsize hby hzs hsz v n xs hs (hown.alloc _) ⟨W.heap.size, 0, none⟩ m c arr.toList hx (by simpa using hl) ?_ h1 (by simp only [maxLen]; omega) ?_ (by simp; omega) (fun v' w' a b _ d => h v' w' a b (by simpa using d))
  · intro j u hu
    have hj : (⟨W.heap.size, 0, none⟩ : Addr).add j = ⟨W.heap.size, j, none⟩ := by
      unfold Addr.add; split
      · rename_i h0; rw [h0]
      · simp
    rw [hj, cell_of_row _ W.heap.size j arr e (0, 0) (heap_alloc_new W _)]
    simpa using hu
  · have : (n + m) * bytes ≤ 1000000 * 1000000 := Nat.mul_le_mul h63 hsz2
    omega

/-- The row that grew is apart from another that stayed. -/
theorem apart_grownN {W : World} {base n : Nat} {e : TypeId} {size : Nat} {v v' u : Value} {xs : List Value} (ha : ApartVN v u) (hu : W.ownsRow base e size u n xs) (hd : v'.ownBlock = v.ownBlock ∨ v'.ownBlock = some (W.heap.size + 1)) : ApartVN v' u := fun k h1 h2 => by
  rcases hd with hd | hd
  · exact ha k (hd ▸ h1) h2
  · have := (hu.lt k h2).2
    rw [hd] at h1
    have := Option.some.inj h1
    omega
end Go.Proofs.Ytfnhffcjhdeleaa

/-! ## from NetQ -/
namespace Go.Proofs.Ytfnhffcjhdeleaa
open Go.RowKit Go.ChangeShapes

/-! ### The document's Sides -/
def refP (l : List Leg) (a : Int) : List Int := ((l.filter (ofB a)).filter posB).map Leg.amount
def refM (l : List Leg) (a : Int) : List Int := ((l.filter (ofB a)).filter negB).map fun x => -x.amount
theorem refP_is (l : List Leg) (a : Int) : owedD l a = (refP l a).sum := by
  unfold owedD refP totL
  have : ((l.filter (ofB a)).filter posB).filter (ofB a) = (l.filter (ofB a)).filter posB := List.filter_eq_self.2 fun x hx => (List.mem_filter.1 (List.mem_filter.1 hx).1).2
  rw [this]
theorem refM_is (l : List Leg) (a : Int) : owedC l a = (refM l a).sum := by
  unfold owedC refM totL claimL
  have : (((l.filter (ofB a)).filter negB).map negL).filter (ofB a) = ((l.filter (ofB a)).filter negB).map negL := List.filter_eq_self.2 fun x hx => by
    obtain ⟨y, hy, rfl⟩ := List.mem_map.1 hx
    exact (List.mem_filter.1 (List.mem_filter.1 hy).1).2
  rw [this, List.map_map]; rfl
section
variable {l : List Leg} {a : Int} {f : Leg} {k : Nat}
theorem refP_other (hT : l.take (k + 1) = l.take k ++ [f]) (h : ofB a f = false) : refP (l.take (k + 1)) a = refP (l.take k) a := by unfold refP; rw [filt_no hT h]
theorem refM_other (hT : l.take (k + 1) = l.take k ++ [f]) (h : ofB a f = false) : refM (l.take (k + 1)) a = refM (l.take k) a := by unfold refM; rw [filt_no hT h]
theorem refP_yes (hT : l.take (k + 1) = l.take k ++ [f]) (h : ofB a f = true) (hp : posB f = true) : refP (l.take (k + 1)) a = refP (l.take k) a ++ [f.amount] := by
  unfold refP; rw [filt_yes hT h, List.filter_append, List.map_append]; simp [hp]
theorem refP_no (hT : l.take (k + 1) = l.take k ++ [f]) (h : ofB a f = true) (hp : posB f = false) : refP (l.take (k + 1)) a = refP (l.take k) a := by
  unfold refP; rw [filt_yes hT h, List.filter_append, List.map_append]; simp [hp]
theorem refM_yes (hT : l.take (k + 1) = l.take k ++ [f]) (h : ofB a f = true) (hp : negB f = true) : refM (l.take (k + 1)) a = refM (l.take k) a ++ [-f.amount] := by
  unfold refM; rw [filt_yes hT h, List.filter_append, List.map_append]; simp [hp]
theorem refM_no (hT : l.take (k + 1) = l.take k ++ [f]) (h : ofB a f = true) (hp : negB f = false) : refM (l.take (k + 1)) a = refM (l.take k) a := by
  unfold refM; rw [filt_yes hT h, List.filter_append, List.map_append]; simp [hp]
theorem refL_other (hT : l.take (k + 1) = l.take k ++ [f]) (h : ofB a f = false) (h0 : ((l.take k).filter (ofB a)).any leastB = false) : ((l.take (k + 1)).filter (ofB a)).any leastB = false := by rw [filt_no hT h]; exact h0
theorem refL_same (hT : l.take (k + 1) = l.take k ++ [f]) (h : ofB a f = true) (h0 : ((l.take k).filter (ofB a)).any leastB = false) (hf : leastB f = false) : ((l.take (k + 1)).filter (ofB a)).any leastB = false := by
  rw [filt_yes hT h, List.any_append, h0]; simp [hf]
end
theorem refP_len (l : List Leg) (a : Int) : (refP l a).length ≤ l.length := by unfold refP; rw [List.length_map]; exact Nat.le_trans (List.length_filter_le _ _) (List.length_filter_le _ _)
theorem refM_len (l : List Leg) (a : Int) : (refM l a).length ≤ l.length := by unfold refM; rw [List.length_map]; exact Nat.le_trans (List.length_filter_le _ _) (List.length_filter_le _ _)
structure SidRel (w : World) (l : List Leg) (a : Int) (k : Nat) (v7 v8 : Value) (wr : World) : Prop where
  r7 : wr.ownsRow w.heap.size 2 1 v7 (refP (l.take k) a).length ((refP (l.take k) a).flatMap i64Cells)
  r8 : wr.ownsRow w.heap.size 2 1 v8 (refM (l.take k) a).length ((refM (l.take k) a).flatMap i64Cells)
  ap : ApartVN v7 v8
  below : Below w.heap.size w wr
  least : ((l.take k).filter (ofB a)).any leastB = false

set_option maxHeartbeats 4000000 in
set_option maxRecDepth 100000 in
theorem refSides_any (A : Option Addr) (n c : Nat) (l : List Leg) (a : Int) (w : World) (hr : Rd w w.heap.size 3 A n (l.flatMap Leg.cells)) (hn : n ≤ 1000) (hg : ∀ x ∈ l, inI x.amount) :
    Calls Try.prog 60 #[.slice A n c, .int .i64 a] w (SidesPost l a w) := by
  have HL := Lib.hid (hr.len Leg.cells_len (by omega))
  obtain ⟨i0, hi0, hz0, hz1, hz2⟩ := info_parts i64InfoN
  have HG := Lib.hid hg
  clear hg
  go_enter Try.func60, Try.ntmps60
  go_wp2_with fail
  go_loopw [7, 8, 9] (fun v7 v8 i wr => ∃ k : Nat, k ≤ n ∧ i = .int .i64 k ∧ Hid (SidRel w l a k v7 v8 wr)) (fun _ _ i _ => n - (intOf i).toNat)
  case atStart => exact ⟨0, Nat.zero_le _, rfl, Lib.hid ⟨World.ownsRow_nil _ _ _ _, World.ownsRow_nil _ _ _ _, apart_nilN _, Below.refl _ _, rfl⟩⟩
  case round =>
    obtain ⟨k, hk, rfl, HR⟩ := hrel
    by_cases hlt : k < n
    · have hlz : (k : Int) < (n : Int) := by omega
      have HB := Lib.hid HR.out.below
      have hs := HB.out.size
      have hg_f : l[k]? = some (l[k]'(by have := HL.out; omega)) := List.getElem?_eq_getElem _
      obtain ⟨b_f, off_f, rfl, hbb_f, hc_f⟩ := (hr.below HB.out).elem Leg.cells_len hg_f hlt
      have HT_f := Lib.hid (show l.take (k + 1) = l.take k ++ [(l[k]'(by have := HL.out; omega))] from List.take_succ_eq_append_getElem (by have := HL.out; omega))
      have HM_f := Lib.hid (show (l[k]'(by have := HL.out; omega)) ∈ l from List.getElem_mem _)
      generalize (l[k]'(by have := HL.out; omega)) = f at *
      have c0 := hc_f 0 _ rfl
      have c1 := hc_f 1 _ rfl
      have c2 := hc_f 2 _ rfl
      clear hc_f hg_f
      simp only [Nat.add_zero] at c0
      have hin := HG.out f HM_f.out
      by_cases ha : f.asset = a
      · have q1 : (f.asset != a) = false := by simpa using ha
        have HOB := Lib.hid (show ofB a f = true from decide_eq_true ha)
        clear ha
        have h7 := HR.out.r7
        have h8 := HR.out.r8
        have l7 : (refP (l.take k) a).length ≤ 1000 := Nat.le_trans (refP_len _ _) (by rw [List.length_take]; omega)
        have l8 : (refM (l.take k) a).length ≤ 1000 := Nat.le_trans (refM_len _ _) (by rw [List.length_take]; omega)
        obtain ⟨m7, hm7⟩ : ∃ m, Hid ((refP (l.take k) a).length = m) := ⟨_, Lib.hid rfl⟩
        obtain ⟨m8, hm8⟩ : ∃ m, Hid ((refM (l.take k) a).length = m) := ⟨_, Lib.hid rfl⟩
        rw [hm7.out] at h7 l7
        rw [hm8.out] at h8 l8
        have H7 := Lib.hid h7
        have H8 := Lib.hid h8
        clear h7 h8
        by_cases hp : 0 < f.amount
        · have q2 : ¬ f.amount < 0 := by omega
          have E7 := Lib.hid (refP_yes HT_f.out HOB.out (decide_eq_true hp))
          have E8 := Lib.hid (refM_no HT_f.out HOB.out (show negB f = false from decide_eq_false q2))
          have EL := Lib.hid (refL_same HT_f.out HOB.out HR.out.least (show leastB f = false from decide_eq_false (by omega)))
          clear hin
          go_wp2_with (at_builtin; refine wpList_append_lit_atN _ _ rfl (.tmp 35) (.tmp 37) 35 rfl w.heap.size 2 i0 _ 1 8 Try.underlying35 hi0 hz0 hz1 hz2 rfl (by decide) _ _ _ rfl H7.out _ 1 1 rfl (by first | rfl | simp) rfl (by simp [Value.oneCell']) (by omega) (by omega) (by omega) ?_; intro v' w' hown' hg' hd; have HOWN := Lib.hid hown'; have HGR := Lib.hid hg'; have HDD := Lib.hid hd; clear hown' hg' hd)
          have HREL : Hid (SidRel w l a (k + 1) v' u8 w') := Lib.hid ⟨by rw [E7.out, List.length_append, hm7.out, List.flatMap_append]; exact HOWN.out, by rw [E8.out, hm8.out]; exact own_grownN (H8.out.alloc _) HGR.out HR.out.ap, apart_grownN HR.out.ap H8.out HDD.out, below_own (HB.out.alloc hs _) HGR.out H7.out (by simp; omega) (Nat.le_refl _), EL.out⟩
          go_wp2_with fail
          go_roundw
          case rel => exact ⟨k + 1, by omega, by go_num, HREL⟩
          case measure => simp [intOf]; omega
        · have E7 := Lib.hid (refP_no HT_f.out HOB.out (show posB f = false from decide_eq_false hp))
          by_cases hnn : f.amount < 0
          · by_cases hlm : f.amount = -9223372036854775808
            · have HBAD : Hid (sidesOk l a = false) := Lib.hid (by
                have : (l.filter (ofB a)).any leastB = true := List.any_eq_true.2 ⟨f, List.mem_filter.2 ⟨HM_f.out, HOB.out⟩, decide_eq_true hlm⟩
                unfold sidesOk; rw [this]; simp)
              have q3 : (f.amount == -9223372036854775808) = true := by simpa using hlm
              clear hlm hin
              go_wp2_with fail
              refine bodyPost_ret (v := .tuple #[.int .i64 0, .int .i64 0, .int .i64 2]) (by simp [results, Try.results60, go_sem]) rfl (sides_bad HBAD.out HB.out)
            · have q3 : (f.amount == -9223372036854775808) = false := by simpa using hlm
              have E8 := Lib.hid (refM_yes HT_f.out HOB.out (decide_eq_true hnn))
              have EL := Lib.hid (refL_same HT_f.out HOB.out HR.out.least (decide_eq_false hlm))
              have hwn : IntKind.i64.wrap (-f.amount) = -f.amount := IntWalk.i64_in _ (by unfold inI at hin; omega)
              clear hlm hin
              go_wp2_with (at_builtin; refine wpList_append_lit_atN _ _ rfl (.tmp 43) (.tmp 46) 35 rfl w.heap.size 2 i0 _ 1 8 Try.underlying35 hi0 hz0 hz1 hz2 rfl (by decide) _ _ _ rfl H8.out _ 1 1 rfl (by first | rfl | simp) rfl (by simp [Value.oneCell']) (by omega) (by omega) (by omega) ?_; intro v' w' hown' hg' hd; have HOWN := Lib.hid hown'; have HGR := Lib.hid hg'; have HDD := Lib.hid hd; clear hown' hg' hd)
              have HREL : Hid (SidRel w l a (k + 1) u7 v' w') := Lib.hid ⟨by rw [E7.out, hm7.out]; exact own_grownN (H7.out.alloc _) HGR.out HR.out.ap.symm, by rw [E8.out, List.length_append, hm8.out, List.flatMap_append]; exact HOWN.out, (apart_grownN HR.out.ap.symm H7.out HDD.out).symm, below_own (HB.out.alloc hs _) HGR.out H8.out (by simp; omega) (Nat.le_refl _), EL.out⟩
              clear hwn
              go_wp2_with fail
              go_roundw
              case rel => exact ⟨k + 1, by omega, by go_num, HREL⟩
              case measure => simp [intOf]; omega
          · have E8 := Lib.hid (refM_no HT_f.out HOB.out (show negB f = false from decide_eq_false hnn))
            have EL := Lib.hid (refL_same HT_f.out HOB.out HR.out.least (show leastB f = false from decide_eq_false (by omega)))
            have HREL : Hid (SidRel w l a (k + 1) u7 u8 wr) := Lib.hid ⟨by rw [E7.out, hm7.out]; exact H7.out, by rw [E8.out, hm8.out]; exact H8.out, HR.out.ap, HB.out, EL.out⟩
            clear hin
            go_wp2_with fail
            go_roundw
            case rel => exact ⟨k + 1, by omega, by go_num, HREL⟩
            case measure => simp [intOf]; omega
      · have q1 : (f.asset != a) = true := by simpa using ha
        have HOB := Lib.hid (show ofB a f = false from decide_eq_false ha)
        have HREL : Hid (SidRel w l a (k + 1) u7 u8 wr) := Lib.hid ⟨by rw [refP_other HT_f.out HOB.out]; exact HR.out.r7, by rw [refM_other HT_f.out HOB.out]; exact HR.out.r8, HR.out.ap, HB.out, refL_other HT_f.out HOB.out HR.out.least⟩
        clear ha hin
        go_wp2_with fail
        go_roundw
        case rel => exact ⟨k + 1, by omega, by go_num, HREL⟩
        case measure => simp [intOf]; omega
    · have hlz : ¬ (k : Int) < (n : Int) := by omega
      obtain rfl : n = k := by omega
      have hT : l.take n = l := List.take_of_length_le (by rw [HL.out]; exact Nat.le_refl _)
      obtain ⟨h7, h8, _, hb, hle⟩ := HR.out
      rw [hT] at h7 h8 hle
      obtain ⟨A7, c7, rfl⟩ := own_form h7
      obtain ⟨A8, c8, rfl⟩ := own_form h8
      have HB := Lib.hid hb
      have l7 : (refP l a).length ≤ 1000 := Nat.le_trans (refP_len _ _) (by rw [HL.out]; exact hn)
      have l8 : (refM l a).length ≤ 1000 := Nat.le_trans (refM_len _ _) (by rw [HL.out]; exact hn)
      have HS7 := Lib.hid (refSum_any A7 (refP l a).length c7 (refP l a) wr (Rd.of_own h7) l7 (fun x hx => by
        unfold refP at hx
        obtain ⟨y, hy, rfl⟩ := List.mem_map.1 hx
        exact HG.out y (List.mem_filter.1 (List.mem_filter.1 hy).1).1))
      have HS8 := Lib.hid (refSum_any A8 (refM l a).length c8 (refM l a) wr (Rd.of_own h8) l8 (fun x hx => by
        unfold refM at hx
        obtain ⟨y, hy, rfl⟩ := List.mem_map.1 hx
        have hy1 := (List.mem_filter.1 hy).1
        have h1 := HG.out y (List.mem_filter.1 hy1).1
        have h2 : ¬ y.amount = -9223372036854775808 := fun e => by
          have : (l.filter (ofB a)).any leastB = true := List.any_eq_true.2 ⟨y, hy1, decide_eq_true e⟩
          rw [hle] at this; cases this
        unfold inI at h1 ⊢
        omega))
      obtain ⟨S, hS⟩ : ∃ S, Hid ((refP l a).sum = S) := ⟨_, Lib.hid rfl⟩
      obtain ⟨C, hC⟩ : ∃ C, Hid ((refM l a).sum = C) := ⟨_, Lib.hid rfl⟩
      have HSD : Hid (owedD l a = S) := Lib.hid (by rw [refP_is]; exact hS.out)
      have HSC : Hid (owedC l a = C) := Lib.hid (by rw [refM_is]; exact hC.out)
      obtain ⟨m7, hm7⟩ : ∃ m, Hid ((refP l a).length = m) := ⟨_, Lib.hid rfl⟩
      obtain ⟨m8, hm8⟩ : ∃ m, Hid ((refM l a).length = m) := ⟨_, Lib.hid rfl⟩
      rw [hS.out, hm7.out] at HS7
      rw [hC.out, hm8.out] at HS8
      rw [hm7.out, hm8.out]
      have HLE := Lib.hid hle
      clear HR hT h7 h8 hb hle l7 l8
      by_cases hin : inI S
      · have A7' := Lib.hid (amount_in hin)
        rw [A7'.out.1, A7'.out.2] at HS7
        have HI := Lib.hid hin
        clear hin
        by_cases hic : inI C
        · have A8' := Lib.hid (amount_in hic)
          rw [A8'.out.1, A8'.out.2] at HS8
          have HOK : Hid (sidesOk l a = true) := Lib.hid (by unfold sidesOk; rw [HLE.out, HSD.out, HSC.out, decide_eq_true HI.out, decide_eq_true hic]; rfl)
          clear hic
          go_wp2_with fail
          refine HS7.out.mono ?_
          rintro e w2 ⟨rfl, rfl⟩
          go_wp2_with fail
          refine HS8.out.mono ?_
          rintro e w3 ⟨rfl, rfl⟩
          go_wp2_with fail
          refine bodyPost_ret (v := .tuple #[.int .i64 S, .int .i64 C, .int .i64 0]) (by simp [results, Try.results60, go_sem]) rfl (sides_good HOK.out HSD.out HSC.out HB.out)
        · have A8' := Lib.hid (amount_outN hic)
          rw [A8'.out.1, A8'.out.2] at HS8
          have HBAD : Hid (sidesOk l a = false) := Lib.hid (by unfold sidesOk; rw [HSC.out, decide_eq_false hic]; simp)
          clear hic
          go_wp2_with fail
          refine HS7.out.mono ?_
          rintro e w2 ⟨rfl, rfl⟩
          go_wp2_with fail
          refine HS8.out.mono ?_
          rintro e w3 ⟨rfl, rfl⟩
          go_wp2_with fail
          refine bodyPost_ret (v := .tuple #[.int .i64 0, .int .i64 0, .int .i64 2]) (by simp [results, Try.results60, go_sem]) rfl (sides_bad HBAD.out HB.out)
      · have A7' := Lib.hid (amount_outN hin)
        rw [A7'.out.1, A7'.out.2] at HS7
        have HBAD : Hid (sidesOk l a = false) := Lib.hid (by unfold sidesOk; rw [HSD.out, decide_eq_false hin]; rfl)
        clear hin
        go_wp2_with fail
        refine HS7.out.mono ?_
        rintro e w2 ⟨rfl, rfl⟩
        go_wp2_with fail
        refine HS8.out.mono ?_
        rintro e w3 ⟨rfl, rfl⟩
        go_wp2_with fail
        refine bodyPost_ret (v := .tuple #[.int .i64 0, .int .i64 0, .int .i64 2]) (by simp [results, Try.results60, go_sem]) rfl (sides_bad HBAD.out HB.out)
end Go.Proofs.Ytfnhffcjhdeleaa

/-! ## from NetJ -/
namespace Go.Proofs.Ytfnhffcjhdeleaa
open Go.RowKit Go.ChangeShapes

theorem netR_len (M S : Nat) (legs : List Leg) (hM : M ≤ 20) (hS : S ≤ 20) : (netR M S legs).length ≤ 500 := by
  unfold netR
  split
  · unfold netsL
    split
    · have := outL_len legs (gridS M S)
      unfold outL at this
      refine Nat.le_trans this ?_
      rw [gridS_len]
      have : M * (S + 1) ≤ 20 * 21 := Nat.mul_le_mul (by omega) (by omega)
      omega
    · simp
  · simp

set_option maxHeartbeats 2000000 in
set_option maxRecDepth 100000 in
theorem netSums_many (A1 A2 A3 : Option Addr) (n1 n2 n3 cp1 cp2 cp3 : Nat) (cf : Conf) (A : Option Addr) (n c : Nat) (w : World) (hf : ¬ (fewB n1 n2 n3 = true ∧ n ≤ 60)) :
    Calls Try.prog 9 #[.agg #[.slice A1 n1 cp1, .slice A2 n2 cp2, .slice A3 n3 cp3, .int .i64 cf.line, .int .i64 cf.capital, .int .i64 cf.lead, .int .i64 cf.trades, .int .i64 cf.bids], .slice A n c] w fun e w' => e = .returned (.bool true) ∧ Below w.heap.size w w' := by
  obtain ⟨W, hW⟩ : ∃ W, Hid (w.alloc (.cells #[.slice A1 n1 cp1, .slice A2 n2 cp2, .slice A3 n3 cp3, .int .i64 cf.line, .int .i64 cf.capital, .int .i64 cf.lead, .int .i64 cf.trades, .int .i64 cf.bids] 89) = W) := ⟨_, Lib.hid rfl⟩
  have hB0 : Below w.heap.size w W := by rw [← hW.out]; exact (Below.refl _ _).alloc (Nat.le_refl _) _
  have bc0 : Blk W w.heap.size 89 #[.slice A1 n1 cp1, .slice A2 n2 cp2, .slice A3 n3 cp3, .int .i64 cf.line, .int .i64 cf.capital, .int .i64 cf.lead, .int .i64 cf.trades, .int .i64 cf.bids] := by
    rw [← hW.out]; exact Blk.new w _ _ _ rfl
  have e0 := (bc0).cell 0
  have e1 := (bc0).cell 1
  have e2 := (bc0).cell 2
  have e3 := (bc0).cell 3
  have e4 := (bc0).cell 4
  have e5 := (bc0).cell 5
  have e6 := (bc0).cell 6
  have e7 := (bc0).cell 7
  simp at e0 e1 e2 e3 e4 e5 e6 e7
  clear bc0
  obtain ⟨v, hv⟩ : ∃ v, Hid (fewB n1 n2 n3 = v) := ⟨_, Lib.hid rfl⟩
  rw [hv.out] at hf
  have HF := Lib.hid hf
  clear hf
  go_enter Try.func9, Try.ntmps9
  go_upto_region 1 with fail
  rw [hW.out]
  go_wp2_with fail
  refine (few_any A1 A2 A3 n1 n2 n3 cp1 cp2 cp3 cf _).mono ?_
  rw [hv.out]
  rintro e w1 ⟨rfl, hb1⟩
  have HB2 := Lib.hid (Below.past hB0 hb1 hB0.size)
  clear hb1
  cases v with
  | false =>
    go_wp2_with fail
    refine (awake18 _).mono ?_
    rintro e w3 ⟨rfl, hb3⟩
    have HB4 := Lib.hid (Below.past HB2.out hb3 HB2.out.size)
    clear hb3
    go_wp2_with fail
    go_ret
    exact ⟨rfl, HB4.out⟩
  | true =>
    have q0 : (60 : Int) < (n : Int) := by
      have : ¬ n ≤ 60 := fun h => HF.out ⟨rfl, h⟩
      omega
    go_wp2_with fail
    refine (awake18 _).mono ?_
    rintro e w3 ⟨rfl, hb3⟩
    have HB4 := Lib.hid (Below.past HB2.out hb3 HB2.out.size)
    clear hb3
    go_wp2_with fail
    go_ret
    exact ⟨rfl, HB4.out⟩

set_option maxHeartbeats 4000000 in
set_option maxRecDepth 100000 in
theorem netSums_few (A1 A2 A3 : Option Addr) (n1 n2 n3 cp1 cp2 cp3 : Nat) (cf : Conf) (A : Option Addr) (n c : Nat) (legs : List Leg) (w : World) (hr : CfRd w A1 n1 A2 n2 A3 n3 cf) (hrl : Rd w w.heap.size 3 A n (legs.flatMap Leg.cells)) (hg : ∀ x ∈ legs, inI x.amount) (hf : fewB n1 n2 n3 = true) (hn : n ≤ 60) (h20 : n1 ≤ 20 ∧ n2 ≤ 20) :
    Calls Try.prog 9 #[.agg #[.slice A1 n1 cp1, .slice A2 n2 cp2, .slice A3 n3 cp3, .int .i64 cf.line, .int .i64 cf.capital, .int .i64 cf.lead, .int .i64 cf.trades, .int .i64 cf.bids], .slice A n c] w fun e w' => e = .returned (.bool true) ∧ Below w.heap.size w w' := by
  obtain ⟨hm20, hs20⟩ := h20
  have HF := Lib.hid hf
  clear hf
  obtain ⟨W, hW⟩ : ∃ W, Hid (w.alloc (.cells #[.slice A1 n1 cp1, .slice A2 n2 cp2, .slice A3 n3 cp3, .int .i64 cf.line, .int .i64 cf.capital, .int .i64 cf.lead, .int .i64 cf.trades, .int .i64 cf.bids] 89) = W) := ⟨_, Lib.hid rfl⟩
  have hB0 : Below w.heap.size w W := by rw [← hW.out]; exact (Below.refl _ _).alloc (Nat.le_refl _) _
  have bc0 : Blk W w.heap.size 89 #[.slice A1 n1 cp1, .slice A2 n2 cp2, .slice A3 n3 cp3, .int .i64 cf.line, .int .i64 cf.capital, .int .i64 cf.lead, .int .i64 cf.trades, .int .i64 cf.bids] := by
    rw [← hW.out]; exact Blk.new w _ _ _ rfl
  have HC0 := Lib.hid bc0
  have HR0 := Lib.hid (hr.past hB0)
  have HL0 := Lib.hid (hrl.past hB0)
  have e0 := (bc0).cell 0
  have e1 := (bc0).cell 1
  have e2 := (bc0).cell 2
  have e3 := (bc0).cell 3
  have e4 := (bc0).cell 4
  have e5 := (bc0).cell 5
  have e6 := (bc0).cell 6
  have e7 := (bc0).cell 7
  simp at e0 e1 e2 e3 e4 e5 e6 e7
  clear bc0 hr hrl
  have q0 : ¬ (60 : Int) < (n : Int) := by omega
  obtain ⟨K, hK⟩ : ∃ K, Hid (netK n1 n2 legs = K) := ⟨_, Lib.hid rfl⟩
  have hlen := netR_len n1 n2 legs hm20 hs20
  have q1 : (K == K) = true := by simp
  go_enter Try.func9, Try.ntmps9
  go_upto_region 1 with fail
  rw [hW.out]
  go_wp2_with fail
  refine (few_any A1 A2 A3 n1 n2 n3 cp1 cp2 cp3 cf _).mono ?_
  rw [HF.out]
  rintro e w1 ⟨rfl, hb1⟩
  have HD1 := Lib.hid hb1
  have bc1 := HC0.out.past HD1.out
  have HN := Lib.hid (nets_any A1 A2 A3 n1 n2 n3 cp1 cp2 cp3 cf A n c legs w1 (HR0.out.past HD1.out) (HL0.out.past HD1.out) (by omega) hg)
  rw [hK.out] at HN
  clear e0 e1 e2 e3 e4 e5 e6 e7 hb1
  have e0 := (bc1).cell 0
  have e1 := (bc1).cell 1
  have e2 := (bc1).cell 2
  have e3 := (bc1).cell 3
  have e4 := (bc1).cell 4
  have e5 := (bc1).cell 5
  have e6 := (bc1).cell 6
  have e7 := (bc1).cell 7
  simp at e0 e1 e2 e3 e4 e5 e6 e7
  clear bc1
  go_wp2_with fail
  refine HN.out.mono ?_
  rintro e w2 ⟨v2, rfl, ho2, hb2⟩
  obtain ⟨A2', c2, rfl⟩ := own_form ho2
  have HD2 := Lib.hid (Below.next HD1.out hb2)
  have HO2 := Lib.hid (Rd.of_own ho2)
  have bc2 := HC0.out.past HD2.out
  have HM := Lib.hid (refNets_any A1 A2 A3 n1 n2 n3 cp1 cp2 cp3 cf A n c legs w2 (HR0.out.past HD2.out) (HL0.out.past HD2.out) (by omega) hg hm20 hs20)
  rw [hK.out] at HM
  clear e0 e1 e2 e3 e4 e5 e6 e7 hb2 ho2
  have e0 := (bc2).cell 0
  have e1 := (bc2).cell 1
  have e2 := (bc2).cell 2
  have e3 := (bc2).cell 3
  have e4 := (bc2).cell 4
  have e5 := (bc2).cell 5
  have e6 := (bc2).cell 6
  have e7 := (bc2).cell 7
  simp at e0 e1 e2 e3 e4 e5 e6 e7
  clear bc2
  go_wp2_with fail
  refine HM.out.mono ?_
  rintro e w3 ⟨v3, rfl, ho3, hb3⟩
  obtain ⟨A3', c3, rfl⟩ := own_form ho3
  have HD3 := Lib.hid (Below.next HD2.out hb3)
  have HO3 := Lib.hid (Rd.of_own ho3)
  have HO2' := Lib.hid (HO2.out.past hb3)
  clear e0 e1 e2 e3 e4 e5 e6 e7 hb3 ho3
  go_wp2_with fail
  refine (awake18 _).mono ?_
  rintro e w4 ⟨rfl, hb4⟩
  have HD4 := Lib.hid (Below.next HD3.out hb4)
  have HS := Lib.hid (sameLegs A2' A3' _ c2 c3 (netR n1 n2 legs) w4 (HO2'.out.past hb4) (HO3.out.past hb4) (by omega))
  clear hb4
  go_wp2_with fail
  refine HS.out.mono ?_
  rintro e w5 ⟨rfl, hb5⟩
  have HD5 := Lib.hid (Below.next HD4.out hb5)
  clear hb5
  go_wp2_with fail
  go_ret
  exact ⟨rfl, Below.next' hB0 HD5.out (Nat.le_refl _)⟩
end Go.Proofs.Ytfnhffcjhdeleaa

/-! ## from NetK -/
namespace Go.Proofs.Ytfnhffcjhdeleaa
open Go.RowKit

/-! ### Plain law: in whatever order legs stand -/
theorem sum_perm : ∀ {l l' : List Int}, l.Perm l' → l.sum = l'.sum := by
  intro l l' h
  induction h with
  | nil => rfl
  | cons x _ ih => rw [List.sum_cons, List.sum_cons, ih]
  | swap x y l => rw [List.sum_cons, List.sum_cons, List.sum_cons, List.sum_cons]; omega
  | trans _ _ h1 h2 => exact h1.trans h2
theorem sumS_perm {l l' : List Leg} (h : l.Perm l') (s : Sid) : sumS l s = sumS l' s := sum_perm ((h.filter _).map _)
theorem firstK_iff (M S : Nat) : ∀ l : List Leg, firstK M S l = 0 ↔ ∀ x ∈ l, legK M S x = 0
  | [] => by simp [firstK]
  | y :: l => by
    rw [firstK]
    constructor
    · intro h
      split at h
      · rename_i h0
        intro x hx
        rcases List.mem_cons.1 hx with rfl | hx
        · exact h0
        · exact (firstK_iff M S l).1 h x hx
      · rename_i h0; exact absurd h h0
    · intro h
      rw [if_pos (h y (by simp))]
      exact (firstK_iff M S l).2 fun x hx => h x (by simp [hx])
theorem firstK_perm {M S : Nat} {l l' : List Leg} (h : l.Perm l') : firstK M S l = 0 ↔ firstK M S l' = 0 := by
  rw [firstK_iff, firstK_iff]
  exact ⟨fun hh x hx => hh x (h.mem_iff.2 hx), fun hh x hx => hh x (h.mem_iff.1 hx)⟩
theorem okS_perm {l l' : List Leg} (h : l.Perm l') : okS l = okS l' := by funext s; unfold okS; rw [sumS_perm h]
theorem nzS_perm {l l' : List Leg} (h : l.Perm l') : nzS l = nzS l' := by funext s; unfold nzS; rw [sumS_perm h]
theorem ofS_perm {l l' : List Leg} (h : l.Perm l') : ofS l = ofS l' := by funext s; unfold ofS; rw [sumS_perm h]
theorem net_ok {M S : Nat} {l : List Leg} (h : netK M S l = 0) : firstK M S l = 0 ∧ (gridS M S).all (okS l) = true := by
  unfold netK at h
  split at h
  · rename_i h0
    refine ⟨h0, ?_⟩
    unfold netsE at h
    split at h
    · assumption
    · cases h
  · rename_i h0; exact absurd h h0
theorem net_no {M S : Nat} {l : List Leg} (h : netK M S l ≠ 0) : netR M S l = [] := by
  unfold netR
  split
  · rename_i h0
    unfold netsL
    split
    · rename_i h1
      exact absurd (refNets_good h0 h1).1 h
    · rfl
  · rfl
theorem net_turn {M S : Nat} {l l' : List Leg} (hp : l.Perm l') (h : netK M S l = 0) : netK M S l' = 0 ∧ netR M S l' = netR M S l := by
  obtain ⟨h0, h1⟩ := net_ok h
  have h2 := refNets_good h0 h1
  have h1' := h1
  rw [okS_perm hp] at h1'
  have h3 := refNets_good ((firstK_perm hp).1 h0) h1'
  refine ⟨h3.1, ?_⟩
  rw [h2.2, h3.2]
  unfold outL
  rw [nzS_perm hp, ofS_perm hp]
theorem net_turn_no {M S : Nat} {l l' : List Leg} (hp : l.Perm l') (h : netK M S l ≠ 0) : netK M S l' ≠ 0 := fun h' => h (net_turn hp.symm h').1
theorem owedL_cons (x : Leg) (l : List Leg) (m a : Int) : owedL (x :: l) m a = if x.member = m ∧ x.asset = a then x.amount :: owedL l m a else owedL l m a := by
  unfold owedL; rw [List.filter_cons]
  by_cases h : x.member = m ∧ x.asset = a
  · rw [if_pos h, if_pos (by simp [h])]; rfl
  · rw [if_neg h, if_neg (by simpa using h)]
theorem owed_keys (legs : List Leg) : ∀ (K : List Sid), K.Nodup → ∀ s : Sid, (s ∈ K → sumS (outL legs K) s = sumS legs s) ∧ (s ∉ K → sumS (outL legs K) s = 0)
  | [], _, s => ⟨fun h => absurd h (by simp), fun _ => rfl⟩
  | t :: K, hn, s => by
    obtain ⟨h1, h2⟩ := List.nodup_cons.1 hn
    obtain ⟨i1, i2⟩ := owed_keys legs K h2 s
    have hstep : sumS (outL legs (t :: K)) s = (if t.m = s.m ∧ t.a = s.a then sumS legs t else 0) + sumS (outL legs K) s := by
      cases hz : nzS legs t with
      | true =>
        have : outL legs (t :: K) = ofS legs t :: outL legs K := by unfold outL; rw [List.filter_cons, if_pos hz, List.map_cons]
        rw [this]
        unfold sumS
        rw [owedL_cons]
        by_cases h : t.m = s.m ∧ t.a = s.a
        · rw [if_pos (show (ofS legs t).member = s.m ∧ (ofS legs t).asset = s.a from h), if_pos h, List.sum_cons]; rfl
        · rw [if_neg (show ¬ ((ofS legs t).member = s.m ∧ (ofS legs t).asset = s.a) from h), if_neg h]; omega
      | false =>
        have : outL legs (t :: K) = outL legs K := by unfold outL; rw [List.filter_cons, if_neg (by simp [hz])]
        have hz0 : sumS legs t = 0 := by simpa [nzS] using hz
        rw [this, hz0]
        split <;> omega
    constructor
    · intro hs
      rw [hstep]
      rcases List.mem_cons.1 hs with rfl | hs
      · rw [if_pos ⟨rfl, rfl⟩, i2 h1]; omega
      · have : ¬ (t.m = s.m ∧ t.a = s.a) := fun e => h1 (by rw [show t = s from Sid.same e.1 e.2]; exact hs)
        rw [if_neg this, i1 hs]; omega
    · intro hs
      have hts : ¬ (t.m = s.m ∧ t.a = s.a) := fun e => hs (by rw [show t = s from Sid.same e.1 e.2]; simp)
      rw [hstep, if_neg hts, i2 (fun h => hs (by simp [h]))]; omega
theorem gridS_nodup (M S : Nat) : (gridS M S).Nodup := (gridS_sorted M S).imp fun {s t} h e => by subst e; omega
theorem out_ok {M S : Nat} {l : List Leg} (h : netK M S l = 0) : ∀ x ∈ netR M S l, inI x.amount := by
  obtain ⟨h0, h1⟩ := net_ok h
  rw [(refNets_good h0 h1).2]
  intro x hx
  unfold outL at hx
  obtain ⟨s, hs, rfl⟩ := List.mem_map.1 hx
  exact of_decide_eq_true (List.all_eq_true.1 h1 s (List.mem_filter.1 hs).1)
theorem net_net {M S : Nat} {l : List Leg} (h : netK M S l = 0) : netK M S (netR M S l) = 0 ∧ netR M S (netR M S l) = netR M S l := by
  obtain ⟨h0, h1⟩ := net_ok h
  have h2 := (refNets_good h0 h1).2
  rw [h2]
  have hsum : ∀ s ∈ gridS M S, sumS (outL l (gridS M S)) s = sumS l s := fun s hs => (owed_keys l _ (gridS_nodup M S) s).1 hs
  have hf : firstK M S (outL l (gridS M S)) = 0 := by
    rw [firstK_iff]
    intro x hx
    unfold outL at hx
    obtain ⟨s, hs, rfl⟩ := List.mem_map.1 hx
    have hg := gridS_mem.1 (List.mem_filter.1 hs).1
    exact legK_yes (by simp only [ofS]; omega) (by simp only [ofS]; omega)
  have ha : (gridS M S).all (okS (outL l (gridS M S))) = true := by
    rw [List.all_eq_true] at h1 ⊢
    intro s hs
    have := h1 s hs
    unfold okS at this ⊢
    rw [hsum s hs]; exact this
  have h3 := refNets_good hf ha
  refine ⟨h3.1, ?_⟩
  rw [h3.2]
  have e1 : (gridS M S).filter (nzS (outL l (gridS M S))) = (gridS M S).filter (nzS l) := List.filter_congr fun s hs => by unfold nzS; rw [hsum s hs]
  show ((gridS M S).filter (nzS (outL l (gridS M S)))).map (ofS (outL l (gridS M S))) = ((gridS M S).filter (nzS l)).map (ofS l)
  rw [e1]
  refine List.map_congr_left fun s hs => ?_
  unfold ofS
  rw [hsum s (List.mem_filter.1 hs).1]
/-- Legs turned at k. -/
def turnG (l : List Leg) (k : Nat) : List Leg := (l.drop k).reverse ++ l.take k
theorem turnG_perm (l : List Leg) (k : Nat) : (turnG l k).Perm l := by
  unfold turnG
  refine ((List.reverse_perm _).append_right _).trans (List.perm_append_comm.trans ?_)
  rw [List.take_append_drop]
end Go.Proofs.Ytfnhffcjhdeleaa

/-! ## from NetT -/
namespace Go.Proofs.Ytfnhffcjhdeleaa
open Go.RowKit

/-! ### Plain law: of trades, what is owed is what is claimed -/
def posA (a : Int) : List Leg → Int
  | [] => 0
  | x :: l => (if x.asset = a ∧ 0 < x.amount then x.amount else 0) + posA a l
def negA (a : Int) : List Leg → Int
  | [] => 0
  | x :: l => (if x.asset = a ∧ x.amount < 0 then -x.amount else 0) + negA a l
def allA (a : Int) : List Leg → Int
  | [] => 0
  | x :: l => (if x.asset = a then x.amount else 0) + allA a l
def absA : List Leg → Int
  | [] => 0
  | x :: l => (if 0 ≤ x.amount then x.amount else -x.amount) + absA l
theorem posA_app (a : Int) : ∀ l r : List Leg, posA a (l ++ r) = posA a l + posA a r
  | [], r => by simp [posA]
  | x :: l, r => by rw [List.cons_append, posA, posA, posA_app a l r]; omega
theorem negA_app (a : Int) : ∀ l r : List Leg, negA a (l ++ r) = negA a l + negA a r
  | [], r => by simp [negA]
  | x :: l, r => by rw [List.cons_append, negA, negA, negA_app a l r]; omega
theorem allA_app (a : Int) : ∀ l r : List Leg, allA a (l ++ r) = allA a l + allA a r
  | [], r => by simp [allA]
  | x :: l, r => by rw [List.cons_append, allA, allA, allA_app a l r]; omega
theorem absA_app : ∀ l r : List Leg, absA (l ++ r) = absA l + absA r
  | [], r => by simp [absA]
  | x :: l, r => by rw [List.cons_append, absA, absA, absA_app l r]; omega
theorem posA_le (a : Int) : ∀ l : List Leg, 0 ≤ posA a l ∧ posA a l ≤ absA l
  | [] => by simp [posA, absA]
  | x :: l => by
    have := posA_le a l
    simp only [posA, absA]
    split <;> split <;> omega
theorem negA_le (a : Int) : ∀ l : List Leg, 0 ≤ negA a l ∧ negA a l ≤ absA l
  | [] => by simp [negA, absA]
  | x :: l => by
    have := negA_le a l
    simp only [negA, absA]
    split <;> split <;> omega
theorem all_is (a : Int) : ∀ l : List Leg, allA a l = posA a l - negA a l
  | [] => by simp [posA, negA, allA]
  | x :: l => by
    have := all_is a l
    simp only [posA, negA, allA]
    repeat' split
    all_goals omega
theorem absA_mem : ∀ {l : List Leg} {x : Leg}, x ∈ l → -absA l ≤ x.amount ∧ x.amount ≤ absA l
  | [], x, h => by cases h
  | y :: l, x, h => by
    have h0 : 0 ≤ absA l := by have := posA_le 0 l; omega
    rcases List.mem_cons.1 h with rfl | h
    · simp only [absA]; split <;> omega
    · have := absA_mem h
      simp only [absA]; split <;> omega
theorem owedD_is (a : Int) : ∀ l : List Leg, owedD l a = posA a l := by
  intro l
  rw [refP_is]
  induction l with
  | nil => rfl
  | cons x l ih =>
    unfold refP at ih ⊢
    rw [List.filter_cons]
    by_cases h1 : x.asset = a
    · rw [if_pos (show ofB a x = true by simp [ofB, h1]), List.filter_cons]
      by_cases h2 : 0 < x.amount
      · rw [if_pos (show posB x = true by simp [posB, h2]), List.map_cons, List.sum_cons, ih, posA, if_pos ⟨h1, h2⟩]
      · rw [if_neg (show ¬ posB x = true by simp [posB]; omega), ih, posA, if_neg (fun h => h2 h.2)]; omega
    · rw [if_neg (show ¬ ofB a x = true by simp [ofB, h1]), ih, posA, if_neg (fun h => h1 h.1)]; omega
theorem owedC_is (a : Int) : ∀ l : List Leg, owedC l a = negA a l := by
  intro l
  rw [refM_is]
  induction l with
  | nil => rfl
  | cons x l ih =>
    unfold refM at ih ⊢
    rw [List.filter_cons]
    by_cases h1 : x.asset = a
    · rw [if_pos (show ofB a x = true by simp [ofB, h1]), List.filter_cons]
      by_cases h2 : x.amount < 0
      · rw [if_pos (show negB x = true by simp [negB, h2]), List.map_cons, List.sum_cons, ih, negA, if_pos ⟨h1, h2⟩]
      · rw [if_neg (show ¬ negB x = true by simp [negB]; omega), ih, negA, if_neg (fun h => h2 h.2)]; omega
    · rw [if_neg (show ¬ ofB a x = true by simp [ofB, h1]), ih, negA, if_neg (fun h => h1 h.1)]; omega
theorem sumS_cons (x : Leg) (l : List Leg) (s : Sid) : sumS (x :: l) s = (if x.member = s.m ∧ x.asset = s.a then x.amount else 0) + sumS l s := by
  unfold sumS; rw [owedL_cons]; split
  · rw [List.sum_cons]
  · omega
theorem sumS_le (s : Sid) : ∀ l : List Leg, -absA l ≤ sumS l s ∧ sumS l s ≤ absA l
  | [] => by simp [sumS, owedL, absA]
  | x :: l => by
    have := sumS_le s l
    rw [sumS_cons]
    simp only [absA]
    split <;> split <;> omega

/-! ### Parted by a side -/
def isS (s : Sid) (x : Leg) : Bool := decide (x.member = s.m ∧ x.asset = s.a)
def restS (s : Sid) (l : List Leg) : List Leg := l.filter fun x => !isS s x
theorem rest_cons_t {s : Sid} {x : Leg} (l : List Leg) (h : x.member = s.m ∧ x.asset = s.a) : restS s (x :: l) = restS s l := by
  unfold restS; rw [List.filter_cons, if_neg (by simp [isS, h])]
theorem rest_cons_f {s : Sid} {x : Leg} (l : List Leg) (h : ¬ (x.member = s.m ∧ x.asset = s.a)) : restS s (x :: l) = x :: restS s l := by
  unfold restS; rw [List.filter_cons, if_pos (by simp only [isS, decide_eq_false h, Bool.not_false])]
theorem sum_rest {s t : Sid} (h : t ≠ s) : ∀ l : List Leg, sumS (restS s l) t = sumS l t
  | [] => rfl
  | x :: l => by
    by_cases hx : x.member = s.m ∧ x.asset = s.a
    · have : ¬ (x.member = t.m ∧ x.asset = t.a) := fun e => h (Sid.same (e.1.symm.trans hx.1) (e.2.symm.trans hx.2))
      rw [rest_cons_t l hx, sum_rest h l, sumS_cons, if_neg this]; omega
    · rw [rest_cons_f l hx, sumS_cons, sumS_cons, sum_rest h l]
theorem part_all (s : Sid) (a : Int) : ∀ l : List Leg, allA a l = (if s.a = a then sumS l s else 0) + allA a (restS s l)
  | [] => by simp [allA, restS, sumS, owedL]
  | x :: l => by
    have ih := part_all s a l
    rw [sumS_cons]
    by_cases hx : x.member = s.m ∧ x.asset = s.a
    · rw [rest_cons_t l hx, if_pos hx, allA, ih, hx.2]
      split <;> omega
    · rw [rest_cons_f l hx, if_neg hx, allA, allA, ih]
      split <;> split <;> omega
theorem part_pos (s : Sid) (a : Int) : ∀ l : List Leg, (if s.a = a ∧ 0 < sumS l s then sumS l s else 0) + posA a (restS s l) ≤ posA a l
  | [] => by simp [posA, restS, sumS, owedL]
  | x :: l => by
    have ih := part_pos s a l
    have h0 := (posA_le a (restS s l)).1
    rw [sumS_cons]
    by_cases hx : x.member = s.m ∧ x.asset = s.a
    · rw [rest_cons_t l hx, if_pos hx, posA, hx.2]
      by_cases ha : s.a = a
      · simp only [ha, true_and] at ih ⊢
        repeat' split
        all_goals (repeat' split at ih)
        all_goals omega
      · simp only [ha, false_and, if_false] at ih ⊢; omega
    · rw [rest_cons_f l hx, if_neg hx, posA, posA]
      have e : (0 : Int) + sumS l s = sumS l s := by omega
      rw [e]; omega
theorem part_neg (s : Sid) (a : Int) : ∀ l : List Leg, (if s.a = a ∧ sumS l s < 0 then -sumS l s else 0) + negA a (restS s l) ≤ negA a l
  | [] => by simp [negA, restS, sumS, owedL]
  | x :: l => by
    have ih := part_neg s a l
    have h0 := (negA_le a (restS s l)).1
    rw [sumS_cons]
    by_cases hx : x.member = s.m ∧ x.asset = s.a
    · rw [rest_cons_t l hx, if_pos hx, negA, hx.2]
      by_cases ha : s.a = a
      · simp only [ha, true_and] at ih ⊢
        repeat' split
        all_goals (repeat' split at ih)
        all_goals omega
      · simp only [ha, false_and, if_false] at ih ⊢; omega
    · rw [rest_cons_f l hx, if_neg hx, negA, negA]
      have e : (0 : Int) + sumS l s = sumS l s := by omega
      rw [e]; omega
theorem out_cons_t {legs : List Leg} {t : Sid} {K : List Sid} (h : ¬ sumS legs t = 0) : outL legs (t :: K) = ⟨t.m, t.a, sumS legs t⟩ :: outL legs K := by
  unfold outL; rw [List.filter_cons, if_pos (show nzS legs t = true by simp [nzS, h]), List.map_cons]; rfl
theorem out_cons_f {legs : List Leg} {t : Sid} {K : List Sid} (h : sumS legs t = 0) : outL legs (t :: K) = outL legs K := by
  unfold outL; rw [List.filter_cons, if_neg (show ¬ nzS legs t = true by simp [nzS, h])]
theorem out_rest {legs : List Leg} {t : Sid} : ∀ {K : List Sid}, t ∉ K → outL (restS t legs) K = outL legs K
  | [], _ => rfl
  | s :: K, h => by
    have hs : s ≠ t := fun e => h (by simp [e])
    have ih := out_rest (legs := legs) (t := t) (K := K) (fun e => h (by simp [e]))
    have e := sum_rest (s := t) (t := s) hs legs
    by_cases hz : sumS legs s = 0
    · rw [out_cons_f hz, out_cons_f (by rw [e]; exact hz), ih]
    · rw [out_cons_t hz, out_cons_t (by rw [e]; exact hz), ih, e]
theorem out_sums (a : Int) : ∀ (K : List Sid) (legs : List Leg), K.Nodup → (∀ x ∈ legs, (⟨x.member, x.asset⟩ : Sid) ∈ K) → allA a (outL legs K) = allA a legs ∧ posA a (outL legs K) ≤ posA a legs ∧ negA a (outL legs K) ≤ negA a legs
  | [], legs, _, h => by
    have : legs = [] := List.eq_nil_iff_forall_not_mem.2 fun x hx => by have := h x hx; simp at this
    subst this
    exact ⟨rfl, by simp [outL, posA], by simp [outL, negA]⟩
  | t :: K, legs, hn, h => by
    obtain ⟨h1, h2⟩ := List.nodup_cons.1 hn
    have hr : ∀ x ∈ restS t legs, (⟨x.member, x.asset⟩ : Sid) ∈ K := fun x hx => by
      obtain ⟨hx1, hx2⟩ := List.mem_filter.1 hx
      rcases List.mem_cons.1 (h x hx1) with e | e
      · exfalso
        have : isS t x = true := by rw [← e]; simp [isS]
        rw [this] at hx2; cases hx2
      · exact e
    obtain ⟨i1, i2, i3⟩ := out_sums a K (restS t legs) h2 hr
    rw [out_rest h1] at i1 i2 i3
    have p1 := part_all t a legs
    have p2 := part_pos t a legs
    have p3 := part_neg t a legs
    by_cases hz : sumS legs t = 0
    · rw [out_cons_f hz]
      rw [hz] at p1 p2 p3
      refine ⟨?_, ?_, ?_⟩
      · rw [i1, p1]; split <;> omega
      · have e : (if t.a = a ∧ (0 : Int) < 0 then (0 : Int) else 0) = 0 := by split <;> rfl
        rw [e] at p2; omega
      · have e : (if t.a = a ∧ (0 : Int) < 0 then (-0 : Int) else 0) = 0 := by split <;> rfl
        rw [e] at p3; omega
    · rw [out_cons_t hz, allA, posA, negA]
      simp only
      refine ⟨by rw [i1, p1], by omega, by omega⟩
theorem of_out_no {legs : List Leg} {m a : Int} : ∀ {K : List Sid}, (⟨m, a⟩ : Sid) ∉ K → ofL (outL legs K) m a = 0
  | [], _ => rfl
  | t :: K, h => by
    have ih := of_out_no (legs := legs) (m := m) (a := a) (K := K) (fun e => h (by simp [e]))
    by_cases hz : sumS legs t = 0
    · rw [out_cons_f hz, ih]
    · rw [out_cons_t hz, ofL, if_neg (fun e => h (by rw [← show t = ⟨m, a⟩ from Sid.same e.1 e.2]; simp)), ih]
theorem of_out {legs : List Leg} {m a : Int} : ∀ {K : List Sid}, K.Nodup → (⟨m, a⟩ : Sid) ∈ K → ofL (outL legs K) m a = sumS legs ⟨m, a⟩
  | [], _, h => by cases h
  | t :: K, hn, h => by
    obtain ⟨h1, h2⟩ := List.nodup_cons.1 hn
    rcases List.mem_cons.1 h with e | e
    · by_cases hz : sumS legs t = 0
      · rw [out_cons_f hz, of_out_no (by rw [e]; exact h1), e, hz]
      · rw [out_cons_t hz, ofL, if_pos ⟨by rw [← e], by rw [← e]⟩, e]
    · have hne : ¬ (t.m = m ∧ t.a = a) := fun e' => h1 (by rw [show t = ⟨m, a⟩ from Sid.same e'.1 e'.2]; exact e)
      by_cases hz : sumS legs t = 0
      · rw [out_cons_f hz, of_out h2 e]
      · rw [out_cons_t hz, ofL, if_neg hne, of_out h2 e]

/-! ### Trades that are accepted -/
structure OkT (M S : Nat) (t : Trad) : Prop where
  b1 : 1 ≤ t.buyer
  b2 : t.buyer ≤ M
  s1 : 1 ≤ t.seller
  s2 : t.seller ≤ M
  c1 : 1 ≤ t.sec
  c2 : t.sec ≤ S
  q : 0 < t.qty
  p : 0 < t.price
def valT (ts : List Trad) : Int := (ts.map fun t => t.qty * t.price).sum
structure AccT (M S : Nat) (ts : List Trad) : Prop where
  ok : ∀ t ∈ ts, OkT M S t
  top : valT ts ≤ 288230376151711744
def legsA (ts : List Trad) : List Leg := ts.flatMap legsOf
theorem OkT.le {M S : Nat} {t : Trad} (h : OkT M S t) : t.qty ≤ t.qty * t.price := by
  have h1 := Int.mul_le_mul_of_nonneg_left (show 1 ≤ t.price from h.p) (show 0 ≤ t.qty from Int.le_of_lt h.q)
  omega
theorem abs_legs {M S : Nat} : ∀ {ts : List Trad}, (∀ t ∈ ts, OkT M S t) → absA (legsA ts) ≤ 4 * valT ts ∧ 0 ≤ valT ts
  | [], _ => by simp [legsA, absA, valT]
  | t :: ts, h => by
    have ih := abs_legs (ts := ts) fun x hx => h x (by simp [hx])
    have h1 := h t (by simp)
    have h2 := h1.le
    have hq := h1.q
    have e : legsA (t :: ts) = legsOf t ++ legsA ts := rfl
    have e2 : valT (t :: ts) = t.qty * t.price + valT ts := by simp [valT]
    have e3 : absA (legsOf t) = 2 * (t.qty * t.price) + 2 * t.qty := by
      simp only [legsOf, absA]
      repeat' split
      all_goals omega
    rw [e, absA_app, e2, e3]
    omega
theorem all_legs {M S : Nat} (a : Int) : ∀ {ts : List Trad}, (∀ t ∈ ts, OkT M S t) → allA a (legsA ts) = 0
  | [], _ => rfl
  | t :: ts, h => by
    have ih := all_legs a (ts := ts) fun x hx => h x (by simp [hx])
    have e : legsA (t :: ts) = legsOf t ++ legsA ts := rfl
    rw [e, allA_app, ih]
    simp only [legsOf, allA]
    repeat' split
    all_goals omega
theorem legs_mem {M S : Nat} {ts : List Trad} (h : ∀ t ∈ ts, OkT M S t) : ∀ x ∈ legsA ts, legK M S x = 0 := fun x hx => by
  obtain ⟨t, ht, hx⟩ := List.mem_flatMap.1 hx
  have z := h t ht
  have := z.b1; have := z.b2; have := z.s1; have := z.s2; have := z.c1; have := z.c2
  refine legK_yes ?_ ?_
  all_goals
    simp only [legsOf, List.mem_cons, List.not_mem_nil, or_false] at hx
    rcases hx with rfl | rfl | rfl | rfl
    all_goals simp only; omega
section
variable {M S : Nat} {ts : List Trad} (h : AccT M S ts)
include h
theorem AccT.abs : absA (legsA ts) ≤ 1152921504606846976 := by have := (abs_legs h.ok).1; have := h.top; omega
theorem AccT.inn : ∀ x ∈ legsA ts, inI x.amount := fun x hx => by
  have := absA_mem hx; have := h.abs; unfold inI; omega
theorem AccT.net : netK M S (legsA ts) = 0 ∧ netR M S (legsA ts) = outL (legsA ts) (gridS M S) := by
  have hf := (firstK_iff M S (legsA ts)).2 (legs_mem h.ok)
  refine refNets_good hf (List.all_eq_true.2 fun s _ => ?_)
  have := sumS_le s (legsA ts); have := h.abs
  exact decide_eq_true (by unfold inI; omega)
theorem AccT.cover : ∀ x ∈ legsA ts, (⟨x.member, x.asset⟩ : Sid) ∈ gridS M S := fun x hx => legK_ok (legs_mem h.ok x hx)
theorem AccT.sums (a : Int) : allA a (outL (legsA ts) (gridS M S)) = allA a (legsA ts) ∧ posA a (outL (legsA ts) (gridS M S)) ≤ posA a (legsA ts) ∧ negA a (outL (legsA ts) (gridS M S)) ≤ negA a (legsA ts) := out_sums a (gridS M S) (legsA ts) (gridS_nodup M S) h.cover
theorem AccT.netabs : ∀ x ∈ outL (legsA ts) (gridS M S), -1152921504606846976 ≤ x.amount ∧ x.amount ≤ 1152921504606846976 := fun x hx => by
  unfold outL at hx
  obtain ⟨s, _, rfl⟩ := List.mem_map.1 hx
  have := sumS_le s (legsA ts); have := h.abs
  simp only [ofS]; omega
theorem AccT.netin : ∀ x ∈ outL (legsA ts) (gridS M S), inI x.amount := fun x hx => by
  have := h.netabs x hx; unfold inI; omega
theorem AccT.sides (a : Int) : sidesOk (legsA ts) a = true := by
  have h1 := posA_le a (legsA ts); have h2 := negA_le a (legsA ts); have h3 := h.abs
  unfold sidesOk
  rw [owedD_is, owedC_is, decide_eq_true (by unfold inI; omega), decide_eq_true (by unfold inI; omega)]
  have : ((legsA ts).filter (ofB a)).any leastB = false := List.any_eq_false.2 fun x hx => by
    have := absA_mem (List.mem_filter.1 hx).1
    simp only [leastB, decide_eq_true_eq]; omega
  rw [this]; rfl
theorem AccT.netsides (a : Int) : sidesOk (outL (legsA ts) (gridS M S)) a = true := by
  obtain ⟨_, h4, h5⟩ := h.sums a
  have h1 := posA_le a (legsA ts); have h2 := negA_le a (legsA ts); have h3 := h.abs
  have h6 := (posA_le a (outL (legsA ts) (gridS M S))).1; have h7 := (negA_le a (outL (legsA ts) (gridS M S))).1
  unfold sidesOk
  rw [owedD_is, owedC_is, decide_eq_true (by unfold inI; omega), decide_eq_true (by unfold inI; omega)]
  have : ((outL (legsA ts) (gridS M S)).filter (ofB a)).any leastB = false := List.any_eq_false.2 fun x hx => by
    have := h.netabs x (List.mem_filter.1 hx).1
    simp only [leastB, decide_eq_true_eq]; omega
  rw [this]; rfl
theorem AccT.even (a : Int) : owedD (outL (legsA ts) (gridS M S)) a = owedC (outL (legsA ts) (gridS M S)) a := by
  obtain ⟨h1, _, _⟩ := h.sums a
  rw [all_legs a h.ok, all_is] at h1
  rw [owedD_is, owedC_is]; omega
theorem AccT.saved (a : Int) : 0 ≤ owedD (legsA ts) a - owedD (outL (legsA ts) (gridS M S)) a ∧ owedD (legsA ts) a - owedD (outL (legsA ts) (gridS M S)) a ≤ 1152921504606846976 := by
  obtain ⟨_, h1, _⟩ := h.sums a
  have h2 := posA_le a (legsA ts); have h3 := h.abs
  have h6 := (posA_le a (outL (legsA ts) (gridS M S))).1
  rw [owedD_is, owedD_is]; omega
theorem AccT.of {m a : Int} (h1 : 1 ≤ m) (h2 : m ≤ M) (h3 : 0 ≤ a) (h4 : a ≤ S) : ofL (outL (legsA ts) (gridS M S)) m a = (owedL (legsA ts) m a).sum ∧ inI (owedL (legsA ts) m a).sum := by
  refine ⟨of_out (gridS_nodup M S) (gridS_mem.2 ⟨h1, h2, h3, h4⟩), ?_⟩
  have h5 := sumS_le ⟨m, a⟩ (legsA ts); have h6 := h.abs
  unfold sumS at h5
  simp only at h5
  unfold inI
  omega
end
end Go.Proofs.Ytfnhffcjhdeleaa
