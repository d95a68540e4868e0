import Derived.Test.YtfnhffcjhdeleaaNetI
namespace Go.Proofs.Ytfnhffcjhdeleaa
open Go.RowKit Go.ChangeShapes

/-! ### What is owed, and what is claimed: plain words -/
def posB (x : Leg) : Bool := decide (0 < x.amount)
def negB (x : Leg) : Bool := decide (x.amount < 0)
def ofB (a : Int) (x : Leg) : Bool := decide (x.asset = a)
def leastB (x : Leg) : Bool := decide (x.amount = -9223372036854775808)
def negL (x : Leg) : Leg := ⟨x.member, x.asset, -x.amount⟩
def claimL (l : List Leg) : List Leg := (l.filter negB).map negL
def totL (l : List Leg) (a : Int) : List Int := (l.filter (ofB a)).map Leg.amount
theorem filt_yes {l : List Leg} {p : Leg → Bool} {f : Leg} {k : Nat} (hT : l.take (k + 1) = l.take k ++ [f]) (he : p f = true) : (l.take (k + 1)).filter p = (l.take k).filter p ++ [f] := by
  rw [hT, List.filter_append]; simp [he]
theorem filt_no {l : List Leg} {p : Leg → Bool} {f : Leg} {k : Nat} (hT : l.take (k + 1) = l.take k ++ [f]) (he : p f = false) : (l.take (k + 1)).filter p = (l.take k).filter p := by
  rw [hT, List.filter_append]; simp [he]
theorem filt_len (l : List Leg) (p : Leg → Bool) (k n : Nat) (h : k ≤ n) : ((l.take k).filter p).length ≤ n := Nat.le_trans (List.length_filter_le _ _) (by rw [List.length_take]; omega)

set_option maxHeartbeats 2000000 in
set_option maxRecDepth 10000 in
theorem netDebts_any (A : Option Addr) (n c : Nat) (l : List Leg) (w : World) (hr : Rd w w.heap.size 3 A n (l.flatMap Leg.cells)) (hn : n ≤ 1000) :
    Calls Try.prog 62 #[.slice A n c] w fun e w' => ∃ v, e = .returned v ∧ w'.ownsRow w.heap.size 97 3 v (l.filter posB).length ((l.filter posB).flatMap Leg.cells) ∧ Below w.heap.size w w' := by
  have HL := Lib.hid (hr.len Leg.cells_len (by omega))
  obtain ⟨j0, hj0, jz0, jz1, jz2⟩ := info_parts legInfoN
  go_enter Try.func62, Try.ntmps62
  go_wp2_with fail
  go_loopw [3, 8] (fun v i wr => ∃ k : Nat, k ≤ n ∧ i = .int .i64 k ∧ Hid (wr.ownsRow w.heap.size 97 3 v ((l.take k).filter posB).length (((l.take k).filter posB).flatMap Leg.cells)) ∧ Hid (Below w.heap.size w wr)) (fun _ i _ => n - (intOf i).toNat)
  case atStart => exact ⟨0, Nat.zero_le _, rfl, Lib.hid (World.ownsRow_nil _ _ _ _), Lib.hid (Below.refl _ _)⟩
  case round =>
    obtain ⟨k, hk, rfl, HR, HB⟩ := hrel
    have hs := HB.out.size
    by_cases hlt : k < n
    · have hlz : (k : Int) < (n : Int) := by omega
      have hg_f : l[k]? = some (l[k]'(by have := HL.out; omega)) := List.getElem?_eq_getElem _
      obtain ⟨b_f, off_f, rfl, hbb_f, hc_f⟩ := (hr.below HB.out).elem Leg.cells_len hg_f hlt
      have HT_f := Lib.hid (show l.take (k + 1) = l.take k ++ [(l[k]'(by have := HL.out; omega))] from List.take_succ_eq_append_getElem (by have := HL.out; omega))
      have HM_f := Lib.hid (show (l[k]'(by have := HL.out; omega)) ∈ l from List.getElem_mem _)
      generalize (l[k]'(by have := HL.out; omega)) = f at *
      have c0 := hc_f 0 _ rfl
      have c1 := hc_f 1 _ rfl
      have c2 := hc_f 2 _ rfl
      clear hc_f hg_f
      simp only [Nat.add_zero] at c0
      have hbo := (Below.refl wr.heap.size wr).alloc (Nat.le_refl _) (.cells #[.int .i64 f.member, .int .i64 f.asset, .int .i64 f.amount] 97)
      have HB1 := Lib.hid (Below.past HB.out hbo hs)
      have HR1 := Lib.hid (own_past' HR.out hbo)
      have hfl := filt_len l posB k 1000 (by omega)
      obtain ⟨m, hm⟩ : ∃ m, Hid (((l.take k).filter posB).length = m) := ⟨_, Lib.hid rfl⟩
      rw [hm.out] at HR1 hfl
      by_cases h1 : 0 < f.amount
      · have HF := Lib.hid (filt_yes HT_f.out (show posB f = true from decide_eq_true h1))
        have bX := Blk.new wr 97 #[.int .i64 f.member, .int .i64 f.asset, .int .i64 f.amount] wr.heap.size rfl
        obtain ⟨W1, hW1⟩ : ∃ W, Hid (wr.alloc (.cells #[.int .i64 f.member, .int .i64 f.asset, .int .i64 f.amount] 97) = W) := ⟨_, Lib.hid rfl⟩
        rw [hW1.out] at HB1 HR1 bX
        have hs1 := HB1.out.size
        go_upto_region 5 with fail
        rw [hW1.out]
        have x0 := (bX).cell 0
        have x1 := (bX).cell 1
        have x2 := (bX).cell 2
        simp at x0 x1 x2
        clear bX hbo HR
        go_wp2_with (at_builtin; refine wpList_append_lit _ _ rfl (.tmp 15) (.tmp 17) 90 rfl w.heap.size 97 j0 _ 3 24 Try.underlying90 hj0 jz0 jz1 jz2 rfl (by decide) _ _ _ rfl HR1.out _ 1 1 rfl (by first | rfl | simp) rfl (by simp [Value.oneCell']) (by omega) (by omega) (by omega) ?_; intro v' w' hown' hg'; have HOWN := Lib.hid hown'; have HBW := Lib.hid (below_own (HB1.out.alloc hs1 _) hg' HR1.out (by simp; omega) (Nat.le_refl _)); clear hown' hg')
        go_roundw
        case rel => exact ⟨k + 1, by omega, by go_num, Lib.hid (by rw [HF.out, List.length_append, hm.out, List.flatMap_append]; exact HOWN.out), HBW⟩
        case measure => simp [intOf]; omega
      · have HF := Lib.hid (filt_no HT_f.out (show posB f = false from decide_eq_false h1))
        clear hbo HR
        go_wp2_with fail
        go_roundw
        case rel => exact ⟨k + 1, by omega, by go_num, Lib.hid (by rw [HF.out, hm.out]; exact HR1.out), HB1⟩
        case measure => simp [intOf]; omega
    · have hlz : ¬ (k : Int) < (n : Int) := by omega
      obtain rfl : n = k := by omega
      have hT : l.take n = l := List.take_of_length_le (by rw [HL.out]; exact Nat.le_refl _)
      have hro := HR.out
      rw [hT] at hro
      clear HR hT
      go_wp2_with fail
      go_ret
      exact ⟨_, rfl, hro, HB.out⟩

set_option maxHeartbeats 2000000 in
set_option maxRecDepth 10000 in
theorem netTotal_any (A : Option Addr) (n c : Nat) (l : List Leg) (a : Int) (w : World) (hr : Rd w w.heap.size 3 A n (l.flatMap Leg.cells)) (hn : n ≤ 1000) (hg : ∀ x ∈ l, inI x.amount) :
    Calls Try.prog 101 #[.slice A n c, .int .i64 a] w fun e w' => e = .returned (.tuple #[.int .i64 (amount (totL l a).sum), .int .i64 (over (totL l a).sum)]) ∧ Below w.heap.size w w' := by
  have HL := Lib.hid (hr.len Leg.cells_len (by omega))
  obtain ⟨i0, hi0, hz0, hz1, hz2⟩ := info_parts i64InfoN
  have HG := Lib.hid hg
  clear hg
  obtain ⟨S, hS⟩ : ∃ S, Hid ((totL l a).sum = S) := ⟨_, Lib.hid rfl⟩
  rw [hS.out]
  go_enter Try.func101, Try.ntmps101
  go_wp2_with fail
  go_loopw [6, 11] (fun v i wr => ∃ k : Nat, k ≤ n ∧ i = .int .i64 k ∧ Hid (wr.ownsRow w.heap.size 2 1 v ((l.take k).filter (ofB a)).length ((((l.take k).filter (ofB a)).map Leg.amount).flatMap i64Cells)) ∧ Hid (Below w.heap.size w wr)) (fun _ i _ => n - (intOf i).toNat)
  case atStart => exact ⟨0, Nat.zero_le _, rfl, Lib.hid (World.ownsRow_nil _ _ _ _), Lib.hid (Below.refl _ _)⟩
  case round =>
    obtain ⟨k, hk, rfl, HR, HB⟩ := hrel
    have hs := HB.out.size
    by_cases hlt : k < n
    · have hlz : (k : Int) < (n : Int) := by omega
      have hg_f : l[k]? = some (l[k]'(by have := HL.out; omega)) := List.getElem?_eq_getElem _
      obtain ⟨b_f, off_f, rfl, hbb_f, hc_f⟩ := (hr.below HB.out).elem Leg.cells_len hg_f hlt
      have HT_f := Lib.hid (show l.take (k + 1) = l.take k ++ [(l[k]'(by have := HL.out; omega))] from List.take_succ_eq_append_getElem (by have := HL.out; omega))
      have HM_f := Lib.hid (show (l[k]'(by have := HL.out; omega)) ∈ l from List.getElem_mem _)
      generalize (l[k]'(by have := HL.out; omega)) = f at *
      have c0 := hc_f 0 _ rfl
      have c1 := hc_f 1 _ rfl
      have c2 := hc_f 2 _ rfl
      clear hc_f hg_f
      simp only [Nat.add_zero] at c0
      have hbo := (Below.refl wr.heap.size wr).alloc (Nat.le_refl _) (.cells #[.int .i64 f.member, .int .i64 f.asset, .int .i64 f.amount] 97)
      have HB1 := Lib.hid (Below.past HB.out hbo hs)
      have HR1 := Lib.hid (own_past' HR.out hbo)
      have hfl := filt_len l (ofB a) k 1000 (by omega)
      obtain ⟨m, hm⟩ : ∃ m, Hid (((l.take k).filter (ofB a)).length = m) := ⟨_, Lib.hid rfl⟩
      rw [hm.out] at HR1 hfl
      by_cases h1 : f.asset = a
      · have q1 : (f.asset == a) = true := by simpa using h1
        have HF := Lib.hid (filt_yes (p := ofB a) HT_f.out (show ofB a f = true from decide_eq_true h1))
        have bX := Blk.new wr 97 #[.int .i64 f.member, .int .i64 f.asset, .int .i64 f.amount] wr.heap.size rfl
        obtain ⟨W1, hW1⟩ : ∃ W, Hid (wr.alloc (.cells #[.int .i64 f.member, .int .i64 f.asset, .int .i64 f.amount] 97) = W) := ⟨_, Lib.hid rfl⟩
        rw [hW1.out] at HB1 HR1 bX
        have hs1 := HB1.out.size
        clear h1
        go_upto_region 5 with fail
        rw [hW1.out]
        have x0 := (bX).cell 0
        have x1 := (bX).cell 1
        have x2 := (bX).cell 2
        simp at x0 x1 x2
        clear bX hbo HR
        go_wp2_with (at_builtin; refine wpList_append_lit _ _ rfl (.tmp 19) (.tmp 22) 35 rfl w.heap.size 2 i0 _ 1 8 Try.underlying35 hi0 hz0 hz1 hz2 rfl (by decide) _ _ _ rfl HR1.out _ 1 1 rfl (by first | rfl | simp) rfl (by simp [Value.oneCell']) (by omega) (by omega) (by omega) ?_; intro v' w' hown' hg'; have HOWN := Lib.hid hown'; have HBW := Lib.hid (below_own (HB1.out.alloc hs1 _) hg' HR1.out (by simp; omega) (Nat.le_refl _)); clear hown' hg')
        go_roundw
        case rel => exact ⟨k + 1, by omega, by go_num, Lib.hid (by rw [HF.out, List.length_append, hm.out, List.map_append, List.flatMap_append]; exact HOWN.out), HBW⟩
        case measure => simp [intOf]; omega
      · have q1 : (f.asset == a) = false := by simpa using h1
        have HF := Lib.hid (filt_no (p := ofB a) HT_f.out (show ofB a f = false from decide_eq_false h1))
        clear hbo HR h1
        go_wp2_with fail
        go_roundw
        case rel => exact ⟨k + 1, by omega, by go_num, Lib.hid (by rw [HF.out, hm.out]; exact HR1.out), HB1⟩
        case measure => simp [intOf]; omega
    · have hlz : ¬ (k : Int) < (n : Int) := by omega
      obtain rfl : n = k := by omega
      have hT : l.take n = l := List.take_of_length_le (by rw [HL.out]; exact Nat.le_refl _)
      have hro := HR.out
      rw [hT] at hro
      obtain ⟨Av, cv, rfl⟩ := own_form hro
      have hml : (l.filter (ofB a)).length ≤ 1000 := Nat.le_trans (List.length_filter_le _ _) (by rw [HL.out]; exact hn)
      have HS := Lib.hid (sum_any Av (l.filter (ofB a)).length cv (totL l a) wr (Rd.of_own hro) hml (fun x hx => by
        unfold totL at hx
        obtain ⟨y, hy, rfl⟩ := List.mem_map.1 hx
        exact HG.out y (List.mem_filter.1 hy).1))
      obtain ⟨m, hm⟩ : ∃ m, Hid ((l.filter (ofB a)).length = m) := ⟨_, Lib.hid rfl⟩
      rw [hm.out, hS.out] at HS
      rw [hm.out]
      clear HR hT hro hml
      go_wp2_with fail
      refine HS.out.mono ?_
      rintro e w2 ⟨rfl, hb2⟩
      have HB2 := Lib.hid (Below.past HB.out hb2 hs)
      clear hb2
      go_wp2_with fail
      go_ret2
      exact ⟨rfl, HB2.out⟩
end Go.Proofs.Ytfnhffcjhdeleaa
