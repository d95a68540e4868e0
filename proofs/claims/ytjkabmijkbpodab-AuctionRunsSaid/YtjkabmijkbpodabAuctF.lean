import Derived.Test.YtjkabmijkbpodabAuctE
namespace Go.Proofs.Ytjkabmijkbpodab
open Go.RowKit

theorem i64i : (Try.prog.info? 2).map (fun i => (i.zero, i.size, i.bytes)) = some (some (.int .i64 0), 1, 8) := by kernel_rfl

/-- A row of the call's own, over another call. -/
theorem own_past {w w' : World} {base : Nat} {e : TypeId} {size : Nat} {v : Value} {n : Nat} {xs : List Value} (h : w.ownsRow base e size v n xs) (hb : Below w.heap.size w w') : w'.ownsRow base e size v n xs := by
  refine ⟨h.1, ?_⟩
  rcases h.2 with h0 | ⟨g, cap, cur, rfl, hg, hh, h1⟩
  · exact .inl h0
  · refine .inr ⟨g, cap, cur, rfl, hg, ?_, h1⟩
    have hlt : g < w.heap.size := by
      rcases Nat.lt_or_ge g w.heap.size with hlt | hge
      · exact hlt
      · rw [Array.getElem?_eq_none hge] at hh; cases hh
    rw [hb.block g hlt]; exact hh

/-- What holds at the head of each round of what it would cost. -/
def WorstRel (w : World) (bs : List Bid) (n : Nat) (l : Int) (sl so si : Value) (wr : World) : Prop :=
  ∃ (k : Nat) (lk : Int) (acc : List Int), k ≤ n ∧ si = .int .i64 k ∧ sl = .int .i64 lk ∧ 0 ≤ lk ∧ lk ≤ l ∧ acc.length = k ∧ (∀ x ∈ acc, inI x) ∧
    wcosts bs l = acc ++ wcosts (bs.drop k) lk ∧ wr.ownsRow w.heap.size 2 1 so acc.length (acc.flatMap i64Cells) ∧ Below w.heap.size w wr

set_option maxRecDepth 100000 in
set_option maxHeartbeats 2000000 in
theorem worst_any (A : Option Addr) (n c : Nat) (bs : List Bid) (l : Int) (w : World) (hr : Rd w w.heap.size 5 A n (bs.flatMap Bid.cells)) (hn : n ≤ 1000) (hl : 0 ≤ l) (hl' : l ≤ 9223372036854775807) (hg : bs.any Bid.bad = false) (hp : ∀ b ∈ bs, inI b.price) :
    Calls Try.prog 13 #[.slice A n c, .int .i64 l] w fun e w' => e = .returned (.tuple #[.int .i64 (worstN bs l), .int .i64 (worstE bs l)]) ∧ Below w.heap.size w w' := by
  have HL := Lib.hid (hr.len Bid.cells_len (by omega))
  have HG := Lib.hid hg
  have HP := Lib.hid hp
  have HC := Lib.hid (show checkA bs l 0 = 0 by unfold checkA; rw [if_neg (by have := HL.out; omega), if_neg (by simp [hg]; omega)])
  obtain ⟨i0, hi0, hz0, hz1, hz2⟩ := info_parts i64i
  clear hg hp
  go_enter Try.func13, Try.ntmps13
  go_wp2_with fail
  refine (check_any A n c bs l 0 _ hr (by omega)).mono ?_
  rw [HC.out]
  rintro e w1 ⟨rfl, hb1⟩
  go_wp2_with fail
  go_loopw [1, 7, 21] (WorstRel w bs n l) (fun _ _ i _ => n - (intOf i).toNat)
  case atStart => exact ⟨0, l, [], Nat.zero_le _, rfl, rfl, hl, Int.le_refl _, rfl, by simp, rfl, World.ownsRow_nil _ _ _ _, hb1⟩
  case round =>
    obtain ⟨k, lk, acc, hk, rfl, rfl, hl0, hl1, hacc, hok, hw, hown, hb⟩ := hrel
    have HW := Lib.hid hw
    have HA := Lib.hid hacc
    have HOK := Lib.hid hok
    clear hw hacc hok
    have hal : acc.length ≤ k := by rw [HA.out]; omega
    have hs := hb.size
    by_cases hlt : k < n
    · have hg_f : bs[k]? = some (bs[k]'(by have := HL.out; omega)) := List.getElem?_eq_getElem _
      obtain ⟨b_f, off_f, rfl, hbb_f, hc_f⟩ := (hr.below hb).elem Bid.cells_len hg_f hlt
      have HT_f := Lib.hid (show bs.take (k + 1) = bs.take k ++ [(bs[k]'(by have := HL.out; omega))] from List.take_succ_eq_append_getElem (by have := HL.out; omega))
      have HD_f := Lib.hid (show bs.drop k = (bs[k]'(by have := HL.out; omega)) :: bs.drop (k + 1) from List.drop_eq_getElem_cons (by have := HL.out; omega))
      have HM_f := Lib.hid (show (bs[k]'(by have := HL.out; omega)) ∈ bs from List.getElem_mem _)
      generalize (bs[k]'(by have := HL.out; omega)) = f at *
      have c0 := hc_f 0 _ rfl
      have c1 := hc_f 1 _ rfl
      have c2 := hc_f 2 _ rfl
      have c3 := hc_f 3 _ rfl
      have c4 := hc_f 4 _ rfl
      clear hc_f hg_f
      simp only [Nat.add_zero] at c0
      have hgood : f.bad = false := by have := List.any_eq_false.1 HG.out f HM_f.out; simpa using this
      have hpf := HP.out f HM_f.out
      have ht := wN_bd f lk hgood hl0
      have hq : 1 ≤ f.qty ∧ 1 ≤ f.price := by simp [Bid.bad] at hgood; omega
      obtain ⟨hq1, hq2⟩ := hq
      clear hgood
      have HS := Lib.hid (show wcosts (bs.drop k) lk = wN f lk * f.price :: wcosts (bs.drop (k + 1)) (lk - wN f lk) by rw [HD_f.out, wcosts])
      have HWN : Hid (wN f lk = if lk < f.qty then lk else f.qty) := rfl
      obtain ⟨x, hx⟩ : ∃ x, Hid (wN f lk = x) := ⟨_, rfl⟩
      rw [hx.out] at ht HS HWN
      obtain ⟨t0, t1, t2⟩ := ht
      have hxI : inI x := ⟨by omega, by omega⟩
      by_cases hlq : lk < f.qty
      all_goals
        have hxe : Hid (x = if lk < f.qty then lk else f.qty) := HWN.out.symm ▸ rfl
        first | rw [if_pos hlq] at hxe | rw [if_neg hlq] at hxe
        by_cases hin : inI (x * f.price)
        · have A1 := Lib.hid (amount_in hin)
          have HN1 : Hid (wcosts bs l = (acc ++ [x * f.price]) ++ wcosts (bs.drop (k + 1)) (lk - x)) := by rw [HW.out, HS.out]; show _ = _; simp
          have HN2 : Hid (∀ y ∈ acc ++ [x * f.price], inI y) := by
            intro y hy
            rcases List.mem_append.1 hy with hy | hy
            · exact HOK.out y hy
            · rw [List.mem_singleton.1 hy]; exact hin
          clear hin
          obtain ⟨z, hz⟩ : ∃ z, Hid (x * f.price = z) := ⟨_, rfl⟩
          rw [hz.out] at A1 HN1 HN2
          have hx2 := hxe.out
          subst hx2
          go_wp2_with fail
          refine (mul_any _ _ hxI hpf _).mono ?_
          rw [hz.out, A1.out.1, A1.out.2]
          rintro e w2 ⟨rfl, rfl⟩
          have hown2 := hown.alloc (.cells #[.int .i64 f.seq, .int .i64 f.member, .int .i64 f.sec, .int .i64 f.qty, .int .i64 f.price] 34)
          have hB2 := hb.alloc hs (.cells #[.int .i64 f.seq, .int .i64 f.member, .int .i64 f.sec, .int .i64 f.qty, .int .i64 f.price] 34)
          have hs2 := hB2.size
          go_wp2_with (at_builtin; refine wpList_append_lit _ _ rfl (.tmp 42) (.tmp 44) 31 rfl w.heap.size 2 i0 _ 1 8 Try.underlying31 hi0 hz0 hz1 hz2 rfl (by decide) _ _ _ rfl hown2 _ 1 1 rfl (by first | rfl | simp) rfl (by simp [Value.oneCell']) (by omega) (by omega) (by omega) ?_; intro v' w' hown' hg')
          go_roundw
          case rel => exact ⟨k + 1, _, acc ++ [z], by omega, by go_num, rfl, by omega, by omega, by simp [HA.out], HN2.out, (by first | exact HN1.out | (have h := HN1.out; rw [Int.sub_self] at h; exact h)), by simpa [i64Cells] using hown', below_own (hB2.alloc hs2 _) hg' hown2 (by simp; omega) (Nat.le_refl _)⟩
          case measure => simp [intOf]; omega
        · have A1 := Lib.hid (amount_out hin)
          have HNO : Hid (allIn (wcosts bs l) = false) := by
            show _ = _
            rw [HW.out, HS.out, allIn, List.all_eq_false]
            exact ⟨x * f.price, by simp, by simpa using hin⟩
          clear hin
          obtain ⟨z, hz⟩ : ∃ z, Hid (x * f.price = z) := ⟨_, rfl⟩
          rw [hz.out] at A1
          have hx2 := hxe.out
          subst hx2
          go_wp2_with fail
          refine (mul_any _ _ hxI hpf _).mono ?_
          rw [hz.out, A1.out.1, A1.out.2]
          rintro e w2 ⟨rfl, rfl⟩
          have hown2 := hown.alloc (.cells #[.int .i64 f.seq, .int .i64 f.member, .int .i64 f.sec, .int .i64 f.qty, .int .i64 f.price] 34)
          have hB2 := hb.alloc hs (.cells #[.int .i64 f.seq, .int .i64 f.member, .int .i64 f.sec, .int .i64 f.qty, .int .i64 f.price] 34)
          have hs2 := hB2.size
          go_wp2_with fail
          go_ret2
          exact ⟨ret2 (by rw [worstN, HNO.out]; rfl) (by rw [worstE, HNO.out]; rfl), hB2⟩
    · have hall : wcosts bs l = acc := by rw [HW.out, List.drop_of_length_le (by have := HL.out; omega), wcosts, List.append_nil]
      have HALL := Lib.hid hall
      clear hall
      obtain ⟨A', c', rfl⟩ := own_form hown
      have hrd := Rd.of_own hown
      have HOK2 := HOK.out
      go_wp2_with fail
      refine (sum_any _ _ _ acc _ hrd (by omega) HOK2).mono ?_
      rintro e w2 ⟨rfl, hb2⟩
      clear HOK2
      go_wp2_with fail
      go_ret2
      have hin : allIn acc = true := by rw [allIn, List.all_eq_true]; intro y hy; simpa using HOK.out y hy
      exact ⟨ret2 (by rw [worstN, HALL.out, hin]; rfl) (by rw [worstE, HALL.out, hin]; rfl), Below.past hb hb2 hs⟩

set_option maxRecDepth 100000 in
set_option maxHeartbeats 2000000 in
theorem refWorst_any (A : Option Addr) (n c : Nat) (bs : List Bid) (l : Int) (w : World) (hr : Rd w w.heap.size 5 A n (bs.flatMap Bid.cells)) (hn : n ≤ 1000) (hl : 0 ≤ l) (hl' : l ≤ 9223372036854775807) (hg : bs.any Bid.bad = false) (hp : ∀ b ∈ bs, inI b.price) :
    Calls Try.prog 15 #[.slice A n c, .int .i64 l] w fun e w' => e = .returned (.tuple #[.int .i64 (worstN bs l), .int .i64 (worstE bs l)]) ∧ Below w.heap.size w w' := by
  have HL := Lib.hid (hr.len Bid.cells_len (by omega))
  have HG := Lib.hid hg
  have HP := Lib.hid hp
  have HC := Lib.hid (show checkA bs l 0 = 0 by unfold checkA; rw [if_neg (by have := HL.out; omega), if_neg (by simp [hg]; omega)])
  obtain ⟨i0, hi0, hz0, hz1, hz2⟩ := info_parts i64i
  clear hg hp
  go_enter Try.func15, Try.ntmps15
  go_wp2_with fail
  go_loopw [1, 6, 7] (WorstRel w bs n l) (fun _ _ i _ => n - (intOf i).toNat)
  case atStart => exact ⟨0, l, [], Nat.zero_le _, rfl, rfl, hl, Int.le_refl _, rfl, by simp, rfl, World.ownsRow_nil _ _ _ _, Below.refl _ _⟩
  case round =>
    obtain ⟨k, lk, acc, hk, rfl, rfl, hl0, hl1, hacc, hok, hw, hown, hb⟩ := hrel
    have HW := Lib.hid hw
    have HA := Lib.hid hacc
    have HOK := Lib.hid hok
    clear hw hacc hok
    have hal : acc.length ≤ k := by rw [HA.out]; omega
    have hs := hb.size
    by_cases hlt : k < n
    · have hg_f : bs[k]? = some (bs[k]'(by have := HL.out; omega)) := List.getElem?_eq_getElem _
      obtain ⟨b_f, off_f, rfl, hbb_f, hc_f⟩ := (hr.below hb).elem Bid.cells_len hg_f hlt
      have HT_f := Lib.hid (show bs.take (k + 1) = bs.take k ++ [(bs[k]'(by have := HL.out; omega))] from List.take_succ_eq_append_getElem (by have := HL.out; omega))
      have HD_f := Lib.hid (show bs.drop k = (bs[k]'(by have := HL.out; omega)) :: bs.drop (k + 1) from List.drop_eq_getElem_cons (by have := HL.out; omega))
      have HM_f := Lib.hid (show (bs[k]'(by have := HL.out; omega)) ∈ bs from List.getElem_mem _)
      generalize (bs[k]'(by have := HL.out; omega)) = f at *
      have c0 := hc_f 0 _ rfl
      have c1 := hc_f 1 _ rfl
      have c2 := hc_f 2 _ rfl
      have c3 := hc_f 3 _ rfl
      have c4 := hc_f 4 _ rfl
      clear hc_f hg_f
      simp only [Nat.add_zero] at c0
      have hgood : f.bad = false := by have := List.any_eq_false.1 HG.out f HM_f.out; simpa using this
      have hpf := HP.out f HM_f.out
      have ht := wN_bd f lk hgood hl0
      have hq : 1 ≤ f.qty ∧ 1 ≤ f.price := by simp [Bid.bad] at hgood; omega
      obtain ⟨hq1, hq2⟩ := hq
      clear hgood
      have HS := Lib.hid (show wcosts (bs.drop k) lk = wN f lk * f.price :: wcosts (bs.drop (k + 1)) (lk - wN f lk) by rw [HD_f.out, wcosts])
      have HWN : Hid (wN f lk = if lk < f.qty then lk else f.qty) := rfl
      obtain ⟨x, hx⟩ : ∃ x, Hid (wN f lk = x) := ⟨_, rfl⟩
      rw [hx.out] at ht HS HWN
      obtain ⟨t0, t1, t2⟩ := ht
      have hxI : inI x := ⟨by omega, by omega⟩
      by_cases hlq : lk < f.qty
      all_goals
        have hxe : Hid (x = if lk < f.qty then lk else f.qty) := HWN.out.symm ▸ rfl
        first | rw [if_pos hlq] at hxe | rw [if_neg hlq] at hxe
        by_cases hin : inI (x * f.price)
        · have A1 := Lib.hid (amount_in hin)
          have HN1 : Hid (wcosts bs l = (acc ++ [x * f.price]) ++ wcosts (bs.drop (k + 1)) (lk - x)) := by rw [HW.out, HS.out]; show _ = _; simp
          have HN2 : Hid (∀ y ∈ acc ++ [x * f.price], inI y) := by
            intro y hy
            rcases List.mem_append.1 hy with hy | hy
            · exact HOK.out y hy
            · rw [List.mem_singleton.1 hy]; exact hin
          clear hin
          obtain ⟨z, hz⟩ : ∃ z, Hid (x * f.price = z) := ⟨_, rfl⟩
          rw [hz.out] at A1 HN1 HN2
          have hx2 := hxe.out
          subst hx2
          go_wp2_with fail
          refine (refMul_any _ _ hxI hpf _).mono ?_
          rw [hz.out, A1.out.1, A1.out.2]
          rintro e w2 ⟨rfl, hb2⟩
          have hB2 := Below.past hb hb2 hs
          have hs2 := hB2.size
          have hown2 := own_past hown hb2
          go_wp2_with (at_builtin; refine wpList_append_lit _ _ rfl (.tmp 42) (.tmp 44) 31 rfl w.heap.size 2 i0 _ 1 8 Try.underlying31 hi0 hz0 hz1 hz2 rfl (by decide) _ _ _ rfl hown2 _ 1 1 rfl (by first | rfl | simp) rfl (by simp [Value.oneCell']) (by omega) (by omega) (by omega) ?_; intro v' w' hown' hg')
          go_roundw
          case rel => exact ⟨k + 1, _, acc ++ [z], by omega, by go_num, rfl, by omega, by omega, by simp [HA.out], HN2.out, (by first | exact HN1.out | (have h := HN1.out; rw [Int.sub_self] at h; exact h)), by simpa [i64Cells] using hown', below_own (hB2.alloc hs2 _) hg' hown2 (by simp; omega) (Nat.le_refl _)⟩
          case measure => simp [intOf]; omega
        · have A1 := Lib.hid (amount_out hin)
          have HNO : Hid (allIn (wcosts bs l) = false) := by
            show _ = _
            rw [HW.out, HS.out, allIn, List.all_eq_false]
            exact ⟨x * f.price, by simp, by simpa using hin⟩
          clear hin
          obtain ⟨z, hz⟩ : ∃ z, Hid (x * f.price = z) := ⟨_, rfl⟩
          rw [hz.out] at A1
          have hx2 := hxe.out
          subst hx2
          go_wp2_with fail
          refine (refMul_any _ _ hxI hpf _).mono ?_
          rw [hz.out, A1.out.1, A1.out.2]
          rintro e w2 ⟨rfl, hb2⟩
          have hB2 := Below.past hb hb2 hs
          have hs2 := hB2.size
          have hown2 := own_past hown hb2
          go_wp2_with fail
          go_ret2
          exact ⟨ret2 (by rw [worstN, HNO.out]; rfl) (by rw [worstE, HNO.out]; rfl), hB2⟩
    · have hall : wcosts bs l = acc := by rw [HW.out, List.drop_of_length_le (by have := HL.out; omega), wcosts, List.append_nil]
      have HALL := Lib.hid hall
      clear hall
      obtain ⟨A', c', rfl⟩ := own_form hown
      have hrd := Rd.of_own hown
      have HOK2 := HOK.out
      go_wp2_with fail
      refine (refSum_any _ _ _ acc _ hrd (by omega) HOK2).mono ?_
      rintro e w2 ⟨rfl, rfl⟩
      clear HOK2
      go_wp2_with fail
      go_ret2
      have hin : allIn acc = true := by rw [allIn, List.all_eq_true]; intro y hy; simpa using HOK.out y hy
      exact ⟨ret2 (by rw [worstN, HALL.out, hin]; rfl) (by rw [worstE, HALL.out, hin]; rfl), hb⟩

end Go.Proofs.Ytjkabmijkbpodab
