import Derived.Test.YtjkabmijkbpodabAuctF
namespace Go.Proofs.Ytjkabmijkbpodab
open Go.RowKit

set_option maxRecDepth 100000 in
set_option maxHeartbeats 1000000 in
theorem worst_bad (A : Option Addr) (n c : Nat) (bs : List Bid) (l : Int) (w : World) (hr : Rd w w.heap.size 5 A n (bs.flatMap Bid.cells)) (hn : n ≤ 1000) (hc : checkA bs l 0 ≠ 0) :
    Calls Try.prog 13 #[.slice A n c, .int .i64 l] w fun e w' => e = .returned (.tuple #[.int .i64 0, .int .i64 (checkA bs l 0)]) ∧ Below w.heap.size w w' := by
  have q : (checkA bs l 0 != 0) = true := by simpa using hc
  generalize hx : checkA bs l 0 = x at *
  have HX := Lib.hid hx
  clear hx hc
  go_enter Try.func13, Try.ntmps13
  go_wp2_with fail
  refine (check_any A n c bs l 0 _ hr (by omega)).mono ?_
  rw [HX.out]
  rintro e w1 ⟨rfl, hb1⟩
  go_wp2
  go_ret2
  exact ⟨rfl, hb1⟩

set_option maxHeartbeats 1000000 in
theorem refWrongA_any (A : Option Addr) (n c : Nat) (bs : List Bid) (l m : Int) (w : World) (hr : Rd w w.heap.size 5 A n (bs.flatMap Bid.cells)) (hn : n ≤ 1000) :
    Calls Try.prog 14 #[.slice A n c, .int .i64 l, .int .i64 m] w fun e w' => e = .returned (.int .i64 (checkA bs l m)) ∧ w = w' := by
  have HL := Lib.hid (hr.len Bid.cells_len (by omega))
  have q0 : decide ((1024 : Int) < n) = false := dec_f (by omega)
  have H1 := Lib.hid (show checkA bs l m = if l < 0 ∨ m < 0 ∨ bs.any Bid.bad then 1 else 0 by
    unfold checkA; rw [if_neg (by have := HL.out; omega)])
  by_cases hl : l < 0
  · go_enter Try.func14, Try.ntmps14
    go_wp2_with fail
    go_ret
    exact ⟨ret_int (by rw [H1.out, if_pos (.inl hl)]), rfl⟩
  by_cases hm : m < 0
  · go_enter Try.func14, Try.ntmps14
    go_wp2_with fail
    go_ret
    exact ⟨ret_int (by rw [H1.out, if_pos (.inr (.inl hm))]), rfl⟩
  have ql := dec_f hl
  have qm := dec_f hm
  go_enter Try.func14, Try.ntmps14
  go_wp2_with fail
  go_loop [7] (fun i => ∃ k : Nat, k ≤ n ∧ i = .int .i64 k ∧ (bs.take k).any Bid.bad = false) (fun i => n - (intOf i).toNat)
  case atStart => exact ⟨0, Nat.zero_le _, rfl, rfl⟩
  case round =>
    obtain ⟨k, hk, rfl, hno⟩ := hrel
    have Hhno := Lib.hid hno
    clear hno
    by_cases hlt : k < n
    · have hg_f : bs[k]? = some (bs[k]'(by have := HL.out; omega)) := List.getElem?_eq_getElem _
      obtain ⟨b_f, off_f, rfl, hbb_f, hc_f⟩ := (hr).elem Bid.cells_len hg_f hlt
      have HT_f := Lib.hid (show bs.take (k + 1) = bs.take k ++ [(bs[k]'(by have := HL.out; omega))] from List.take_succ_eq_append_getElem (by have := HL.out; omega))
      have HM_f := Lib.hid (show (bs[k]'(by have := HL.out; omega)) ∈ bs from List.getElem_mem _)
      generalize (bs[k]'(by have := HL.out; omega)) = f at *
      have c0 := hc_f 0 _ rfl
      have c1 := hc_f 1 _ rfl
      have c2 := hc_f 2 _ rfl
      have c3 := hc_f 3 _ rfl
      have c4 := hc_f 4 _ rfl
      clear hc_f hg_f
      simp only [Nat.add_zero] at c0
      by_cases hbad : f.qty ≤ 0 ∨ f.price ≤ 0
      · have HB := Lib.hid (show bs.any Bid.bad = true from List.any_eq_true.2 ⟨f, HM_f.out, by simp [Bid.bad]; omega⟩)
        go_wp2_with fail
        all_goals first
          | (go_ret; exact ⟨ret_int (by rw [H1.out, if_pos (.inr (.inr HB.out))]), rfl⟩)
          | (exfalso; omega)
      · have HB := Lib.hid (show f.bad = false by simp [Bid.bad]; omega)
        have g1 : ¬ f.qty ≤ 0 := by omega
        have g2 : ¬ f.price ≤ 0 := by omega
        clear hbad
        go_wp2_with fail
        go_round
        case rel => exact ⟨k + 1, by omega, by go_num, by rw [HT_f.out, List.any_append, Hhno.out]; simp [HB.out]⟩
        case measure => simp [intOf]; omega
    · go_wp2_with fail
      go_ret
      have hk' := Hhno.out
      rw [List.take_of_length_le (by have := HL.out; omega)] at hk'
      exact ⟨ret_int (by rw [H1.out, hk', if_neg (by simp; omega)]), rfl⟩

/-- What holds at the head of each round of the document's run. -/
def RefRunRel (w : World) (bs : List Bid) (n : Nat) (l m : Int) (sl sm so si : Value) (wr : World) : Prop :=
  ∃ (k : Nat) (lk mk : Int) (acc : List Int), k ≤ n ∧ si = .int .i64 k ∧ sl = .int .i64 lk ∧ sm = .int .i64 mk ∧ 0 ≤ lk ∧ lk ≤ l ∧ 0 ≤ mk ∧ mk ≤ m ∧ acc.length = k ∧
    takes bs l m = acc ++ takes (bs.drop k) lk mk ∧ wr.ownsRow w.heap.size 2 1 so acc.length (acc.flatMap i64Cells) ∧ Below w.heap.size w wr

set_option maxRecDepth 100000 in
set_option maxHeartbeats 2000000 in
theorem refRun_any (A : Option Addr) (n c : Nat) (bs : List Bid) (l m : Int) (w : World) (hr : Rd w w.heap.size 5 A n (bs.flatMap Bid.cells)) (hn : n ≤ 1000) (hl : 0 ≤ l) (hm : 0 ≤ m) (hl' : l ≤ 9223372036854775807) (hm' : m ≤ 9223372036854775807) (hg : bs.any Bid.bad = false) :
    Calls Try.prog 16 #[.slice A n c, .int .i64 l, .int .i64 m] w fun e w' => ∃ v, e = .returned v ∧ w'.ownsRow w.heap.size 2 1 v n ((takes bs l m).flatMap i64Cells) ∧ Below w.heap.size w w' := by
  have HL := Lib.hid (hr.len Bid.cells_len (by omega))
  have HG := Lib.hid hg
  obtain ⟨i0, hi0, hz0, hz1, hz2⟩ := info_parts i64i
  clear hg
  go_enter Try.func16, Try.ntmps16
  go_wp2_with fail
  go_loopw [1, 2, 7, 8] (RefRunRel w bs n l m) (fun _ _ _ i _ => n - (intOf i).toNat)
  case atStart => exact ⟨0, l, m, [], Nat.zero_le _, rfl, rfl, rfl, hl, Int.le_refl _, hm, Int.le_refl _, rfl, rfl, World.ownsRow_nil _ _ _ _, Below.refl _ _⟩
  case round =>
    obtain ⟨k, lk, mk, acc, hk, rfl, rfl, rfl, hl0, hl1, hm0, hm1, hacc, hrun, hown, hb⟩ := hrel
    have HR := Lib.hid hrun
    have HA := Lib.hid hacc
    clear hrun hacc
    have hal : acc.length ≤ k := by rw [HA.out]; omega
    have hs := hb.size
    by_cases hlt : k < n
    · have hg_f : bs[k]? = some (bs[k]'(by have := HL.out; omega)) := List.getElem?_eq_getElem _
      obtain ⟨b_f, off_f, rfl, hbb_f, hc_f⟩ := (hr.below hb).elem Bid.cells_len hg_f hlt
      have HT_f := Lib.hid (show bs.take (k + 1) = bs.take k ++ [(bs[k]'(by have := HL.out; omega))] from List.take_succ_eq_append_getElem (by have := HL.out; omega))
      have HD_f := Lib.hid (show bs.drop k = (bs[k]'(by have := HL.out; omega)) :: bs.drop (k + 1) from List.drop_eq_getElem_cons (by have := HL.out; omega))
      have HM_f := Lib.hid (show (bs[k]'(by have := HL.out; omega)) ∈ bs from List.getElem_mem _)
      generalize (bs[k]'(by have := HL.out; omega)) = f at *
      have c0 := hc_f 0 _ rfl
      have c1 := hc_f 1 _ rfl
      have c2 := hc_f 2 _ rfl
      have c3 := hc_f 3 _ rfl
      have c4 := hc_f 4 _ rfl
      clear hc_f hg_f
      simp only [Nat.add_zero] at c0
      have hgood : f.bad = false := by have := List.any_eq_false.1 HG.out f HM_f.out; simpa using this
      have ht := takeN_bd f lk mk hgood hl0 hm0
      have hp : 1 ≤ f.price ∧ 1 ≤ f.qty := by simp [Bid.bad] at hgood; omega
      obtain ⟨hp1, hp2⟩ := hp
      clear hgood
      obtain ⟨d, hd⟩ : ∃ d, Hid (mk / f.price = d) := ⟨_, rfl⟩
      have hd0 : 0 ≤ d := by rw [← hd.out]; exact Int.ediv_nonneg hm0 (by omega)
      have hd1 : d ≤ mk := by rw [← hd.out]; exact Int.ediv_le_self _ hm0
      have HT : Hid (takeN f lk mk = if d < (if lk < f.qty then lk else f.qty) then d else if lk < f.qty then lk else f.qty) := by rw [← hd.out]; rfl
      obtain ⟨t, hT⟩ : ∃ t, Hid (takeN f lk mk = t) := ⟨_, rfl⟩
      rw [hT.out] at ht HT
      have HN : Hid (takes bs l m = (acc ++ [t]) ++ takes (bs.drop (k + 1)) (lk - t) (mk - t * f.price)) := by
        show _ = _
        rw [HR.out, HD_f.out, takes, hT.out]; simp
      obtain ⟨t0, t1, t2, t3, t4⟩ := ht
      have hdd := hd.out
      by_cases hlq : lk < f.qty
      · by_cases hdn : d < lk
        · have ht' : d = t := by rw [HT.out, if_pos hlq, if_pos hdn]
          subst ht'
          go_wp2_with (at_builtin; refine wpList_append_lit _ _ rfl (.tmp 41) (.tmp 43) 31 rfl w.heap.size 2 i0 _ 1 8 Try.underlying31 hi0 hz0 hz1 hz2 rfl (by decide) _ _ _ rfl hown _ 1 1 rfl (by first | rfl | simp) rfl (by simp [Value.oneCell']) (by omega) (by omega) (by omega) ?_; intro v' w' hown' hg'; have c4' : w'.cell? ⟨b_f, off_f + k * 5 + 4, none⟩ = some (.int .i64 f.price) := ((below_own (hb.alloc hs _) hg' hown (by simp; omega) (Nat.le_refl _)).cell (p := ⟨b_f, off_f + k * 5 + 4, none⟩) hbb_f).trans ((hb.cell (p := ⟨b_f, off_f + k * 5 + 4, none⟩) hbb_f).symm.trans c4))
          go_roundw
          case rel =>
            refine ⟨k + 1, _, _, acc ++ [d], by omega, by go_num, rfl, rfl, by omega, by omega, by omega, by omega, by simp [HA.out], ?_, by simpa [i64Cells] using hown', below_own (hb.alloc hs _) hg' hown (by simp; omega) (Nat.le_refl _)⟩
            first | exact HN.out | (have h := HN.out; rw [Int.sub_self] at h; exact h)
          case measure => simp [intOf]; omega
        · have ht' : lk = t := by rw [HT.out, if_pos hlq, if_neg hdn]
          subst ht'
          go_wp2_with (at_builtin; refine wpList_append_lit _ _ rfl (.tmp 41) (.tmp 43) 31 rfl w.heap.size 2 i0 _ 1 8 Try.underlying31 hi0 hz0 hz1 hz2 rfl (by decide) _ _ _ rfl hown _ 1 1 rfl (by first | rfl | simp) rfl (by simp [Value.oneCell']) (by omega) (by omega) (by omega) ?_; intro v' w' hown' hg'; have c4' : w'.cell? ⟨b_f, off_f + k * 5 + 4, none⟩ = some (.int .i64 f.price) := ((below_own (hb.alloc hs _) hg' hown (by simp; omega) (Nat.le_refl _)).cell (p := ⟨b_f, off_f + k * 5 + 4, none⟩) hbb_f).trans ((hb.cell (p := ⟨b_f, off_f + k * 5 + 4, none⟩) hbb_f).symm.trans c4))
          go_roundw
          case rel =>
            refine ⟨k + 1, _, _, acc ++ [lk], by omega, by go_num, rfl, rfl, by omega, by omega, by omega, by omega, by simp [HA.out], ?_, by simpa [i64Cells] using hown', below_own (hb.alloc hs _) hg' hown (by simp; omega) (Nat.le_refl _)⟩
            first | exact HN.out | (have h := HN.out; rw [Int.sub_self] at h; exact h)
          case measure => simp [intOf]; omega
      · by_cases hdn : d < f.qty
        · have ht' : d = t := by rw [HT.out, if_neg hlq, if_pos hdn]
          subst ht'
          go_wp2_with (at_builtin; refine wpList_append_lit _ _ rfl (.tmp 41) (.tmp 43) 31 rfl w.heap.size 2 i0 _ 1 8 Try.underlying31 hi0 hz0 hz1 hz2 rfl (by decide) _ _ _ rfl hown _ 1 1 rfl (by first | rfl | simp) rfl (by simp [Value.oneCell']) (by omega) (by omega) (by omega) ?_; intro v' w' hown' hg'; have c4' : w'.cell? ⟨b_f, off_f + k * 5 + 4, none⟩ = some (.int .i64 f.price) := ((below_own (hb.alloc hs _) hg' hown (by simp; omega) (Nat.le_refl _)).cell (p := ⟨b_f, off_f + k * 5 + 4, none⟩) hbb_f).trans ((hb.cell (p := ⟨b_f, off_f + k * 5 + 4, none⟩) hbb_f).symm.trans c4))
          go_roundw
          case rel =>
            refine ⟨k + 1, _, _, acc ++ [d], by omega, by go_num, rfl, rfl, by omega, by omega, by omega, by omega, by simp [HA.out], ?_, by simpa [i64Cells] using hown', below_own (hb.alloc hs _) hg' hown (by simp; omega) (Nat.le_refl _)⟩
            first | exact HN.out | (have h := HN.out; rw [Int.sub_self] at h; exact h)
          case measure => simp [intOf]; omega
        · have ht' : f.qty = t := by rw [HT.out, if_neg hlq, if_neg hdn]
          rw [← ht'] at HN t0 t1 t2 t3 t4
          clear ht'
          go_wp2_with (at_builtin; refine wpList_append_lit _ _ rfl (.tmp 41) (.tmp 43) 31 rfl w.heap.size 2 i0 _ 1 8 Try.underlying31 hi0 hz0 hz1 hz2 rfl (by decide) _ _ _ rfl hown _ 1 1 rfl (by first | rfl | simp) rfl (by simp [Value.oneCell']) (by omega) (by omega) (by omega) ?_; intro v' w' hown' hg'; have c4' : w'.cell? ⟨b_f, off_f + k * 5 + 4, none⟩ = some (.int .i64 f.price) := ((below_own (hb.alloc hs _) hg' hown (by simp; omega) (Nat.le_refl _)).cell (p := ⟨b_f, off_f + k * 5 + 4, none⟩) hbb_f).trans ((hb.cell (p := ⟨b_f, off_f + k * 5 + 4, none⟩) hbb_f).symm.trans c4))
          go_roundw
          case rel =>
            refine ⟨k + 1, _, _, acc ++ [f.qty], by omega, by go_num, rfl, rfl, by omega, by omega, by omega, by omega, by simp [HA.out], ?_, by simpa [i64Cells] using hown', below_own (hb.alloc hs _) hg' hown (by simp; omega) (Nat.le_refl _)⟩
            first | exact HN.out | (have h := HN.out; rw [Int.sub_self] at h; exact h)
          case measure => simp [intOf]; omega
    · have hall : takes bs l m = acc := by rw [HR.out, List.drop_of_length_le (by have := HL.out; omega), takes, List.append_nil]
      have e : acc.length = n := by rw [HA.out]; omega
      rw [e] at hown
      have HALL := Lib.hid hall
      clear hall e
      go_wp2_with fail
      go_ret
      exact ⟨_, rfl, by rw [HALL.out]; exact hown, hb⟩
end Go.Proofs.Ytjkabmijkbpodab
