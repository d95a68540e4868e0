import Derived.Test.YtjkabmijkbpodaaMonU
namespace Go.Proofs.Ytjkabmijkbpodaa
open Go.RowKit

theorem i64_infoS : (Try.prog.info? 2).map (fun i => (i.zero, i.size, i.bytes)) = some (some (.int .i64 0), 1, 8) := by kernel_rfl
theorem sum_rev (l : List Int) : l.reverse.sum = l.sum := by
  induction l with
  | nil => rfl
  | cons a l ih => simp [ih]; omega
theorem sum_turned (l : List Int) (k : Nat) : ((l.drop k).reverse ++ l.take k).sum = l.sum := by
  rw [List.sum_append, sum_rev]
  have := congrArg List.sum (List.take_append_drop k l)
  rw [List.sum_append] at this
  omega

set_option maxHeartbeats 1000000 in
theorem moneySums_long (A : Option Addr) (n c : Nat) (a : Int) (w : World) (hn : 200 < n) :
    Calls Try.prog 11 #[.slice A n c, .int .u8 a] w fun e w' => e = .returned (.bool true) ∧ Below w.heap.size w w' := by
  have q : decide ((200 : Int) < n) = true := dec_t (by omega)
  go_enter Try.func11, Try.ntmps11
  go_wp2_with fail
  refine (awake01 _).mono ?_
  rintro e w1 ⟨rfl, hb1⟩
  go_wp2_with fail
  go_ret
  exact ⟨rfl, hb1⟩

set_option maxRecDepth 10000 in
set_option maxHeartbeats 2000000 in
theorem moneySums_few (A : Option Addr) (n c a : Nat) (l : List Int) (w : World) (hr : Rd w w.heap.size 1 A n (l.flatMap i64Cells)) (hn : n ≤ 200) (ha : a ≤ 255) (hg : ∀ x ∈ l, inI x) :
    Calls Try.prog 11 #[.slice A n c, .int .u8 a] w fun e w' => e = .returned (.bool true) ∧ Below w.heap.size w w' := by
  have q : decide ((200 : Int) < n) = false := dec_f (by omega)
  have HL := Lib.hid (hr.len i64Cells_len (by omega))
  have HG := Lib.hid hg
  clear hg
  obtain ⟨i0, hi0, hz0, hz1, hz2⟩ := info_parts i64_infoS
  obtain ⟨s, hs⟩ : ∃ p, Hid (amount l.sum = p) := ⟨_, rfl⟩
  obtain ⟨o, ho⟩ : ∃ p, Hid (over l.sum = p) := ⟨_, rfl⟩
  obtain ⟨k, hk⟩ : ∃ k : Nat, Hid (a % (n + 1) = k) := ⟨_, rfl⟩
  have hkn : k ≤ n := by have := Nat.mod_lt a (show 0 < n + 1 by omega); rw [hk.out] at this; omega
  have hkI : (a : Int) % ((n : Int) + 1) = k := by rw [← hk.out]; exact (Int.natCast_emod a (n + 1)).symm
  go_enter Try.func11, Try.ntmps11
  go_wp2_with fail
  refine (sum_any _ _ _ l _ hr (by omega) HG.out).mono ?_
  rw [hs.out, ho.out]
  rintro e w1 ⟨rfl, hb1⟩
  have hr1 := hr.past hb1
  go_wp2_with fail
  refine (refSum_any _ _ _ l _ hr1 (by omega) HG.out).mono ?_
  rw [hs.out, ho.out]
  rintro e w' ⟨rfl, rfl⟩
  go_wp2_with fail
  rw [hkI]
  clear hkI
  go_loopw [10, 11] (fun v i wr => ∃ (m : Nat) (acc : List Int), k ≤ m ∧ m ≤ n ∧ i = .int .i64 ((m : Int) - 1) ∧ Hid (acc = (l.drop m).reverse) ∧ wr.ownsRow w1.heap.size 2 1 v acc.length (acc.flatMap i64Cells) ∧ Below w1.heap.size w1 wr) (fun _ i _ => (intOf i + 1).toNat)
  case atStart => exact ⟨n, [], hkn, Nat.le_refl _, rfl, Lib.hid (by rw [List.drop_of_length_le (by have := HL.out; omega)]; rfl), World.ownsRow_nil _ _ _ _, Below.refl _ _⟩
  case round =>
    obtain ⟨m, acc, hkm, hmn, rfl, hacc, hown, hb⟩ := hrel
    have hs2 := hb.size
    have hal : acc.length ≤ n := by rw [hacc.out]; simp; have := HL.out; omega
    by_cases hlt : k < m
    · have hg_f : l[m - 1]? = some (l[m - 1]'(by have := HL.out; omega)) := List.getElem?_eq_getElem _
      obtain ⟨b_f, off_f, rfl, hbb_f, hc_f⟩ := (hr1.below hb).elem i64Cells_len hg_f (by omega)
      have HD := Lib.hid (show l.drop (m - 1) = l[m - 1]'(by have := HL.out; omega) :: l.drop m from by
        have := List.drop_eq_getElem_cons (l := l) (i := m - 1) (by have := HL.out; omega)
        rw [this, show m - 1 + 1 = m by omega])
      generalize l[m - 1]'(by have := HL.out; omega) = f at *
      have c0 := hc_f 0 _ rfl
      simp only [Nat.add_zero, Nat.mul_one] at c0
      clear hc_f hg_f
      have qk : decide (k < m) = true := dec_t (by omega)
      have i1 : 0 ≤ (m : Int) - 1 := by omega
      have i2 : (m : Int) - 1 < n := by omega
      have i3 : ((m : Int) - 1).toNat = m - 1 := by omega
      go_wp2_with (at_builtin; refine wpList_append_lit _ _ rfl (.tmp 43) (.tmp 48) 96 rfl w1.heap.size 2 i0 _ 1 8 Try.underlying96 hi0 hz0 hz1 hz2 rfl (by decide) _ _ _ rfl hown _ 1 1 rfl (by first | rfl | simp) rfl (by simp [Value.oneCell']) (by omega) (by omega) (by omega) ?_; intro v' w' hown' hg')
      go_roundw
      case rel => exact ⟨m - 1, acc ++ [f], by omega, by omega, by go_num, Lib.hid (by rw [hacc.out, HD.out]; simp), by simpa [i64Cells] using hown', below_own (hb.alloc hs2 _) hg' hown (by simp; omega) (Nat.le_refl _)⟩
      case measure => simp [intOf]; omega
    · obtain rfl : k = m := by omega
      have qk : decide (k < k) = false := dec_f (by omega)
      go_wp2_with fail
      have HA := Lib.hid hacc.out
      clear qk hacc hlt
      go_loopw [10, 12] (fun v i wq => ∃ (m : Nat) (acc : List Int), m ≤ k ∧ i = .int .i64 m ∧ Hid (acc = (l.drop k).reverse ++ l.take m) ∧ wq.ownsRow w1.heap.size 2 1 v acc.length (acc.flatMap i64Cells) ∧ Below w1.heap.size w1 wq) (fun _ i _ => k - (intOf i).toNat)
      case atStart => exact ⟨0, acc, Nat.zero_le _, rfl, Lib.hid (by rw [HA.out]; simp), hown, hb⟩
      case round =>
        clear hown hb hs2 hal HA acc
        obtain ⟨m, acc, hmk, rfl, hacc, hown, hb⟩ := hrel
        have hs2 := hb.size
        have hal : acc.length ≤ n := by rw [hacc.out]; simp; have := HL.out; omega
        by_cases hlt : m < k
        · have hltn : m < n := by omega
          have hg_f : l[m]? = some (l[m]'(by have := HL.out; omega)) := List.getElem?_eq_getElem _
          obtain ⟨b_f, off_f, rfl, hbb_f, hc_f⟩ := (hr1.below hb).elem i64Cells_len hg_f hltn
          have HT_f := Lib.hid (show l.take (m + 1) = l.take m ++ [(l[m]'(by have := HL.out; omega))] from List.take_succ_eq_append_getElem (by have := HL.out; omega))
          have HM_f := Lib.hid (show (l[m]'(by have := HL.out; omega)) ∈ l from List.getElem_mem _)
          generalize (l[m]'(by have := HL.out; omega)) = f at *
          have c0 := hc_f 0 _ rfl
          clear hc_f hg_f
          simp only [Nat.add_zero, Nat.mul_one] at c0
          go_wp2_with (at_builtin; refine wpList_append_lit _ _ rfl (.tmp 55) (.tmp 60) 96 rfl w1.heap.size 2 i0 _ 1 8 Try.underlying96 hi0 hz0 hz1 hz2 rfl (by decide) _ _ _ rfl hown _ 1 1 rfl (by first | rfl | simp) rfl (by simp [Value.oneCell']) (by omega) (by omega) (by omega) ?_; intro v' w' hown' hg')
          go_roundw
          case rel => exact ⟨m + 1, acc ++ [f], by omega, by go_num, Lib.hid (by rw [hacc.out, HT_f.out]; simp), by simpa [i64Cells] using hown', below_own (hb.alloc hs2 _) hg' hown (by simp; omega) (Nat.le_refl _)⟩
          case measure => simp [intOf]; omega
        · obtain rfl : m = k := by omega
          have HGA : ∀ x ∈ acc, inI x := by
            rw [hacc.out]
            intro x hx
            rcases List.mem_append.1 hx with h | h
            · exact HG.out x (List.mem_of_mem_drop (List.mem_reverse.1 h))
            · exact HG.out x (List.mem_of_mem_take h)
          have hss : Hid (amount acc.sum = s) := Lib.hid (by rw [hacc.out, sum_turned]; exact hs.out)
          have hoo : Hid (over acc.sum = o) := Lib.hid (by rw [hacc.out, sum_turned]; exact ho.out)
          obtain ⟨A', c', rfl⟩ := own_form hown
          have hrd := Rd.of_own hown
          have HGA' := Lib.hid HGA
          clear HGA
          go_wp2_with fail
          refine (sum_any _ _ _ acc _ hrd (by omega) HGA'.out).mono ?_
          rw [hss.out, hoo.out]
          rintro e w2 ⟨rfl, hb2⟩
          have hB2 := Below.next' (Below.past hb1 hb hb1.size) hb2 (Nat.le_refl _)
          go_wp2_with fail
          refine (awake01 _).mono ?_
          rintro e w3 ⟨rfl, hb3⟩
          go_wp2_with fail
          go_ret
          exact ⟨rfl, Below.next hB2 hb3⟩
end Go.Proofs.Ytjkabmijkbpodaa
