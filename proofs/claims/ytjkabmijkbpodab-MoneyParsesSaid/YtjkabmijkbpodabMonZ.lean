import Derived.Test.YtjkabmijkbpodabMonY
namespace Go.Proofs.Ytjkabmijkbpodab
open Go.RowKit

theorem toList_mk (l : List UInt8) : (⟨l.toArray⟩ : ByteArray).data.toList = l := rfl

theorem cutPrefix_any (l : List UInt8) (w : World) :
    Calls Try.prog 68 #[.string ⟨l.toArray⟩, .string ⟨#[45]⟩] w fun e w' => e = .returned (.tuple #[.string ⟨(Lib.trimPrefix l [45]).toArray⟩, .bool (Lib.hasPrefix l [45])]) ∧ w = w' :=
  (Try.strings_CutPrefix ⟨l.toArray⟩ ⟨#[45]⟩ w).mono fun _ _ ⟨he, hw⟩ => ⟨he, hw.symm⟩
theorem cut_any (l : List UInt8) (hl : l.length ≤ 1000) (m : Int) (w : World) (hm : w.cell? ⟨2, 0, none⟩ = some (.int .i64 m)) :
    Calls Try.prog 69 #[.string ⟨l.toArray⟩, .string ⟨#[46]⟩] w fun e w' => e = .returned (.tuple #[.string ⟨(Lib.cut l [46]).1.toArray⟩, .string ⟨(Lib.cut l [46]).2.1.toArray⟩, .bool (Lib.cut l [46]).2.2]) ∧ ∃ n, w' = w.drewN n :=
  Try.strings_Cut ⟨l.toArray⟩ ⟨#[46]⟩ m w (by show l.toArray.size < _; simp; omega) hm

theorem textI_bd (a : Int) : (textI a).length ≤ 42 := by
  have := textN_len a.natAbs
  unfold textI
  split
  · simp only [List.length_cons]; omega
  · omega

theorem cut_len (l : List UInt8) : (Lib.cut l [46]).1.length + (Lib.cut l [46]).2.1.length ≤ l.length := by
  unfold Lib.cut
  split
  · simp only [List.length_take, List.length_drop, List.length_cons, List.length_nil]; omega
  · simp
theorem trim_len (l : List UInt8) : (Lib.trimPrefix l [45]).length ≤ l.length := by
  unfold Lib.trimPrefix
  split
  · simp
  · exact Nat.le_refl _

/-- How the text of an amount is taken apart. -/
theorem text_apart (a : Int) (ha : inI a) : Lib.hasPrefix (textI a) [45] = decide (a < 0) ∧ ∃ x1 x2, Lib.cut (Lib.trimPrefix (textI a) [45]) [46] = (x1, x2, true) ∧ x1 ++ x2 = digT a.natAbs 3 := by
  have hd := digT_dig (a.natAbs / 100) 1
  have hs := digT_split a.natAbs (by obtain ⟨h1, h2⟩ := ha; omega)
  have hn : ∀ c ∈ digT (a.natAbs / 100) 1, c ≠ 46 := fun c hc => (dig_ne c (hd c hc).1).1
  have hp : ∀ c r, textN a.natAbs = c :: r → c ≠ 45 := by
    intro c r h
    unfold textN at h
    cases hx : digT (a.natAbs / 100) 1 with
    | nil => exact absurd hx (digT_ne _ _ (by omega) (by omega))
    | cons d t =>
      rw [hx] at h
      simp only [List.cons_append, List.cons.injEq] at h
      rw [← h.1]
      exact (dig_ne d (hd d (by rw [hx]; exact List.mem_cons_self ..)).1).2
  by_cases h0 : a < 0
  · have e : textI a = 45 :: textN a.natAbs := by rw [textI, if_pos h0]
    rw [e, (pre_minus _).1, (pre_minus _).2]
    refine ⟨by simp [h0], _, _, ?_, hs.symm⟩
    exact cut_dot _ _ hn
  · have e : textI a = textN a.natAbs := by rw [textI, if_neg h0]
    rw [e, (pre_plus _ hp).1, (pre_plus _ hp).2]
    refine ⟨by simp [h0], _, _, ?_, hs.symm⟩
    exact cut_dot _ _ hn

set_option maxHeartbeats 1000000 in
theorem parse_yes (a : Int) (ha : inI a) (m : Int) (w : World) (hm : w.cell? ⟨2, 0, none⟩ = some (.int .i64 m)) :
    Calls Try.prog 47 #[.string ⟨(textI a).toArray⟩] w fun e w' => e = .returned (.tuple #[.int .i64 a, .int .i64 0]) ∧ Below w.heap.size w w' := by
  obtain ⟨hp, x1, x2, hc, hx⟩ := text_apart a ha
  obtain ⟨y, hy⟩ : ∃ y, Hid (Lib.trimPrefix (textI a) [45] = y) := ⟨_, rfl⟩
  have hyl : y.length ≤ 42 := by rw [← hy.out]; exact Nat.le_trans (trim_len _) (textI_bd a)
  have HP := Lib.hid hp
  rw [hy.out] at hc
  have hcl := cut_len y
  rw [hc] at hcl
  simp only at hcl
  have C1 : Hid ((Lib.cut y [46]).1 = x1) := Lib.hid (by rw [hc])
  have C2 : Hid ((Lib.cut y [46]).2.1 = x2) := Lib.hid (by rw [hc])
  have C3 : Hid ((Lib.cut y [46]).2.2 = true) := Lib.hid (by rw [hc])
  obtain ⟨h1, h2⟩ := ha
  have N1 := Lib.hid (number_yes ⟨(x1 ++ x2).toArray⟩ a.natAbs (by show (x1 ++ x2).toArray.size ≤ 1000; simp only [List.size_toArray, List.length_append]; omega) (by
      show 0 < (x1 ++ x2).toArray.size
      rw [hx, List.size_toArray]
      exact List.length_pos_iff.2 (digT_ne _ _ (by omega) (by omega)))
    (by rw [toList_mk, hx]; exact digT_dig _ _) (by rw [toList_mk, hx]; exact numV_digT _ _ (by omega)) (by omega))
  have HX := Lib.hid (app_bytes x1 x2)
  have HS : Hid (sgn (decide (a < 0)) (a.natAbs : Int) = a) := Lib.hid (by by_cases h0 : a < 0 <;> simp [sgn, h0] <;> omega)
  have HF : Hid ((a.natAbs : Int) < 9223372036854775808 ∨ (a.natAbs : Int) = 9223372036854775808 ∧ decide (a < 0) = true) := Lib.hid (by
    by_cases h0 : a < 0
    · simp [h0]; omega
    · left; omega)
  have ht := Lib.hid (text_any a ⟨h1, h2⟩)
  obtain ⟨n, hn⟩ : ∃ n, Hid (a.natAbs = n) := ⟨_, rfl⟩
  obtain ⟨b, hb⟩ : ∃ n, Hid (decide (a < 0) = n) := ⟨_, rfl⟩
  rw [hn.out] at N1 HS HF
  rw [hb.out] at HS HF HP
  have hn2 : n ≤ 9223372036854775808 := by rw [← hn.out]; omega
  have hxl : x1.length + x2.length ≤ 42 := by omega
  clear hx hc hp hcl hn hb
  obtain ⟨t, htt⟩ : ∃ n, Hid (textI a = n) := ⟨_, rfl⟩
  rw [htt.out] at ht HP hy ⊢
  clear htt
  go_enter Try.func47, Try.ntmps47
  go_wp2_with fail
  refine (cutPrefix_any t _).mono ?_
  rw [hy.out, HP.out]
  rintro e w' ⟨rfl, rfl⟩
  go_wp2_with fail
  refine (cut_any y (by omega) m _ hm).mono ?_
  rw [C1.out, C2.out, C3.out]
  rintro e w' ⟨rfl, q, rfl⟩
  go_wp2_with fail
  rw [HX.out]
  refine (N1.out _).mono ?_
  rintro e w' ⟨rfl, rfl⟩
  go_wp2_with fail
  refine (signed_any (n : Int) b (by omega) (by omega) _ HF.out).mono ?_
  rw [HS.out]
  rintro e w' ⟨rfl, rfl⟩
  go_wp2_with fail
  refine (ht.out _).mono ?_
  rintro e w1 ⟨rfl, hb1⟩
  go_wp2_with fail
  go_ret2
  exact ⟨rfl, Below.next (below_drewN (Below.refl _ _) _) hb1⟩

set_option maxHeartbeats 1000000 in
theorem parse_no (l : List UInt8) (hl : l.length ≤ 100) (hno : ∀ a, inI a → textI a ≠ l) (m : Int) (w : World) (hm : w.cell? ⟨2, 0, none⟩ = some (.int .i64 m)) :
    Calls Try.prog 47 #[.string ⟨l.toArray⟩] w fun e w' => e = .returned (.tuple #[.int .i64 0, .int .i64 3]) ∧ Below w.heap.size w w' := by
  have HNo := Lib.hid hno
  obtain ⟨y, hy⟩ : ∃ y, Hid (Lib.trimPrefix l [45] = y) := ⟨_, rfl⟩
  obtain ⟨b, hp⟩ : ∃ y, Hid (Lib.hasPrefix l [45] = y) := ⟨_, rfl⟩
  have hyl : y.length ≤ 100 := by rw [← hy.out]; exact Nat.le_trans (trim_len _) hl
  have hcl := cut_len y
  obtain ⟨x1, C1⟩ : ∃ x, Hid ((Lib.cut y [46]).1 = x) := ⟨_, rfl⟩
  obtain ⟨x2, C2⟩ : ∃ x, Hid ((Lib.cut y [46]).2.1 = x) := ⟨_, rfl⟩
  obtain ⟨b2, C3⟩ : ∃ x, Hid ((Lib.cut y [46]).2.2 = x) := ⟨_, rfl⟩
  rw [C1.out, C2.out] at hcl
  have HX := Lib.hid (app_bytes x1 x2)
  clear hno
  go_enter Try.func47, Try.ntmps47
  go_wp2_with fail
  refine (cutPrefix_any l _).mono ?_
  rw [hy.out, hp.out]
  rintro e w' ⟨rfl, rfl⟩
  go_wp2_with fail
  refine (cut_any y (by omega) m _ hm).mono ?_
  rw [C1.out, C2.out, C3.out]
  rintro e w' ⟨rfl, q, rfl⟩
  go_wp2_with fail
  rw [HX.out]
  refine (number_some ⟨(x1 ++ x2).toArray⟩ (by show (x1 ++ x2).toArray.size ≤ 1000; simp only [List.size_toArray, List.length_append]; omega) _).mono ?_
  rintro e w' ⟨n, is, n0, n1, rfl, rfl⟩
  by_cases hf : n < 9223372036854775808 ∨ n = 9223372036854775808 ∧ b = true
  · have HF := Lib.hid hf
    clear hf
    have hin : inI (sgn b n) := by
      have := HF.out
      unfold inI sgn
      cases b <;> simp at this ⊢ <;> omega
    obtain ⟨a, ha⟩ : ∃ a, Hid (sgn b n = a) := ⟨_, rfl⟩
    rw [ha.out] at hin
    go_wp2_with fail
    refine (signed_any n b (by omega) (by omega) _ HF.out).mono ?_
    rw [ha.out]
    rintro e w' ⟨rfl, rfl⟩
    cases is
    · go_wp2_with fail
      go_ret2
      exact ⟨rfl, below_drewN (Below.refl _ _) _⟩
    · have hne : Hid (textI a ≠ l) := Lib.hid (HNo.out a hin)
      have ht := Lib.hid (text_any a hin)
      obtain ⟨t, htt⟩ : ∃ t, Hid (textI a = t) := ⟨_, rfl⟩
      rw [htt.out] at ht hne
      have q1 : (t == l) = false := by simpa using hne.out
      clear htt
      go_wp2_with fail
      refine (ht.out _).mono ?_
      rintro e w1 ⟨rfl, hb1⟩
      go_wp2_with fail
      go_ret2
      exact ⟨rfl, Below.next (below_drewN (Below.refl _ _) _) hb1⟩
  · have HF : Hid (9223372036854775808 < n ∨ n = 9223372036854775808 ∧ b = false) := Lib.hid (by
      cases b
      · simp at hf; simp; omega
      · simp at hf; simp; omega)
    clear hf
    go_wp2_with fail
    refine (signed_not n b (by omega) (by omega) _ HF.out).mono ?_
    rintro e w' ⟨z, rfl, rfl⟩
    cases is
    all_goals
      go_wp2_with fail
      go_ret2
      exact ⟨rfl, below_drewN (Below.refl _ _) _⟩
end Go.Proofs.Ytjkabmijkbpodab
