import Derived.Test.YtjkabmijkbpodabDoorCalD
namespace Go.Proofs.YtjkabmijkbpodabDoor
open Go.RowKit

def wantK (i : Int) (k : Nat) : List UInt8 := if 0 ≤ i ∧ i < k then wdL i.toNat else []
def placeK (l : List UInt8) (k : Nat) : Int := if plI l < k then plI l else -1
theorem wantK_eq (k : Nat) : wantK k (k + 1) = wdL k := by unfold wantK; rw [if_pos (by omega)]; rfl
theorem wantK_ne (i : Int) (k : Nat) (h : ¬ (k : Int) = i) : wantK i (k + 1) = wantK i k := by
  unfold wantK
  by_cases c : 0 ≤ i ∧ i < k
  · rw [if_pos c, if_pos (by omega)]
  · rw [if_neg c, if_neg (by omega)]
theorem wantK_all (i : Int) : wantK i 6 = wdI i := rfl
theorem plI_bd (l : List UInt8) : -1 ≤ plI l ∧ plI l < 6 := by
  unfold plI
  repeat' split
  all_goals omega
theorem plI_is (l : List UInt8) (j : Nat) (hj : j < 6) (h : plI l = j) : wdL j = l := by
  unfold plI at h
  obtain rfl | rfl | rfl | rfl | rfl | rfl : j = 0 ∨ j = 1 ∨ j = 2 ∨ j = 3 ∨ j = 4 ∨ j = 5 := by omega
  all_goals
    repeat' split at h
    all_goals first | assumption | omega
theorem placeK_eq (l : List UInt8) (k : Nat) (hk : k < 6) (h : wdL k = l) : placeK l (k + 1) = k := by
  unfold placeK
  rw [← h, plI_at k hk, if_pos (by omega)]
theorem placeK_ne (l : List UInt8) (k : Nat) (hk : k < 6) (h : ¬ wdL k = l) : placeK l (k + 1) = placeK l k := by
  unfold placeK
  have hne : plI l ≠ k := fun e => h (plI_is l k hk e)
  by_cases c : plI l < k
  · rw [if_pos c, if_pos (by omega)]
  · rw [if_neg c, if_neg (by omega)]
theorem placeK_all (l : List UInt8) : placeK l 6 = plI l := by have := plI_bd l; unfold placeK; rw [if_pos (by omega)]

set_option maxRecDepth 10000 in
set_option maxHeartbeats 4000000 in
theorem calendarWords_any (i : Int) (l : List UInt8) (w : World) (hw : WdOk w) (hs : l.length ≤ 50) :
    Calls Tryd.prog 4 #[.int .i64 i, .string ⟨l.toArray⟩] w fun e w' => e = .returned (.bool true) ∧ Below w.heap.size w w' := by
  have q : decide ((50 : Int) < l.length) = false := dcf (by omega)
  have hB0 := (Below.refl w.heap.size w).alloc (Nat.le_refl _) (.cells #[.string ⟨#[115, 104, 117, 116]⟩, .string ⟨#[116, 114, 97, 100, 101]⟩, .string ⟨#[102, 117, 110, 100]⟩, .string ⟨#[98, 117, 121, 105, 110]⟩, .string ⟨#[112, 97, 121, 111, 117, 116]⟩, .string ⟨#[99, 108, 111, 115, 101, 100]⟩] 9)
  have hw0 := hw.past hB0
  have bl := Blk.new w 9 #[.string ⟨#[115, 104, 117, 116]⟩, .string ⟨#[116, 114, 97, 100, 101]⟩, .string ⟨#[102, 117, 110, 100]⟩, .string ⟨#[98, 117, 121, 105, 110]⟩, .string ⟨#[112, 97, 121, 111, 117, 116]⟩, .string ⟨#[99, 108, 111, 115, 101, 100]⟩] w.heap.size rfl
  go_enter Tryd.func4, Tryd.ntmps4
  go_wp2_with fail
  obtain ⟨W, hW⟩ : ∃ W, Hid (w.alloc (.cells #[.string ⟨#[115, 104, 117, 116]⟩, .string ⟨#[116, 114, 97, 100, 101]⟩, .string ⟨#[102, 117, 110, 100]⟩, .string ⟨#[98, 117, 121, 105, 110]⟩, .string ⟨#[112, 97, 121, 111, 117, 116]⟩, .string ⟨#[99, 108, 111, 115, 101, 100]⟩] 9) = W) := ⟨_, Lib.hid rfl⟩
  rw [hW.out] at hB0 hw0 bl ⊢
  have e0 := (bl).cell 0
  have e1 := (bl).cell 1
  have e2 := (bl).cell 2
  have e3 := (bl).cell 3
  have e4 := (bl).cell 4
  have e5 := (bl).cell 5
  simp at e0 e1 e2 e3 e4 e5
  clear bl
  go_loop [6, 7, 8] (fun a b j => ∃ k : Nat, k ≤ 6 ∧ j = .int .i64 k ∧ a = .string ⟨(wantK i k).toArray⟩ ∧ b = .int .i64 (placeK l k)) (fun _ _ j => 6 - (intOf j).toNat)
  case atStart =>
    refine ⟨0, by omega, rfl, ?_, ?_⟩
    · unfold wantK; rw [if_neg (by omega)]
    · have : placeK l 0 = -1 := by have := plI_bd l; unfold placeK; split <;> omega
      rw [this]
  case round =>
    obtain ⟨k, hk, rfl, rfl, rfl⟩ := hrel
    by_cases hlt : k < 6
    · by_cases h1 : (k : Int) = i
      · have W1 := Lib.hid (wantK_eq k)
        subst h1
        by_cases h2 : wdL k = l
        · have P1 := Lib.hid (placeK_eq l k hlt h2)
          obtain rfl | rfl | rfl | rfl | rfl | rfl : k = 0 ∨ k = 1 ∨ k = 2 ∨ k = 3 ∨ k = 4 ∨ k = 5 := by omega
          all_goals
            simp only [wdL] at h2
            have q1 := show (_ == l) = true from beq_iff_eq.2 h2
            clear h2
            go_wp2_with fail
            go_round
            case rel => exact ⟨_, by decide, rfl, by rw [W1.out] <;> rfl, by rw [P1.out] <;> rfl⟩
            case measure => simp [intOf]
        · have P1 := Lib.hid (placeK_ne l k hlt h2)
          obtain ⟨pp, hpp⟩ : ∃ p, Hid (placeK l k = p) := ⟨_, Lib.hid rfl⟩
          rw [hpp.out] at P1 ⊢
          obtain rfl | rfl | rfl | rfl | rfl | rfl : k = 0 ∨ k = 1 ∨ k = 2 ∨ k = 3 ∨ k = 4 ∨ k = 5 := by omega
          all_goals
            simp only [wdL] at h2
            have q1 := show (_ == l) = false from beq_eq_false_iff_ne.2 h2
            clear h2
            go_wp2_with fail
            go_round
            case rel => exact ⟨_, by decide, rfl, by rw [W1.out] <;> rfl, by rw [P1.out]⟩
            case measure => simp [intOf]
      · have W1 := Lib.hid (wantK_ne i k h1)
        have q2 : ((k : Int) == i) = false := beq_eq_false_iff_ne.2 h1
        obtain ⟨aa, haa⟩ : ∃ p, Hid (wantK i k = p) := ⟨_, Lib.hid rfl⟩
        rw [haa.out] at W1 ⊢
        clear h1
        by_cases h2 : wdL k = l
        · have P1 := Lib.hid (placeK_eq l k hlt h2)
          obtain rfl | rfl | rfl | rfl | rfl | rfl : k = 0 ∨ k = 1 ∨ k = 2 ∨ k = 3 ∨ k = 4 ∨ k = 5 := by omega
          all_goals
            simp only [wdL] at h2
            have q1 := show (_ == l) = true from beq_iff_eq.2 h2
            clear h2
            go_wp2_with fail
            go_round
            case rel => exact ⟨_, by decide, rfl, by rw [W1.out], by rw [P1.out] <;> rfl⟩
            case measure => simp [intOf]
        · have P1 := Lib.hid (placeK_ne l k hlt h2)
          obtain ⟨pp, hpp⟩ : ∃ p, Hid (placeK l k = p) := ⟨_, Lib.hid rfl⟩
          rw [hpp.out] at P1 ⊢
          obtain rfl | rfl | rfl | rfl | rfl | rfl : k = 0 ∨ k = 1 ∨ k = 2 ∨ k = 3 ∨ k = 4 ∨ k = 5 := by omega
          all_goals
            simp only [wdL] at h2
            have q1 := show (_ == l) = false from beq_eq_false_iff_ne.2 h2
            clear h2
            go_wp2_with fail
            go_round
            case rel => exact ⟨_, by decide, rfl, by rw [W1.out], by rw [P1.out]⟩
            case measure => simp [intOf]
    · obtain rfl : 6 = k := by omega
      rw [wantK_all, placeK_all]
      have HPH := Lib.hid (phase_any l W hw0)
      obtain ⟨p, hp⟩ : ∃ p, Hid (plI l = p) := ⟨_, Lib.hid rfl⟩
      rw [hp.out] at HPH ⊢
      obtain ⟨b, hb⟩ : ∃ b, Hid (decide (0 ≤ p) = b) := ⟨_, Lib.hid rfl⟩
      have HW := Lib.hid (fun w1 (h : WdOk w1) => word_any i w1 h)
      obtain ⟨wd, hwd⟩ : ∃ x, Hid (wdI i = x) := ⟨_, Lib.hid rfl⟩
      rw [hwd.out] at HW ⊢
      have qw : (wd == wd) = true := by simp
      clear e0 e1 e2 e3 e4 e5
      by_cases hp0 : 0 ≤ p
      · rw [if_pos hp0, dct hp0] at HPH
        have qp := dct hp0
        have qm : max p 0 = p := by omega
        go_wp2_with fail
        refine (HPH.out).mono ?_
        rintro e w' ⟨rfl, rfl⟩
        go_wp2_with fail
        refine (awake20 _ hw0).mono ?_
        rintro e w1 ⟨rfl, hb1⟩
        go_wp2_with fail
        refine (HW.out _ (hw0.past hb1)).mono ?_
        rintro e w' ⟨rfl, rfl⟩
        go_wp2_with fail
        go_ret
        exact ⟨rfl, Below.past hB0 hb1 hB0.size⟩
      · rw [if_neg hp0, dcf hp0] at HPH
        have qp := dcf hp0
        have qm : max p 0 = 0 := by omega
        go_wp2_with fail
        refine (HPH.out).mono ?_
        rintro e w' ⟨rfl, rfl⟩
        go_wp2_with fail
        refine (awake20 _ hw0).mono ?_
        rintro e w1 ⟨rfl, hb1⟩
        go_wp2_with fail
        refine (HW.out _ (hw0.past hb1)).mono ?_
        rintro e w' ⟨rfl, rfl⟩
        go_wp2_with fail
        go_ret
        exact ⟨rfl, Below.past hB0 hb1 hB0.size⟩
end Go.Proofs.YtjkabmijkbpodabDoor
