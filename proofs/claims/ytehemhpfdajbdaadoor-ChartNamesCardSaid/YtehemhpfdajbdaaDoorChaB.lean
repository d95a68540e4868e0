import Derived.Test.YtehemhpfdajbdaaDoorChaA
namespace Go.Proofs.YtehemhpfdajbdaaDoor
open Go.RowKit

theorem ar2 {a b c d : Int} (h : a = b) (k : c = d) : Ending.returned (.tuple #[.int .i64 a, .int .i64 c]) = .returned (.tuple #[.int .i64 b, .int .i64 d]) := by rw [h, k]
theorem abt {a b : Int} (h : a = b) : (a == b) = true := beq_iff_eq.2 h
theorem abf {a b : Int} (h : ¬ a = b) : (a == b) = false := beq_eq_false_iff_ne.2 h

def rightB (m : Int) : Bool := decide (0 ≤ m) && decide (m ≤ 16)
theorem right_any (m : Int) (w : World) : Calls Tryd.prog 18 #[.int .i64 m] w fun e w' => e = .returned (.bool (rightB m)) ∧ w' = w := by
  unfold rightB
  by_cases h1 : 0 ≤ m
  · have q1 := adct h1
    obtain ⟨x, hx⟩ : ∃ x, Hid (decide (m ≤ 16) = x) := ⟨_, Lib.hid rfl⟩
    rw [q1, hx.out, Bool.true_and]
    have q2 := hx.out
    go_enter Tryd.func18, Tryd.ntmps18
    go_wp2_with fail
    go_ret
    exact ⟨rfl, rfl⟩
  · have q1 := adcf h1
    rw [q1, Bool.false_and]
    go_enter Tryd.func18, Tryd.ntmps18
    go_wp2_with fail
    go_ret
    exact ⟨rfl, rfl⟩
theorem right_yes (n : Nat) (hn : n ≤ 16) : rightB n = true := by simp [rightB]; omega
theorem right_not (m : Int) (h : m < 0 ∨ 16 < m) : rightB m = false := by
  unfold rightB
  rcases h with h | h
  · rw [adcf (by omega)]; rfl
  · rw [adcf (p := m ≤ 16) (by omega), Bool.and_false]

def countA (m : Int) : Int := if m < 0 ∨ 16 < m then 0 else 6 + 3 * m
theorem count_not (m : Int) (h : m < 0 ∨ 16 < m) (w : World) : Calls Tryd.prog 11 #[.int .i64 m] w fun e w' => e = .returned (.int .i64 0) ∧ w' = w := by
  have H := Lib.hid (right_not m h)
  clear h
  go_enter Tryd.func11, Tryd.ntmps11
  go_wp2_with fail
  refine (right_any m w).mono ?_
  rw [H.out]
  rintro e w' ⟨rfl, rfl⟩
  go_wp2_with fail
  go_ret
  exact ⟨rfl, rfl⟩
theorem count_yes (n : Nat) (hn : n ≤ 16) (w : World) : Calls Tryd.prog 11 #[.int .i64 n] w fun e w' => e = .returned (.int .i64 ((6 + 3 * n : Nat) : Int)) ∧ w' = w := by
  have H := Lib.hid (right_yes n hn)
  go_enter Tryd.func11, Tryd.ntmps11
  go_wp2_with fail
  refine (right_any n w).mono ?_
  rw [H.out]
  rintro e w' ⟨rfl, rfl⟩
  go_wp2_with fail
  go_ret
  exact ⟨by simp, rfl⟩

def plc (k : Int) : Int := if k = 7 then 0 else if k = 8 then 1 else if k = 9 then 2 else -1
theorem plc_any (k : Int) (w : World) : Calls Tryd.prog 17 #[.int .i64 k] w fun e w' => e = .returned (.int .i64 (plc k)) ∧ w' = w := by
  unfold plc
  by_cases h1 : k = 7
  · subst h1
    go_enter Tryd.func17, Tryd.ntmps17
    go_wp2_with fail
    go_ret
    exact ⟨rfl, rfl⟩
  · have q1 := abf h1
    rw [if_neg h1]
    clear h1
    by_cases h2 : k = 8
    · subst h2
      go_enter Tryd.func17, Tryd.ntmps17
      go_wp2_with fail
      go_ret
      exact ⟨rfl, rfl⟩
    · have q2 := abf h2
      rw [if_neg h2]
      clear h2
      by_cases h3 : k = 9
      · subst h3
        go_enter Tryd.func17, Tryd.ntmps17
        go_wp2_with fail
        go_ret
        exact ⟨rfl, rfl⟩
      · have q3 := abf h3
        rw [if_neg h3]
        clear h3
        go_enter Tryd.func17, Tryd.ntmps17
        go_wp2_with fail
        go_ret
        exact ⟨rfl, rfl⟩

/-- An account's number, and 0; or 0 and 8. -/
def numA (m : Int) (a : Acc) : Int × Int :=
  if m < 0 ∨ 16 < m then (0, 8)
  else if a.kind = 7 ∨ a.kind = 8 ∨ a.kind = 9 then (if 1 ≤ a.member ∧ a.member ≤ m then (6 + 3 * (a.member - 1) + (a.kind - 7), 0) else (0, 8))
  else if a.member = 0 ∧ 1 ≤ a.kind ∧ a.kind ≤ 6 then (a.kind - 1, 0) else (0, 8)

set_option maxRecDepth 10000 in
set_option maxHeartbeats 2000000 in
theorem num_any (m : Int) (a : Acc) (w : World) : Calls Tryd.prog 10 #[.int .i64 m, .agg #[.int .i64 a.kind, .int .i64 a.member]] w fun e w' => e = .returned (.tuple #[.int .i64 (numA m a).1, .int .i64 (numA m a).2]) ∧ Below w.heap.size w w' := by
  have hB0 := (Below.refl w.heap.size w).alloc (Nat.le_refl _) (.cells #[.int .i64 a.kind, .int .i64 a.member] 23)
  obtain ⟨k, b⟩ := a
  dsimp only at hB0 ⊢
  by_cases hm : m < 0 ∨ 16 < m
  · have H := Lib.hid (right_not m hm)
    have HN : Hid (numA m ⟨k, b⟩ = (0, 8)) := Lib.hid (by rw [numA, if_pos hm])
    rw [HN.out]
    clear hm
    have T := Lib.hid (fun w => plc_any k w)
    obtain ⟨p, hp⟩ : ∃ p, Hid (plc k = p) := ⟨_, Lib.hid rfl⟩
    rw [hp.out] at T
    go_enter Tryd.func10, Tryd.ntmps10
    go_wp2_with fail
    refine (T.out _).mono ?_
    rintro e w' ⟨rfl, rfl⟩
    go_wp2_with fail
    refine (right_any m _).mono ?_
    rw [H.out]
    rintro e w' ⟨rfl, rfl⟩
    go_wp2_with fail
    go_ret2
    exact ⟨rfl, hB0⟩
  · have H : Hid (rightB m = true) := Lib.hid (by unfold rightB; rw [adct (by omega), adct (by omega)]; rfl)
    by_cases hk : k = 7 ∨ k = 8 ∨ k = 9
    · by_cases h1 : 1 ≤ b
      · have q1 := adct h1
        by_cases h2 : b ≤ m
        · have q2 := adct h2
          have HN : Hid (numA m ⟨k, b⟩ = (6 + 3 * (b - 1) + (k - 7), 0)) := Lib.hid (by rw [numA, if_neg hm, if_pos hk, if_pos ⟨h1, h2⟩])
          have b1 : b ≤ 16 := by omega
          rw [HN.out]
          clear hm HN
          rcases hk with rfl | rfl | rfl
          · have P : Hid (plc 7 = 0) := Lib.hid rfl
            go_enter Tryd.func10, Tryd.ntmps10
            go_wp2_with fail
            refine (plc_any _ _).mono ?_
            rw [P.out]
            rintro e w' ⟨rfl, rfl⟩
            go_wp2_with fail
            refine (right_any m _).mono ?_
            rw [H.out]
            rintro e w' ⟨rfl, rfl⟩
            go_wp2_with fail
            go_ret2
            exact ⟨ar2 (by omega) rfl, hB0⟩
          · have P : Hid (plc 8 = 1) := Lib.hid rfl
            go_enter Tryd.func10, Tryd.ntmps10
            go_wp2_with fail
            refine (plc_any _ _).mono ?_
            rw [P.out]
            rintro e w' ⟨rfl, rfl⟩
            go_wp2_with fail
            refine (right_any m _).mono ?_
            rw [H.out]
            rintro e w' ⟨rfl, rfl⟩
            go_wp2_with fail
            go_ret2
            exact ⟨ar2 (by omega) rfl, hB0⟩
          · have P : Hid (plc 9 = 2) := Lib.hid rfl
            go_enter Tryd.func10, Tryd.ntmps10
            go_wp2_with fail
            refine (plc_any _ _).mono ?_
            rw [P.out]
            rintro e w' ⟨rfl, rfl⟩
            go_wp2_with fail
            refine (right_any m _).mono ?_
            rw [H.out]
            rintro e w' ⟨rfl, rfl⟩
            go_wp2_with fail
            go_ret2
            exact ⟨ar2 (by omega) rfl, hB0⟩
        · have q2 := adcf h2
          have HN : Hid (numA m ⟨k, b⟩ = (0, 8)) := Lib.hid (by rw [numA, if_neg hm, if_pos hk, if_neg (fun c => h2 c.2)])
          rw [HN.out]
          clear hm HN
          rcases hk with rfl | rfl | rfl
          all_goals
            go_enter Tryd.func10, Tryd.ntmps10
            go_wp2_with fail
            refine (plc_any _ _).mono ?_
            rintro e w' ⟨rfl, rfl⟩
            go_wp2_with fail
            refine (right_any m _).mono ?_
            rw [H.out]
            rintro e w' ⟨rfl, rfl⟩
            go_wp2_with fail
            go_ret2
            exact ⟨rfl, hB0⟩
      · have q1 := adcf h1
        have HN : Hid (numA m ⟨k, b⟩ = (0, 8)) := Lib.hid (by rw [numA, if_neg hm, if_pos hk, if_neg (fun c => h1 c.1)])
        rw [HN.out]
        clear hm HN
        rcases hk with rfl | rfl | rfl
        all_goals
          go_enter Tryd.func10, Tryd.ntmps10
          go_wp2_with fail
          refine (plc_any _ _).mono ?_
          rintro e w' ⟨rfl, rfl⟩
          go_wp2_with fail
          refine (right_any m _).mono ?_
          rw [H.out]
          rintro e w' ⟨rfl, rfl⟩
          go_wp2_with fail
          go_ret2
          exact ⟨rfl, hB0⟩
    · have HP : Hid (plc k = -1) := Lib.hid (by unfold plc; rw [if_neg (by omega), if_neg (by omega), if_neg (by omega)])
      have T := Lib.hid (fun w => plc_any k w)
      rw [HP.out] at T
      by_cases h1 : b = 0
      · subst h1
        by_cases h2 : 1 ≤ k
        · have q2 := adct h2
          by_cases h3 : k ≤ 6
          · have q3 := adct h3
            have HN : Hid (numA m ⟨k, 0⟩ = (k - 1, 0)) := Lib.hid (by rw [numA, if_neg hm, if_neg hk, if_pos ⟨rfl, h2, h3⟩])
            rw [HN.out]
            clear hm HN hk HP
            go_enter Tryd.func10, Tryd.ntmps10
            go_wp2_with fail
            refine (T.out _).mono ?_
            rintro e w' ⟨rfl, rfl⟩
            go_wp2_with fail
            refine (right_any m _).mono ?_
            rw [H.out]
            rintro e w' ⟨rfl, rfl⟩
            go_wp2_with fail
            go_ret2
            exact ⟨rfl, hB0⟩
          · have q3 := adcf h3
            have HN : Hid (numA m ⟨k, 0⟩ = (0, 8)) := Lib.hid (by rw [numA, if_neg hm, if_neg hk, if_neg (fun c => h3 c.2.2)])
            rw [HN.out]
            clear hm HN hk HP
            go_enter Tryd.func10, Tryd.ntmps10
            go_wp2_with fail
            refine (T.out _).mono ?_
            rintro e w' ⟨rfl, rfl⟩
            go_wp2_with fail
            refine (right_any m _).mono ?_
            rw [H.out]
            rintro e w' ⟨rfl, rfl⟩
            go_wp2_with fail
            go_ret2
            exact ⟨rfl, hB0⟩
        · have q2 := adcf h2
          have HN : Hid (numA m ⟨k, 0⟩ = (0, 8)) := Lib.hid (by rw [numA, if_neg hm, if_neg hk, if_neg (fun c => h2 c.2.1)])
          rw [HN.out]
          clear hm HN hk HP
          go_enter Tryd.func10, Tryd.ntmps10
          go_wp2_with fail
          refine (T.out _).mono ?_
          rintro e w' ⟨rfl, rfl⟩
          go_wp2_with fail
          refine (right_any m _).mono ?_
          rw [H.out]
          rintro e w' ⟨rfl, rfl⟩
          go_wp2_with fail
          go_ret2
          exact ⟨rfl, hB0⟩
      · have q1 := abf h1
        have HN : Hid (numA m ⟨k, b⟩ = (0, 8)) := Lib.hid (by rw [numA, if_neg hm, if_neg hk, if_neg (fun c => h1 c.1)])
        rw [HN.out]
        clear hm HN hk HP h1
        go_enter Tryd.func10, Tryd.ntmps10
        go_wp2_with fail
        refine (T.out _).mono ?_
        rintro e w' ⟨rfl, rfl⟩
        go_wp2_with fail
        refine (right_any m _).mono ?_
        rw [H.out]
        rintro e w' ⟨rfl, rfl⟩
        go_wp2_with fail
        go_ret2
        exact ⟨rfl, hB0⟩

/-- The account of a number. -/
def accN (n : Nat) : Acc := if n < 6 then ⟨1 + n, 0⟩ else ⟨7 + ((n - 6) % 3 : Nat), 1 + ((n - 6) / 3 : Nat)⟩
theorem ar3 {a b c d e f : Int} (h : a = b) (k : c = d) (j : e = f) : Ending.returned (.tuple #[.agg #[.int .i64 a, .int .i64 c], .int .i64 e]) = .returned (.tuple #[.agg #[.int .i64 b, .int .i64 d], .int .i64 f]) := by rw [h, k, j]

def eqA (x y : Acc) : Bool := x.kind == y.kind && x.member == y.member
theorem acc_eql (x y : Acc) (w : World) : (binOp .eql 23 (.agg #[.int .i64 x.kind, .int .i64 x.member]) (.agg #[.int .i64 y.kind, .int .i64 y.member])).run Tryd.prog w = .ok (.bool (eqA x y)) w := by
  have u3 := Tryd.underlying3
  have hS : Tryd.prog.underlying 23 = some (.struct (Tryd.prog.fieldsOf 23)) := by kernel_rfl
  have hp : Tryd.prog.stoodInHeld 23 = false := by kernel_rfl
  rw [run_eql_struct, show (10000 : Nat) = 9999 + 1 from rfl, run_equalIn_agg w 9999 23 _ _ hS hp]
  simp only [Program.fieldsOf, Tryd.underlying23]
  go_simp
  unfold eqA
  by_cases h1 : x.kind = y.kind <;> by_cases h2 : x.member = y.member <;> simp [h1, h2]

/-- Where an account first stands; -1: nowhere. -/
def idxA : Nat → List Acc → Acc → Int
  | _, [], _ => -1
  | k, x :: l, a => if eqA x a then k else idxA (k + 1) l a
def placeA (m : Int) (a : Acc) : Int := idxA 0 (allA m) a

set_option maxRecDepth 10000 in
set_option maxHeartbeats 2000000 in
theorem place_not (m : Int) (a : Acc) (h : m < 0 ∨ 16 < m) (w : World) : Calls Tryd.prog 15 #[.int .i64 m, .agg #[.int .i64 a.kind, .int .i64 a.member]] w fun e w' => e = .returned (.int .i64 (-1)) ∧ Below w.heap.size w w' := by
  have hB0 := (Below.refl w.heap.size w).alloc (Nat.le_refl _) (.cells #[.int .i64 a.kind, .int .i64 a.member] 23)
  have Hh := Lib.hid h
  clear h
  go_enter Tryd.func15, Tryd.ntmps15
  go_wp2_with fail
  refine (all_not m _ Hh.out).mono ?_
  rintro e w' ⟨rfl, rfl⟩
  go_wp2_with fail
  go_loop [6] (fun i => i = .int .i64 0) (fun _ => 0)
  case atStart => rfl
  case round =>
    obtain rfl := hrel
    go_wp2_with fail
    go_ret
    exact ⟨rfl, hB0⟩

set_option maxRecDepth 10000 in
set_option maxHeartbeats 2000000 in
theorem place_yes (n : Nat) (hn : n ≤ 16) (a : Acc) (w : World) : Calls Tryd.prog 15 #[.int .i64 n, .agg #[.int .i64 a.kind, .int .i64 a.member]] w fun e w' => e = .returned (.int .i64 (idxA 0 (accs n) a)) ∧ Below w.heap.size w w' := by
  have hB0 := (Below.refl w.heap.size w).alloc (Nat.le_refl _) (.cells #[.int .i64 a.kind, .int .i64 a.member] 23)
  have bx0 := Blk.new w 23 #[.int .i64 a.kind, .int .i64 a.member] w.heap.size rfl
  have T := Lib.hid (fun w => all_yes n hn w)
  have HL := Lib.hid (accs_len n)
  obtain ⟨C, hC⟩ : ∃ C : Nat, Hid (6 + 3 * n = C) := ⟨_, Lib.hid rfl⟩
  rw [hC.out] at T HL
  have hc16 : C ≤ 54 := by have := hC.out; omega
  obtain ⟨l, hl⟩ : ∃ l, Hid (accs n = l) := ⟨_, Lib.hid rfl⟩
  rw [hl.out] at T HL ⊢
  obtain ⟨R, hR⟩ : ∃ R, Hid (idxA 0 l a = R) := ⟨_, Lib.hid rfl⟩
  rw [hR.out]
  go_enter Tryd.func15, Tryd.ntmps15
  go_wp2_with fail
  refine (T.out _).mono ?_
  rintro e w1 ⟨v, rfl, hown, hb1⟩
  obtain ⟨A, cc, rfl⟩ := own_form hown
  have hrd := Rd.of_own hown
  have hB1 := Below.past hB0 hb1 hB0.size
  have bx1 := bx0.past hb1
  go_wp2_with fail
  go_loopw [6] (fun i wr => ∃ k : Nat, k ≤ C ∧ i = .int .i64 k ∧ Hid (idxA k (l.drop k) a = R) ∧ Below w1.heap.size w1 wr) (fun i _ => C - (intOf i).toNat)
  case atStart => exact ⟨0, by omega, rfl, Lib.hid hR.out, Below.refl _ _⟩
  case round =>
    obtain ⟨k, hk, rfl, hI, hb⟩ := hrel
    have bx := bx1.past hb
    have hrd2 := hrd.past hb
    have e0 := (bx).cell 0
    have e1 := (bx).cell 1
    simp at e0 e1
    by_cases hlt : k < C
    · have hg_f : l[k]? = some (l[k]'(by have := HL.out; omega)) := List.getElem?_eq_getElem _
      obtain ⟨b_f, off_f, rfl, hbb_f, hc_f⟩ := (hrd2).elem Acc.cells_len hg_f hlt
      have HT_f := Lib.hid (show l.take (k + 1) = l.take k ++ [(l[k]'(by have := HL.out; omega))] from List.take_succ_eq_append_getElem (by have := HL.out; omega))
      have HD_f := Lib.hid (show l.drop k = (l[k]'(by have := HL.out; omega)) :: l.drop (k + 1) from List.drop_eq_getElem_cons (by have := HL.out; omega))
      have HM_f := Lib.hid (show (l[k]'(by have := HL.out; omega)) ∈ l from List.getElem_mem _)
      generalize (l[k]'(by have := HL.out; omega)) = f at *
      have c0 := hc_f 0 _ rfl
      have c1 := hc_f 1 _ rfl
      clear hc_f hg_f
      simp only [Nat.add_zero] at c0
      have hq := fun w => acc_eql f a w
      have hbN : ∀ j, Below w1.heap.size w1 (wr.drewN j) := fun j => below_drewN hb j
      by_cases he : eqA f a = true
      · have HR : Hid (R = (k : Int)) := Lib.hid (by rw [← hI.out, HD_f.out, idxA, if_pos he])
        rw [he] at hq
        clear he
        go_wp2_with fail
        go_quiet (fail)
        go_wp2_with fail
        go_ret
        rw [HR.out]
        exact ⟨rfl, Below.next hB1 (hbN _)⟩
      · have HI2 : Hid (idxA (k + 1) (l.drop (k + 1)) a = R) := Lib.hid (by rw [← hI.out, HD_f.out, idxA, if_neg he])
        have he2 : eqA f a = false := by simpa using he
        rw [he2] at hq
        clear he he2
        go_wp2_with fail
        go_quiet (fail)
        go_wp2_with fail
        go_roundw
        case rel => exact ⟨k + 1, by omega, by go_num, HI2, hbN _⟩
        case measure => simp [intOf]; omega
    · have HR : Hid (R = -1) := Lib.hid (by rw [← hI.out, List.drop_eq_nil_of_le (by have := HL.out; omega), idxA])
      go_wp2_with fail
      go_ret
      rw [HR.out]
      exact ⟨rfl, Below.next hB1 hb⟩
end Go.Proofs.YtehemhpfdajbdaaDoor
