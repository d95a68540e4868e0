import Derived.Test.YtehemhpfdajbdaaDoorBas2
namespace Go.Proofs.YtehemhpfdajbdaaDoor
open Go.RowKit

structure Acc where
  kind : Int
  member : Int
def Acc.cells (x : Acc) : List Value := [.int .i64 x.kind, .int .i64 x.member]
theorem Acc.cells_len (m : Acc) : m.cells.length = 2 := rfl
def houseA : List Acc := [⟨1, 0⟩, ⟨2, 0⟩, ⟨3, 0⟩, ⟨4, 0⟩, ⟨5, 0⟩, ⟨6, 0⟩]
def memA (j : Int) : List Acc := [⟨7, j⟩, ⟨8, j⟩, ⟨9, j⟩]
def accs : Nat → List Acc
  | 0 => houseA
  | n + 1 => accs n ++ memA ((n : Int) + 1)
theorem accs_len (n : Nat) : (accs n).length = 6 + 3 * n := by
  induction n with
  | zero => rfl
  | succ n ih => rw [accs, List.length_append, ih]; simp [memA]; omega
/-- All accounts of a house of that many members. -/
def allA (m : Int) : List Acc := if m < 0 ∨ 16 < m then [] else accs m.toNat
theorem acc_info : (Tryd.prog.info? 23).map (fun i => (i.zero, i.size, i.bytes)) = some (some (.agg #[.int .i64 0, .int .i64 0]), 2, 16) := by kernel_rfl
theorem ainfo {x : Option TypeInfo} {z : Option Value} {s b : Nat} (h : x.map (fun i => (i.zero, i.size, i.bytes)) = some (z, s, b)) : ∃ i, x = some i ∧ i.zero = z ∧ i.size = s ∧ i.bytes = b := by
  cases x with
  | none => cases h
  | some i => simp only [Option.map_some, Option.some.injEq, Prod.mk.injEq] at h; exact ⟨i, rfl, h.1, h.2.1, h.2.2⟩
theorem adct {p : Prop} [Decidable p] (h : p) : decide p = true := decide_eq_true h
theorem adcf {p : Prop} [Decidable p] (h : ¬ p) : decide p = false := decide_eq_false h

set_option maxRecDepth 10000 in
set_option maxHeartbeats 1000000 in
theorem all_not (m : Int) (w : World) (h : m < 0 ∨ 16 < m) :
    Calls Tryd.prog 8 #[.int .i64 m] w fun e w' => e = .returned (.slice none 0 0) ∧ w' = w := by
  by_cases d1 : m < 0
  · have q1 := adct d1
    go_enter Tryd.func8, Tryd.ntmps8
    go_wp2_with fail
    go_ret
    exact ⟨rfl, rfl⟩
  · have q1 := adcf d1
    have q2 : decide (16 < m) = true := adct (by omega)
    go_enter Tryd.func8, Tryd.ntmps8
    go_wp2_with fail
    go_ret
    exact ⟨rfl, rfl⟩

set_option maxRecDepth 10000 in
set_option maxHeartbeats 2000000 in
theorem all_yes (n : Nat) (hn : n ≤ 16) (w : World) :
    Calls Tryd.prog 8 #[.int .i64 n] w fun e w' => ∃ v, e = .returned v ∧ w'.ownsRow w.heap.size 23 2 v (6 + 3 * n) ((accs n).flatMap Acc.cells) ∧ Below w.heap.size w w' := by
  obtain ⟨i0, hi0, hz0, hz1, hz2⟩ := ainfo acc_info
  have q1 : decide ((n : Int) < 0) = false := adcf (by omega)
  have q2 : decide ((16 : Int) < n) = false := adcf (by omega)
  go_enter Tryd.func8, Tryd.ntmps8
  go_wp2_with fail
  go_loopw [3, 4] (fun v i wr => ∃ k : Nat, k ≤ 6 ∧ i = .int .i64 ((k : Int) + 1) ∧ wr.ownsRow w.heap.size 23 2 v k ((houseA.take k).flatMap Acc.cells) ∧ Below w.heap.size w wr) (fun _ i _ => 7 - (intOf i).toNat)
  case atStart => exact ⟨0, by omega, rfl, World.ownsRow_nil _ _ _ _, Below.refl _ _⟩
  case round =>
    obtain ⟨k, hk, rfl, hown, hb⟩ := hrel
    have hs := hb.size
    by_cases hlt : k < 6
    · have q3 : decide ((k : Int) + 1 ≤ 6) = true := adct (by omega)
      go_wp2_with (at_builtin; refine wpList_append_lit _ _ rfl (.tmp 18) (.tmp 21) 30 rfl w.heap.size 23 i0 _ 2 16 Tryd.underlying30 hi0 hz0 hz1 hz2 rfl (by decide) _ _ _ rfl hown _ 1 1 rfl (by first | rfl | simp) rfl (by simp [Value.oneCell']) (by omega) (by omega) (by omega) ?_; intro v' w' hown' hg')
      go_roundw
      case rel =>
        refine ⟨k + 1, by omega, by go_num, ?_, ?_⟩
        · obtain rfl | rfl | rfl | rfl | rfl | rfl : k = 0 ∨ k = 1 ∨ k = 2 ∨ k = 3 ∨ k = 4 ∨ k = 5 := by omega
          all_goals simpa [houseA, Acc.cells] using hown'
        · exact below_own (hb.alloc hs _) hg' hown (by simp; omega) (Nat.le_refl _)
      case measure => simp [intOf]; omega
    · obtain rfl : 6 = k := by omega
      go_wp2_with fail
      go_loopw [3, 5] (fun v i wr => ∃ k : Nat, k ≤ n ∧ i = .int .i64 ((k : Int) + 1) ∧ wr.ownsRow w.heap.size 23 2 v (6 + 3 * k) ((accs k).flatMap Acc.cells) ∧ Below w.heap.size w wr) (fun _ i _ => (n + 1) - (intOf i).toNat)
      case atStart => exact ⟨0, by omega, rfl, hown, hb⟩
      case round =>
        clear hown hb hs hk hlt
        obtain ⟨k, hk, rfl, hown, hb⟩ := hrel
        have hs := hb.size
        by_cases hlt : k < n
        · have q3 : decide ((k : Int) + 1 ≤ n) = true := adct (by omega)
          go_wp2_with fail
          go_loopw [3, 6] (fun v i wr => ∃ j : Nat, j ≤ 3 ∧ i = .int .i64 ((j : Int) + 7) ∧ wr.ownsRow w.heap.size 23 2 v (6 + 3 * k + j) ((accs k ++ (memA ((k : Int) + 1)).take j).flatMap Acc.cells) ∧ Below w.heap.size w wr) (fun _ i _ => 10 - (intOf i).toNat)
          case atStart => exact ⟨0, by omega, rfl, by simpa using hown, hb⟩
          case round =>
            clear hown hb hs
            obtain ⟨j, hj, rfl, hown, hb⟩ := hrel
            have hs := hb.size
            by_cases hlj : j < 3
            · have q4 : decide ((j : Int) + 7 ≤ 9) = true := adct (by omega)
              go_wp2_with (at_builtin; refine wpList_append_lit _ _ rfl (.tmp 32) (.tmp 36) 30 rfl w.heap.size 23 i0 _ 2 16 Tryd.underlying30 hi0 hz0 hz1 hz2 rfl (by decide) _ _ _ rfl hown _ 1 1 rfl (by first | rfl | simp) rfl (by simp [Value.oneCell']) (by omega) (by omega) (by omega) ?_; intro v' w' hown' hg')
              go_roundw
              case rel =>
                refine ⟨j + 1, by omega, by go_num, ?_, ?_⟩
                · obtain rfl | rfl | rfl : j = 0 ∨ j = 1 ∨ j = 2 := by omega
                  all_goals simpa [memA, Acc.cells, Nat.add_assoc] using hown'
                · exact below_own (hb.alloc hs _) hg' hown (by simp; omega) (Nat.le_refl _)
              case measure => simp [intOf]; omega
            · obtain rfl : 3 = j := by omega
              go_wp2_with fail
              go_roundw
              case rel =>
                refine ⟨k + 1, by omega, by go_num, ?_, hb⟩
                rw [accs]
                simpa [memA, Nat.mul_add, Nat.add_assoc] using hown
              case measure => simp [intOf]; omega
        · obtain rfl : n = k := by omega
          have q3 : decide ((n : Int) + 1 ≤ n) = false := adcf (by omega)
          go_wp2_with fail
          go_ret
          exact ⟨_, rfl, hown, hb⟩
end Go.Proofs.YtehemhpfdajbdaaDoor
