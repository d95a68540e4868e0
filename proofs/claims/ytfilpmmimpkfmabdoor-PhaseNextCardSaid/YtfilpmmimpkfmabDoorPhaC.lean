import Derived.Test.YtfilpmmimpkfmabDoorPhaB
import Derived.StillTailTactics
namespace Go.Proofs.YtfilpmmimpkfmabDoor
open Go.RowKit

def intC (x : Int) : List Value := [.int .i64 x]
theorem intC_len (x : Int) : (intC x).length = 1 := rfl
def boolC (x : Bool) : List Value := [.bool x]
theorem boolC_len (x : Bool) : (boolC x).length = 1 := rfl
theorem int_info29 : (Tryd.prog.info? 3).map (fun i => (i.zero, i.size, i.bytes)) = some (some (.int .i64 0), 1, 8) := by kernel_rfl

set_option maxHeartbeats 1000000 in
theorem same28_eq (A1 A2 : Option Addr) (n c1 c2 : Nat) (l : List Int) (w : World) (hn : n ≤ 100000) (h1 : Rd w w.heap.size 1 A1 n (l.flatMap intC)) (h2 : Rd w w.heap.size 1 A2 n (l.flatMap intC)) :
    Calls Tryd.prog 18 #[.slice A1 n c1, .slice A2 n c2] w fun e w' => e = .returned (.bool true) ∧ Below w.heap.size w w' := by
  have HL := Lib.hid (h1.len intC_len (by omega))
  go_enter Tryd.func18, Tryd.ntmps18
  go_wp2_with fail
  go_loopw [5] (fun i wr => ∃ k : Nat, k ≤ n ∧ i = .int .i64 k ∧ Below w.heap.size w wr) (fun i _ => n - (intOf i).toNat)
  case atStart => exact ⟨0, Nat.zero_le _, rfl, Below.refl _ _⟩
  case round =>
    obtain ⟨k, hk, rfl, hb⟩ := hrel
    by_cases hlt : k < n
    · have q1 : decide ((k : Int) < (n : Int)) = true := dct (by omega)
      have hg_f : l[k]? = some (l[k]'(by have := HL.out; omega)) := List.getElem?_eq_getElem _
      obtain ⟨b_f, off_f, rfl, hbb_f, hc_f⟩ := (h1.below hb).elem intC_len hg_f hlt
      have HT_f := Lib.hid (show l.take (k + 1) = l.take k ++ [(l[k]'(by have := HL.out; omega))] from List.take_succ_eq_append_getElem (by have := HL.out; omega))
      have HM_f := Lib.hid (show (l[k]'(by have := HL.out; omega)) ∈ l from List.getElem_mem _)
      have HG_f := Lib.hid hg_f
      generalize (l[k]'(by have := HL.out; omega)) = f at *
      have c0 := hc_f 0 _ rfl
      clear hc_f hg_f
      simp only [Nat.add_zero, Nat.mul_one] at c0
      obtain ⟨b2, off2, rfl, hbb2, hc2⟩ := (h2.below hb).elem intC_len HG_f.out hlt
      have d0 := hc2 0 _ rfl
      simp only [Nat.add_zero, Nat.mul_one] at d0
      clear hc2
      have b1 : (0 : Int) ≤ (k : Int) := by omega
      have b3 : (k : Int) < (n : Int) := by omega
      go_wp2_with fail
      go_still (by kernel_rfl)
      clear c0 d0 b1 b3
      go_wp2_with fail
      go_roundw
      case rel => exact ⟨k + 1, by omega, by go_num, hb.drew⟩
      case measure => simp [intOf]; omega
    · have q1 : decide ((k : Int) < (n : Int)) = false := dcf (by omega)
      go_wp2_with fail
      go_ret
      exact ⟨rfl, hb⟩

/-- The phases of a day. -/
def dayL (s : Bool) : List Int := if s then [1, 2, 3, 4] else [1, 2, 4]
def pathL (ss : List Bool) : List Int := 0 :: ss.flatMap dayL
theorem pathL_len (ss : List Bool) : (pathL ss).length ≤ 1 + 4 * ss.length := by
  unfold pathL
  rw [List.length_cons]
  have : (ss.flatMap dayL).length ≤ 4 * ss.length := by
    induction ss with
    | nil => simp
    | cons s ss ih => rw [List.flatMap_cons, List.length_append, List.length_cons]; have : (dayL s).length ≤ 4 := by cases s <;> decide
                      omega
  omega
theorem pathL_snoc (ss : List Bool) (s : Bool) : pathL (ss ++ [s]) = pathL ss ++ dayL s := by simp [pathL]

set_option maxHeartbeats 2000000 in
theorem refPath_any (A : Option Addr) (n cp : Nat) (ss : List Bool) (w : World) (hn : n ≤ 1000) (hr : Rd w w.heap.size 1 A n (ss.flatMap boolC)) :
    Calls Tryd.prog 19 #[.slice A n cp] w fun e w' => ∃ v, e = .returned v ∧ w'.ownsRow w.heap.size 3 1 v ((pathL ss).length + 1) ((pathL ss).flatMap intC ++ [.int .i64 5]) ∧ Below w.heap.size w w' := by
  have HL := Lib.hid (hr.len boolC_len (by omega))
  obtain ⟨i0, hi0, hz0, hz1, hz2⟩ := info_parts int_info29
  have own0 : (w.alloc (.cells #[.int .i64 0] 3)).ownsRow w.heap.size 3 1 (.slice (some ⟨w.heap.size, 0, none⟩) 1 1) 1 ((pathL []).flatMap intC) := World.ownsRow_lit w #[.int .i64 0] 1 (Nat.le_refl _) (by unfold maxLen; omega) rfl
  have hB0 := (Below.refl w.heap.size w).alloc (Nat.le_refl _) (.cells #[.int .i64 0] 3)
  go_enter Tryd.func19, Tryd.ntmps19
  go_wp2_with fail
  go_loopw [3, 4] (fun v i wr => ∃ k : Nat, k ≤ n ∧ i = .int .i64 k ∧ wr.ownsRow w.heap.size 3 1 v (pathL (ss.take k)).length ((pathL (ss.take k)).flatMap intC) ∧ Below w.heap.size w wr) (fun _ i _ => n - (intOf i).toNat)
  case atStart => exact ⟨0, Nat.zero_le _, rfl, by simpa [pathL] using own0, hB0⟩
  case round =>
    obtain ⟨k, hk, rfl, hown, hb⟩ := hrel
    have hpl := pathL_len (ss.take k)
    have htl : (ss.take k).length ≤ k := List.length_take_le _ _
    by_cases hlt : k < n
    · have q1 : decide ((k : Int) < (n : Int)) = true := dct (by omega)
      have hg_f : ss[k]? = some (ss[k]'(by have := HL.out; omega)) := List.getElem?_eq_getElem _
      obtain ⟨b_f, off_f, rfl, hbb_f, hc_f⟩ := (hr).elem boolC_len hg_f hlt
      have HT_f := Lib.hid (show ss.take (k + 1) = ss.take k ++ [(ss[k]'(by have := HL.out; omega))] from List.take_succ_eq_append_getElem (by have := HL.out; omega))
      have HM_f := Lib.hid (show (ss[k]'(by have := HL.out; omega)) ∈ ss from List.getElem_mem _)
      generalize (ss[k]'(by have := HL.out; omega)) = f at *
      have c0 := hc_f 0 _ rfl
      clear hc_f hg_f
      simp only [Nat.add_zero, Nat.mul_one] at c0
      obtain ⟨N, HN⟩ : ∃ N, Hid ((pathL (ss.take k)).length = N) := ⟨_, Lib.hid rfl⟩
      rw [HN.out] at hown hpl
      obtain ⟨xs, HX⟩ : ∃ xs, Hid ((pathL (ss.take k)).flatMap intC = xs) := ⟨_, Lib.hid rfl⟩
      rw [HX.out] at hown
      cases f
      all_goals
        go_wp2_with (first
          | (at_builtin; refine wpList_append_lit _ _ rfl (.tmp 12) (.tmp 13) 41 rfl w.heap.size 3 i0 _ 1 8 Tryd.underlying41 hi0 hz0 hz1 hz2 rfl (by decide) _ _ _ rfl hown _ 1 1 rfl (by simp) rfl (by simp [Value.oneCell']) (by omega) (by omega) hb.size ?_; intro v1 w1 o1 g1; have b1 := below_own (hb.alloc hb.size _) g1 hown (Nat.le_trans hb.size (by simp)) (Nat.le_refl _))
          | (at_builtin; refine wpList_append_lit _ _ rfl (.tmp 15) (.tmp 16) 41 rfl w.heap.size 3 i0 _ 1 8 Tryd.underlying41 hi0 hz0 hz1 hz2 rfl (by decide) _ _ _ rfl o1 _ 1 1 rfl (by simp) rfl (by simp [Value.oneCell']) (by omega) (by omega) b1.size ?_; intro v2 w2 o2 g2; have b2 := below_own (b1.alloc b1.size _) g2 o1 (Nat.le_trans b1.size (by simp)) (Nat.le_refl _); have c1 := (b2.cell (p := ⟨b_f, off_f + k, none⟩) hbb_f).trans c0)
          | (at_builtin; refine wpList_append_lit _ _ rfl (.tmp 22) (.tmp 23) 41 rfl w.heap.size 3 i0 _ 1 8 Tryd.underlying41 hi0 hz0 hz1 hz2 rfl (by decide) _ _ _ rfl o2 _ 1 1 rfl (by simp) rfl (by simp [Value.oneCell']) (by omega) (by omega) b2.size ?_; intro v3 w3 o3 g3; have b3 := below_own (b2.alloc b2.size _) g3 o2 (Nat.le_trans b2.size (by simp)) (Nat.le_refl _))
          | (at_builtin; refine wpList_append_lit _ _ rfl (.tmp 25) (.tmp 26) 41 rfl w.heap.size 3 i0 _ 1 8 Tryd.underlying41 hi0 hz0 hz1 hz2 rfl (by decide) _ _ _ rfl o3 _ 1 1 rfl (by simp) rfl (by simp [Value.oneCell']) (by omega) (by omega) b3.size ?_; intro v4 w4 o4 g4; have b4 := below_own (b3.alloc b3.size _) g4 o3 (Nat.le_trans b3.size (by simp)) (Nat.le_refl _))
          | (at_builtin; refine wpList_append_lit _ _ rfl (.tmp 25) (.tmp 26) 41 rfl w.heap.size 3 i0 _ 1 8 Tryd.underlying41 hi0 hz0 hz1 hz2 rfl (by decide) _ _ _ rfl o2 _ 1 1 rfl (by simp) rfl (by simp [Value.oneCell']) (by omega) (by omega) b2.size ?_; intro v4 w4 o4 g4; have b4 := below_own (b2.alloc b2.size _) g4 o2 (Nat.le_trans b2.size (by simp)) (Nat.le_refl _)))
        go_roundw
        case rel => refine ⟨k + 1, by omega, by go_num, ?_, b4⟩; rw [HT_f.out, pathL_snoc, List.flatMap_append, HX.out, List.length_append, HN.out]; simpa [dayL, intC] using o4
        case measure => simp [intOf]; omega
    · have q1 : decide ((k : Int) < (n : Int)) = false := dcf (by omega)
      obtain rfl : n = k := by omega
      have HA : Hid (ss.take n = ss) := Lib.hid (List.take_of_length_le (by have := HL.out; omega))
      rw [HA.out] at hown hpl htl
      clear hlt hk
      go_wp2_with (at_builtin; refine wpList_append_lit _ _ rfl (.tmp 28) (.tmp 29) 41 rfl w.heap.size 3 i0 _ 1 8 Tryd.underlying41 hi0 hz0 hz1 hz2 rfl (by decide) _ _ _ rfl hown _ 1 1 rfl (by simp) rfl (by simp [Value.oneCell']) (by omega) (by omega) hb.size ?_; intro v1 w1 o1 g1; have b1 := below_own (hb.alloc hb.size _) g1 hown (Nat.le_trans hb.size (by simp)) (Nat.le_refl _))
      go_ret
      exact ⟨_, rfl, by simpa using o1, b1⟩
end Go.Proofs.YtfilpmmimpkfmabDoor
