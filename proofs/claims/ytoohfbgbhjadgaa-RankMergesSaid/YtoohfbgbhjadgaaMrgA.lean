import Derived.Test.YtoohfbgbhjadgaaMrgP
namespace Go.Proofs.Ytoohfbgbhjadgaa
open Go.RowKit

/-- What Runs hands back. -/
def RunsPost (w : World) (vs : List KeyV) (n : Nat) (e : Ending) (w' : World) : Prop := ∃ (A : Option Addr) (c : Nat), e = .returned (.slice A (runsK (keysOf vs) n).length c) ∧ Rd w' w'.heap.size 1 A (runsK (keysOf vs) n).length ((runsK (keysOf vs) n).flatMap nC) ∧ Below w.heap.size w w'

set_option maxHeartbeats 8000000 in
set_option maxRecDepth 100000 in
theorem rankRuns_any (A : Option Addr) (n cp : Nat) (vs : List KeyV) (w : World) (hr : Rd w w.heap.size 1 A n (vs.flatMap KeyV.cells)) (hks : KeysRd w w.heap.size vs) (hn : n ≤ 1000) :
    Calls Try.prog 26 #[.slice A n cp] w (RunsPost w vs n) := by
  have HL := Lib.hid (hr.len KeyV.cells_len (by omega))
  have HK := Lib.hid hks
  obtain ⟨i0, hi0, hz0, hz1, hz2⟩ := info_parts intInfo
  clear hks
  go_enter Try.func26, Try.ntmps26
  go_wp2_with fail
  go_loopw [3, 7] (fun v i wr => ∃ k : Nat, k ≤ n ∧ i = .int .i64 k ∧ wr.ownsRow w.heap.size 3 1 v (runsK (keysOf vs) k).length ((runsK (keysOf vs) k).flatMap nC) ∧ Below w.heap.size w wr) (fun _ i _ => n - (intOf i).toNat)
  case atStart => exact ⟨0, Nat.zero_le _, rfl, World.ownsRow_nil _ _ _ _, Below.refl _ _⟩
  case round =>
    obtain ⟨k, hk, rfl, hown, hb⟩ := hrel
    have hrl := runsK_len (keysOf vs) k
    have HRS := Lib.hid (runsK_succ (keysOf vs) k)
    by_cases hlt : k < n
    · have hlz : (k : Int) < (n : Int) := by omega
      have hownV := fun q => own_drewN hown q
      by_cases hk0 : k = 0
      · have b0 : ((k : Int) == 0) = true := by simp [hk0]
        have HN := Lib.hid (show runsK (keysOf vs) (k + 1) = runsK (keysOf vs) k ++ [k] by rw [HRS.out, show newAt (keysOf vs) k = true by rw [hk0]; rfl, if_pos rfl])
        clear hk0
        go_wp2_with fail
        go_quiet (fail)
        have hbV := below_drewN hb nq
        have hoV := hownV nq
        clear hownV hown hb
        generalize wr.drewN nq = V at hbV hoV ⊢
        have hs := hbV.size
        go_wp2_with (at_builtin; refine wpList_append_lit _ _ rfl (.tmp 25) (.tmp 27) 28 rfl w.heap.size 3 i0 _ 1 8 Try.underlying28 hi0 hz0 hz1 hz2 rfl (by decide) _ _ _ rfl hoV _ 1 1 rfl (by first | rfl | simp) rfl (by simp [Value.oneCell']) (by omega) (by omega) (by omega) ?_; intro v' w' hown' hg'; have hbw := below_own (hbV.alloc hs _) hg' hoV (by simp; omega) (Nat.le_refl _))
        go_roundw
        case rel => exact ⟨k + 1, by omega, by go_num, by rw [HN.out]; simpa [nC] using hown', hbw⟩
        case measure => simp [intOf]; omega
      · have b0 : ((k : Int) == 0) = false := by simp; omega
        obtain ⟨j, hj⟩ : ∃ j : Nat, Hid (k = j + 1) := ⟨k - 1, Lib.hid (by omega)⟩
        have hjn : j < n := by have := hj.out; omega
        have hjz : (j : Int) < (n : Int) := by omega
        have e1 : (k : Int) - 1 = (j : Int) := by have := hj.out; omega
        have e2 : IntKind.i64.wrap ((k : Int) - 1) = (j : Int) := by rw [e1, IntKind.wrap_i64]; omega
        have hrw := hr.below hb
        have hg_f : vs[j]? = some (vs[j]'(by have := HL.out; omega)) := List.getElem?_eq_getElem _
        obtain ⟨b_f, off_f, rfl, hbb_f, hc_f⟩ := (hrw).elem KeyV.cells_len hg_f hjn
        have HT_f := Lib.hid (show vs.take (j + 1) = vs.take j ++ [(vs[j]'(by have := HL.out; omega))] from List.take_succ_eq_append_getElem (by have := HL.out; omega))
        have HM_f := Lib.hid (show (vs[j]'(by have := HL.out; omega)) ∈ vs from List.getElem_mem _)
        have HG_f := Lib.hid hg_f
        generalize (vs[j]'(by have := HL.out; omega)) = f at *
        have c0 := hc_f 0 _ rfl
        clear hc_f hg_f
        simp only [Nat.add_zero, Nat.mul_one] at c0
        have hg_g : vs[k]? = some (vs[k]'(by have := HL.out; omega)) := List.getElem?_eq_getElem _
        obtain ⟨b_g, off_g, hA_g, hbb_g, hc_g⟩ := (hrw).elem KeyV.cells_len hg_g hlt
        have HT_g := Lib.hid (show vs.take (k + 1) = vs.take k ++ [(vs[k]'(by have := HL.out; omega))] from List.take_succ_eq_append_getElem (by have := HL.out; omega))
        have HM_g := Lib.hid (show (vs[k]'(by have := HL.out; omega)) ∈ vs from List.getElem_mem _)
        have HG_g := Lib.hid hg_g
        generalize (vs[k]'(by have := HL.out; omega)) = g at *
        have d0 := hc_g 0 _ rfl
        clear hc_g hg_g
        simp only [Nat.add_zero, Nat.mul_one] at d0
        obtain ⟨rfl, rfl⟩ : b_f = b_g ∧ off_f = off_g := by
          have := Option.some.inj hA_g
          simp only [Addr.mk.injEq] at this
          exact ⟨this.1, this.2.1⟩
        clear hA_g
        have HNA := Lib.hid (newAt_of HG_f.out (by rw [← hj.out]; exact HG_g.out))
        rw [← hj.out] at HNA
        obtain ⟨k1, l1⟩ := HK.out f HM_f.out
        obtain ⟨k2, l2⟩ := HK.out g HM_g.out
        obtain ⟨fA, fc, fk⟩ := f
        obtain ⟨gA, gc, gk⟩ := g
        simp only at k1 k2 l1 l2 HNA
        have HX := Lib.hid (fun q => rankCmp_any fA fk.length fc gA gk.length gc fk gk w.heap.size w.heap.size (wr.drewN q) ((k1.below hb).keep fun _ _ => rfl) ((k2.below hb).keep fun _ _ => rfl) (by omega) (by omega))
        generalize cmpL fk gk = z at HX HNA
        simp only [KeyV.val] at c0 d0
        clear k1 k2 hrw hk0 e1
        by_cases hz : z = 0
        · subst hz
          have HN := Lib.hid (show runsK (keysOf vs) (k + 1) = runsK (keysOf vs) k by rw [HRS.out, HNA.out]; simp)
          go_wp2_with fail
          go_quiet ((go_at_call 16; exact quiet_left (HX.out _)))
          have hbV := below_drewN hb nq
          have hoV := hownV nq
          clear hownV hown hb
          go_wp2_with fail
          go_roundw
          case rel => exact ⟨k + 1, by omega, by go_num, by rw [HN.out]; exact hoV, hbV⟩
          case measure => simp [intOf]; omega
        · have bz : (z != 0) = true := by simp [hz]
          have HN := Lib.hid (show runsK (keysOf vs) (k + 1) = runsK (keysOf vs) k ++ [k] by rw [HRS.out, HNA.out, if_pos (by simp [hz])])
          clear hz
          go_wp2_with fail
          go_quiet ((go_at_call 16; exact quiet_left (HX.out _)))
          have hbV := below_drewN hb nq
          have hoV := hownV nq
          clear hownV hown hb c0 d0
          generalize wr.drewN nq = V at hbV hoV ⊢
          have hs := hbV.size
          go_wp2_with (at_builtin; refine wpList_append_lit _ _ rfl (.tmp 25) (.tmp 27) 28 rfl w.heap.size 3 i0 _ 1 8 Try.underlying28 hi0 hz0 hz1 hz2 rfl (by decide) _ _ _ rfl hoV _ 1 1 rfl (by first | rfl | simp) rfl (by simp [Value.oneCell']) (by omega) (by omega) (by omega) ?_; intro v' w' hown' hg'; have hbw := below_own (hbV.alloc hs _) hg' hoV (by simp; omega) (Nat.le_refl _))
          go_roundw
          case rel => exact ⟨k + 1, by omega, by go_num, by rw [HN.out]; simpa [nC] using hown', hbw⟩
          case measure => simp [intOf]; omega
    · have hlz : ¬ (k : Int) < (n : Int) := by omega
      obtain rfl : n = k := by omega
      obtain ⟨A', c', rfl⟩ := own_form hown
      have hrd := Rd.of_own hown
      clear hown
      go_wp2_with fail
      go_ret
      exact ⟨_, _, rfl, hrd, hb⟩
end Go.Proofs.Ytoohfbgbhjadgaa
