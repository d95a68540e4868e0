import Derived.Test.YtoohfbgbhjadgaaKeyF
namespace Go.Proofs.Ytoohfbgbhjadgaa
open Go.RowKit

theorem ret_bool {a b : Bool} (h : a = b) : Ending.returned (.bool a) = .returned (.bool b) := by rw [h]

/-- May a key stand behind the one ahead of it? -/
def okAt (keys : List (List Int)) (s : Bool) (j : Nat) : Bool := j == 0 || (decide (cmpL (keys.getD (j - 1) []) (keys.getD j []) < 0) || (decide (cmpL (keys.getD (j - 1) []) (keys.getD j []) = 0) && !s))
/-- Do the first k keys rise? -/
def riK (keys : List (List Int)) (s : Bool) (k : Nat) : Bool := (List.range k).all (okAt keys s)
theorem riK_succ (keys : List (List Int)) (s : Bool) (k : Nat) : riK keys s (k + 1) = (riK keys s k && okAt keys s k) := by
  unfold riK; rw [List.range_succ, List.all_append]; simp
theorem riK_one (keys : List (List Int)) (s : Bool) : riK keys s 1 = true := by simp [riK, okAt, List.range_succ]
theorem riK_false {keys : List (List Int)} {s : Bool} {k n : Nat} (h : okAt keys s k = false) (hk : k < n) : riK keys s n = false := by
  cases hr : riK keys s n with
  | false => rfl
  | true =>
    have := List.all_eq_true.1 hr k (by simpa using hk)
    rw [h] at this; cases this
theorem okAt_of {vs : List KeyV} {s : Bool} {j : Nat} {f g : KeyV} (hf : vs[j]? = some f) (hg : vs[j + 1]? = some g) : okAt (keysOf vs) s (j + 1) = (decide (cmpL f.k g.k < 0) || (decide (cmpL f.k g.k = 0) && !s)) := by
  unfold okAt
  rw [Nat.add_sub_cancel, keysOf_at hf, keysOf_at hg]
  simp

set_option maxHeartbeats 4000000 in
set_option maxRecDepth 10000 in
theorem rises_any (A : Option Addr) (n cp : Nat) (s : Bool) (vs : List KeyV) (B : Nat) (w : World) (hr : Rd w B 1 A n (vs.flatMap KeyV.cells)) (hks : KeysRd w B vs) (hn : n ≤ 1000000) :
    Calls Try.prog 24 #[.slice A n cp, .bool s] w fun e w' => e = .returned (.bool (riK (keysOf vs) s n)) ∧ Drawn w w' := by
  have HL := Lib.hid (hr.len KeyV.cells_len (by omega))
  have HK := Lib.hid hks
  obtain ⟨R, hR⟩ : ∃ R, Hid (riK (keysOf vs) s n = R) := ⟨_, Lib.hid rfl⟩
  rw [hR.out]
  clear hks
  go_enter Try.func24, Try.ntmps24
  go_wp2_with fail
  go_loopw [5] (fun v wr => ∃ k : Nat, 1 ≤ k ∧ (k ≤ n ∨ k = 1) ∧ v = .int .i64 k ∧ Hid (riK (keysOf vs) s k = true) ∧ Hid (Drawn w wr)) (fun v _ => n - (intOf v).toNat)
  case atStart => exact ⟨1, Nat.le_refl _, .inr rfl, rfl, Lib.hid (riK_one _ _), Drawn.refl w⟩
  case round =>
    obtain ⟨k, hk1, hkn, rfl, HRi, HD⟩ := hrel
    have hkb : k ≤ 1000001 := by omega
    by_cases hlt : k < n
    · have hlz : (k : Int) < (n : Int) := by omega
      obtain ⟨j, hj⟩ : ∃ j : Nat, Hid (k = j + 1) := ⟨k - 1, Lib.hid (by omega)⟩
      have hjn : j < n := by have := hj.out; omega
      have hjz : (j : Int) < (n : Int) := by omega
      have e1 : (k : Int) - 1 = (j : Int) := by have := hj.out; omega
      have e2 : IntKind.i64.wrap ((k : Int) - 1) = (j : Int) := by rw [e1, IntKind.wrap_i64]; omega
      have hrw : Rd wr B 1 A n (vs.flatMap KeyV.cells) := hr.keep fun p _ => HD.out.keep p
      have hg_f : vs[j]? = some (vs[j]'(by have := HL.out; omega)) := List.getElem?_eq_getElem _
      obtain ⟨b_f, off_f, rfl, hbb_f, hc_f⟩ := (hrw).elem KeyV.cells_len hg_f hjn
      have HT_f := Lib.hid (show vs.take (j + 1) = vs.take j ++ [(vs[j]'(by have := HL.out; omega))] from List.take_succ_eq_append_getElem (by have := HL.out; omega))
      have HM_f := Lib.hid (show (vs[j]'(by have := HL.out; omega)) ∈ vs from List.getElem_mem _)
      have HG_f := Lib.hid hg_f
      generalize (vs[j]'(by have := HL.out; omega)) = f at *
      have c0 := hc_f 0 _ rfl
      clear hc_f hg_f
      simp only [Nat.add_zero, Nat.mul_one] at c0
      have hg_g : vs[k]? = some (vs[k]'(by have := HL.out; omega)) := List.getElem?_eq_getElem _
      obtain ⟨b_g, off_g, hA_g, hbb_g, hc_g⟩ := (hrw).elem KeyV.cells_len hg_g hlt
      have HT_g := Lib.hid (show vs.take (k + 1) = vs.take k ++ [(vs[k]'(by have := HL.out; omega))] from List.take_succ_eq_append_getElem (by have := HL.out; omega))
      have HM_g := Lib.hid (show (vs[k]'(by have := HL.out; omega)) ∈ vs from List.getElem_mem _)
      have HG_g := Lib.hid hg_g
      generalize (vs[k]'(by have := HL.out; omega)) = g at *
      have d0 := hc_g 0 _ rfl
      clear hc_g hg_g
      simp only [Nat.add_zero, Nat.mul_one] at d0
      obtain ⟨rfl, rfl⟩ : b_f = b_g ∧ off_f = off_g := by
        have := Option.some.inj hA_g
        simp only [Addr.mk.injEq] at this
        exact ⟨this.1, this.2.1⟩
      clear hA_g
      have HOK := Lib.hid (okAt_of (s := s) HG_f.out (by rw [← hj.out]; exact HG_g.out))
      rw [← hj.out] at HOK
      obtain ⟨k1, l1⟩ := HK.out f HM_f.out
      obtain ⟨k2, l2⟩ := HK.out g HM_g.out
      obtain ⟨fA, fc, fk⟩ := f
      obtain ⟨gA, gc, gk⟩ := g
      simp only at k1 k2 l1 l2 HOK
      have HX := Lib.hid (fun q => rankCmp_any fA fk.length fc gA gk.length gc fk gk B B (wr.drewN q) ((k1.keep fun p _ => HD.out.keep p).keep fun _ _ => rfl) ((k2.keep fun p _ => HD.out.keep p).keep fun _ _ => rfl) (by omega) (by omega))
      have hbd := cmpL_bd fk gk
      have HRS := Lib.hid (riK_succ (keysOf vs) s k)
      generalize cmpL fk gk = z at HX hbd HOK
      simp only [KeyV.val] at c0 d0
      clear k1 k2 hrw
      obtain rfl | rfl | rfl : z = -1 ∨ z = 0 ∨ z = 1 := by omega
      · have HT := Lib.hid (show riK (keysOf vs) s (k + 1) = true by rw [HRS.out, HRi.out, HOK.out]; simp)
        clear hbd e1
        go_wp2_with fail
        go_quiet ((go_at_call 16; exact quiet_left (HX.out _)))
        go_wp2_with fail
        go_roundw
        case rel => exact ⟨k + 1, by omega, by omega, by go_num, HT, HD.out.next _⟩
        case measure => simp [intOf]; omega
      · clear hbd e1
        cases s with
        | false =>
          have HT := Lib.hid (show riK (keysOf vs) false (k + 1) = true by rw [HRS.out, HRi.out, HOK.out]; simp)
          go_wp2_with fail
          go_quiet ((go_at_call 16; exact quiet_left (HX.out _)))
          go_wp2_with fail
          go_roundw
          case rel => exact ⟨k + 1, by omega, by omega, by go_num, HT, HD.out.next _⟩
          case measure => simp [intOf]; omega
        | true =>
          have HT := Lib.hid (show R = false by rw [← hR.out]; exact riK_false (k := k) (by rw [HOK.out]; simp) hlt)
          go_wp2_with fail
          go_quiet ((go_at_call 16; exact quiet_left (HX.out _)))
          go_wp2_with fail
          go_ret
          exact ⟨ret_bool HT.out.symm, HD.out.next _⟩
      · have HT := Lib.hid (show R = false by rw [← hR.out]; exact riK_false (k := k) (by rw [HOK.out]; simp) hlt)
        clear hbd e1
        go_wp2_with fail
        go_quiet ((go_at_call 16; exact quiet_left (HX.out _)))
        go_wp2_with fail
        go_ret
        exact ⟨ret_bool HT.out.symm, HD.out.next _⟩
    · have hlz : ¬ (k : Int) < (n : Int) := by omega
      have HT := Lib.hid (show R = true by
        rw [← hR.out]
        by_cases h0 : n = 0
        · subst h0; rfl
        · obtain rfl : n = k := by omega
          exact HRi.out)
      go_wp2_with fail
      go_ret
      exact ⟨ret_bool HT.out.symm, HD.out⟩

/-! ### Keys that were picked -/
theorem ksInfo : (Try.prog.info? 22).map (fun i => (i.zero, i.size, i.bytes)) = some (some (.slice none 0 0), 1, 24) := by kernel_rfl

/-- Rows of keys in their order rise. -/
theorem riK_sorted {keys ks : List (List Int)} (hks : ks = (ordK keys).map fun i => keys.getD i []) (k : Nat) (hk : k ≤ ks.length) : riK ks false k = true := by
  induction k with
  | zero => rfl
  | succ k ih =>
    rw [riK_succ, ih (by omega)]
    by_cases h0 : k = 0
    · subst h0; rfl
    · have hlen : ks.length = (ordK keys).length := by rw [hks]; simp
      obtain ⟨x1, g1⟩ : ∃ x, (ordK keys)[k - 1]? = some x := ⟨_, List.getElem?_eq_getElem (by omega)⟩
      obtain ⟨x2, g2⟩ : ∃ x, (ordK keys)[k]? = some x := ⟨_, List.getElem?_eq_getElem (by omega)⟩
      have hle := ordK_keys g1 g2 (by omega)
      have a1 : ks.getD (k - 1) [] = keys.getD x1 [] := by rw [hks]; simp [List.getD, g1]
      have a2 : ks.getD k [] = keys.getD x2 [] := by rw [hks]; simp [List.getD, g2]
      unfold okAt
      rw [a1, a2]
      simp only [Bool.true_and, Bool.not_false, Bool.and_true, Bool.or_eq_true, decide_eq_true_eq]
      right
      omega
end Go.Proofs.Ytoohfbgbhjadgaa
