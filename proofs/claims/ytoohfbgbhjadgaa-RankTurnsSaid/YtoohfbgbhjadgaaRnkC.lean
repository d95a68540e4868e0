import Derived.Test.YtoohfbgbhjadgaaKeyG
namespace Go.Proofs.Ytoohfbgbhjadgaa
open Go.RowKit

set_option maxHeartbeats 1000000 in
theorem rankTurns_long (A : Option Addr) (n cp : Nat) (a : Int) (vs : List KeyV) (w : World) (hr : Rd w w.heap.size 1 A n (vs.flatMap KeyV.cells)) (hs : ¬ (n ≤ 30 ∧ vs.all shortK = true)) :
    Calls Try.prog 4 #[.slice A n cp, .int .u8 a] w fun e w' => e = .returned (.bool true) ∧ Below w.heap.size w w' := by
  have HC := Lib.hid (few5_no A n cp 30 vs w.heap.size w hr (by omega) hs)
  clear hs
  go_enter Try.func4, Try.ntmps4
  go_wp2_with fail
  refine (HC.out).mono ?_
  rintro e w1 ⟨rfl, rfl⟩
  go_wp2_with fail
  refine (awake5 _).mono ?_
  rintro e w1 ⟨rfl, hb⟩
  go_wp2_with fail
  go_ret
  exact ⟨rfl, hb⟩

/-! ### Sorted lists of the same keys are alike -/
theorem sorted_perm : ∀ {xs ys : List (List Int)}, xs.Perm ys → xs.Pairwise (fun x y => cmpL x y ≤ 0) → ys.Pairwise (fun x y => cmpL x y ≤ 0) → xs = ys := by
  intro xs ys hp h1 h2
  refine List.Perm.eq_of_pairwise (le := fun x y => cmpL x y ≤ 0) (fun a b _ _ h3 h4 => ?_) h1 h2 hp
  have := cmpL_swap a b
  exact cmpL_eq (by omega)

/-- The keys in their order. -/
def sortK (keys : List (List Int)) : List (List Int) := (ordK keys).map fun i => keys.getD i []
theorem sortK_pairwise (keys : List (List Int)) : (sortK keys).Pairwise fun x y => cmpL x y ≤ 0 := by
  rw [List.pairwise_iff_getElem]
  intro i j hi hj hij
  have hi' : i < (ordK keys).length := by simpa [sortK] using hi
  have hj' : j < (ordK keys).length := by simpa [sortK] using hj
  have := ordK_keys (List.getElem?_eq_getElem hi') (List.getElem?_eq_getElem hj') hij
  simpa [sortK] using this
theorem sortK_perm (keys : List (List Int)) : (sortK keys).Perm keys := by
  unfold sortK ordK
  refine ((ordB_perm _ _).map _).trans ?_
  have : (List.range keys.length).map (fun i => keys.getD i []) = keys := by
    apply List.ext_getElem?
    intro i
    by_cases hi : i < keys.length
    · simp [hi, List.getD]
    · rw [List.getElem?_eq_none (by simp; omega), List.getElem?_eq_none (by omega)]
  rw [this]
theorem sortK_of_perm {xs ys : List (List Int)} (h : xs.Perm ys) : sortK xs = sortK ys :=
  sorted_perm (((sortK_perm xs).trans h).trans (sortK_perm ys).symm) (sortK_pairwise xs) (sortK_pairwise ys)

/-- The list turned by k. -/
def turnL {α : Type} (l : List α) (k : Nat) : List α := l.drop k ++ l.take k
theorem turnL_len {α : Type} (l : List α) (k : Nat) : (turnL l k).length = l.length := by simp [turnL]; omega
theorem turnL_at {α : Type} {l : List α} {k i : Nat} (hk : k ≤ l.length) (hi : i < l.length) : (turnL l k)[i]? = l[(i + k) % l.length]? := by
  unfold turnL
  by_cases h : i < l.length - k
  · rw [List.getElem?_append_left (by simpa using h), List.getElem?_drop, Nat.mod_eq_of_lt (by omega), Nat.add_comm]
  · rw [List.getElem?_append_right (by simp; omega), List.length_drop, List.getElem?_take, if_pos (by omega)]
    congr 1
    have : (i + k) % l.length = i + k - l.length := by
      rw [Nat.mod_eq_sub_mod (by omega), Nat.mod_eq_of_lt (by omega)]
    omega
theorem turnL_perm {α : Type} (l : List α) (k : Nat) : (turnL l k).Perm l := by
  unfold turnL
  refine (List.perm_append_comm).trans ?_
  rw [List.take_append_drop]
theorem turnL_take {α : Type} {l : List α} {k i : Nat} {x : α} (hk : k ≤ l.length) (hi : i < l.length) (hx : l[(i + k) % l.length]? = some x) : (turnL l k).take (i + 1) = (turnL l k).take i ++ [x] := by
  rw [List.take_add_one, turnL_at hk hi, hx]; rfl
theorem turnL_mem {α : Type} {l : List α} {k : Nat} {x : α} : x ∈ turnL l k ↔ x ∈ l := (turnL_perm l k).mem_iff

/-- The same place of both orders holds like keys. -/
theorem turn_like {vs : List KeyV} {k j x y : Nat} {f g : KeyV} (hx : (ordK (keysOf vs))[j]? = some x) (hy : (ordK (keysOf (turnL vs k)))[j]? = some y) (hf : vs[x]? = some f) (hg : (turnL vs k)[y]? = some g) : cmpL f.k g.k = 0 := by
  have h := sortK_of_perm (show (keysOf vs).Perm (keysOf (turnL vs k)) from ((turnL_perm vs k).map _).symm)
  have e1 : (sortK (keysOf vs))[j]? = some f.k := by
    have := keysOf_at hf
    simp [sortK, hx]
    simpa [List.getD] using this
  have e2 : (sortK (keysOf (turnL vs k)))[j]? = some g.k := by
    have := keysOf_at hg
    simp [sortK, hy]
    simpa [List.getD] using this
  rw [h, e2] at e1
  rw [Option.some.inj e1]
  exact cmpL_refl _

/-- What holds at the head of each round of the turning. -/
def RtRel (w : World) (vs : List KeyV) (n at' : Nat) (v6 v7 : Value) (wr : World) : Prop :=
  ∃ k : Nat, k ≤ n ∧ v7 = .int .i64 k ∧ wr.ownsRow w.heap.size 22 1 v6 k (((turnL vs at').take k).flatMap KeyV.cells) ∧ Below w.heap.size w wr

set_option maxHeartbeats 8000000 in
set_option maxRecDepth 100000 in
theorem rankTurns_few (A : Option Addr) (n cp a : Nat) (vs : List KeyV) (w : World) (hr : Rd w w.heap.size 1 A n (vs.flatMap KeyV.cells)) (hks : KeysRd w w.heap.size vs) (hn : n ≤ 30) (hs : vs.all shortK = true) (ha : a ≤ 255) :
    Calls Try.prog 4 #[.slice A n cp, .int .u8 (a : Nat)] w fun e w' => e = .returned (.bool true) ∧ Below w.heap.size w w' := by
  have HL := Lib.hid (show vs.length = n from hr.len KeyV.cells_len (by omega))
  have HC := Lib.hid (few5_yes A n cp 30 vs w.heap.size w hr hn (by omega) hs)
  obtain ⟨i0, hi0, hz0, hz1, hz2⟩ := info_parts ksInfo
  obtain ⟨t, ht⟩ : ∃ t : Nat, Hid (a % (n + 1) = t) := ⟨_, Lib.hid rfl⟩
  have htn : t ≤ n := by have := Nat.mod_lt a (show 0 < n + 1 by omega); rw [ht.out] at this; omega
  have e1 : (a : Int) % ((n : Int) + 1) = (t : Int) := by rw [← ht.out]; simp
  have e2 : ((a : Int)).tmod ((n : Int) + 1) = (t : Int) := by rw [Int.tmod_eq_emod_of_nonneg (by omega)]; exact e1
  have hnn : (n : Int) + 1 ≠ 0 := by omega
  have HK := Lib.hid hks
  clear hs hks
  go_enter Try.func4, Try.ntmps4
  go_wp2_with fail
  refine (HC.out).mono ?_
  rintro e w0 ⟨rfl, rfl⟩
  go_wp2_with fail
  go_loopw [6, 7] (RtRel w vs n t) (fun _ i _ => n - (intOf i).toNat)
  case atStart => exact ⟨0, Nat.zero_le _, rfl, World.ownsRow_nil _ _ _ _, Below.refl _ _⟩
  case round =>
    clear e1 e2 hnn
    obtain ⟨k, hk, rfl, hown, hb⟩ := hrel
    have hs := hb.size
    by_cases hlt : k < n
    · as_aux_lemma =>
      have hlz : (k : Int) < (n : Int) := by omega
      obtain ⟨x, hx⟩ : ∃ x : Nat, Hid ((k + t) % n = x) := ⟨_, Lib.hid rfl⟩
      have hxn : x < n := by rw [← hx.out]; exact Nat.mod_lt _ (by omega)
      have e1 : ((k : Int) + (t : Int)) % (n : Int) = (x : Int) := by rw [← hx.out]; simp
      have e2 : ((k : Int) + (t : Int)).tmod (n : Int) = (x : Int) := by rw [Int.tmod_eq_emod_of_nonneg (by omega)]; exact e1
      have hxz : (x : Int) < (n : Int) := by omega
      have hnz : (n : Int) ≠ 0 := by omega
      have hg_f : vs[x]? = some (vs[x]'(by have := HL.out; omega)) := List.getElem?_eq_getElem _
      obtain ⟨b_f, off_f, rfl, hbb_f, hc_f⟩ := (hr.below hb).elem KeyV.cells_len hg_f hxn
      have HT_f := Lib.hid (show vs.take (x + 1) = vs.take x ++ [(vs[x]'(by have := HL.out; omega))] from List.take_succ_eq_append_getElem (by have := HL.out; omega))
      have HM_f := Lib.hid (show (vs[x]'(by have := HL.out; omega)) ∈ vs from List.getElem_mem _)
      have HG_f := Lib.hid hg_f
      generalize (vs[x]'(by have := HL.out; omega)) = f at *
      have c0 := hc_f 0 _ rfl
      clear hc_f hg_f
      simp only [Nat.add_zero, Nat.mul_one] at c0
      have hfv : f.val = .slice f.A f.k.length f.c := rfl
      rw [hfv] at c0
      have HTK := Lib.hid (turnL_take (l := vs) (k := t) (i := k) (x := f) (by rw [HL.out]; exact htn) (by rw [HL.out]; exact hlt) (by rw [HL.out, hx.out]; exact HG_f.out))
      go_wp2_with (at_builtin; refine wpList_append_lit _ _ rfl (.tmp 27) (.tmp 37) 26 rfl w.heap.size 22 i0 _ 1 24 Try.underlying26 hi0 hz0 hz1 hz2 rfl (by decide) _ _ _ rfl hown _ 1 1 rfl (by first | rfl | simp) rfl (by simp [Value.oneCell']) (by omega) (by omega) (by omega) ?_; intro v' w' hown' hg'; have hbw := below_own (hb.alloc hs _) hg' hown (by simp; omega) (Nat.le_refl _))
      go_roundw
      case rel => exact ⟨k + 1, by omega, by go_num, by rw [HTK.out]; simpa [KeyV.cells, hfv] using hown', hbw⟩
      case measure => simp [intOf]; omega
    · as_aux_lemma =>
      have hlz : ¬ (k : Int) < (n : Int) := by omega
      obtain rfl : n = k := by omega
      obtain ⟨A', c', rfl⟩ := own_form hown
      have htt : (turnL vs t).take n = turnL vs t := List.take_of_length_le (by rw [turnL_len, HL.out]; exact Nat.le_refl _)
      have hrt := Rd.of_own hown
      rw [htt] at hrt
      clear hown htt
      have hr1 := hr.past hb
      have hks1 := HK.out.past hb
      have hkt1 : KeysRd wr wr.heap.size (turnL vs t) := fun v hv => hks1 v (turnL_mem.1 hv)
      have HO1 := Lib.hid (order_any A n cp vs wr hr1 hks1 (by omega))
      have HO2 := Lib.hid (fun W (hW : Below wr.heap.size wr W) => order_any A' n c' (turnL vs t) W (hrt.past hW) (hkt1.past hW) (by omega))
      have HK1 := Lib.hid hks1
      have HKt := Lib.hid hkt1
      have q1 : ((n : Int) != (n : Int)) = false := by simp
      clear hks1 hkt1
      go_wp2_with fail
      refine HO1.out.mono ?_
      rintro e w1 ⟨A1, c1, rfl, ho1, hb1, _⟩
      go_wp2_with fail
      refine (HO2.out w1 hb1).mono ?_
      rintro e w2 ⟨A2, c2, rfl, ho2, hb2, _⟩
      have hb12 := Below.next hb1 hb2
      have ho1' := ho1.past hb2
      have hr2 := hr1.past hb12
      have hrt2 := hrt.past hb12
      have HK2 := Lib.hid (HK1.out.past hb12)
      have HKt2 := Lib.hid (HKt.out.past hb12)
      have hbf := Below.past hb hb12 hb.size
      clear HO1 HO2 HK1 HKt ho1 hr1 hrt hb1 hb2 hb12 hb hr HC
      go_wp2_with fail
      go_loopw [10] (fun i wr' => ∃ k : Nat, k ≤ n ∧ i = .int .i64 k ∧ Hid (Drawn w2 wr')) (fun i _ => n - (intOf i).toNat)
      case atStart => exact ⟨0, Nat.zero_le _, rfl, Drawn.refl _⟩
      case round =>
        obtain ⟨k, hk, rfl, HD⟩ := hrel
        by_cases hlt : k < n
        · have hlz : (k : Int) < (n : Int) := by omega
          obtain ⟨x, hxg⟩ : ∃ x, (ordK (keysOf vs))[k]? = some x := ⟨_, List.getElem?_eq_getElem (by rw [ordK_len, keysOf_len, HL.out]; exact hlt)⟩
          obtain ⟨y, hyg⟩ : ∃ y, (ordK (keysOf (turnL vs t)))[k]? = some y := ⟨_, List.getElem?_eq_getElem (by rw [ordK_len, keysOf_len, turnL_len, HL.out]; exact hlt)⟩
          have hxn := ordK_mem.1 (List.mem_of_getElem? hxg)
          rw [keysOf_len, HL.out] at hxn
          have hyn := ordK_mem.1 (List.mem_of_getElem? hyg)
          rw [keysOf_len, turnL_len, HL.out] at hyn
          obtain ⟨b1, o1, rfl, hbb1, hc1⟩ := (ho1'.keep fun p _ => HD.out.keep p).elem nC_len hxg hlt
          obtain ⟨b2, o2, rfl, hbb2, hc2⟩ := (ho2.keep fun p _ => HD.out.keep p).elem nC_len hyg hlt
          have x0 := hc1 0 _ rfl
          have y0 := hc2 0 _ rfl
          simp only [Nat.mul_one, Nat.add_zero] at x0 y0
          have hkn : k < n := hlt
          have hg_f : vs[x]? = some (vs[x]'(by have := HL.out; omega)) := List.getElem?_eq_getElem _
          obtain ⟨b_f, off_f, rfl, hbb_f, hc_f⟩ := (hr2.keep fun p _ => HD.out.keep p).elem KeyV.cells_len hg_f hxn
          have HT_f := Lib.hid (show vs.take (x + 1) = vs.take x ++ [(vs[x]'(by have := HL.out; omega))] from List.take_succ_eq_append_getElem (by have := HL.out; omega))
          have HM_f := Lib.hid (show (vs[x]'(by have := HL.out; omega)) ∈ vs from List.getElem_mem _)
          have HG_f := Lib.hid hg_f
          generalize (vs[x]'(by have := HL.out; omega)) = f at *
          have c0 := hc_f 0 _ rfl
          clear hc_f hg_f
          simp only [Nat.add_zero, Nat.mul_one] at c0
          have HLt := Lib.hid (show (turnL vs t).length = n by rw [turnL_len, HL.out])
          have hg_g : (turnL vs t)[y]? = some ((turnL vs t)[y]'(by have := HLt.out; omega)) := List.getElem?_eq_getElem _
          obtain ⟨b_g, off_g, rfl, hbb_g, hc_g⟩ := (hrt2.keep fun p _ => HD.out.keep p).elem KeyV.cells_len hg_g hyn
          have HT_g := Lib.hid (show (turnL vs t).take (y + 1) = (turnL vs t).take y ++ [((turnL vs t)[y]'(by have := HLt.out; omega))] from List.take_succ_eq_append_getElem (by have := HLt.out; omega))
          have HM_g := Lib.hid (show ((turnL vs t)[y]'(by have := HLt.out; omega)) ∈ (turnL vs t) from List.getElem_mem _)
          have HG_g := Lib.hid hg_g
          generalize ((turnL vs t)[y]'(by have := HLt.out; omega)) = g at *
          have d0 := hc_g 0 _ rfl
          clear hc_g hg_g
          simp only [Nat.add_zero, Nat.mul_one] at d0
          have HLk := Lib.hid (turn_like hxg hyg HG_f.out HG_g.out)
          obtain ⟨k1, l1⟩ := HK2.out f HM_f.out
          obtain ⟨k2, l2⟩ := HKt2.out g HM_g.out
          obtain ⟨fA, fc, fk⟩ := f
          obtain ⟨gA, gc, gk⟩ := g
          simp only at k1 k2 l1 l2 HLk
          have HX := Lib.hid (fun q => refCmp_any fA fk.length fc gA gk.length gc fk gk w2.heap.size w2.heap.size (wr.drewN q) ((k1.keep fun p _ => HD.out.keep p).keep fun _ _ => rfl) ((k2.keep fun p _ => HD.out.keep p).keep fun _ _ => rfl) (by omega) (by omega))
          rw [HLk.out] at HX
          simp only [KeyV.val] at c0 d0
          have hxz : (x : Int) < (n : Int) := by omega
          have hyz : (y : Int) < (n : Int) := by omega
          have d1 : decide ((x : Int) < 0) = false := decide_eq_false (by omega)
          have d2 : decide ((y : Int) < 0) = false := decide_eq_false (by omega)
          have d3 : decide ((n : Int) ≤ (x : Int)) = false := decide_eq_false (by omega)
          have d4 : decide ((n : Int) ≤ (y : Int)) = false := decide_eq_false (by omega)
          clear hxg hyg hc1 hc2 k1 k2
          go_wp2_with fail
          go_quiet ((go_at_call 17; exact Calls.quiet_of (HX.out _)))
          go_wp2_with fail
          go_roundw
          case rel => exact ⟨k + 1, by omega, by go_num, HD.out.next _⟩
          case measure => simp [intOf]; omega
        · have hlz : ¬ (k : Int) < (n : Int) := by omega
          go_wp2_with fail
          refine (awake5 _).mono ?_
          rintro e w3 ⟨rfl, hb3⟩
          go_wp2_with fail
          go_ret
          exact ⟨rfl, Below.past (HD.out.below hbf) hb3 (HD.out.below hbf).size⟩
end Go.Proofs.Ytoohfbgbhjadgaa
