import Derived.Test.YtoohfbgbhjadgaaKeyE
namespace Go.Proofs.Ytoohfbgbhjadgaa
open Go.RowKit

/-! ### A row of numbers that is filled place by place -/
def rowA (n : Nat) (f : Nat → Nat) : Array Value := ((List.range n).map fun i => Value.int .i64 (f i : Nat)).toArray
theorem rowA_size (n : Nat) (f : Nat → Nat) : (rowA n f).size = n := by simp [rowA]
theorem rowA_at {n i : Nat} (f : Nat → Nat) (h : i < n) : (rowA n f)[i]? = some (.int .i64 (f i : Nat)) := by simp [rowA, h]
theorem rowA_put {n : Nat} {f f' : Nat → Nat} {i v : Nat} (h : i < n) (e : ∀ p, p < n → f' p = if p = i then v else f p) : (rowA n f).setIfInBounds i (.int .i64 (v : Nat)) = rowA n f' := by
  apply Array.ext_getElem?
  intro p
  rw [Array.getElem?_setIfInBounds]
  by_cases hp : p < n
  · rw [rowA_at f hp, rowA_at f' hp, rowA_size, if_pos h, e p hp]
    by_cases hip : i = p
    · subst hip; simp
    · rw [if_neg hip, if_neg (fun h => hip h.symm)]
  · rw [if_neg (by omega), Array.getElem?_eq_none (by rw [rowA_size]; omega), Array.getElem?_eq_none (by rw [rowA_size]; omega)]
theorem rowA_zero (n : Nat) : fillA n 0 = rowA n (fun _ => 0) := by
  unfold fillA rowA; congr 1
theorem rowA_rd {w : World} {g n : Nat} {t : TypeId} {f : Nat → Nat} {l : List Nat} (h : Blk w g t (rowA n f)) (hl : l.length = n) (e : ∀ i x, l[i]? = some x → f i = x) : Rd w w.heap.size 1 (some ⟨g, 0, none⟩) n (l.flatMap nC) := by
  refine ⟨by rw [flat_len nC 1 nC_len, hl], fun _ => ⟨g, 0, rfl, h.lt, fun j u hu => ?_⟩⟩
  have hj : j < l.length := by
    have := (List.getElem?_eq_some_iff.1 hu).1
    rw [flat_len nC 1 nC_len] at this
    omega
  have hg : l[j]? = some l[j] := List.getElem?_eq_getElem hj
  have h2 := flat_get nC 1 nC_len l j _ 0 hg (by omega)
  rw [Nat.mul_one, Nat.add_zero, hu] at h2
  rw [h2, Nat.zero_add, h.cell j, rowA_at f (by omega), e j _ hg]
  rfl

/-- A row that is read stays over a store elsewhere. -/
theorem Rd.set {w : World} {B sz n : Nat} {A : Option Addr} {xs : List Value} (h : Rd w B sz A n xs) {p : Addr} (hp : ∀ q, A = some q → q.block ≠ p.block) (u : Value) : Rd (w.setCell p u) B sz A n xs := by
  refine ⟨h.1, fun hn => ?_⟩
  obtain ⟨b, off, rfl, hb, hc⟩ := h.2 hn
  have := hp _ rfl
  exact ⟨b, off, rfl, hb, fun j v hv => (World.cell?_setCell_other _ _ _ _ (by intro e; exact this (by rw [e]))).trans (hc j v hv)⟩
theorem Rd.block {w : World} {B sz n : Nat} {A : Option Addr} {xs : List Value} (h : Rd w B sz A n xs) (hn : 0 < n) : ∃ b off, A = some ⟨b, off, none⟩ ∧ b < B := by
  obtain ⟨b, off, e, hb, _⟩ := h.2 hn
  exact ⟨b, off, e, hb⟩

/-! ### Where a key stands: the document's count -/
theorem range_count {p : Nat → Bool} (k : Nat) : (List.range (k + 1)).countP p = (List.range k).countP p + if p k then 1 else 0 := by
  rw [List.range_succ, List.countP_append]
  simp [List.countP_cons]
theorem countP_le_range (p : Nat → Bool) (k : Nat) : (List.range k).countP p ≤ k := by
  have := List.countP_le_length (p := p) (l := List.range k)
  simpa using this

theorem cfK_at {vs : List KeyV} {i j : Nat} {f g : KeyV} (hf : vs[i]? = some f) (hg : vs[j]? = some g) : cfK (keysOf vs) i j = cmpL f.k g.k := by
  have h1 := (List.getElem?_eq_some_iff.1 hf).1
  have h2 := (List.getElem?_eq_some_iff.1 hg).1
  rw [cfK, keysOf_len, clamp_of h1, clamp_of h2, keysOf_at hf, keysOf_at hg]

set_option maxHeartbeats 4000000 in
set_option maxRecDepth 10000 in
theorem refPlace_any (A : Option Addr) (n cp i : Nat) (vs : List KeyV) (B : Nat) (w : World) (hr : Rd w B 1 A n (vs.flatMap KeyV.cells)) (hks : KeysRd w B vs) (hn : n ≤ 1000000) (hi : i < n) :
    Calls Try.prog 23 #[.slice A n cp, .int .i64 (i : Nat)] w fun e w' => e = .returned (.int .i64 (placeK (keysOf vs) i : Nat)) ∧ Drawn w w' := by
  have HL := Lib.hid (hr.len KeyV.cells_len (by omega))
  have HP := Lib.hid (show placeK (keysOf vs) i = (List.range n).countP fun j => ahead (keysOf vs) j i by rw [placeK, keysOf_len, HL.out])
  have HK := Lib.hid hks
  clear hks
  have hiz : (i : Int) < (n : Int) := by omega
  go_enter Try.func23, Try.ntmps23
  go_wp2_with fail
  go_loopw [5, 6] (fun c v wr => ∃ (k m : Nat), k ≤ n ∧ m ≤ k ∧ c = .int .i64 m ∧ v = .int .i64 k ∧ Hid (m = (List.range k).countP fun j => ahead (keysOf vs) j i) ∧ Hid (Drawn w wr)) (fun _ v _ => n - (intOf v).toNat)
  case atStart => exact ⟨0, 0, Nat.zero_le _, Nat.le_refl _, rfl, rfl, Lib.hid (by simp), Drawn.refl w⟩
  case round =>
    obtain ⟨k, m, hk, hmk, rfl, rfl, HC, HD⟩ := hrel
    by_cases hlt : k < n
    · have hlz : (k : Int) < (n : Int) := by omega
      have hrw : Rd wr B 1 A n (vs.flatMap KeyV.cells) := hr.keep fun p _ => HD.out.keep p
      have hg_f : vs[k]? = some (vs[k]'(by have := HL.out; omega)) := List.getElem?_eq_getElem _
      obtain ⟨b_f, off_f, rfl, hbb_f, hc_f⟩ := (hrw).elem KeyV.cells_len hg_f hlt
      have HT_f := Lib.hid (show vs.take (k + 1) = vs.take k ++ [(vs[k]'(by have := HL.out; omega))] from List.take_succ_eq_append_getElem (by have := HL.out; omega))
      have HM_f := Lib.hid (show (vs[k]'(by have := HL.out; omega)) ∈ vs from List.getElem_mem _)
      have HG_f := Lib.hid hg_f
      generalize (vs[k]'(by have := HL.out; omega)) = f at *
      have c0 := hc_f 0 _ rfl
      clear hc_f hg_f
      simp only [Nat.add_zero, Nat.mul_one] at c0
      have hg_g : vs[i]? = some (vs[i]'(by have := HL.out; omega)) := List.getElem?_eq_getElem _
      obtain ⟨b_g, off_g, hA_g, hbb_g, hc_g⟩ := (hrw).elem KeyV.cells_len hg_g hi
      have HT_g := Lib.hid (show vs.take (i + 1) = vs.take i ++ [(vs[i]'(by have := HL.out; omega))] from List.take_succ_eq_append_getElem (by have := HL.out; omega))
      have HM_g := Lib.hid (show (vs[i]'(by have := HL.out; omega)) ∈ vs from List.getElem_mem _)
      have HG_g := Lib.hid hg_g
      generalize (vs[i]'(by have := HL.out; omega)) = g at *
      have d0 := hc_g 0 _ rfl
      clear hc_g hg_g
      simp only [Nat.add_zero, Nat.mul_one] at d0
      obtain ⟨rfl, rfl⟩ : b_f = b_g ∧ off_f = off_g := by
        have := Option.some.inj hA_g
        simp only [Addr.mk.injEq] at this
        exact ⟨this.1, this.2.1⟩
      clear hA_g
      have HCF := Lib.hid (cfK_at HG_f.out HG_g.out)
      have HAH := Lib.hid (ahead_iff (keys := keysOf vs) (x := k) (y := i))
      obtain ⟨k1, l1⟩ := HK.out f HM_f.out
      obtain ⟨k2, l2⟩ := HK.out g HM_g.out
      obtain ⟨fA, fc, fk⟩ := f
      obtain ⟨gA, gc, gk⟩ := g
      simp only at k1 k2 l1 l2 HCF
      have HX := Lib.hid (fun q => refCmp_any fA fk.length fc gA gk.length gc fk gk B B (wr.drewN q) ((k1.keep fun p _ => HD.out.keep p).keep fun _ _ => rfl) ((k2.keep fun p _ => HD.out.keep p).keep fun _ _ => rfl) (by omega) (by omega))
      have hbd := cmpL_bd fk gk
      rw [HCF.out] at HAH
      have HRC := Lib.hid (range_count (p := fun j => ahead (keysOf vs) j i) k)
      generalize cmpL fk gk = z at HX hbd HAH
      simp only [KeyV.val] at c0 d0
      clear k1 k2 hrw HCF
      by_cases h1 : z < 0
      · have HT := Lib.hid (show ahead (keysOf vs) k i = true from HAH.out.2 (.inl h1))
        go_wp2_with fail
        go_quiet ((go_at_call 17; exact Calls.quiet_of (HX.out _)))
        go_wp2_with fail
        go_roundw
        case rel => exact ⟨k + 1, m + 1, by omega, by omega, by go_num, by go_num, Lib.hid (by rw [HRC.out, HT.out, if_pos rfl, ← HC.out]), HD.out.next _⟩
        case measure => simp [intOf]; omega
      · by_cases h2 : z = 0
        · subst h2
          by_cases h3 : k < i
          · have h3z : (k : Int) < (i : Int) := by omega
            have HT := Lib.hid (show ahead (keysOf vs) k i = true from HAH.out.2 (.inr ⟨rfl, h3⟩))
            go_wp2_with fail
            go_quiet ((go_at_call 17; exact Calls.quiet_of (HX.out _)))
            go_wp2_with fail
            go_roundw
            case rel => exact ⟨k + 1, m + 1, by omega, by omega, by go_num, by go_num, Lib.hid (by rw [HRC.out, HT.out, if_pos rfl, ← HC.out]), HD.out.next _⟩
            case measure => simp [intOf]; omega
          · have h3z : ¬ (k : Int) < (i : Int) := by omega
            have HT := Lib.hid (show ahead (keysOf vs) k i = false by rw [← Bool.not_eq_true, HAH.out]; omega)
            go_wp2_with fail
            go_quiet ((go_at_call 17; exact Calls.quiet_of (HX.out _)))
            go_wp2_with fail
            go_roundw
            case rel => exact ⟨k + 1, m, by omega, by omega, rfl, by go_num, Lib.hid (by rw [HRC.out, HT.out, ← HC.out]; rfl), HD.out.next _⟩
            case measure => simp [intOf]; omega
        · have b1 : (z == 0) = false := by simpa using h2
          have HT := Lib.hid (show ahead (keysOf vs) k i = false by rw [← Bool.not_eq_true, HAH.out]; omega)
          clear h2
          go_wp2_with fail
          go_quiet ((go_at_call 17; exact Calls.quiet_of (HX.out _)))
          go_wp2_with fail
          go_roundw
          case rel => exact ⟨k + 1, m, by omega, by omega, rfl, by go_num, Lib.hid (by rw [HRC.out, HT.out, ← HC.out]; rfl), HD.out.next _⟩
          case measure => simp [intOf]; omega
    · have hlz : ¬ (k : Int) < (n : Int) := by omega
      obtain rfl : n = k := by omega
      go_wp2_with fail
      go_ret
      exact ⟨ret_int (by rw [HP.out, ← HC.out]), HD.out⟩

/-! ### The document's order -/
/-- The row behind k steps: who of the first k stands there. -/
def ordF (keys : List (List Int)) (k p : Nat) : Nat := if (ordK keys).getD p 0 < k then (ordK keys).getD p 0 else 0
theorem ordF_zero (keys : List (List Int)) (n : Nat) : rowA n (ordF keys 0) = rowA n (fun _ => 0) := by
  unfold rowA ordF; simp
theorem ordF_step {keys : List (List Int)} {k : Nat} (hk : k < keys.length) (p : Nat) (hp : p < keys.length) : ordF keys (k + 1) p = if p = placeK keys k then k else ordF keys k p := by
  have hl : p < (ordK keys).length := by rw [ordK_len]; exact hp
  have hg : (ordK keys)[p]? = some (ordK keys)[p] := List.getElem?_eq_getElem hl
  have hd : (ordK keys).getD p 0 = (ordK keys)[p] := by simp [List.getD, hg]
  have hpl := placeK_at hg
  unfold ordF
  rw [hd]
  by_cases e : p = placeK keys k
  · rw [if_pos e]
    have : (ordK keys)[p] = k := by
      have h1 := ordK_at hk
      rw [← e, hg] at h1
      exact Option.some.inj h1
    rw [this, if_pos (by omega)]
  · rw [if_neg e]
    have : (ordK keys)[p] ≠ k := fun h => e (by rw [← h]; exact hpl.symm)
    by_cases h : (ordK keys)[p] < k
    · rw [if_pos h, if_pos (by omega)]
    · rw [if_neg h, if_neg (by omega)]
theorem ordF_done {keys : List (List Int)} (i x : Nat) (h : (ordK keys)[i]? = some x) : ordF keys keys.length i = x := by
  have hd : (ordK keys).getD i 0 = x := by simp [List.getD, h]
  rw [ordF, hd, if_pos (ordK_mem.1 (List.mem_of_getElem? h))]

set_option maxHeartbeats 4000000 in
set_option maxRecDepth 10000 in
theorem refOrder_any (A : Option Addr) (n cp : Nat) (vs : List KeyV) (w : World) (hr : Rd w w.heap.size 1 A n (vs.flatMap KeyV.cells)) (hks : KeysRd w w.heap.size vs) (hn : n ≤ 1000000) :
    Calls Try.prog 22 #[.slice A n cp] w (OrdPost w vs n) := by
  have hB1 := (Below.refl w.heap.size w).alloc (Nat.le_refl _) (.cells (fillA n 0) 3)
  have bl1 := Blk.new w 3 (fillA n 0) w.heap.size rfl
  have hmk := make_ints n hn
  have hL := Lib.hid (show (keysOf vs).length = n by rw [keysOf_len]; exact hr.len KeyV.cells_len (by omega))
  have HK := Lib.hid hks
  clear hks
  go_enter Try.func22, Try.ntmps22
  go_wp2_with fail
  clear hmk
  go_loopw [4] (fun i wr => ∃ k : Nat, k ≤ n ∧ i = .int .i64 k ∧ Blk wr w.heap.size 3 (rowA n (ordF (keysOf vs) k)) ∧ Below w.heap.size w wr) (fun i _ => n - (intOf i).toNat)
  case atStart => exact ⟨0, Nat.zero_le _, rfl, by rw [ordF_zero, ← rowA_zero]; exact bl1, hB1⟩
  case round =>
    clear bl1 hB1
    obtain ⟨k, hk, rfl, bl, hb⟩ := hrel
    by_cases hlt : k < n
    · have hlz : (k : Int) < (n : Int) := by omega
      obtain ⟨p, hp⟩ : ∃ p : Nat, Hid (placeK (keysOf vs) k = p) := ⟨_, Lib.hid rfl⟩
      have hpn : p < n := by rw [← hp.out, ← hL.out]; exact placeK_lt (by rw [hL.out]; exact hlt)
      have hpz : (p : Int) < (n : Int) := by omega
      have HC := Lib.hid (refPlace_any A n cp k vs w.heap.size wr (hr.below hb) (HK.out.below hb (Nat.le_refl _)) hn hlt)
      rw [hp.out] at HC
      have HST := Lib.hid (fun p' h => ordF_step (keys := keysOf vs) (k := k) (by rw [hL.out]; exact hlt) p' h)
      rw [hp.out, hL.out] at HST
      go_wp2_with fail
      refine HC.out.mono ?_
      rintro e w1 ⟨rfl, hd⟩
      have bl' := hd.blk bl
      have hb' := hd.below hb
      clear bl hb hd
      have c1 := (bl'.cell p).trans (rowA_at _ hpn)
      have f1 := bl'.frozen p
      have bl2 := bl'.put p (.int .i64 (k : Nat))
      rw [rowA_put hpn HST.out] at bl2
      have hb2 := hb'.setCell (p := ⟨w.heap.size, p, none⟩) (by simp) (.int .i64 (k : Nat))
      go_wp2_with fail
      go_roundw
      case rel => exact ⟨k + 1, by omega, by go_num, bl2, hb2⟩
      case measure => simp [intOf]; omega
    · have hlz : ¬ (k : Int) < (n : Int) := by omega
      obtain rfl : n = k := by omega
      go_wp2_with fail
      go_ret
      exact ⟨_, _, rfl, rowA_rd bl (by rw [ordK_len, hL.out]) (fun i x h => by have := ordF_done (keys := keysOf vs) i x h; rw [hL.out] at this; exact this), hb, fun p hp => by cases hp; exact Nat.le_refl _⟩

/-! ### Where each stands -/
def placesK (keys : List (List Int)) : List Nat := (List.range keys.length).map (placeK keys)
theorem placesK_len (keys : List (List Int)) : (placesK keys).length = keys.length := by simp [placesK]
theorem placesK_at {keys : List (List Int)} {i : Nat} (h : i < keys.length) : (placesK keys)[i]? = some (placeK keys i) := by simp [placesK, h]
def plcF (keys : List (List Int)) (k p : Nat) : Nat := if placeK keys p < k then placeK keys p else 0
theorem plcF_zero (keys : List (List Int)) (n : Nat) : rowA n (plcF keys 0) = rowA n (fun _ => 0) := by
  unfold rowA plcF; simp
theorem plcF_step {keys : List (List Int)} {k i : Nat} (hi : (ordK keys)[k]? = some i) (p : Nat) (hp : p < keys.length) : plcF keys (k + 1) p = if p = i then k else plcF keys k p := by
  have hpl := placeK_at hi
  have hin := ordK_mem.1 (List.mem_of_getElem? hi)
  unfold plcF
  by_cases e : p = i
  · subst e; rw [if_pos rfl, hpl, if_pos (by omega)]
  · rw [if_neg e]
    have : placeK keys p ≠ k := fun h => e (placeK_inj hp hin (by rw [h, hpl]))
    by_cases h : placeK keys p < k
    · rw [if_pos h, if_pos (by omega)]
    · rw [if_neg h, if_neg (by omega)]
/-- What Place hands back. -/
def PlcPost (w : World) (vs : List KeyV) (n : Nat) (e : Ending) (w' : World) : Prop := ∃ (A : Option Addr) (c : Nat), e = .returned (.slice A n c) ∧ Rd w' w'.heap.size 1 A n ((placesK (keysOf vs)).flatMap nC) ∧ Below w.heap.size w w'

set_option maxHeartbeats 4000000 in
set_option maxRecDepth 10000 in
theorem rankPlace_any (A : Option Addr) (n cp : Nat) (vs : List KeyV) (w : World) (hr : Rd w w.heap.size 1 A n (vs.flatMap KeyV.cells)) (hks : KeysRd w w.heap.size vs) (hn : n ≤ 1000000) :
    Calls Try.prog 20 #[.slice A n cp] w (PlcPost w vs n) := by
  have hB1 := (Below.refl w.heap.size w).alloc (Nat.le_refl _) (.cells (fillA n 0) 3)
  have bl1 := Blk.new w 3 (fillA n 0) w.heap.size rfl
  have hmk := make_ints n hn
  have hL := Lib.hid (show (keysOf vs).length = n by rw [keysOf_len]; exact hr.len KeyV.cells_len (by omega))
  have HC := Lib.hid (order_any A n cp vs (w.alloc (.cells (fillA n 0) 3)) (hr.alloc _) (hks.past hB1) hn)
  clear hks
  go_enter Try.func20, Try.ntmps20
  go_wp2_with fail
  clear hmk
  refine HC.out.mono ?_
  rintro e w1 ⟨A1, c1, rfl, ho, hbo, hfar⟩
  have HF := Lib.hid hfar
  clear hfar
  have bl2 := bl1.past hbo
  have hb2 := Below.past hB1 hbo hB1.size
  have HLO := Lib.hid (ordK_len (keysOf vs))
  clear bl1 hB1 hbo
  go_wp2_with fail
  go_loopw [12] (fun i wr => ∃ k : Nat, k ≤ n ∧ i = .int .i64 k ∧ Blk wr w.heap.size 3 (rowA n (plcF (keysOf vs) k)) ∧ Below w.heap.size w wr ∧ Hid (Rd wr wr.heap.size 1 A1 n ((ordK (keysOf vs)).flatMap nC))) (fun i _ => n - (intOf i).toNat)
  case atStart => exact ⟨0, Nat.zero_le _, rfl, by rw [plcF_zero, ← rowA_zero]; exact bl2, hb2, ho⟩
  case round =>
    clear bl2 hb2 ho
    obtain ⟨k, hk, rfl, bl, hb, HO⟩ := hrel
    by_cases hlt : k < n
    · have hlz : (k : Int) < (n : Int) := by omega
      obtain ⟨x, hi0⟩ : ∃ x, (ordK (keysOf vs))[k]? = some x := ⟨_, List.getElem?_eq_getElem (by rw [HLO.out, hL.out]; exact hlt)⟩
      have hxn := ordK_mem.1 (List.mem_of_getElem? hi0)
      rw [hL.out] at hxn
      obtain ⟨b1, o1, rfl, hb1, hc1⟩ := HO.out.elem nC_len hi0 hlt
      have HST := Lib.hid (fun p' h => plcF_step hi0 p' h)
      rw [hL.out] at HST
      have c0 := hc1 0 _ rfl
      simp only [Nat.mul_one, Nat.add_zero] at c0
      have hfar : b1 ≠ w.heap.size := by
        have := HF.out _ rfl
        simp at this
        omega
      have hxz : (x : Int) < (n : Int) := by omega
      have c1 := (bl.cell x).trans (rowA_at _ hxn)
      have f1 := bl.frozen x
      have bl3 := bl.put x (.int .i64 (k : Nat))
      rw [rowA_put hxn HST.out] at bl3
      have hb3 := hb.setCell (p := ⟨w.heap.size, x, none⟩) (by simp) (.int .i64 (k : Nat))
      have ho3 := HO.out.set (p := ⟨w.heap.size, x, none⟩) (fun q hq => by cases hq; exact hfar) (.int .i64 (k : Nat))
      have HO3 := Lib.hid ho3
      clear hi0 hc1 ho3 HO
      go_wp2_with fail
      go_roundw
      case rel => exact ⟨k + 1, by omega, by go_num, bl3, hb3, HO3.out.mono (by simp)⟩
      case measure => simp [intOf]; omega
    · have hlz : ¬ (k : Int) < (n : Int) := by omega
      obtain rfl : n = k := by omega
      go_wp2_with fail
      go_ret
      exact ⟨_, _, rfl, rowA_rd bl (by rw [placesK_len, hL.out]) (fun i x h => by
        have hi : i < (keysOf vs).length := by rw [← placesK_len]; exact (List.getElem?_eq_some_iff.1 h).1
        rw [placesK_at hi] at h
        have := Option.some.inj h
        rw [plcF, if_pos (by rw [← hL.out]; exact placeK_lt hi)]; exact this), hb⟩
end Go.Proofs.Ytoohfbgbhjadgaa
