import Derived.Test.YtndhhnfhookeaaaTimA
namespace Go.Proofs.Ytndhhnfhookeaaa
open Go.RowKit

/-- The keys of the first timers, each in a block of its own. -/
def KBlk (w : World) (base : Nat) (vs : List KeyV) : Prop := ∀ v ∈ vs, ∃ g, base ≤ g ∧ v.A = some ⟨g, 0, none⟩ ∧ Blk w g 2 (v.k.map (Value.int .i64)).toArray ∧ v.k.length ≤ 100
theorem KBlk.keys {w : World} {base : Nat} {vs : List KeyV} (h : KBlk w base vs) : KeysRd w w.heap.size vs := fun v hv => by
  obtain ⟨g, _, hA, hb, hl⟩ := h v hv
  refine ⟨⟨by rw [flat_len iC 1 iC_len, Nat.mul_one], fun _ => ⟨g, 0, hA, hb.lt, fun j u hu => ?_⟩⟩, by omega⟩
  have hj : j < v.k.length := by
    have := (List.getElem?_eq_some_iff.1 hu).1
    rw [flat_len iC 1 iC_len] at this
    omega
  have hg : v.k[j]? = some v.k[j] := List.getElem?_eq_getElem hj
  have h5 := flat_get iC 1 iC_len v.k j _ 0 hg (by omega)
  rw [Nat.mul_one, Nat.add_zero, hu] at h5
  rw [Nat.zero_add, hb.cell j, h5]
  simp [hg, iC]
theorem KBlk.past {w w' : World} {base : Nat} {vs : List KeyV} (h : KBlk w base vs) (hb : Below w.heap.size w w') : KBlk w' base vs := fun v hv => by
  obtain ⟨g, h1, hA, hbk, hl⟩ := h v hv
  exact ⟨g, h1, hA, hbk.past hb, hl⟩
theorem KBlk.grown {w w' : World} {base : Nat} {vs : List KeyV} {row : Option Nat} (h : KBlk w base vs) (hg : w.grownBy w' row) (hr : ∀ g cs, Blk w g 2 cs → row ≠ some g) : KBlk w' base vs := fun v hv => by
  obtain ⟨g, h1, hA, hbk, hl⟩ := h v hv
  exact ⟨g, h1, hA, hbk.grown hg (hr g _ hbk), hl⟩

/-- What Sorted hands back. -/
def SrtTPost (w : World) (l : List Tim) (n : Nat) (e : Ending) (w' : World) : Prop := ∃ v, e = .returned v ∧ w'.ownsRow w.heap.size 29 4 v n ((sortT l).flatMap Tim.cells) ∧ Below w.heap.size w w'

theorem keyArr (f : Tim) : (f.key.map (Value.int .i64)).toArray = #[.int .i64 f.due, .int .i64 f.kind, .int .i64 f.mem, .int .i64 f.lev] := rfl

set_option maxHeartbeats 8000000 in
set_option maxRecDepth 100000 in
theorem sorted_any (A : Option Addr) (n cp : Nat) (l : List Tim) (w : World) (hr : Rd w w.heap.size 4 A n (l.flatMap Tim.cells)) (hn : n ≤ 1000) :
    Calls Try.prog 63 #[.slice A n cp] w (SrtTPost w l n) := by
  have HL := Lib.hid (hr.len Tim.cells_len (by omega))
  obtain ⟨i0, hi0, hz0, hz1, hz2⟩ := info_parts ksInfo
  obtain ⟨j0, hj0, jz0, jz1, jz2⟩ := info_parts timInfo
  go_enter Try.func63, Try.ntmps63
  go_wp2_with fail
  go_loopw [3, 5, 11] (fun v _ i wr => ∃ (k : Nat) (kv : List KeyV), k ≤ n ∧ i = .int .i64 k ∧ Hid (kv.length = k) ∧ Hid (keysOf kv = (l.take k).map Tim.key) ∧ Hid (KBlk wr w.heap.size kv) ∧ wr.ownsRow w.heap.size 127 1 v k (kv.flatMap KeyV.cells) ∧ Below w.heap.size w wr) (fun _ _ i _ => n - (intOf i).toNat)
  case atStart => exact ⟨0, [], Nat.zero_le _, rfl, Lib.hid rfl, Lib.hid (by simp [keysOf]), Lib.hid (fun v hv => by cases hv), World.ownsRow_nil _ _ _ _, Below.refl _ _⟩
  case round =>
    obtain ⟨k, kv, hk, rfl, HV, HKS, HKB, hown, hb⟩ := hrel
    by_cases hlt : k < n
    · as_aux_lemma =>
      have hlz : (k : Int) < (n : Int) := by omega
      have hg_f : l[k]? = some (l[k]'(by have := HL.out; omega)) := List.getElem?_eq_getElem _
      obtain ⟨b_f, off_f, rfl, hbb_f, hc_f⟩ := (hr.below hb).elem Tim.cells_len hg_f hlt
      have HT_f := Lib.hid (show l.take (k + 1) = l.take k ++ [(l[k]'(by have := HL.out; omega))] from List.take_succ_eq_append_getElem (by have := HL.out; omega))
      have HM_f := Lib.hid (show (l[k]'(by have := HL.out; omega)) ∈ l from List.getElem_mem _)
      generalize (l[k]'(by have := HL.out; omega)) = f at *
      have c0 := hc_f 0 _ rfl
      have c1 := hc_f 1 _ rfl
      have c2 := hc_f 2 _ rfl
      have c3 := hc_f 3 _ rfl
      clear hc_f hg_f
      simp only [Nat.add_zero] at c0
      have hs0 := hb.size
      have hbA := hb.alloc hs0 (.cells #[.int .i64 f.due, .int .i64 f.kind, .int .i64 f.mem, .int .i64 f.lev] 29)
      have hoA := hown.alloc (.cells #[.int .i64 f.due, .int .i64 f.kind, .int .i64 f.mem, .int .i64 f.lev] 29)
      have HKA := Lib.hid (HKB.out.past ((Below.refl _ _).alloc (Nat.le_refl _) (.cells #[.int .i64 f.due, .int .i64 f.kind, .int .i64 f.mem, .int .i64 f.lev] 29)))
      go_wp2_with fail
      refine (timerKey_any f _).mono ?_
      rintro e w1 ⟨g, rfl, hg, hbl, hb1⟩
      have hoB : w1.ownsRow w.heap.size 127 1 u3 k (kv.flatMap KeyV.cells) := own_past hoA hb1
      have hbB := Below.past hbA hb1 hbA.size
      have HKC := Lib.hid (HKA.out.past hb1)
      have hs := hbB.size
      have HBL := Lib.hid hbl
      have hgb : w.heap.size ≤ g := by have := hbA.size; omega
      clear c0 c1 c2 c3 hown hoA hb hbA hb1 hbl hg
      go_wp2_with (at_builtin; refine wpList_append_lit _ _ rfl (.tmp 15) (.tmp 18) 150 rfl w.heap.size 127 i0 _ 1 24 Try.underlying150 hi0 hz0 hz1 hz2 rfl (by decide) _ _ _ rfl hoB _ 1 1 rfl (by first | rfl | simp) rfl (by simp [Value.oneCell']) (by omega) (by omega) (by omega) ?_; intro v' w' hown' hg'; have hbw := below_own (hbB.alloc hs _) hg' hoB (by simp; omega) (Nat.le_refl _))
      go_roundw
      case rel =>
        refine ⟨k + 1, kv ++ [⟨some ⟨g, 0, none⟩, 4, f.key⟩], by omega, by go_num, Lib.hid (by simp [HV.out]), Lib.hid (by rw [HT_f.out, List.map_append, ← HKS.out]; simp [keysOf]), Lib.hid ?_, by simpa [KeyV.cells, KeyV.val, Tim.key] using hown', hbw⟩
        have hne : ∀ g' cs, Blk (w1.alloc (.cells #[.slice (some ⟨g, 0, none⟩) 4 4] 127)) g' 2 cs → u3.ownBlock ≠ some g' := fun g' cs hb' => own_blk_ne (hoB.alloc _) hb' (by decide)
        have hB1 := HBL.out.alloc (.cells #[.slice (some ⟨g, 0, none⟩) 4 4] 127)
        intro v hv
        rcases List.mem_append.1 hv with hv | hv
        · exact ((HKC.out.past ((Below.refl _ _).alloc (Nat.le_refl _) _)).grown hg' hne) v hv
        · rw [List.mem_singleton.1 hv]
          exact ⟨g, hgb, rfl, hB1.grown hg' (hne g _ hB1), by simp [Tim.key]⟩
      case measure => simp [intOf]; omega
    · as_aux_lemma =>
      have hlz : ¬ (k : Int) < (n : Int) := by omega
      obtain rfl : n = k := by omega
      rw [List.take_of_length_le (by rw [HL.out]; exact Nat.le_refl _)] at HKS
      obtain ⟨A', c', rfl⟩ := own_form hown
      have hrk := Rd.of_own hown
      have HO := Lib.hid (order_any A' n c' kv wr hrk HKB.out.keys (by omega))
      clear hown hrk
      go_wp2_with fail
      refine HO.out.mono ?_
      rintro e w2 ⟨A2, c2, rfl, ho, hb2, _⟩
      rw [HKS.out] at ho
      have hbB := Below.past hb hb2 hb.size
      have HLO := Lib.hid (show (ordK (l.map Tim.key)).length = n by rw [ordK_len, List.length_map, HL.out])
      have HST := Lib.hid (order_sortT l ⟨0, 0, 0, 0⟩)
      clear HO hb2 hb HKB
      have hr2 := hr.past hbB
      go_wp2_with fail
      go_loopw [6, 8, 24] (fun v _ i wz => ∃ k : Nat, k ≤ n ∧ i = .int .i64 k ∧ wz.ownsRow w2.heap.size 29 4 v k ((((ordK (l.map Tim.key)).take k).map fun i => l.getD i ⟨0, 0, 0, 0⟩).flatMap Tim.cells) ∧ Below w2.heap.size w2 wz) (fun _ _ i _ => n - (intOf i).toNat)
      case atStart => exact ⟨0, Nat.zero_le _, rfl, World.ownsRow_nil _ _ _ _, Below.refl _ _⟩
      case round =>
        obtain ⟨k, hk, rfl, hown, hb⟩ := hrel
        have hs := hb.size
        by_cases hlt : k < n
        · have hlz : (k : Int) < (n : Int) := by omega
          obtain ⟨x, hxg⟩ : ∃ x, (ordK (l.map Tim.key))[k]? = some x := ⟨_, List.getElem?_eq_getElem (by rw [HLO.out]; exact hlt)⟩
          have hxn := ordK_mem.1 (List.mem_of_getElem? hxg)
          rw [List.length_map, HL.out] at hxn
          obtain ⟨b3, o3, rfl, hbb3, hc3⟩ := (ho.below hb).elem nC_len hxg hlt
          have x0 := hc3 0 _ rfl
          simp only [Nat.mul_one, Nat.add_zero] at x0
          have hxz : (x : Int) < (n : Int) := by omega
          have HT : Hid ((ordK (l.map Tim.key)).take (k + 1) = (ordK (l.map Tim.key)).take k ++ [x]) := Lib.hid (by rw [List.take_add_one, hxg]; rfl)
          have hg_f : l[x]? = some (l[x]'(by have := HL.out; omega)) := List.getElem?_eq_getElem _
          obtain ⟨b_f, off_f, rfl, hbb_f, hc_f⟩ := (hr2.below hb).elem Tim.cells_len hg_f hxn
          have HT_f := Lib.hid (show l.take (x + 1) = l.take x ++ [(l[x]'(by have := HL.out; omega))] from List.take_succ_eq_append_getElem (by have := HL.out; omega))
          have HM_f := Lib.hid (show (l[x]'(by have := HL.out; omega)) ∈ l from List.getElem_mem _)
          have HG_f := Lib.hid hg_f
          generalize (l[x]'(by have := HL.out; omega)) = f at *
          have c0 := hc_f 0 _ rfl
          have c1 := hc_f 1 _ rfl
          have c2 := hc_f 2 _ rfl
          have c3 := hc_f 3 _ rfl
          clear hc_f hg_f
          simp only [Nat.add_zero] at c0
          have HF : Hid (l.getD x ⟨0, 0, 0, 0⟩ = f) := Lib.hid (by simp [List.getD, HG_f.out])
          clear hc3 hxg
          go_wp2_with (at_builtin; refine wpList_append_lit _ _ rfl (.tmp 28) (.tmp 33) 22 rfl w2.heap.size 29 j0 _ 4 32 Try.underlying22 hj0 jz0 jz1 jz2 rfl (by decide) _ _ _ rfl hown _ 1 1 rfl (by first | rfl | simp) rfl (by simp [Value.oneCell']) (by omega) (by omega) (by omega) ?_; intro v' w' hown' hg'; have hbw := below_own (hb.alloc hs _) hg' hown (by simp; omega) (Nat.le_refl _))
          go_roundw
          case rel => exact ⟨k + 1, by omega, by go_num, by rw [HT.out, List.map_append, List.flatMap_append, List.map_cons, HF.out]; exact hown', hbw⟩
          case measure => simp [intOf]; omega
        · have hlz : ¬ (k : Int) < (n : Int) := by omega
          obtain rfl : n = k := by omega
          rw [List.take_of_length_le (by rw [HLO.out]; exact Nat.le_refl _), HST.out] at hown
          have HOW := Lib.hid (own_mono hown hbB.size)
          clear hown
          go_wp2_with fail
          go_ret
          exact ⟨_, rfl, HOW.out, Below.past hbB hb hbB.size⟩
end Go.Proofs.Ytndhhnfhookeaaa
