import Derived.Test.YtfnhffcjhdeleaaKeyA
import Derived.Test.YtfnhffcjhdeleaaRkF
namespace Go.Proofs.Ytfnhffcjhdeleaa
open Go.RowKit Go.Lib Go.Sort Go.Proofs

/-- A place, as it stands in a row of places. -/
def encP (n x : Nat) : Value := .int .i64 (clamp n x : Nat)
def nC (x : Nat) : List Value := [.int .i64 (x : Nat)]
theorem nC_len (x : Nat) : (nC x).length = 1 := rfl
theorem clamp_lt {n x : Nat} (h : 0 < n) : clamp n x < n := by unfold clamp; split <;> omega
theorem clamp_of {n x : Nat} (h : x < n) : clamp n x = x := by rw [clamp, if_pos h]

set_option maxHeartbeats 1000000 in
theorem orderF_any (A : Option Addr) (n cp g : Nat) (vs : List KeyV) (x y B : Nat) (w : World) (hbox : w.cell? ⟨g, 0, none⟩ = some (.slice A n cp)) (hr : Rd w B 1 A n (vs.flatMap KeyV.cells)) (hk : KeysRd w B vs) (hn : n ≤ 1000000) (hx : x < n) (hy : y < n) :
    Calls Try.prog 131 #[.int .i64 (x : Nat), .int .i64 (y : Nat), .pointer (some ⟨g, 0, none⟩)] w fun e w' => e = .returned (.int .i64 (cmpL ((keysOf vs).getD x []) ((keysOf vs).getD y []))) ∧ ∃ q, w' = w.drewN q := by
  have HL := Lib.hid (hr.len KeyV.cells_len (by omega))
  have hg_f : vs[x]? = some (vs[x]'(by have := HL.out; omega)) := List.getElem?_eq_getElem _
  obtain ⟨b_f, off_f, rfl, hbb_f, hc_f⟩ := (hr).elem KeyV.cells_len hg_f hx
  have HT_f := Lib.hid (show vs.take (x + 1) = vs.take x ++ [(vs[x]'(by have := HL.out; omega))] from List.take_succ_eq_append_getElem (by have := HL.out; omega))
  have HM_f := Lib.hid (show (vs[x]'(by have := HL.out; omega)) ∈ vs from List.getElem_mem _)
  have HG_f := Lib.hid hg_f
  generalize (vs[x]'(by have := HL.out; omega)) = f at *
  have c0 := hc_f 0 _ rfl
  clear hc_f hg_f
  simp only [Nat.add_zero, Nat.mul_one] at c0
  have hg_f2 : vs[y]? = some (vs[y]'(by have := HL.out; omega)) := List.getElem?_eq_getElem _
  obtain ⟨b_f2, off_f2, hA_f2, hbb_f2, hc_f2⟩ := (hr).elem KeyV.cells_len hg_f2 hy
  have HT_f2 := Lib.hid (show vs.take (y + 1) = vs.take y ++ [(vs[y]'(by have := HL.out; omega))] from List.take_succ_eq_append_getElem (by have := HL.out; omega))
  have HM_f2 := Lib.hid (show (vs[y]'(by have := HL.out; omega)) ∈ vs from List.getElem_mem _)
  have HG_f2 := Lib.hid hg_f2
  generalize (vs[y]'(by have := HL.out; omega)) = f2 at *
  have d0 := hc_f2 0 _ rfl
  clear hc_f2 hg_f2
  simp only [Nat.add_zero, Nat.mul_one] at d0
  obtain ⟨rfl, rfl⟩ : b_f = b_f2 ∧ off_f = off_f2 := by
    have := Option.some.inj hA_f2
    simp only [Addr.mk.injEq] at this
    exact ⟨this.1, this.2.1⟩
  clear hA_f2
  have e1 := Lib.hid (keysOf_at HG_f.out)
  have e2 := Lib.hid (keysOf_at HG_f2.out)
  rw [e1.out, e2.out]
  obtain ⟨k1, l1⟩ := hk f HM_f.out
  obtain ⟨k2, l2⟩ := hk f2 HM_f2.out
  obtain ⟨fA, fc, fk⟩ := f
  obtain ⟨gA, gc, gk⟩ := f2
  simp only at k1 k2 l1 l2
  have HK := Lib.hid (fun m => rankCmp_any fA fk.length fc gA gk.length gc fk gk B B (w.drewN m) (k1.keep fun _ _ => rfl) (k2.keep fun _ _ => rfl) (by omega) (by omega))
  generalize cmpL fk gk = z at HK ⊢
  simp only [KeyV.val] at c0 d0
  have hxz : (x : Int) < (n : Int) := by omega
  have hyz : (y : Int) < (n : Int) := by omega
  clear hk k1 k2 hr
  go_enter Try.func131, Try.ntmps131
  go_wp2_with fail
  go_quiet ((go_at_call 132; exact quiet_left (HK.out _)))
  go_wp2_with fail
  go_ret
  exact ⟨rfl, nq, rfl⟩

theorem cell_sortWorld {enc : Nat → Value} {w : World} {blk off m : Nat} {dk : Array Nat} {os : Array Obj} {p : Addr} (h1 : p.block ≠ blk) (h2 : p.block < w.heap.size) : (sortWorld enc w blk off m dk os).cell? p = w.cell? p := by
  unfold sortWorld
  rw [cell?_grow _ _ _ (by show p.block < (putRow enc w blk off dk).heap.size; simp only [putRow, mapBlock, Array.size_modify]; exact h2)]
  show (putRow enc w blk off dk).cell? p = _
  exact cell?_putRow_other _ _ _ _ _ _ (.inl h1)

theorem eg_order : ∀ args w, (callFunc 131 args).run Try.prog w = .ok (.enter 131 args) w := enters_of Try.func131 (by kernel_rfl) rfl

/-- The closure, as the sort asks for it. -/
theorem order_reads (A : Option Addr) (n cp g blk : Nat) (vs : List KeyV) (B : Nat) (w : World) (hbox : w.cell? ⟨g, 0, none⟩ = some (.slice A n cp)) (hr : Rd w B 1 A n (vs.flatMap KeyV.cells)) (hk : KeysRd w B vs) (hn : n ≤ 1000000) (h0 : 0 < n)
    (hg : g < w.heap.size) (hgb : g ≠ blk) (hB : B ≤ w.heap.size) (hBb : B ≤ blk) : CmpReads Try.prog 131 #[.pointer (some ⟨g, 0, none⟩)] (encP n) (cfK (keysOf vs)) blk 0 n w := by
  intro m os dk hs x y
  have hL : (keysOf vs).length = n := by rw [keysOf_len]; exact hr.len KeyV.cells_len (by omega)
  have hkeep : ∀ p : Addr, p.block < B → (sortWorld (encP n) w blk 0 m dk os).cell? p = w.cell? p := fun p hp => cell_sortWorld (by omega) (by omega)
  have := orderF_any A n cp g vs (clamp n x) (clamp n y) B (sortWorld (encP n) w blk 0 m dk os) ((cell_sortWorld (p := ⟨g, 0, none⟩) hgb hg).trans hbox) (hr.keep hkeep) (hk.keep hkeep) hn (clamp_lt h0) (clamp_lt h0)
  unfold cfK
  rw [hL]
  exact this

theorem below_putRow {B : Nat} {a w : World} {enc : Nat → Value} {blk off : Nat} {d : Array Nat} (h : Below B a w) (hb : B ≤ blk) : Below B a (putRow enc w blk off d) :=
  ⟨h.os, h.tape, h.output, by simp only [putRow, mapBlock, Array.size_modify]; exact h.size, fun i hi => by
    simp only [putRow, mapBlock, Array.getElem?_modify]
    rw [if_neg (by omega)]
    exact h.block i hi⟩

/-- The row while it is filled with places. -/
def fillA (n k : Nat) : Array Value := ((List.range n).map fun i => if i < k then .int .i64 (i : Nat) else .int .i64 0).toArray
theorem fillA_size (n k : Nat) : (fillA n k).size = n := by simp [fillA]
theorem fillA_at {n k i : Nat} (h : i < n) : (fillA n k)[i]? = some (if i < k then .int .i64 (i : Nat) else .int .i64 0) := by simp [fillA, h]
theorem fillA_put (n k : Nat) (h : k < n) : (fillA n k).setIfInBounds k (.int .i64 (k : Nat)) = fillA n (k + 1) := by
  apply Array.ext_getElem?
  intro i
  rw [Array.getElem?_setIfInBounds]
  by_cases hi : i < n
  · rw [fillA_at hi, fillA_at hi, fillA_size, if_pos (show k < n from h)]
    by_cases e : k = i
    · subst e; simp
    · rw [if_neg e]
      by_cases h1 : i < k
      · rw [if_pos h1, if_pos (by omega)]
      · rw [if_neg h1, if_neg (by omega)]
  · rw [if_neg (by omega), Array.getElem?_eq_none (by rw [fillA_size]; omega), Array.getElem?_eq_none (by rw [fillA_size]; omega)]
theorem fillA_zero (n : Nat) : Array.replicate n (Value.int .i64 0) = fillA n 0 := by
  apply Array.ext_getElem?
  intro i
  by_cases hi : i < n
  · rw [fillA_at hi]; simp [hi]
  · rw [Array.getElem?_eq_none (by simp; omega), Array.getElem?_eq_none (by rw [fillA_size]; omega)]

theorem range_at {n k : Nat} (h : k < n) : (Array.range n)[k]! = k := by
  rw [getElem!_pos _ k (by simpa using h)]; simp

/-- What an order of keys hands back. -/
def OrdPost (w : World) (vs : List KeyV) (n : Nat) (e : Ending) (w' : World) : Prop := ∃ (A : Option Addr) (c : Nat), e = .returned (.slice A n c) ∧ Rd w' w'.heap.size 1 A n ((ordK (keysOf vs)).flatMap nC) ∧ Below w.heap.size w w' ∧ ∀ p, A = some p → w.heap.size ≤ p.block

theorem ord_done (w wr : World) (g n : Nat) (vs : List KeyV) (d' : Array Nat) (q : Nat) (hb : Below w.heap.size w wr) (hg : w.heap.size ≤ g) (hgw : g < wr.heap.size) (hH : Holds (encP n) wr g 0 (Array.range n)) (hL : (keysOf vs).length = n) (hd : d'.size = n) (hgood : Good (fun x y => ahead (keysOf vs) x y = true) d' 0 n) :
    OrdPost w vs n (.returned (.slice (some ⟨g, 0, none⟩) n n)) ((putRow (encP n) wr g 0 d').drewN q) := by
  have hl : d'.toList = ordK (keysOf vs) := by unfold ordK; rw [hL]; exact good_list (ahead_str _) hgood hd
  refine ⟨_, _, rfl, ?_, below_drewN (below_putRow hb hg) q, fun p hp => by cases hp; exact hg⟩
  refine ⟨by rw [flat_len nC 1 nC_len, ← hl]; simp [hd], fun h0 => ⟨g, 0, rfl, ?_, fun j u hu => ?_⟩⟩
  · show g < (putRow (encP n) wr g 0 d').heap.size
    simp only [putRow, mapBlock, Array.size_modify]; exact hgw
  · have hj : j < n := by
      have := (List.getElem?_eq_some_iff.1 hu).1
      rw [flat_len nC 1 nC_len, ← hl] at this
      simpa [hd] using this
    have hc := cell?_putRow (encP n) wr g 0 (Array.range n) d' hH (by simp [hd]) j (by omega)
    show (putRow (encP n) wr g 0 d').cell? _ = _
    rw [hc]
    have hm := hgood.at (Nat.zero_le j) hj
    have hget : (ordK (keysOf vs))[j]? = some d'[j]! := by
      rw [← hl, getElem!_pos d' j (by omega), List.getElem?_eq_getElem (by simpa using (show j < d'.size by omega))]; simp
    have := flat_get nC 1 nC_len (ordK (keysOf vs)) j _ 0 hget (by omega)
    rw [Nat.mul_one, Nat.add_zero, hu] at this
    rw [this, encP, clamp_of hm.2]
    rfl
end Go.Proofs.Ytfnhffcjhdeleaa
