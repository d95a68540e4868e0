import Derived.Test.YtfnhffcjhdeleaaBidD
import Derived.Test.YtfnhffcjhdeleaaKeyC
namespace Go.Proofs.Ytfnhffcjhdeleaa
open Go.RowKit

/-! ### A copy of any bids -/
set_option maxRecDepth 100000 in
set_option maxHeartbeats 1000000 in
theorem cloneB_nil (cp : Nat) (w : World) : Calls Try.prog 129 #[.slice none 0 cp] w fun e w' => e = .returned (.slice none 0 0) ∧ w = w' := by
  have hq := fun w => Lib.run_eql_slice_nil (P := Try.prog) w 99 103 none 0 cp 0 0 Try.underlying99
  go_enter Try.func129, Try.ntmps129
  go_wp2_with fail
  go_ret
  exact ⟨rfl, rfl⟩
set_option maxRecDepth 100000 in
set_option maxHeartbeats 1000000 in
theorem cloneB_some (A : Addr) (n cp : Nat) (l : List BidV) (w : World) (hr : Rd w w.heap.size 5 (some A) n (l.flatMap BidV.cells)) (hn : n ≤ 1000) : Calls Try.prog 129 #[.slice (some A) n cp] w fun e w' => ∃ v, e = .returned v ∧ w'.ownsRow w.heap.size 103 5 v n (l.flatMap BidV.cells) ∧ Below w.heap.size w w' := by
  have hq := fun w => Lib.run_eql_slice_nil (P := Try.prog) w 99 103 (some A) n cp 0 0 Try.underlying99
  have hB0 := (Below.refl w.heap.size w).alloc (Nat.le_refl _) (.cells #[] 103)
  have hr0 := hr.past hB0
  have hown : (w.alloc (.cells #[] 103)).ownsRow w.heap.size 103 5 (.slice (some ⟨w.heap.size, 0, none⟩) 0 0) 0 [] := ⟨rfl, .inr ⟨w.heap.size, 0, #[], rfl, Nat.le_refl _, heap_alloc_new w _, Nat.le_refl _, Nat.zero_le _, rfl, rfl⟩⟩
  obtain ⟨j0, hj0, jz0, jz1, jz2⟩ := info_parts bidInfo
  have hone : ∀ u ∈ l.flatMap BidV.cells, u.oneCell' = true := by
    intro u hu
    obtain ⟨f, _, h2⟩ := List.mem_flatMap.1 hu
    simp [BidV.cells] at h2
    rcases h2 with rfl | rfl | rfl | rfl | rfl <;> rfl
  go_enter Try.func129, Try.ntmps129
  go_wp2_with (at_builtin; refine wpList_append_rd _ rfl (.tmp 5) (.tmp 6) 99 rfl w.heap.size 103 j0 _ 5 40 Try.underlying99 hj0 jz0 jz1 jz2 rfl (by decide) _ _ _ rfl hown (some A) n cp _ rfl hr0 (fun e => by cases e) hone (by omega) (by omega) (by simp) hB0 (Nat.le_refl _) ?_; intro v' w' hown' hb'; rw [Nat.zero_add, List.nil_append] at hown')
  go_ret
  exact ⟨_, rfl, hown', hb'⟩
/-- A copy of any list of these. -/
theorem cloneB_any (A : Option Addr) (n cp : Nat) (l : List BidV) (w : World) (hr : Rd w w.heap.size 5 A n (l.flatMap BidV.cells)) (hn : n ≤ 1000) (hA : A = none → n = 0) : Calls Try.prog 129 #[.slice A n cp] w fun e w' => ∃ v, e = .returned v ∧ w'.ownsRow w.heap.size 103 5 v n (l.flatMap BidV.cells) ∧ Below w.heap.size w w' := by
  cases A with
  | none =>
    obtain rfl := hA rfl
    have hl : l = [] := List.length_eq_zero_iff.1 (hr.len BidV.cells_len (by omega))
    subst hl
    refine (cloneB_nil cp w).mono ?_
    rintro e w' ⟨rfl, rfl⟩
    exact ⟨_, rfl, World.ownsRow_nil _ _ _ _, Below.refl _ _⟩
  | some A1 => exact cloneB_some A1 n cp l w hr hn


/-! ### All, Clear, Copy -/
set_option maxHeartbeats 1000000 in
theorem allB_nil (w : World) : Calls Try.prog 99 #[.pointer none] w fun e w' => e = .returned (.slice none 0 0) ∧ w = w' := by
  go_enter Try.func99, Try.ntmps99
  go_wp2_with fail
  go_ret
  exact ⟨rfl, rfl⟩
set_option maxHeartbeats 1000000 in
theorem allB_any (g base : Nat) (B1 : Option Addr) (n1 d1 : Nat) (B2 : Option Addr) (n2 d2 : Nat) (B3 : Option Addr) (n3 d3 : Nat) (cf : Conf) (v : Value) (l : List BidV) (w : World) (hx : BoxV w g base B1 n1 d1 B2 n2 d2 B3 n3 d3 cf v l) (hl : l.length ≤ 1000) :
    Calls Try.prog 99 #[.pointer (some ⟨g, 0, none⟩)] w fun e w' => ∃ v, e = .returned v ∧ w'.ownsRow w.heap.size 103 5 v l.length (l.flatMap BidV.cells) ∧ Below w.heap.size w w' := by
  obtain ⟨⟨A, c, rfl⟩, bg, hrow, hown⟩ := hx
  have hrd := Rd.of_own hrow
  have HC := Lib.hid (cloneB_any A l.length c l w hrd hl (fun e => by subst e; exact hrd.none_zero))
  obtain ⟨n, hn⟩ : ∃ n, Hid (l.length = n) := ⟨_, Lib.hid rfl⟩
  rw [hn.out] at HC bg ⊢
  have p8 := bg.cell 8
  simp at p8
  clear bg hrow hown hrd hl
  go_enter Try.func99, Try.ntmps99
  go_wp2_with fail
  refine HC.out.mono ?_
  rintro e w1 ⟨v, rfl, hov, hb⟩
  have HO := Lib.hid hov
  clear hov
  go_wp2_with fail
  go_ret
  exact ⟨_, rfl, HO.out, hb⟩

/-! ### The bids of a security, in their order -/
def BidV.key (b : BidV) : List Int := [b.price, b.seq]
def secF (sec : Int) (b : BidV) : Bool := b.sec == sec
def dB : BidV := ⟨0, 0, 0, 0, 0⟩
def sortB (l : List BidV) : List BidV := (ordK (l.map BidV.key)).map fun i => l.getD i dB
theorem sortB_len (l : List BidV) : (sortB l).length = l.length := by rw [sortB, List.length_map, ordK_len, List.length_map]
/-- The keys of bids, each in a block of its own. -/
def KBlkB (w : World) (base : Nat) (vs : List KeyV) : Prop := ∀ v ∈ vs, ∃ g, base ≤ g ∧ v.A = some ⟨g, 0, none⟩ ∧ Blk w g 2 (v.k.map (Value.int .i64)).toArray ∧ v.k.length ≤ 100
theorem KBlkB.keys {w : World} {base : Nat} {vs : List KeyV} (h : KBlkB w base vs) : KeysRd w w.heap.size vs := fun v hv => by
  obtain ⟨g, _, hA, hb, hl⟩ := h v hv
  refine ⟨⟨by rw [flat_len iC 1 iC_len, Nat.mul_one], fun _ => ⟨g, 0, hA, hb.lt, fun j u hu => ?_⟩⟩, by omega⟩
  have hj : j < v.k.length := by
    have := (List.getElem?_eq_some_iff.1 hu).1
    rw [flat_len iC 1 iC_len] at this
    omega
  have hg : v.k[j]? = some v.k[j] := List.getElem?_eq_getElem hj
  have h5 := flat_get iC 1 iC_len v.k j _ 0 hg (by omega)
  rw [Nat.mul_one, Nat.add_zero, hu] at h5
  rw [Nat.zero_add, hb.cell j, h5]
  simp [hg, iC]
theorem KBlkB.past {w w' : World} {base : Nat} {vs : List KeyV} (h : KBlkB w base vs) (hb : Below w.heap.size w w') : KBlkB w' base vs := fun v hv => by
  obtain ⟨g, h1, hA, hbk, hl⟩ := h v hv
  exact ⟨g, h1, hA, hbk.past hb, hl⟩
theorem KBlkB.grown {w w' : World} {base : Nat} {vs : List KeyV} {row : Option Nat} (h : KBlkB w base vs) (hg : w.grownBy w' row) (hr : ∀ g cs, Blk w g 2 cs → row ≠ some g) : KBlkB w' base vs := fun v hv => by
  obtain ⟨g, h1, hA, hbk, hl⟩ := h v hv
  exact ⟨g, h1, hA, hbk.grown hg (hr g _ hbk), hl⟩
/-- What holds at the head of each round of the first loop. -/
structure SecRel (w : World) (sec : Int) (l : List BidV) (k : Nat) (v5 v7 : Value) (kv : List KeyV) (wr : World) : Prop where
  len : kv.length = ((l.take k).filter (secF sec)).length
  keys : keysOf kv = ((l.take k).filter (secF sec)).map BidV.key
  blk : KBlkB wr w.heap.size kv
  row : wr.ownsRow w.heap.size 103 5 v5 ((l.take k).filter (secF sec)).length (((l.take k).filter (secF sec)).flatMap BidV.cells)
  krow : wr.ownsRow w.heap.size 35 1 v7 ((l.take k).filter (secF sec)).length (kv.flatMap KeyV.cells)
  below : Below w.heap.size w wr
theorem filtB_yes {l : List BidV} {p : BidV → Bool} {f : BidV} {k : Nat} (hT : l.take (k + 1) = l.take k ++ [f]) (he : p f = true) : (l.take (k + 1)).filter p = (l.take k).filter p ++ [f] := by
  rw [hT, List.filter_append]; simp [he]
theorem filtB_no {l : List BidV} {p : BidV → Bool} {f : BidV} {k : Nat} (hT : l.take (k + 1) = l.take k ++ [f]) (he : p f = false) : (l.take (k + 1)).filter p = (l.take k).filter p := by
  rw [hT, List.filter_append]; simp [he]
end Go.Proofs.Ytfnhffcjhdeleaa
