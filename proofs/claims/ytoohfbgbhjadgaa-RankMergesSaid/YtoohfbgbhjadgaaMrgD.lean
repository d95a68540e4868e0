import Derived.Test.YtoohfbgbhjadgaaMrgC
namespace Go.Proofs.Ytoohfbgbhjadgaa
open Go.RowKit

def catN (n1 n2 i : Nat) : Nat := if i = 0 then 0 else if i = 1 then n1 else n1 + n2
def catL (va vb : List KeyV) (i : Nat) : List KeyV := if i = 0 then [] else if i = 1 then va else va ++ vb
/-- What stands at place i of the two. -/
def CatAt (w : World) (g off : Nat) (va vb : List KeyV) (n1 n2 i : Nat) : Prop :=
  ∃ (A : Option Addr) (n c : Nat) (vs : List KeyV), w.cell? ⟨g, off + i, none⟩ = some (.slice A n c) ∧ Rd w w.heap.size 1 A n (vs.flatMap KeyV.cells) ∧ (A = none → n = 0 ∧ c = 0) ∧ n ≤ 1000 ∧ catN n1 n2 (i + 1) = catN n1 n2 i + n ∧ catL va vb (i + 1) = catL va vb i ++ vs

theorem catAt_of {w : World} {g off n1 n2 c1 c2 i : Nat} {A1 A2 : Option Addr} {va vb : List KeyV} (hr : Rd w w.heap.size 1 (some ⟨g, off, none⟩) 2 [.slice A1 n1 c1, .slice A2 n2 c2]) (hr1 : Rd w w.heap.size 1 A1 n1 (va.flatMap KeyV.cells)) (hr2 : Rd w w.heap.size 1 A2 n2 (vb.flatMap KeyV.cells))
    (e1 : A1 = none → n1 = 0 ∧ c1 = 0) (e2 : A2 = none → n2 = 0 ∧ c2 = 0) (h1 : n1 ≤ 1000) (h2 : n2 ≤ 1000) (hi : i < 2) : CatAt w g off va vb n1 n2 i := by
  obtain ⟨b, o, e, _, hc⟩ := hr.2 (by omega)
  obtain ⟨rfl, rfl⟩ : g = b ∧ off = o := by
    have := Option.some.inj e
    simp only [Addr.mk.injEq] at this
    exact ⟨this.1, this.2.1⟩
  obtain rfl | rfl : i = 0 ∨ i = 1 := by omega
  · exact ⟨A1, n1, c1, va, hc 0 _ rfl, hr1, e1, h1, by simp [catN], by simp [catL]⟩
  · exact ⟨A2, n2, c2, vb, hc 1 _ rfl, hr2, e2, h2, by simp [catN], by simp [catL]⟩

theorem cells_one (vs : List KeyV) : ∀ u ∈ vs.flatMap KeyV.cells, u.oneCell' = true := fun u hu => by
  obtain ⟨v, _, hv⟩ := List.mem_flatMap.1 hu
  rw [List.mem_singleton.1 hv]; rfl

set_option maxHeartbeats 8000000 in
set_option maxRecDepth 100000 in
theorem concat_any (A1 : Option Addr) (n1 c1 : Nat) (A2 : Option Addr) (n2 c2 : Nat) (va vb : List KeyV) (g off cp : Nat) (w : World) (hr : Rd w w.heap.size 1 (some ⟨g, off, none⟩) 2 [.slice A1 n1 c1, .slice A2 n2 c2]) (hr1 : Rd w w.heap.size 1 A1 n1 (va.flatMap KeyV.cells)) (hr2 : Rd w w.heap.size 1 A2 n2 (vb.flatMap KeyV.cells))
    (e1 : A1 = none → n1 = 0 ∧ c1 = 0) (e2 : A2 = none → n2 = 0 ∧ c2 = 0) (h1 : n1 ≤ 400) (h2 : n2 ≤ 400) (h0 : 0 < n1 + n2) :
    Calls Try.prog 65 #[.slice (some ⟨g, off, none⟩) 2 cp] w fun e w' => ∃ v, e = .returned v ∧ w'.ownsRow w.heap.size 22 1 v (n1 + n2) ((va ++ vb).flatMap KeyV.cells) ∧ Below w.heap.size w w' := by
  have HCA := Lib.hid (fun i (hi : i < 2) => catAt_of (i := i) hr hr1 hr2 e1 e2 (by omega) (by omega) hi)
  have hg : g < w.heap.size := by
    obtain ⟨b, o, e, hb, _⟩ := hr.2 (by omega)
    cases e; exact hb
  obtain ⟨i0, hi0, hz0, hz1, hz2⟩ := info_parts ksInfo
  clear hr hr1 hr2 e1 e2
  go_enter Try.func65, Try.ntmps65
  go_wp2_with fail
  go_loop [3, 5, 11] (fun v3 _ v11 => ∃ (i s : Nat), i ≤ 2 ∧ s ≤ 2000 * i ∧ v11 = .int .i64 i ∧ v3 = .int .i64 s ∧ Hid (s = catN n1 n2 i)) (fun _ _ v11 => 2 - (intOf v11).toNat)
  case atStart => exact ⟨0, 0, by omega, by omega, rfl, rfl, Lib.hid rfl⟩
  case round =>
    obtain ⟨i, s, hi, hs, rfl, rfl, HS⟩ := hrel
    by_cases hlt : i < 2
    · have hlz : (i : Int) < 2 := by omega
      obtain ⟨A, n, c, vs, hc, _, _, hn, hN, _⟩ := HCA.out i hlt
      obtain ⟨s2, hs2⟩ : ∃ s2 : Nat, Hid (s2 = s + n) := ⟨_, Lib.hid rfl⟩
      have q1 : (s : Int) + (n : Int) = (s2 : Int) := by have := hs2.out; omega
      have q2 : ¬ (s2 : Int) < 0 := by omega
      have HN := Lib.hid hN
      clear hN
      go_wp2_with fail
      go_round
      case rel => exact ⟨i + 1, s2, by omega, by have := hs2.out; omega, by go_num, rfl, Lib.hid (by rw [HN.out, ← HS.out, hs2.out])⟩
      case measure => simp [intOf]; omega
    · have hlz : ¬ (i : Int) < 2 := by omega
      have hse : s = n1 + n2 := by rw [HS.out, catN, if_neg (by omega), if_neg (by omega)]
      have HSE := Lib.hid hse
      have hsp : 0 < s := by omega
      have hsb : s ≤ 1000 := by omega
      clear hse
      go_wp2_with fail
      refine (grow_any s hsp hsb _).mono ?_
      rintro e w1 ⟨v, rfl, hown, hb⟩
      go_wp2_with fail
      go_loopw [6, 8, 27] (fun v6 _ v27 wr => ∃ i : Nat, i ≤ 2 ∧ v27 = .int .i64 i ∧ wr.ownsRow w.heap.size 22 1 v6 (catN n1 n2 i) ((catL va vb i).flatMap KeyV.cells) ∧ Below w.heap.size w wr) (fun _ _ v27 _ => 2 - (intOf v27).toNat)
      case atStart => exact ⟨0, by omega, rfl, hown, hb⟩
      case round =>
        clear hown hb
        obtain ⟨k, hk, rfl, hown, hb⟩ := hrel
        have hsz := hb.size
        by_cases hlt2 : k < 2
        · have hlz2 : (k : Int) < 2 := by omega
          obtain ⟨A, n, c, vs, hc, hrd, hnil, hn, hN, hL⟩ := HCA.out k hlt2
          have hc' := (hb.cell (p := ⟨g, off + k, none⟩) hg).trans hc
          have hrw := hrd.below hb
          have hcat : catN n1 n2 k ≤ 1000 := by unfold catN; split; (omega); (split <;> omega)
          have HN := Lib.hid hN
          have HLL := Lib.hid hL
          clear hN hL hc hrd
          go_wp2_with (at_builtin; refine wpList_append_rd _ rfl (.tmp 31) (.tmp 32) 26 rfl w.heap.size 22 i0 _ 1 24 Try.underlying26 hi0 hz0 hz1 hz2 rfl (by decide) _ _ _ rfl hown A n c _ rfl hrw hnil (cells_one vs) (by omega) (by omega) (by omega) hb (Nat.le_refl _) ?_; intro v' w' hown' hb')
          go_roundw
          case rel => exact ⟨k + 1, by omega, by go_num, by rw [HN.out, HLL.out, List.flatMap_append]; exact hown', hb'⟩
          case measure => simp [intOf]; omega
        · have hlz2 : ¬ (k : Int) < 2 := by omega
          rw [catN, catL, if_neg (by omega), if_neg (by omega), if_neg (by omega), if_neg (by omega)] at hown
          have HOW := Lib.hid hown
          clear hown
          go_wp2_with fail
          go_ret
          exact ⟨_, rfl, by have := HOW.out; rw [List.flatMap_append] at this; exact this, hb⟩
end Go.Proofs.Ytoohfbgbhjadgaa
