import Derived.Test.YtfnhffcjhdeleaaRkA
namespace Go.Proofs.Ytfnhffcjhdeleaa
open Go.RowKit Go.Lib Go.Sort Go.Proofs

theorem SrtPost.mono {enc : Nat → Value} {w : World} {blk off : Nat} {Q Q' : Array Nat → Prop} {e : Ending} {w' : World} (h : SrtPost enc w blk off Q e w') (hq : ∀ d, Q d → Q' d) : SrtPost enc w blk off Q' e w' := by
  obtain ⟨he, d', m, hQ, hw⟩ := h
  exact ⟨he, d', m, hq d' hQ, hw⟩

theorem putRow_on (enc : Nat → Value) (w : World) (blk off : Nat) (d d' : Array Nat) (q m : Nat) (h : d'.size = d.size) : (putRow enc ((putRow enc w blk off d).drewN q) blk off d').drewN m = (putRow enc w blk off d').drewN (q + m) := by
  rw [show putRow enc ((putRow enc w blk off d).drewN q) blk off d' = (putRow enc (putRow enc w blk off d) blk off d').drewN q from rfl, putRow_putRow _ _ _ _ _ _ h, World.drewN_drewN]

theorem holds_on (enc : Nat → Value) (w : World) (blk off : Nat) (d0 d : Array Nat) (q : Nat) (hH : Holds enc w blk off d0) (h : d.size = d0.size) : Holds enc ((putRow enc w blk off d).drewN q) blk off d := holds_putRow enc w blk off d0 d hH h

/-- From a later world of the sort. -/
theorem swapRange_at (enc : Nat → Value) (hO : OneCell enc) (blk off cap a b n N : Nat) (d0 d : Array Nat) (f : Value) (w : World) (q : Nat) (hH : Holds enc w blk off d0) (h0 : d0.size = N) (h1 : d.size = N) (hab : a + n ≤ b) (hb : b + n ≤ N) (hsz : N ≤ 1000000) :
    Calls Try.prog 165 #[.slice (some ⟨blk, off, none⟩) N cap, .int .i64 a, .int .i64 b, .int .i64 n, f] ((putRow enc w blk off d).drewN q) (SrtPost enc w blk off (Sh (swpI a b n) d)) := by
  subst h1
  refine (swapRange_any enc hO blk off cap a b n d f ((putRow enc w blk off d).drewN q) (holds_on enc w blk off d0 d q hH h0.symm) hab hb hsz).mono ?_
  rintro e w' ⟨rfl, d', m, hQ, rfl⟩
  exact ⟨rfl, d', q + m, hQ, putRow_on enc w blk off d d' q m hQ.1⟩

set_option maxHeartbeats 4000000 in
set_option maxRecDepth 1000000 in
theorem rotate_at (enc : Nat → Value) (hO : OneCell enc) (blk off cap a m b N : Nat) (d0 d : Array Nat) (f : Value) (w : World) (q : Nat) (hH : Holds enc w blk off d0) (h0 : d0.size = N) (h1 : d.size = N) (ham : a < m) (hmb : m < b) (hb : b ≤ N) (hsz : N ≤ 1000000) :
    Calls Try.prog 164 #[.slice (some ⟨blk, off, none⟩) N cap, .int .i64 a, .int .i64 m, .int .i64 b, f] ((putRow enc w blk off d).drewN q) (SrtPost enc w blk off (Sh (rotI a m b) d)) := by
  have HH := Lib.hid hH
  have H0 := Lib.hid h0
  have H1 := Lib.hid h1
  have HS := Lib.hid (RotInv.start (d := d) ham hmb)
  clear hH h0 h1
  obtain ⟨i0, hi0⟩ : ∃ i0 : Nat, Hid (i0 = m - a) := ⟨_, Lib.hid rfl⟩
  obtain ⟨j0, hj0⟩ : ∃ j0 : Nat, Hid (j0 = b - m) := ⟨_, Lib.hid rfl⟩
  have e1 : (m : Int) - (a : Int) = (i0 : Int) := by have := hi0.out; omega
  have e2 : (b : Int) - (m : Int) = (j0 : Int) := by have := hj0.out; omega
  obtain ⟨wq, hwq⟩ : ∃ wq, Hid (wq = (putRow enc w blk off d).drewN q) := ⟨_, Lib.hid rfl⟩
  rw [← hwq.out]
  go_enter Try.func164, Try.ntmps164
  go_wp2_with fail
  go_loopg [10, 11] (i0 + j0) (fun g vi vj wr => ∃ (i j : Nat) (p : Nat) (dk : Array Nat), vi = .int .i64 i ∧ vj = .int .i64 j ∧ 1 ≤ i ∧ 1 ≤ j ∧ a + i ≤ m ∧ m + j ≤ b ∧ i + j ≤ g ∧ Hid (wr = (putRow enc w blk off dk).drewN p) ∧ Hid (RotInv a m b d i j dk))
  case atStart => exact ⟨i0, j0, q, d, rfl, rfl, by have := hi0.out; omega, by have := hj0.out; omega, by have := hi0.out; omega, by have := hj0.out; omega, Nat.le_refl _, hwq, by have := HS.out; rw [← hi0.out, ← hj0.out] at this; exact this⟩
  case round =>
    clear e1 e2
    obtain ⟨i, j, p, dk, rfl, rfl, hi1, hj1, hia, hjb, hg, HW, HR⟩ := hrel
    obtain ⟨x, hx⟩ : ∃ x : Nat, Hid (x = m - i) := ⟨_, Lib.hid rfl⟩
    have e1 : (m : Int) - (i : Int) = (x : Int) := by have := hx.out; omega
    by_cases hij : i = j
    · subst hij
      go_wp2_with fail
      rw [HW.out]
      refine (swapRange_at enc hO blk off cap x m i N d0 dk f w p HH.out H0.out (HR.out.size.trans H1.out) (by have := hx.out; omega) (by omega) hsz).mono ?_
      rintro e w' ⟨rfl, d', p', hQ, rfl⟩
      have HQ := Lib.hid hQ
      clear hQ
      go_wp2_with fail
      go_end0
      exact ⟨rfl, d', p', HR.out.done (by have := H1.out; omega) (hx.out ▸ HQ.out), rfl⟩
    · have b1 : ((i : Int) != (j : Int)) = true := by simp; omega
      by_cases hlt : j < i
      · obtain ⟨y, hy⟩ : ∃ y : Nat, Hid (y = i - j) := ⟨_, Lib.hid rfl⟩
        have e2 : (i : Int) - (j : Int) = (y : Int) := by have := hy.out; omega
        go_wp2_with fail
        rw [HW.out]
        refine (swapRange_at enc hO blk off cap x m j N d0 dk f w p HH.out H0.out (HR.out.size.trans H1.out) (by have := hx.out; omega) (by omega) hsz).mono ?_
        rintro e w' ⟨rfl, d', p', hQ, rfl⟩
        have HQ := Lib.hid hQ
        clear hQ
        go_wp2_with fail
        go_roundg (y + j)
        case measure => have := hy.out; omega
        case rel => exact ⟨y, j, p', d', rfl, rfl, by have := hy.out; omega, hj1, by have := hy.out; omega, hjb, Nat.le_refl _, Lib.hid rfl, Lib.hid (hy.out ▸ HR.out.more (by have := H1.out; omega) hlt (hx.out ▸ HQ.out))⟩
      · obtain ⟨y, hy⟩ : ∃ y : Nat, Hid (y = j - i) := ⟨_, Lib.hid rfl⟩
        have e2 : (j : Int) - (i : Int) = (y : Int) := by have := hy.out; omega
        obtain ⟨z, hz⟩ : ∃ z : Nat, Hid (z = m + j - i) := ⟨_, Lib.hid rfl⟩
        have e3 : (m : Int) + (j : Int) - (i : Int) = (z : Int) := by have := hz.out; omega
        go_wp2_with fail
        rw [HW.out]
        refine (swapRange_at enc hO blk off cap x z i N d0 dk f w p HH.out H0.out (HR.out.size.trans H1.out) (by have := hx.out; have := hz.out; omega) (by have := hz.out; omega) hsz).mono ?_
        rintro e w' ⟨rfl, d', p', hQ, rfl⟩
        have HQ := Lib.hid hQ
        clear hQ
        go_wp2_with fail
        go_roundg (i + y)
        case measure => have := hy.out; omega
        case rel => exact ⟨i, y, p', d', rfl, rfl, hi1, by have := hy.out; omega, hia, by have := hy.out; omega, Nat.le_refl _, Lib.hid rfl, Lib.hid (hy.out ▸ HR.out.less (by have := H1.out; omega) (by omega) (hx.out ▸ hz.out ▸ HQ.out))⟩
end Go.Proofs.Ytfnhffcjhdeleaa
