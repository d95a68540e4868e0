import Derived.Test.YtelbolhckhdioaaTradA
namespace Go.Proofs.Ytelbolhckhdioaa
open Go.RowKit

theorem leg_info : (Try.prog.info? 158).map (fun i => (i.zero, i.size, i.bytes)) = some (some (.agg #[.int .i64 0, .int .i64 0, .int .i64 0]), 3, 24) := by kernel_rfl

theorem negI (v : Int) (h : inI v) : inI (-v) ↔ v ≠ -9223372036854775808 := by obtain ⟨h1, h2⟩ := h; unfold inI; omega

set_option maxRecDepth 10000 in
set_option maxHeartbeats 1000000 in
theorem sameLegs (A B : Option Addr) (n c d : Nat) (l : List Leg) (w : World) (hr : Rd w w.heap.size 3 A n (l.flatMap Leg.cells)) (hr' : Rd w w.heap.size 3 B n (l.flatMap Leg.cells)) (hn : n ≤ 1000) :
    Calls Try.prog 46 #[.slice A n c, .slice B n d] w fun e w' => e = .returned (.bool true) ∧ Below w.heap.size w w' := by
  have HL := Lib.hid (hr.len Leg.cells_len (by omega))
  go_enter Try.func46, Try.ntmps46
  go_wp2_with fail
  go_loopw [5] (fun i wr => ∃ k : Nat, k ≤ n ∧ i = .int .i64 k ∧ Below w.heap.size w wr) (fun i _ => n - (intOf i).toNat)
  case atStart => exact ⟨0, Nat.zero_le _, rfl, Below.refl _ _⟩
  case round =>
    obtain ⟨k, hk, rfl, hb⟩ := hrel
    by_cases hlt : k < n
    · have hg : l[k]? = some (l[k]'(by have := HL.out; omega)) := List.getElem?_eq_getElem _
      obtain ⟨a_f, off_f, hA, hab, hcA⟩ := (hr.below hb).elem Leg.cells_len hg hlt
      obtain ⟨b_f, off_g, hA', hbb, hcB⟩ := (hr'.below hb).elem Leg.cells_len hg hlt
      subst hA
      subst hA'
      generalize l[k]'(by have := HL.out; omega) = f at *
      have c0 := hcA 0 _ rfl
      have c1 := hcA 1 _ rfl
      have c2 := hcA 2 _ rfl
      have d0 := hcB 0 _ rfl
      have d1 := hcB 1 _ rfl
      have d2 := hcB 2 _ rfl
      clear hcA hcB hg
      simp only [Nat.add_zero] at c0 d0
      go_wp2_with fail
      go_quiet (fail)
      go_wp2_with fail
      go_roundw
      case rel => exact ⟨k + 1, by omega, by go_num, below_drewN hb _⟩
      case measure => simp [intOf]; omega
    · go_wp2_with fail
      go_ret
      exact ⟨rfl, hb⟩

def pageT : Trad := ⟨1, 2, 3, 1, 10, 3⟩
end Go.Proofs.Ytelbolhckhdioaa
