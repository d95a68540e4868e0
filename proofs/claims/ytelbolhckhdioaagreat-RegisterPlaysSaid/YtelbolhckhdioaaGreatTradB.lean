import Derived.Test.YtelbolhckhdioaaGreatTradA
namespace Go.Proofs.YtelbolhckhdioaaGreat
open Go.RowKit

theorem leg_info : (Tryz.prog.info? 97).map (fun i => (i.zero, i.size, i.bytes)) = some (some (.agg #[.int .i64 0, .int .i64 0, .int .i64 0]), 3, 24) := by kernel_rfl

theorem negI (v : Int) (h : inI v) : inI (-v) ↔ v ≠ -9223372036854775808 := by obtain ⟨h1, h2⟩ := h; unfold inI; omega

set_option maxRecDepth 10000 in
set_option maxHeartbeats 2000000 in
theorem refLegs_yes (t : Trad) (hq : inI t.qty) (hp : inI t.price) (h : legsIn t = true) (w : World) : Calls Tryz.prog 51 #[.agg #[.int .i64 t.id, .int .i64 t.buyer, .int .i64 t.seller, .int .i64 t.sec, .int .i64 t.qty, .int .i64 t.price]] w (LegsRes t w) := by
  have hh : inI (t.qty * t.price) ∧ inI (-(t.qty * t.price)) ∧ inI (-t.qty) := by simpa [legsIn] using h
  obtain ⟨h1, h2, h3⟩ := hh
  have A1 := Lib.hid (amount_in h1)
  have n1 : (t.qty == -9223372036854775808) = false := by have := (negI _ hq).1 h3; simpa using this
  have n2 : (t.qty * t.price == -9223372036854775808) = false := by have := (negI _ h1).1 h2; simpa using this
  obtain ⟨i0, hi0, hz0, hz1, hz2⟩ := info_parts leg_info
  clear h
  have hB0 := (Below.refl w.heap.size w).alloc (Nat.le_refl _) (.cells #[.int .i64 t.id, .int .i64 t.buyer, .int .i64 t.seller, .int .i64 t.sec, .int .i64 t.qty, .int .i64 t.price] 38)
  have bx0 := Blk.new w 38 #[.int .i64 t.id, .int .i64 t.buyer, .int .i64 t.seller, .int .i64 t.sec, .int .i64 t.qty, .int .i64 t.price] w.heap.size rfl
  obtain ⟨v, hv⟩ : ∃ v, Hid (t.qty * t.price = v) := ⟨_, rfl⟩
  rw [hv.out] at A1 n2 h1 h2
  obtain ⟨v1, v2⟩ := h2
  obtain ⟨u1, u2⟩ := h3
  obtain ⟨q1, q2⟩ := hq
  clear h1
  go_enter Tryz.func51, Tryz.ntmps51
  go_wp2_with fail
  refine (refMul_any _ _ ⟨q1, q2⟩ hp _).mono ?_
  rintro e w1 ⟨rfl, hb1⟩
  rw [hv.out, A1.out.1, A1.out.2]
  have bx1 := bx0.past hb1
  have hB1 := Below.past hB0 hb1 hB0.size
  have hs1 := hB1.size
  have e0 := (bx1).cell 0
  have e1 := (bx1).cell 1
  have e2 := (bx1).cell 2
  have e3 := (bx1).cell 3
  have e4 := (bx1).cell 4
  have e5 := (bx1).cell 5
  simp at e0 e1 e2 e3 e4 e5
  go_wp2_with (first
    | (at_builtin; refine wpList_append_lit _ _ rfl (.tmp 29) (.tmp 34) 41 rfl w.heap.size 97 i0 _ 3 24 Tryz.underlying41 hi0 hz0 hz1 hz2 rfl (by decide) (.slice none 0 0) 0 [] rfl (World.ownsRow_nil _ _ _ _) _ 1 1 rfl (by first | rfl | simp) rfl (by simp [Value.oneCell']) (by omega) (by omega) (by omega) ?_; intro v1 w2 hown1 hg1; have bx2 := (bx1.alloc _).grown hg1 (by simp [Value.ownBlock]); have hB2 : Below w.heap.size w w2 := below_own (hB1.alloc hs1 _) hg1 (World.ownsRow_nil w1 w.heap.size 97 3) (by simp; omega) (Nat.le_refl _); have hs2 := hB2.size; clear e0 e1 e2 e3 e4 e5; have e0 := bx2.cell 0; have e1 := bx2.cell 1; have e2 := bx2.cell 2; have e3 := bx2.cell 3; have e4 := bx2.cell 4; have e5 := bx2.cell 5; simp at e0 e1 e2 e3 e4 e5)
    | (at_builtin; refine wpList_append_lit _ _ rfl (.tmp 36) (.tmp 45) 41 rfl w.heap.size 97 i0 _ 3 24 Tryz.underlying41 hi0 hz0 hz1 hz2 rfl (by decide) v1 1 _ rfl hown1 _ 1 1 rfl (by first | rfl | simp) rfl (by simp [Value.oneCell']) (by omega) (by omega) (by omega) ?_; intro v2 w3 hown2 hg2; have bx3 := (bx2.alloc _).grown hg2 (own_blk_ne hown1 bx2 (by decide)); have hB3 : Below w.heap.size w w3 := below_own (hB2.alloc hs2 _) hg2 hown1 (by simp; omega) (Nat.le_refl _); have hs3 := hB3.size; clear e0 e1 e2 e3 e4 e5; have e0 := bx3.cell 0; have e1 := bx3.cell 1; have e2 := bx3.cell 2; have e3 := bx3.cell 3; have e4 := bx3.cell 4; have e5 := bx3.cell 5; simp at e0 e1 e2 e3 e4 e5)
    | (at_builtin; refine wpList_append_lit _ _ rfl (.tmp 47) (.tmp 53) 41 rfl w.heap.size 97 i0 _ 3 24 Tryz.underlying41 hi0 hz0 hz1 hz2 rfl (by decide) v2 2 _ rfl hown2 _ 1 1 rfl (by first | rfl | simp) rfl (by simp [Value.oneCell']) (by omega) (by omega) (by omega) ?_; intro v3 w4 hown3 hg3; have bx4 := (bx3.alloc _).grown hg3 (own_blk_ne hown2 bx3 (by decide)); have hB4 : Below w.heap.size w w4 := below_own (hB3.alloc hs3 _) hg3 hown2 (by simp; omega) (Nat.le_refl _); have hs4 := hB4.size; clear e0 e1 e2 e3 e4 e5; have e0 := bx4.cell 0; have e1 := bx4.cell 1; have e2 := bx4.cell 2; have e3 := bx4.cell 3; have e4 := bx4.cell 4; have e5 := bx4.cell 5; simp at e0 e1 e2 e3 e4 e5)
    | (at_builtin; refine wpList_append_lit _ _ rfl (.tmp 55) (.tmp 63) 41 rfl w.heap.size 97 i0 _ 3 24 Tryz.underlying41 hi0 hz0 hz1 hz2 rfl (by decide) v3 3 _ rfl hown3 _ 1 1 rfl (by first | rfl | simp) rfl (by simp [Value.oneCell']) (by omega) (by omega) (by omega) ?_; intro v4 w5 hown4 hg4; have bx5 := (bx4.alloc _).grown hg4 (own_blk_ne hown3 bx4 (by decide)); have hB5 : Below w.heap.size w w5 := below_own (hB4.alloc hs4 _) hg4 hown3 (by simp; omega) (Nat.le_refl _); have hs5 := hB5.size; clear e0 e1 e2 e3 e4 e5; have e0 := bx5.cell 0; have e1 := bx5.cell 1; have e2 := bx5.cell 2; have e3 := bx5.cell 3; have e4 := bx5.cell 4; have e5 := bx5.cell 5; simp at e0 e1 e2 e3 e4 e5))
  go_ret2
  obtain ⟨A, c, rfl⟩ := own_form hown4
  refine ⟨_, _, rfl, ?_, hB5⟩
  have hrd := Rd.of_own hown4
  rw [show (legsOf t).flatMap Leg.cells = [.int .i64 t.buyer, .int .i64 0, .int .i64 v, .int .i64 t.buyer, .int .i64 t.sec, .int .i64 (-t.qty), .int .i64 t.seller, .int .i64 0, .int .i64 (-v), .int .i64 t.seller, .int .i64 t.sec, .int .i64 t.qty] by rw [← hv.out]; rfl]
  simpa using hrd

set_option maxRecDepth 10000 in
set_option maxHeartbeats 2000000 in
theorem refLegs_no (t : Trad) (hq : inI t.qty) (hp : inI t.price) (h : legsIn t = false) (w : World) : Calls Tryz.prog 51 #[.agg #[.int .i64 t.id, .int .i64 t.buyer, .int .i64 t.seller, .int .i64 t.sec, .int .i64 t.qty, .int .i64 t.price]] w fun e w' => e = .returned (.tuple #[.slice none 0 0, .int .i64 2]) ∧ Below w.heap.size w w' := by
  have hB0 := (Below.refl w.heap.size w).alloc (Nat.le_refl _) (.cells #[.int .i64 t.id, .int .i64 t.buyer, .int .i64 t.seller, .int .i64 t.sec, .int .i64 t.qty, .int .i64 t.price] 38)
  have bx0 := Blk.new w 38 #[.int .i64 t.id, .int .i64 t.buyer, .int .i64 t.seller, .int .i64 t.sec, .int .i64 t.qty, .int .i64 t.price] w.heap.size rfl
  obtain ⟨v, hv⟩ : ∃ v, Hid (t.qty * t.price = v) := ⟨_, rfl⟩
  unfold legsIn at h
  rw [hv.out] at h
  by_cases h1 : inI v
  · have A1 := Lib.hid (amount_in h1)
    by_cases h2 : v = -9223372036854775808
    · have n2 : (v == -9223372036854775808) = true := by simp [h2]
      clear h h1 h2
      go_enter Tryz.func51, Tryz.ntmps51
      go_wp2_with fail
      refine (refMul_any _ _ hq hp _).mono ?_
      rintro e w1 ⟨rfl, hb1⟩
      rw [hv.out, A1.out.1, A1.out.2]
      have bx1 := bx0.past hb1
      have hB1 := Below.past hB0 hb1 hB0.size
      have e0 := (bx1).cell 0
      have e1 := (bx1).cell 1
      have e2 := (bx1).cell 2
      have e3 := (bx1).cell 3
      have e4 := (bx1).cell 4
      have e5 := (bx1).cell 5
      simp at e0 e1 e2 e3 e4 e5
      go_wp2_with fail
      go_ret2
      exact ⟨rfl, hB1⟩
    · have n2 : (v == -9223372036854775808) = false := by simp [h2]
      have n1 : (t.qty == -9223372036854775808) = true := by
        have h3 : inI (-v) := (negI v h1).2 h2
        have h4 : ¬ inI (-t.qty) := by simpa [h1, h3] using h
        rw [negI _ hq] at h4
        simpa using h4
      clear h h1 h2
      go_enter Tryz.func51, Tryz.ntmps51
      go_wp2_with fail
      refine (refMul_any _ _ hq hp _).mono ?_
      rintro e w1 ⟨rfl, hb1⟩
      rw [hv.out, A1.out.1, A1.out.2]
      have bx1 := bx0.past hb1
      have hB1 := Below.past hB0 hb1 hB0.size
      have e0 := (bx1).cell 0
      have e1 := (bx1).cell 1
      have e2 := (bx1).cell 2
      have e3 := (bx1).cell 3
      have e4 := (bx1).cell 4
      have e5 := (bx1).cell 5
      simp at e0 e1 e2 e3 e4 e5
      go_wp2_with fail
      go_ret2
      exact ⟨rfl, hB1⟩
  · have A1 := Lib.hid (amount_out h1)
    clear h h1
    go_enter Tryz.func51, Tryz.ntmps51
    go_wp2_with fail
    refine (refMul_any _ _ hq hp _).mono ?_
    rintro e w1 ⟨rfl, hb1⟩
    rw [hv.out, A1.out.1, A1.out.2]
    go_wp2_with fail
    go_ret2
    exact ⟨rfl, Below.past hB0 hb1 hB0.size⟩

set_option maxRecDepth 10000 in
set_option maxHeartbeats 1000000 in
theorem sameLegs (A B : Option Addr) (n c d : Nat) (l : List Leg) (w : World) (hr : Rd w w.heap.size 3 A n (l.flatMap Leg.cells)) (hr' : Rd w w.heap.size 3 B n (l.flatMap Leg.cells)) (hn : n ≤ 1000) :
    Calls Tryz.prog 26 #[.slice A n c, .slice B n d] w fun e w' => e = .returned (.bool true) ∧ Below w.heap.size w w' := by
  have HL := Lib.hid (hr.len Leg.cells_len (by omega))
  go_enter Tryz.func26, Tryz.ntmps26
  go_wp2_with fail
  go_loopw [5] (fun i wr => ∃ k : Nat, k ≤ n ∧ i = .int .i64 k ∧ Below w.heap.size w wr) (fun i _ => n - (intOf i).toNat)
  case atStart => exact ⟨0, Nat.zero_le _, rfl, Below.refl _ _⟩
  case round =>
    obtain ⟨k, hk, rfl, hb⟩ := hrel
    by_cases hlt : k < n
    · have hg : l[k]? = some (l[k]'(by have := HL.out; omega)) := List.getElem?_eq_getElem _
      obtain ⟨a_f, off_f, hA, hab, hcA⟩ := (hr.below hb).elem Leg.cells_len hg hlt
      obtain ⟨b_f, off_g, hA', hbb, hcB⟩ := (hr'.below hb).elem Leg.cells_len hg hlt
      subst hA
      subst hA'
      generalize l[k]'(by have := HL.out; omega) = f at *
      have c0 := hcA 0 _ rfl
      have c1 := hcA 1 _ rfl
      have c2 := hcA 2 _ rfl
      have d0 := hcB 0 _ rfl
      have d1 := hcB 1 _ rfl
      have d2 := hcB 2 _ rfl
      clear hcA hcB hg
      simp only [Nat.add_zero] at c0 d0
      go_wp2_with fail
      go_quiet (fail)
      go_wp2_with fail
      go_roundw
      case rel => exact ⟨k + 1, by omega, by go_num, below_drewN hb _⟩
      case measure => simp [intOf]; omega
    · go_wp2_with fail
      go_ret
      exact ⟨rfl, hb⟩

def pageT : Trad := ⟨1, 2, 3, 1, 10, 3⟩
end Go.Proofs.YtelbolhckhdioaaGreat
