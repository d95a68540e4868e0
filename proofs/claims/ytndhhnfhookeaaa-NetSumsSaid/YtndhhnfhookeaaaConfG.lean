import Derived.Test.YtndhhnfhookeaaaConfF
namespace Go.Proofs.Ytndhhnfhookeaaa
open Go.RowKit

theorem Rd.elem2 {α : Type} {w : World} {B sz n : Nat} {A : Option Addr} {l : List α} {f : α → List Value} {k : Nat} {a : α} (h : Rd w B sz A n (l.flatMap f)) (hf : ∀ a, (f a).length = sz) (hk : l[k]? = some a) (hkn : k < n) :
    ∃ b off, A = some ⟨b, off, none⟩ ∧ b < B ∧ ∀ j u, (f a)[j]? = some u → w.cell? ⟨b, off + k * sz + j, none⟩ = some u := h.elem hf hk hkn

set_option maxRecDepth 100000 in
set_option maxHeartbeats 4000000 in
/-- Two configs that read alike are the same. -/
theorem same_true (A1 A2 A3 : Option Addr) (n1 n2 n3 cp1 cp2 cp3 : Nat) (cf : Conf) (B1 B2 B3 : Option Addr) (dp1 dp2 dp3 : Nat) (w : World) (hr : CfRd w A1 n1 A2 n2 A3 n3 cf) (hr' : CfRd w B1 n1 B2 n2 B3 n3 cf) :
    Calls Try.prog 45 #[.agg #[.slice A1 n1 cp1, .slice A2 n2 cp2, .slice A3 n3 cp3, .int .i64 cf.line, .int .i64 cf.capital, .int .i64 cf.lead, .int .i64 cf.trades, .int .i64 cf.bids], .agg #[.slice B1 n1 dp1, .slice B2 n2 dp2, .slice B3 n3 dp3, .int .i64 cf.line, .int .i64 cf.capital, .int .i64 cf.lead, .int .i64 cf.trades, .int .i64 cf.bids]] w fun e w' => e = .returned (.bool true) ∧ Below w.heap.size w w' := by
  have hn1 := hr.hm
  have hn2 := hr.hs
  have hn3 := hr.hc
  have HL1 := Lib.hid (hr.m.len Memb.cells_len (by omega))
  have HL2 := Lib.hid (hr.s.len Secu.cells_len (by omega))
  have HL3 := Lib.hid (hr.c.len Cyc.cells_len (by omega))
  go_enter Try.func45, Try.ntmps45
  go_wp2_with fail
  obtain ⟨W, hW⟩ : ∃ W : World, W = (w.alloc (.cells #[.slice A1 n1 cp1, .slice A2 n2 cp2, .slice A3 n3 cp3, .int .i64 cf.line, .int .i64 cf.capital, .int .i64 cf.lead, .int .i64 cf.trades, .int .i64 cf.bids] 51)).alloc (.cells #[.slice B1 n1 dp1, .slice B2 n2 dp2, .slice B3 n3 dp3, .int .i64 cf.line, .int .i64 cf.capital, .int .i64 cf.lead, .int .i64 cf.trades, .int .i64 cf.bids] 51) := ⟨_, rfl⟩
  have hB : Below w.heap.size w W := by rw [hW]; exact ((Below.refl _ _).alloc (Nat.le_refl _) _).alloc (by simp) _
  have hsW : W.heap.size = w.heap.size + 2 := by rw [hW]; simp
  have bx : Blk W w.heap.size 51 #[.slice A1 n1 cp1, .slice A2 n2 cp2, .slice A3 n3 cp3, .int .i64 cf.line, .int .i64 cf.capital, .int .i64 cf.lead, .int .i64 cf.trades, .int .i64 cf.bids] := by rw [hW]; exact (Blk.new w _ _ _ rfl).alloc _
  have by_ : Blk W (w.heap.size + 1) 51 #[.slice B1 n1 dp1, .slice B2 n2 dp2, .slice B3 n3 dp3, .int .i64 cf.line, .int .i64 cf.capital, .int .i64 cf.lead, .int .i64 cf.trades, .int .i64 cf.bids] := by rw [hW]; exact Blk.new _ _ _ _ (by simp)
  rw [← hW]
  have HW := Lib.hid hsW
  clear hW hsW
  have r1 := hr.past hB
  have r2 := hr'.past hB
  go_loopw [5] (fun i wr => ∃ k : Nat, k ≤ n1 ∧ i = .int .i64 k ∧ Below W.heap.size W wr) (fun i _ => n1 - (intOf i).toNat)
  case atStart => exact ⟨0, Nat.zero_le _, rfl, Below.refl _ _⟩
  case round =>
    obtain ⟨k0, hk0, rfl, hb0⟩ := hrel
    have x0 : wr.cell? ⟨w.heap.size, 0, none⟩ = some (.slice A1 n1 cp1) := (bx.past hb0).cell 0
    have y0 : wr.cell? ⟨w.heap.size + 1, 0, none⟩ = some (.slice B1 n1 dp1) := (by_.past hb0).cell 0
    by_cases hlt0 : k0 < n1
    · have hg : cf.members[k0]? = some (cf.members[k0]'(by have := HL1.out; omega)) := List.getElem?_eq_getElem _
      obtain ⟨a_f, off_f, hA, hab, hcA⟩ := ((r1.m).below hb0).elem Memb.cells_len hg hlt0
      obtain ⟨b_f, off_g, hA', hbb, hcB⟩ := ((r2.m).below hb0).elem Memb.cells_len hg hlt0
      subst hA
      subst hA'
      generalize cf.members[k0]'(by have := HL1.out; omega) = f at *
      have c0 := hcA 0 _ rfl
      have d0 := hcB 0 _ rfl
      have c1 := hcA 1 _ rfl
      have d1 := hcB 1 _ rfl
      clear hcA hcB hg
      simp only [Nat.add_zero] at c0 d0
      go_wp2_with fail
      go_quiet (fail)
      go_wp2_with fail
      go_roundw
      case rel => exact ⟨k0 + 1, by omega, by go_num, below_drewN hb0 _⟩
      case measure => simp [intOf]; omega
    go_wp2_with fail
    go_loopw [6] (fun i wr => ∃ k : Nat, k ≤ n2 ∧ i = .int .i64 k ∧ Below W.heap.size W wr) (fun i _ => n2 - (intOf i).toNat)
    case atStart => exact ⟨0, Nat.zero_le _, rfl, hb0⟩
    case round =>
      obtain ⟨k1, hk1, rfl, hb1⟩ := hrel
      have x1 : wr.cell? ⟨w.heap.size, 1, none⟩ = some (.slice A2 n2 cp2) := (bx.past hb1).cell 1
      have y1 : wr.cell? ⟨w.heap.size + 1, 1, none⟩ = some (.slice B2 n2 dp2) := (by_.past hb1).cell 1
      by_cases hlt1 : k1 < n2
      · have hg : cf.secs[k1]? = some (cf.secs[k1]'(by have := HL2.out; omega)) := List.getElem?_eq_getElem _
        obtain ⟨a_f, off_f, hA, hab, hcA⟩ := ((r1.s).below hb1).elem Secu.cells_len hg hlt1
        obtain ⟨b_f, off_g, hA', hbb, hcB⟩ := ((r2.s).below hb1).elem Secu.cells_len hg hlt1
        subst hA
        subst hA'
        generalize cf.secs[k1]'(by have := HL2.out; omega) = f at *
        have c0 := hcA 0 _ rfl
        have d0 := hcB 0 _ rfl
        have c1 := hcA 1 _ rfl
        have d1 := hcB 1 _ rfl
        clear hcA hcB hg
        simp only [Nat.add_zero] at c0 d0
        go_wp2_with fail
        go_quiet (fail)
        go_wp2_with fail
        go_roundw
        case rel => exact ⟨k1 + 1, by omega, by go_num, below_drewN hb1 _⟩
        case measure => simp [intOf]; omega
      go_wp2_with fail
      go_loopw [7] (fun i wr => ∃ k : Nat, k ≤ n3 ∧ i = .int .i64 k ∧ Below W.heap.size W wr) (fun i _ => n3 - (intOf i).toNat)
      case atStart => exact ⟨0, Nat.zero_le _, rfl, hb1⟩
      case round =>
        obtain ⟨k2, hk2, rfl, hb2⟩ := hrel
        have x2 : wr.cell? ⟨w.heap.size, 2, none⟩ = some (.slice A3 n3 cp3) := (bx.past hb2).cell 2
        have y2 : wr.cell? ⟨w.heap.size + 1, 2, none⟩ = some (.slice B3 n3 dp3) := (by_.past hb2).cell 2
        by_cases hlt2 : k2 < n3
        · have hg : cf.cycles[k2]? = some (cf.cycles[k2]'(by have := HL3.out; omega)) := List.getElem?_eq_getElem _
          obtain ⟨a_f, off_f, hA, hab, hcA⟩ := ((r1.c).below hb2).elem Cyc.cells_len hg hlt2
          obtain ⟨b_f, off_g, hA', hbb, hcB⟩ := ((r2.c).below hb2).elem Cyc.cells_len hg hlt2
          subst hA
          subst hA'
          generalize cf.cycles[k2]'(by have := HL3.out; omega) = f at *
          have c0 := hcA 0 _ rfl
          have d0 := hcB 0 _ rfl
          have c1 := hcA 1 _ rfl
          have d1 := hcB 1 _ rfl
          have c2 := hcA 2 _ rfl
          have d2 := hcB 2 _ rfl
          have c3 := hcA 3 _ rfl
          have d3 := hcB 3 _ rfl
          clear hcA hcB hg
          simp only [Nat.add_zero] at c0 d0
          go_wp2_with fail
          go_quiet (fail)
          go_wp2_with fail
          go_roundw
          case rel => exact ⟨k2 + 1, by omega, by go_num, below_drewN hb2 _⟩
          case measure => simp [intOf]; omega
        have e3 := (bx.past hb2).cell 3
        have g3 := (by_.past hb2).cell 3
        have e4 := (bx.past hb2).cell 4
        have g4 := (by_.past hb2).cell 4
        have e5 := (bx.past hb2).cell 5
        have g5 := (by_.past hb2).cell 5
        have e6 := (bx.past hb2).cell 6
        have g6 := (by_.past hb2).cell 6
        have e7 := (bx.past hb2).cell 7
        have g7 := (by_.past hb2).cell 7
        simp at e3 e4 e5 e6 e7 g3 g4 g5 g6 g7
        go_wp2_with fail
        go_ret
        exact ⟨rfl, Below.past hB hb2 hB.size⟩
end Go.Proofs.Ytndhhnfhookeaaa
