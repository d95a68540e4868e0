import Derived.Test.YtjkabmijkbpodaaTradO
import Derived.Test.YtjkabmijkbpodaaConfD
import Derived.Test.YtjkabmijkbpodaaBas2
namespace Go.Proofs.Ytjkabmijkbpodaa
open Go.RowKit

set_option maxHeartbeats 1000000 in
theorem tradeMay_many (A1 A2 A3 : Option Addr) (n1 n2 n3 cp1 cp2 cp3 : Nat) (cf : Conf) (t : Trad) (x : Comm) (w : World) (hf : fewB n1 n2 n3 = false) :
    Calls Try.prog 10 #[.agg #[.slice A1 n1 cp1, .slice A2 n2 cp2, .slice A3 n3 cp3, .int .i64 cf.line, .int .i64 cf.capital, .int .i64 cf.lead, .int .i64 cf.trades, .int .i64 cf.bids], .agg #[.int .i64 t.id, .int .i64 t.buyer, .int .i64 t.seller, .int .i64 t.sec, .int .i64 t.qty, .int .i64 t.price], .agg #[.int .i64 x.kind, .int .i64 x.id, .int .i64 x.member, .int .i64 x.other, .int .i64 x.sec, .int .i64 x.qty, .int .i64 x.price]] w fun e w' => e = .returned (.bool true) ∧ Below w.heap.size w w' := by
  have Hhf := Lib.hid hf
  clear hf
  have hB0 := (((Below.refl w.heap.size w).alloc (Nat.le_refl _) (.cells #[.slice A1 n1 cp1, .slice A2 n2 cp2, .slice A3 n3 cp3, .int .i64 cf.line, .int .i64 cf.capital, .int .i64 cf.lead, .int .i64 cf.trades, .int .i64 cf.bids] 38)).alloc (by simp) (.cells #[.int .i64 t.id, .int .i64 t.buyer, .int .i64 t.seller, .int .i64 t.sec, .int .i64 t.qty, .int .i64 t.price] 51)).alloc (by simp; omega) (.cells #[.int .i64 x.kind, .int .i64 x.id, .int .i64 x.member, .int .i64 x.other, .int .i64 x.sec, .int .i64 x.qty, .int .i64 x.price] 89)
  go_enter Try.func10, Try.ntmps10
  go_wp2_with fail
  refine (few_any A1 A2 A3 n1 n2 n3 cp1 cp2 cp3 cf _).mono ?_
  rw [Hhf.out]
  rintro e w1 ⟨rfl, hb1⟩
  have hB1 := Below.past hB0 hb1 hB0.size
  go_wp2_with fail
  refine (awake16 _).mono ?_
  rintro e w2 ⟨rfl, hb2⟩
  go_wp2_with fail
  go_ret
  exact ⟨rfl, Below.past hB1 hb2 hB1.size⟩

set_option maxRecDepth 100000 in
set_option maxHeartbeats 4000000 in
theorem tradeMay_few (A1 A2 A3 : Option Addr) (n1 n2 n3 cp1 cp2 cp3 : Nat) (cf : Conf) (t : Trad) (x : Comm) (w : World) (hr : CfRd w A1 n1 A2 n2 A3 n3 cf) (hq : inI t.qty) (hp : inI t.price) (hf : fewB n1 n2 n3 = true) :
    Calls Try.prog 10 #[.agg #[.slice A1 n1 cp1, .slice A2 n2 cp2, .slice A3 n3 cp3, .int .i64 cf.line, .int .i64 cf.capital, .int .i64 cf.lead, .int .i64 cf.trades, .int .i64 cf.bids], .agg #[.int .i64 t.id, .int .i64 t.buyer, .int .i64 t.seller, .int .i64 t.sec, .int .i64 t.qty, .int .i64 t.price], .agg #[.int .i64 x.kind, .int .i64 x.id, .int .i64 x.member, .int .i64 x.other, .int .i64 x.sec, .int .i64 x.qty, .int .i64 x.price]] w fun e w' => e = .returned (.bool true) ∧ Below w.heap.size w w' := by
  have Hhf := Lib.hid hf
  clear hf
  obtain ⟨W, hW⟩ : ∃ W, Hid (((w.alloc (.cells #[.slice A1 n1 cp1, .slice A2 n2 cp2, .slice A3 n3 cp3, .int .i64 cf.line, .int .i64 cf.capital, .int .i64 cf.lead, .int .i64 cf.trades, .int .i64 cf.bids] 38)).alloc (.cells #[.int .i64 t.id, .int .i64 t.buyer, .int .i64 t.seller, .int .i64 t.sec, .int .i64 t.qty, .int .i64 t.price] 51)).alloc (.cells #[.int .i64 x.kind, .int .i64 x.id, .int .i64 x.member, .int .i64 x.other, .int .i64 x.sec, .int .i64 x.qty, .int .i64 x.price] 89) = W) := ⟨_, rfl⟩
  have hB0 : Below w.heap.size w W := by rw [← hW.out]; exact (((Below.refl _ _).alloc (Nat.le_refl _) _).alloc (by simp) _).alloc (by simp; omega) _
  have hs0 : W.heap.size = w.heap.size + 3 := by rw [← hW.out]; simp
  have hr0 := hr.past hB0
  have bc0 : Blk W w.heap.size 38 #[.slice A1 n1 cp1, .slice A2 n2 cp2, .slice A3 n3 cp3, .int .i64 cf.line, .int .i64 cf.capital, .int .i64 cf.lead, .int .i64 cf.trades, .int .i64 cf.bids] := by
    rw [← hW.out]; exact ((Blk.new w _ _ _ rfl).alloc _).alloc _
  have bt0 : Blk W (w.heap.size + 1) 51 #[.int .i64 t.id, .int .i64 t.buyer, .int .i64 t.seller, .int .i64 t.sec, .int .i64 t.qty, .int .i64 t.price] := by
    rw [← hW.out]; exact (Blk.new (w.alloc (.cells #[.slice A1 n1 cp1, .slice A2 n2 cp2, .slice A3 n3 cp3, .int .i64 cf.line, .int .i64 cf.capital, .int .i64 cf.lead, .int .i64 cf.trades, .int .i64 cf.bids] 38)) _ _ _ (by simp)).alloc _
  have bx0 : Blk W (w.heap.size + 2) 89 #[.int .i64 x.kind, .int .i64 x.id, .int .i64 x.member, .int .i64 x.other, .int .i64 x.sec, .int .i64 x.qty, .int .i64 x.price] := by
    rw [← hW.out]; exact Blk.new _ _ _ _ (by simp)
  obtain ⟨v, hv⟩ : ∃ v, Hid (amount (t.qty * t.price) = v) := ⟨_, rfl⟩
  obtain ⟨o, ho⟩ : ∃ v, Hid (over (t.qty * t.price) = v) := ⟨_, rfl⟩
  obtain ⟨C, hC⟩ : ∃ v, Hid (checkT n1 n2 t = v) := ⟨_, rfl⟩
  go_enter Try.func10, Try.ntmps10
  go_wp2_with fail
  rw [hW.out]
  refine (few_any A1 A2 A3 n1 n2 n3 cp1 cp2 cp3 cf _).mono ?_
  rw [Hhf.out]
  rintro e w1 ⟨rfl, hb1⟩
  have hr1 := hr0.past hb1
  have bc1 := bc0.past hb1
  have bt1 := bt0.past hb1
  have bx1 := bx0.past hb1
  have hB1 := Below.past hB0 hb1 hB0.size
  have f0 := (bt1).cell 0
  have f1 := (bt1).cell 1
  have f2 := (bt1).cell 2
  have f3 := (bt1).cell 3
  have f4 := (bt1).cell 4
  have f5 := (bt1).cell 5
  simp at f0 f1 f2 f3 f4 f5
  go_wp2_with fail
  refine (value_any t hq hp _).mono ?_
  rw [hv.out, ho.out]
  rintro e w2 ⟨rfl, hb2⟩
  have hr2 := hr1.past hb2
  have bc2 := bc1.past hb2
  have bt2 := bt1.past hb2
  have bx2 := bx1.past hb2
  have hB2 := Below.past hB1 hb2 hB1.size
  clear f0 f1 f2 f3 f4 f5
  have f0 := (bt2).cell 0
  have f1 := (bt2).cell 1
  have f2 := (bt2).cell 2
  have f3 := (bt2).cell 3
  have f4 := (bt2).cell 4
  have f5 := (bt2).cell 5
  simp at f0 f1 f2 f3 f4 f5
  go_wp2_with fail
  refine (refMul_any _ _ hq hp _).mono ?_
  rw [hv.out, ho.out]
  rintro e w3 ⟨rfl, hb3⟩
  have hr3 := hr2.past hb3
  have bc3 := bc2.past hb3
  have bt3 := bt2.past hb3
  have bx3 := bx2.past hb3
  have hB3 := Below.past hB2 hb3 hB2.size
  clear f0 f1 f2 f3 f4 f5
  have hW3 := Below.past (Below.past hb1 hb2 hb1.size) hb3 (by have := hb1.size; have := hb2.size; omega)
  have KP : ∀ w', Below W.heap.size W w' → (w'.cell? ⟨w.heap.size, 0, none⟩ = some (.slice A1 n1 cp1) ∧ w'.cell? ⟨w.heap.size, 1, none⟩ = some (.slice A2 n2 cp2) ∧ w'.cell? ⟨w.heap.size, 2, none⟩ = some (.slice A3 n3 cp3) ∧ w'.cell? ⟨w.heap.size, 3, none⟩ = some (.int .i64 cf.line) ∧ w'.cell? ⟨w.heap.size, 4, none⟩ = some (.int .i64 cf.capital) ∧ w'.cell? ⟨w.heap.size, 5, none⟩ = some (.int .i64 cf.lead) ∧ w'.cell? ⟨w.heap.size, 6, none⟩ = some (.int .i64 cf.trades) ∧ w'.cell? ⟨w.heap.size, 7, none⟩ = some (.int .i64 cf.bids) ∧ w'.cell? ⟨w.heap.size + 1, 0, none⟩ = some (.int .i64 t.id) ∧ w'.cell? ⟨w.heap.size + 1, 1, none⟩ = some (.int .i64 t.buyer) ∧ w'.cell? ⟨w.heap.size + 1, 2, none⟩ = some (.int .i64 t.seller) ∧ w'.cell? ⟨w.heap.size + 1, 3, none⟩ = some (.int .i64 t.sec) ∧ w'.cell? ⟨w.heap.size + 1, 4, none⟩ = some (.int .i64 t.qty) ∧ w'.cell? ⟨w.heap.size + 1, 5, none⟩ = some (.int .i64 t.price) ∧ Below W.heap.size W w') := fun w' h => ⟨(bc0.past h).cell 0, (bc0.past h).cell 1, (bc0.past h).cell 2, (bc0.past h).cell 3, (bc0.past h).cell 4, (bc0.past h).cell 5, (bc0.past h).cell 6, (bc0.past h).cell 7, (bt0.past h).cell 0, (bt0.past h).cell 1, (bt0.past h).cell 2, (bt0.past h).cell 3, (bt0.past h).cell 4, (bt0.past h).cell 5, h⟩
  obtain ⟨e0, e1, e2, e3, e4, e5, e6, e7, f0, f1, f2, f3, f4, f5, _⟩ := KP _ hW3
  have HK := Lib.hid KP
  clear KP
  go_wp2_with fail
  go_region_held3 (fun w' => w'.cell? ⟨w.heap.size, 0, none⟩ = some (.slice A1 n1 cp1) ∧ w'.cell? ⟨w.heap.size, 1, none⟩ = some (.slice A2 n2 cp2) ∧ w'.cell? ⟨w.heap.size, 2, none⟩ = some (.slice A3 n3 cp3) ∧ w'.cell? ⟨w.heap.size, 3, none⟩ = some (.int .i64 cf.line) ∧ w'.cell? ⟨w.heap.size, 4, none⟩ = some (.int .i64 cf.capital) ∧ w'.cell? ⟨w.heap.size, 5, none⟩ = some (.int .i64 cf.lead) ∧ w'.cell? ⟨w.heap.size, 6, none⟩ = some (.int .i64 cf.trades) ∧ w'.cell? ⟨w.heap.size, 7, none⟩ = some (.int .i64 cf.bids) ∧ w'.cell? ⟨w.heap.size + 1, 0, none⟩ = some (.int .i64 t.id) ∧ w'.cell? ⟨w.heap.size + 1, 1, none⟩ = some (.int .i64 t.buyer) ∧ w'.cell? ⟨w.heap.size + 1, 2, none⟩ = some (.int .i64 t.seller) ∧ w'.cell? ⟨w.heap.size + 1, 3, none⟩ = some (.int .i64 t.sec) ∧ w'.cell? ⟨w.heap.size + 1, 4, none⟩ = some (.int .i64 t.qty) ∧ w'.cell? ⟨w.heap.size + 1, 5, none⟩ = some (.int .i64 t.price) ∧ Below W.heap.size W w') ((go_split_ands; refine HK.out _ ?_; first | assumption | exact Below.drew (by assumption) | exact Below.next (by assumption) (by assumption))) (first
    | (go_at_call 46; go_split_ands; refine (refCheckT_any A1 A2 A3 n1 n2 n3 cp1 cp2 cp3 cf t _ hq hp).mono ?_; rw [hC.out]; rintro e w4 ⟨rfl, hb4⟩)
    | (go_at_call 45; go_split_ands; refine (checkT_any A1 A2 A3 n1 n2 n3 cp1 cp2 cp3 cf t _ (hr0.past (by assumption)) hq hp).mono ?_; rw [hC.out]; rintro e w4 ⟨rfl, hb4⟩))
  all_goals
    go_split_ands
    have hW4 : Below W.heap.size W w4 := by assumption
    have bx4 := bx0.past hW4
    have bt4 := bt0.past hW4
    have x0 := (bx4).cell 0
    have x1 := (bx4).cell 1
    have x2 := (bx4).cell 2
    have x3 := (bx4).cell 3
    have x4 := (bx4).cell 4
    have x5 := (bx4).cell 5
    have x6 := (bx4).cell 6
    simp at x0 x1 x2 x3 x4 x5 x6
    by_cases hk : x.kind = 2
    · have Hk := Lib.hid hk
      clear hk
      go_wp2_with fail
      refine (of_yes x _ Hk.out).mono ?_
      rintro e w5 ⟨rfl, hb5⟩
      have bx5 := bx4.past hb5
      have hW5 := Below.next hW4 hb5
      have q : (x.kind == 2) = true := by simpa using Hk.out
      clear x0 x1 x2 x3 x4 x5 x6
      have x0 : ∀ o : Obj, (w5.alloc o).cell? ⟨w.heap.size + 2, 0, none⟩ = some _ := fun o => (bx5.alloc o).cell 0
      have x1 : ∀ o : Obj, (w5.alloc o).cell? ⟨w.heap.size + 2, 1, none⟩ = some _ := fun o => (bx5.alloc o).cell 1
      have x2 : ∀ o : Obj, (w5.alloc o).cell? ⟨w.heap.size + 2, 2, none⟩ = some _ := fun o => (bx5.alloc o).cell 2
      have x3 : ∀ o : Obj, (w5.alloc o).cell? ⟨w.heap.size + 2, 3, none⟩ = some _ := fun o => (bx5.alloc o).cell 3
      have x4 : ∀ o : Obj, (w5.alloc o).cell? ⟨w.heap.size + 2, 4, none⟩ = some _ := fun o => (bx5.alloc o).cell 4
      have x5 : ∀ o : Obj, (w5.alloc o).cell? ⟨w.heap.size + 2, 5, none⟩ = some _ := fun o => (bx5.alloc o).cell 5
      have x6 : ∀ o : Obj, (w5.alloc o).cell? ⟨w.heap.size + 2, 6, none⟩ = some _ := fun o => (bx5.alloc o).cell 6
      go_wp2_with fail
      have by5 := Blk.new w5 51 #[.int .i64 x.id, .int .i64 x.member, .int .i64 x.other, .int .i64 x.sec, .int .i64 x.qty, .int .i64 x.price] w5.heap.size rfl
      have bz5 := bx5.alloc (.cells #[.int .i64 x.id, .int .i64 x.member, .int .i64 x.other, .int .i64 x.sec, .int .i64 x.qty, .int .i64 x.price] 51)
      have hW6 := hW5.alloc hW5.size (.cells #[.int .i64 x.id, .int .i64 x.member, .int .i64 x.other, .int .i64 x.sec, .int .i64 x.qty, .int .i64 x.price] 51)
      refine (awake16 _).mono ?_
      rintro e w7 ⟨rfl, hb7⟩
      have by7 := by5.past hb7
      have bz7 := bz5.past hb7
      clear x0 x1 x2 x3 x4 x5 x6
      have x0 := (bz7).cell 0
      have x1 := (bz7).cell 1
      have x2 := (bz7).cell 2
      have x3 := (bz7).cell 3
      have x4 := (bz7).cell 4
      have x5 := (bz7).cell 5
      have x6 := (bz7).cell 6
      simp at x0 x1 x2 x3 x4 x5 x6
      have y0 := (by7).cell 0
      have y1 := (by7).cell 1
      have y2 := (by7).cell 2
      have y3 := (by7).cell 3
      have y4 := (by7).cell 4
      have y5 := (by7).cell 5
      simp at y0 y1 y2 y3 y4 y5
      go_wp2_with fail
      go_ret
      exact ⟨rfl, Below.next' hB0 (Below.past hW6 hb7 hW6.size) (Nat.le_refl _)⟩
    · have Hk := Lib.hid hk
      clear hk
      go_wp2_with fail
      refine (of_no x _ Hk.out).mono ?_
      rintro e w5 ⟨rfl, hb5⟩
      have bx5 := bx4.past hb5
      have hW5 := Below.next hW4 hb5
      have q : (x.kind == 2) = false := by simpa using Hk.out
      clear x0 x1 x2 x3 x4 x5 x6
      have x0 : ∀ o : Obj, (w5.alloc o).cell? ⟨w.heap.size + 2, 0, none⟩ = some _ := fun o => (bx5.alloc o).cell 0
      have x1 : ∀ o : Obj, (w5.alloc o).cell? ⟨w.heap.size + 2, 1, none⟩ = some _ := fun o => (bx5.alloc o).cell 1
      have x2 : ∀ o : Obj, (w5.alloc o).cell? ⟨w.heap.size + 2, 2, none⟩ = some _ := fun o => (bx5.alloc o).cell 2
      have x3 : ∀ o : Obj, (w5.alloc o).cell? ⟨w.heap.size + 2, 3, none⟩ = some _ := fun o => (bx5.alloc o).cell 3
      have x4 : ∀ o : Obj, (w5.alloc o).cell? ⟨w.heap.size + 2, 4, none⟩ = some _ := fun o => (bx5.alloc o).cell 4
      have x5 : ∀ o : Obj, (w5.alloc o).cell? ⟨w.heap.size + 2, 5, none⟩ = some _ := fun o => (bx5.alloc o).cell 5
      have x6 : ∀ o : Obj, (w5.alloc o).cell? ⟨w.heap.size + 2, 6, none⟩ = some _ := fun o => (bx5.alloc o).cell 6
      go_wp2_with fail
      have by5 := Blk.new w5 51 #[.int .i64 0, .int .i64 0, .int .i64 0, .int .i64 0, .int .i64 0, .int .i64 0] w5.heap.size rfl
      have bz5 := bx5.alloc (.cells #[.int .i64 0, .int .i64 0, .int .i64 0, .int .i64 0, .int .i64 0, .int .i64 0] 51)
      have hW6 := hW5.alloc hW5.size (.cells #[.int .i64 0, .int .i64 0, .int .i64 0, .int .i64 0, .int .i64 0, .int .i64 0] 51)
      refine (awake16 _).mono ?_
      rintro e w7 ⟨rfl, hb7⟩
      have by7 := by5.past hb7
      have bz7 := bz5.past hb7
      clear x0 x1 x2 x3 x4 x5 x6
      have x0 := (bz7).cell 0
      have x1 := (bz7).cell 1
      have x2 := (bz7).cell 2
      have x3 := (bz7).cell 3
      have x4 := (bz7).cell 4
      have x5 := (bz7).cell 5
      have x6 := (bz7).cell 6
      simp at x0 x1 x2 x3 x4 x5 x6
      have y0 := (by7).cell 0
      have y1 := (by7).cell 1
      have y2 := (by7).cell 2
      have y3 := (by7).cell 3
      have y4 := (by7).cell 4
      have y5 := (by7).cell 5
      simp at y0 y1 y2 y3 y4 y5
      go_wp2_with fail
      go_ret
      exact ⟨rfl, Below.next' hB0 (Below.past hW6 hb7 hW6.size) (Nat.le_refl _)⟩
end Go.Proofs.Ytjkabmijkbpodaa
