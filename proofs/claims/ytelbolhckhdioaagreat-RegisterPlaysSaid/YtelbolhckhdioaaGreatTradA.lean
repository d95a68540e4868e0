import Derived.Test.YtelbolhckhdioaaGreatMonE
namespace Go.Proofs.YtelbolhckhdioaaGreat
open Go.RowKit

structure Trad where
  id : Int
  buyer : Int
  seller : Int
  sec : Int
  qty : Int
  price : Int
structure Leg where
  member : Int
  asset : Int
  amount : Int
def Leg.cells (x : Leg) : List Value := [.int .i64 x.member, .int .i64 x.asset, .int .i64 x.amount]
theorem Leg.cells_len (x : Leg) : x.cells.length = 3 := rfl

set_option maxHeartbeats 400000 in
theorem value_any (t : Trad) (hq : inI t.qty) (hp : inI t.price) (w : World) :
    Calls Tryz.prog 65 #[.agg #[.int .i64 t.id, .int .i64 t.buyer, .int .i64 t.seller, .int .i64 t.sec, .int .i64 t.qty, .int .i64 t.price]] w fun e w' => e = .returned (.tuple #[.int .i64 (amount (t.qty * t.price)), .int .i64 (over (t.qty * t.price))]) ∧ Below w.heap.size w w' := by
  go_enter Tryz.func65, Tryz.ntmps65
  go_wp2_with fail
  refine (mul_any _ _ hq hp _).mono ?_
  rintro e w' ⟨rfl, rfl⟩
  go_wp2
  go_ret2
  exact ⟨rfl, (Below.refl _ _).alloc (Nat.le_refl _) _⟩

/-- The legs of a trade. -/
def legsOf (t : Trad) : List Leg := [⟨t.buyer, 0, t.qty * t.price⟩, ⟨t.buyer, t.sec, -t.qty⟩, ⟨t.seller, 0, -(t.qty * t.price)⟩, ⟨t.seller, t.sec, t.qty⟩]
def legsIn (t : Trad) : Bool := decide (inI (t.qty * t.price)) && (decide (inI (-(t.qty * t.price))) && decide (inI (-t.qty)))

def LegsRes (t : Trad) (w : World) (e : Ending) (w' : World) : Prop := ∃ A c, e = .returned (.tuple #[.slice A 4 c, .int .i64 0]) ∧ Rd w' w'.heap.size 3 A 4 ((legsOf t).flatMap Leg.cells) ∧ Below w.heap.size w w'

set_option maxRecDepth 10000 in
set_option maxHeartbeats 1000000 in
theorem legs_yes (t : Trad) (hq : inI t.qty) (hp : inI t.price) (h : legsIn t = true) (w : World) : Calls Tryz.prog 40 #[.agg #[.int .i64 t.id, .int .i64 t.buyer, .int .i64 t.seller, .int .i64 t.sec, .int .i64 t.qty, .int .i64 t.price]] w (LegsRes t w) := by
  have hh : inI (t.qty * t.price) ∧ inI (-(t.qty * t.price)) ∧ inI (-t.qty) := by simpa [legsIn] using h
  obtain ⟨h1, h2, h3⟩ := hh
  have A1 := Lib.hid (amount_in h1)
  have A2 := Lib.hid (amount_in h2)
  have A3 := Lib.hid (amount_in h3)
  have H1 := Lib.hid h1
  clear h h2 h3 h1
  have hB0 := (Below.refl w.heap.size w).alloc (Nat.le_refl _) (.cells #[.int .i64 t.id, .int .i64 t.buyer, .int .i64 t.seller, .int .i64 t.sec, .int .i64 t.qty, .int .i64 t.price] 38)
  have bx0 := Blk.new w 38 #[.int .i64 t.id, .int .i64 t.buyer, .int .i64 t.seller, .int .i64 t.sec, .int .i64 t.qty, .int .i64 t.price] w.heap.size rfl
  obtain ⟨v, hv⟩ : ∃ v, Hid (t.qty * t.price = v) := ⟨_, rfl⟩
  rw [hv.out] at A1 A2 H1
  go_enter Tryz.func40, Tryz.ntmps40
  go_wp2_with fail
  refine (value_any t hq hp _).mono ?_
  rintro e w1 ⟨rfl, hb1⟩
  rw [hv.out, A1.out.1, A1.out.2]
  have bx1 := bx0.past hb1
  have hB1 := Below.past hB0 hb1 hB0.size
  have e0 := (bx1).cell 0
  have e1 := (bx1).cell 1
  have e2 := (bx1).cell 2
  have e3 := (bx1).cell 3
  have e4 := (bx1).cell 4
  have e5 := (bx1).cell 5
  simp at e0 e1 e2 e3 e4 e5
  go_wp2_with fail
  refine (neg_any v H1.out _).mono ?_
  rintro e w' ⟨rfl, rfl⟩
  rw [A2.out.1, A2.out.2]
  go_wp2_with fail
  refine (neg_any t.qty hq _).mono ?_
  rintro e w' ⟨rfl, rfl⟩
  rw [A3.out.1, A3.out.2]
  go_wp2_with fail
  go_ret2
  refine ⟨_, _, rfl, ?_, hB1.alloc hB1.size _⟩
  have hl := Rd.lit (n := 4) (sz := 3) w1 #[.int .i64 t.buyer, .int .i64 0, .int .i64 v, .int .i64 t.buyer, .int .i64 t.sec, .int .i64 (-t.qty), .int .i64 t.seller, .int .i64 0, .int .i64 (-v), .int .i64 t.seller, .int .i64 t.sec, .int .i64 t.qty] 97 w1.heap.size rfl rfl
  rw [show (legsOf t).flatMap Leg.cells = [.int .i64 t.buyer, .int .i64 0, .int .i64 v, .int .i64 t.buyer, .int .i64 t.sec, .int .i64 (-t.qty), .int .i64 t.seller, .int .i64 0, .int .i64 (-v), .int .i64 t.seller, .int .i64 t.sec, .int .i64 t.qty] by rw [← hv.out]; rfl]
  exact hl

set_option maxRecDepth 10000 in
set_option maxHeartbeats 1000000 in
theorem legs_no (t : Trad) (hq : inI t.qty) (hp : inI t.price) (h : legsIn t = false) (w : World) : Calls Tryz.prog 40 #[.agg #[.int .i64 t.id, .int .i64 t.buyer, .int .i64 t.seller, .int .i64 t.sec, .int .i64 t.qty, .int .i64 t.price]] w fun e w' => e = .returned (.tuple #[.slice none 0 0, .int .i64 2]) ∧ Below w.heap.size w w' := by
  have hB0 := (Below.refl w.heap.size w).alloc (Nat.le_refl _) (.cells #[.int .i64 t.id, .int .i64 t.buyer, .int .i64 t.seller, .int .i64 t.sec, .int .i64 t.qty, .int .i64 t.price] 38)
  have bx0 := Blk.new w 38 #[.int .i64 t.id, .int .i64 t.buyer, .int .i64 t.seller, .int .i64 t.sec, .int .i64 t.qty, .int .i64 t.price] w.heap.size rfl
  obtain ⟨v, hv⟩ : ∃ v, Hid (t.qty * t.price = v) := ⟨_, rfl⟩
  unfold legsIn at h
  rw [hv.out] at h
  by_cases h1 : inI v
  · have A1 := Lib.hid (amount_in h1)
    have H1 := Lib.hid h1
    by_cases h2 : inI (-v)
    · have h3 : ¬ inI (-t.qty) := by simpa [h1, h2] using h
      have A2 := Lib.hid (amount_in h2)
      have A3 := Lib.hid (amount_out h3)
      clear h h1 h2 h3
      go_enter Tryz.func40, Tryz.ntmps40
      go_wp2_with fail
      refine (value_any t hq hp _).mono ?_
      rintro e w1 ⟨rfl, hb1⟩
      rw [hv.out, A1.out.1, A1.out.2]
      have bx1 := bx0.past hb1
      have hB1 := Below.past hB0 hb1 hB0.size
      have e0 := (bx1).cell 0
      have e1 := (bx1).cell 1
      have e2 := (bx1).cell 2
      have e3 := (bx1).cell 3
      have e4 := (bx1).cell 4
      have e5 := (bx1).cell 5
      simp at e0 e1 e2 e3 e4 e5
      go_wp2_with fail
      refine (neg_any v H1.out _).mono ?_
      rintro e w' ⟨rfl, rfl⟩
      rw [A2.out.1, A2.out.2]
      go_wp2_with fail
      refine (neg_any t.qty hq _).mono ?_
      rintro e w' ⟨rfl, rfl⟩
      rw [A3.out.1, A3.out.2]
      go_wp2_with fail
      go_ret2
      exact ⟨rfl, hB1⟩
    · have A2 := Lib.hid (amount_out h2)
      clear h h1 h2
      obtain ⟨x, hx⟩ : ∃ v, Hid (amount (-t.qty) = v) := ⟨_, rfl⟩
      obtain ⟨y, hy⟩ : ∃ v, Hid (over (-t.qty) = v) := ⟨_, rfl⟩
      go_enter Tryz.func40, Tryz.ntmps40
      go_wp2_with fail
      refine (value_any t hq hp _).mono ?_
      rintro e w1 ⟨rfl, hb1⟩
      rw [hv.out, A1.out.1, A1.out.2]
      have bx1 := bx0.past hb1
      have hB1 := Below.past hB0 hb1 hB0.size
      have e0 := (bx1).cell 0
      have e1 := (bx1).cell 1
      have e2 := (bx1).cell 2
      have e3 := (bx1).cell 3
      have e4 := (bx1).cell 4
      have e5 := (bx1).cell 5
      simp at e0 e1 e2 e3 e4 e5
      go_wp2_with fail
      refine (neg_any v H1.out _).mono ?_
      rintro e w' ⟨rfl, rfl⟩
      rw [A2.out.1, A2.out.2]
      go_wp2_with fail
      refine (neg_any t.qty hq _).mono ?_
      rintro e w' ⟨rfl, rfl⟩
      rw [hx.out, hy.out]
      go_wp2_with fail
      go_ret2
      exact ⟨rfl, hB1⟩
  · have A1 := Lib.hid (amount_out h1)
    clear h h1
    go_enter Tryz.func40, Tryz.ntmps40
    go_wp2_with fail
    refine (value_any t hq hp _).mono ?_
    rintro e w1 ⟨rfl, hb1⟩
    rw [hv.out, A1.out.1, A1.out.2]
    go_wp2_with fail
    go_ret2
    exact ⟨rfl, Below.past hB0 hb1 hB0.size⟩

/-- What a member has towards the house, of an asset: its amounts. -/
def owedL (l : List Leg) (m a : Int) : List Int := (l.filter fun x => x.member = m ∧ x.asset = a).map Leg.amount
theorem owedL_snoc (l : List Leg) (x : Leg) (m a : Int) : owedL (l ++ [x]) m a = if x.member = m ∧ x.asset = a then owedL l m a ++ [x.amount] else owedL l m a := by
  unfold owedL
  rw [List.filter_append, List.map_append]
  by_cases h : x.member = m ∧ x.asset = a
  · rw [if_pos h]; simp [h]
  · rw [if_neg h, List.filter_cons_of_neg (by simpa using h)]; simp
theorem owedL_len (l : List Leg) (m a : Int) : (owedL l m a).length ≤ l.length := by unfold owedL; rw [List.length_map]; exact List.length_filter_le _ _
theorem owedL_ok (l : List Leg) (m a : Int) (h : ∀ x ∈ l, inI x.amount) : ∀ x ∈ owedL l m a, inI x := by
  intro x hx
  unfold owedL at hx
  obtain ⟨y, hy, rfl⟩ := List.mem_map.1 hx
  exact h y (List.mem_filter.1 hy).1
theorem i64_info : (Tryz.prog.info? 2).map (fun i => (i.zero, i.size, i.bytes)) = some (some (.int .i64 0), 1, 8) := by kernel_rfl

end Go.Proofs.YtelbolhckhdioaaGreat
