import Derived.Test.YtelbolhckhdioaaMonE
namespace Go.Proofs.Ytelbolhckhdioaa
open Go.RowKit

structure Trad where
  id : Int
  buyer : Int
  seller : Int
  sec : Int
  qty : Int
  price : Int
structure Leg where
  member : Int
  asset : Int
  amount : Int
def Leg.cells (x : Leg) : List Value := [.int .i64 x.member, .int .i64 x.asset, .int .i64 x.amount]
theorem Leg.cells_len (x : Leg) : x.cells.length = 3 := rfl

set_option maxHeartbeats 400000 in
theorem value_any (t : Trad) (hq : inI t.qty) (hp : inI t.price) (w : World) :
    Calls Try.prog 137 #[.agg #[.int .i64 t.id, .int .i64 t.buyer, .int .i64 t.seller, .int .i64 t.sec, .int .i64 t.qty, .int .i64 t.price]] w fun e w' => e = .returned (.tuple #[.int .i64 (amount (t.qty * t.price)), .int .i64 (over (t.qty * t.price))]) ∧ Below w.heap.size w w' := by
  go_enter Try.func137, Try.ntmps137
  go_wp2_with fail
  refine (mul_any _ _ hq hp _).mono ?_
  rintro e w' ⟨rfl, rfl⟩
  go_wp2
  go_ret2
  exact ⟨rfl, (Below.refl _ _).alloc (Nat.le_refl _) _⟩

/-- The legs of a trade. -/
def legsOf (t : Trad) : List Leg := [⟨t.buyer, 0, t.qty * t.price⟩, ⟨t.buyer, t.sec, -t.qty⟩, ⟨t.seller, 0, -(t.qty * t.price)⟩, ⟨t.seller, t.sec, t.qty⟩]
def legsIn (t : Trad) : Bool := decide (inI (t.qty * t.price)) && (decide (inI (-(t.qty * t.price))) && decide (inI (-t.qty)))

def LegsRes (t : Trad) (w : World) (e : Ending) (w' : World) : Prop := ∃ A c, e = .returned (.tuple #[.slice A 4 c, .int .i64 0]) ∧ Rd w' w'.heap.size 3 A 4 ((legsOf t).flatMap Leg.cells) ∧ Below w.heap.size w w'

set_option maxRecDepth 10000 in
set_option maxHeartbeats 1000000 in
theorem legs_yes (t : Trad) (hq : inI t.qty) (hp : inI t.price) (h : legsIn t = true) (w : World) : Calls Try.prog 101 #[.agg #[.int .i64 t.id, .int .i64 t.buyer, .int .i64 t.seller, .int .i64 t.sec, .int .i64 t.qty, .int .i64 t.price]] w (LegsRes t w) := by
  have hh : inI (t.qty * t.price) ∧ inI (-(t.qty * t.price)) ∧ inI (-t.qty) := by simpa [legsIn] using h
  obtain ⟨h1, h2, h3⟩ := hh
  have A1 := Lib.hid (amount_in h1)
  have A2 := Lib.hid (amount_in h2)
  have A3 := Lib.hid (amount_in h3)
  have H1 := Lib.hid h1
  clear h h2 h3 h1
  have hB0 := (Below.refl w.heap.size w).alloc (Nat.le_refl _) (.cells #[.int .i64 t.id, .int .i64 t.buyer, .int .i64 t.seller, .int .i64 t.sec, .int .i64 t.qty, .int .i64 t.price] 87)
  have bx0 := Blk.new w 87 #[.int .i64 t.id, .int .i64 t.buyer, .int .i64 t.seller, .int .i64 t.sec, .int .i64 t.qty, .int .i64 t.price] w.heap.size rfl
  obtain ⟨v, hv⟩ : ∃ v, Hid (t.qty * t.price = v) := ⟨_, rfl⟩
  rw [hv.out] at A1 A2 H1
  go_enter Try.func101, Try.ntmps101
  go_wp2_with fail
  refine (value_any t hq hp _).mono ?_
  rintro e w1 ⟨rfl, hb1⟩
  rw [hv.out, A1.out.1, A1.out.2]
  have bx1 := bx0.past hb1
  have hB1 := Below.past hB0 hb1 hB0.size
  have e0 := (bx1).cell 0
  have e1 := (bx1).cell 1
  have e2 := (bx1).cell 2
  have e3 := (bx1).cell 3
  have e4 := (bx1).cell 4
  have e5 := (bx1).cell 5
  simp at e0 e1 e2 e3 e4 e5
  go_wp2_with fail
  refine (neg_any v H1.out _).mono ?_
  rintro e w' ⟨rfl, rfl⟩
  rw [A2.out.1, A2.out.2]
  go_wp2_with fail
  refine (neg_any t.qty hq _).mono ?_
  rintro e w' ⟨rfl, rfl⟩
  rw [A3.out.1, A3.out.2]
  go_wp2_with fail
  go_ret2
  refine ⟨_, _, rfl, ?_, hB1.alloc hB1.size _⟩
  have hl := Rd.lit (n := 4) (sz := 3) w1 #[.int .i64 t.buyer, .int .i64 0, .int .i64 v, .int .i64 t.buyer, .int .i64 t.sec, .int .i64 (-t.qty), .int .i64 t.seller, .int .i64 0, .int .i64 (-v), .int .i64 t.seller, .int .i64 t.sec, .int .i64 t.qty] 158 w1.heap.size rfl rfl
  rw [show (legsOf t).flatMap Leg.cells = [.int .i64 t.buyer, .int .i64 0, .int .i64 v, .int .i64 t.buyer, .int .i64 t.sec, .int .i64 (-t.qty), .int .i64 t.seller, .int .i64 0, .int .i64 (-v), .int .i64 t.seller, .int .i64 t.sec, .int .i64 t.qty] by rw [← hv.out]; rfl]
  exact hl

set_option maxRecDepth 10000 in
set_option maxHeartbeats 1000000 in
theorem legs_no (t : Trad) (hq : inI t.qty) (hp : inI t.price) (h : legsIn t = false) (w : World) : Calls Try.prog 101 #[.agg #[.int .i64 t.id, .int .i64 t.buyer, .int .i64 t.seller, .int .i64 t.sec, .int .i64 t.qty, .int .i64 t.price]] w fun e w' => e = .returned (.tuple #[.slice none 0 0, .int .i64 2]) ∧ Below w.heap.size w w' := by
  have hB0 := (Below.refl w.heap.size w).alloc (Nat.le_refl _) (.cells #[.int .i64 t.id, .int .i64 t.buyer, .int .i64 t.seller, .int .i64 t.sec, .int .i64 t.qty, .int .i64 t.price] 87)
  have bx0 := Blk.new w 87 #[.int .i64 t.id, .int .i64 t.buyer, .int .i64 t.seller, .int .i64 t.sec, .int .i64 t.qty, .int .i64 t.price] w.heap.size rfl
  obtain ⟨v, hv⟩ : ∃ v, Hid (t.qty * t.price = v) := ⟨_, rfl⟩
  unfold legsIn at h
  rw [hv.out] at h
  by_cases h1 : inI v
  · have A1 := Lib.hid (amount_in h1)
    have H1 := Lib.hid h1
    by_cases h2 : inI (-v)
    · have h3 : ¬ inI (-t.qty) := by simpa [h1, h2] using h
      have A2 := Lib.hid (amount_in h2)
      have A3 := Lib.hid (amount_out h3)
      clear h h1 h2 h3
      go_enter Try.func101, Try.ntmps101
      go_wp2_with fail
      refine (value_any t hq hp _).mono ?_
      rintro e w1 ⟨rfl, hb1⟩
      rw [hv.out, A1.out.1, A1.out.2]
      have bx1 := bx0.past hb1
      have hB1 := Below.past hB0 hb1 hB0.size
      have e0 := (bx1).cell 0
      have e1 := (bx1).cell 1
      have e2 := (bx1).cell 2
      have e3 := (bx1).cell 3
      have e4 := (bx1).cell 4
      have e5 := (bx1).cell 5
      simp at e0 e1 e2 e3 e4 e5
      go_wp2_with fail
      refine (neg_any v H1.out _).mono ?_
      rintro e w' ⟨rfl, rfl⟩
      rw [A2.out.1, A2.out.2]
      go_wp2_with fail
      refine (neg_any t.qty hq _).mono ?_
      rintro e w' ⟨rfl, rfl⟩
      rw [A3.out.1, A3.out.2]
      go_wp2_with fail
      go_ret2
      exact ⟨rfl, hB1⟩
    · have A2 := Lib.hid (amount_out h2)
      clear h h1 h2
      obtain ⟨x, hx⟩ : ∃ v, Hid (amount (-t.qty) = v) := ⟨_, rfl⟩
      obtain ⟨y, hy⟩ : ∃ v, Hid (over (-t.qty) = v) := ⟨_, rfl⟩
      go_enter Try.func101, Try.ntmps101
      go_wp2_with fail
      refine (value_any t hq hp _).mono ?_
      rintro e w1 ⟨rfl, hb1⟩
      rw [hv.out, A1.out.1, A1.out.2]
      have bx1 := bx0.past hb1
      have hB1 := Below.past hB0 hb1 hB0.size
      have e0 := (bx1).cell 0
      have e1 := (bx1).cell 1
      have e2 := (bx1).cell 2
      have e3 := (bx1).cell 3
      have e4 := (bx1).cell 4
      have e5 := (bx1).cell 5
      simp at e0 e1 e2 e3 e4 e5
      go_wp2_with fail
      refine (neg_any v H1.out _).mono ?_
      rintro e w' ⟨rfl, rfl⟩
      rw [A2.out.1, A2.out.2]
      go_wp2_with fail
      refine (neg_any t.qty hq _).mono ?_
      rintro e w' ⟨rfl, rfl⟩
      rw [hx.out, hy.out]
      go_wp2_with fail
      go_ret2
      exact ⟨rfl, hB1⟩
  · have A1 := Lib.hid (amount_out h1)
    clear h h1
    go_enter Try.func101, Try.ntmps101
    go_wp2_with fail
    refine (value_any t hq hp _).mono ?_
    rintro e w1 ⟨rfl, hb1⟩
    rw [hv.out, A1.out.1, A1.out.2]
    go_wp2_with fail
    go_ret2
    exact ⟨rfl, Below.past hB0 hb1 hB0.size⟩

/-- What a member has towards the house, of an asset: its amounts. -/
def owedL (l : List Leg) (m a : Int) : List Int := (l.filter fun x => x.member = m ∧ x.asset = a).map Leg.amount
theorem owedL_snoc (l : List Leg) (x : Leg) (m a : Int) : owedL (l ++ [x]) m a = if x.member = m ∧ x.asset = a then owedL l m a ++ [x.amount] else owedL l m a := by
  unfold owedL
  rw [List.filter_append, List.map_append]
  by_cases h : x.member = m ∧ x.asset = a
  · rw [if_pos h]; simp [h]
  · rw [if_neg h, List.filter_cons_of_neg (by simpa using h)]; simp
theorem owedL_len (l : List Leg) (m a : Int) : (owedL l m a).length ≤ l.length := by unfold owedL; rw [List.length_map]; exact List.length_filter_le _ _
theorem owedL_ok (l : List Leg) (m a : Int) (h : ∀ x ∈ l, inI x.amount) : ∀ x ∈ owedL l m a, inI x := by
  intro x hx
  unfold owedL at hx
  obtain ⟨y, hy, rfl⟩ := List.mem_map.1 hx
  exact h y (List.mem_filter.1 hy).1
theorem i64_info : (Try.prog.info? 2).map (fun i => (i.zero, i.size, i.bytes)) = some (some (.int .i64 0), 1, 8) := by kernel_rfl

set_option maxRecDepth 10000 in
set_option maxHeartbeats 1000000 in
theorem owed_any (A : Option Addr) (n c : Nat) (l : List Leg) (m a : Int) (w : World) (hr : Rd w w.heap.size 3 A n (l.flatMap Leg.cells)) (hn : n ≤ 1000) (hg : ∀ x ∈ l, inI x.amount) :
    Calls Try.prog 49 #[.slice A n c, .int .i64 m, .int .i64 a] w fun e w' => e = .returned (.tuple #[.int .i64 (amount (owedL l m a).sum), .int .i64 (over (owedL l m a).sum)]) ∧ Below w.heap.size w w' := by
  have HL := Lib.hid (hr.len Leg.cells_len (by omega))
  obtain ⟨i0, hi0, hz0, hz1, hz2⟩ := info_parts i64_info
  have HG := Lib.hid hg
  clear hg
  go_enter Try.func49, Try.ntmps49
  go_wp2_with fail
  go_loopw [8, 13] (fun v i wr => ∃ (k : Nat) (acc : List Int), k ≤ n ∧ i = .int .i64 k ∧ Hid (acc = owedL (l.take k) m a) ∧ wr.ownsRow w.heap.size 2 1 v acc.length (acc.flatMap i64Cells) ∧ Below w.heap.size w wr) (fun _ i _ => n - (intOf i).toNat)
  case atStart => exact ⟨0, [], Nat.zero_le _, rfl, rfl, World.ownsRow_nil _ _ _ _, Below.refl _ _⟩
  case round =>
    obtain ⟨k, acc, hk, rfl, hacc, hown, hb⟩ := hrel
    have hs := hb.size
    have hal : acc.length ≤ k := by rw [hacc.out]; exact Nat.le_trans (owedL_len _ _ _) (by simp; omega)
    by_cases hlt : k < n
    · have hg_f : l[k]? = some (l[k]'(by have := HL.out; omega)) := List.getElem?_eq_getElem _
      obtain ⟨b_f, off_f, rfl, hbb_f, hc_f⟩ := (hr.below hb).elem Leg.cells_len hg_f hlt
      have HT_f := Lib.hid (show l.take (k + 1) = l.take k ++ [(l[k]'(by have := HL.out; omega))] from List.take_succ_eq_append_getElem (by have := HL.out; omega))
      have HM_f := Lib.hid (show (l[k]'(by have := HL.out; omega)) ∈ l from List.getElem_mem _)
      generalize (l[k]'(by have := HL.out; omega)) = f at *
      have c0 := hc_f 0 _ rfl
      have c1 := hc_f 1 _ rfl
      have c2 := hc_f 2 _ rfl
      clear hc_f hg_f
      simp only [Nat.add_zero] at c0
      by_cases h1 : f.member = m
      · have q1 : (f.member == m) = true := by simp [h1]
        by_cases h2 : f.asset = a
        · have q2 : (f.asset == a) = true := by simp [h2]
          have HN : Hid (acc ++ [f.amount] = owedL (l.take (k + 1)) m a) := by rw [HT_f.out, owedL_snoc, if_pos ⟨h1, h2⟩, hacc.out]; rfl
          clear h1 h2
          go_wp2_with (at_builtin; refine wpList_append_lit _ _ rfl (.tmp 27) (.tmp 30) 71 rfl w.heap.size 2 i0 _ 1 8 Try.underlying71 hi0 hz0 hz1 hz2 rfl (by decide) _ _ _ rfl (hown.alloc _) _ 1 1 rfl (by simp) rfl (by simp [Value.oneCell']) (by omega) (by omega) (by simp; omega) ?_; intro v' w' hown' hg')
          go_roundw
          case rel => exact ⟨k + 1, acc ++ [f.amount], by omega, by go_num, HN, by simpa [i64Cells] using hown', below_own ((hb.alloc hs _).alloc (by simp; omega) _) hg' hown (by simp; omega) (Nat.le_refl _)⟩
          case measure => simp [intOf]; omega
        · have q2 : (f.asset == a) = false := by simp [h2]
          have HN : Hid (acc = owedL (l.take (k + 1)) m a) := by rw [HT_f.out, owedL_snoc, if_neg (fun h => h2 h.2), hacc.out]; rfl
          clear h1 h2
          go_wp2_with fail
          go_roundw
          case rel => exact ⟨k + 1, acc, by omega, by go_num, HN, hown.alloc _, (hb.alloc hs _)⟩
          case measure => simp [intOf]; omega
      · have q1 : (f.member == m) = false := by simp [h1]
        have HN : Hid (acc = owedL (l.take (k + 1)) m a) := by rw [HT_f.out, owedL_snoc, if_neg (fun h => h1 h.1), hacc.out]; rfl
        clear h1
        go_wp2_with fail
        go_roundw
        case rel => exact ⟨k + 1, acc, by omega, by go_num, HN, hown.alloc _, (hb.alloc hs _)⟩
        case measure => simp [intOf]; omega
    · have hall : l.take k = l := List.take_of_length_le (by have := HL.out; omega)
      rw [hall] at hacc
      clear hall
      have HGA : ∀ x ∈ acc, inI x := by rw [hacc.out]; exact owedL_ok l m a HG.out
      obtain ⟨A', c', rfl⟩ := own_form hown
      have hrd := Rd.of_own hown
      go_wp2_with fail
      refine (sum_any _ _ _ acc _ hrd (by omega) HGA).mono ?_
      rintro e w2 ⟨rfl, hb2⟩
      clear HGA
      go_wp2_with fail
      go_ret2
      rw [← hacc.out]
      exact ⟨rfl, Below.past hb hb2 hs⟩

end Go.Proofs.Ytelbolhckhdioaa
