import Derived.Test.YtjkabmijkbpodaaAuctC
namespace Go.Proofs.Ytjkabmijkbpodaa
open Go.RowKit

set_option maxRecDepth 100000 in
set_option maxHeartbeats 1000000 in
theorem run_bad (A : Option Addr) (n c : Nat) (bs : List Bid) (l m : Int) (w : World) (hr : Rd w w.heap.size 5 A n (bs.flatMap Bid.cells)) (hn : n ≤ 1024) (hc : checkA bs l m ≠ 0) :
    Calls Try.prog 13 #[.slice A n c, .int .i64 l, .int .i64 m] w fun e w' => e = .returned (.tuple #[.slice none 0 0, .int .i64 (checkA bs l m)]) ∧ Below w.heap.size w w' := by
  have q : (checkA bs l m != 0) = true := by simpa using hc
  generalize hx : checkA bs l m = x at *
  have HX := Lib.hid hx
  clear hx hc
  go_enter Try.func13, Try.ntmps13
  go_wp2_with fail
  go_step3
  go_wp2_with fail
  refine (check_any A n c bs l m _ hr hn).mono ?_
  rw [HX.out]
  rintro e w1 ⟨rfl, hb1⟩
  go_wp2
  rw [Exit.noGoto_ret]
  go_ret2
  exact ⟨rfl, hb1⟩

/-- The page's bids. -/
def page : List Bid := [⟨1, 0, 0, 5, 10⟩, ⟨2, 0, 0, 5, 11⟩]
def pageFills : List Fill := [⟨⟨1, 0, 0, 5, 10⟩, 5, 50⟩, ⟨⟨2, 0, 0, 5, 11⟩, 1, 11⟩]
theorem page_run : runA page 7 64 = pageFills := rfl
theorem page_units : sumW (pageFills.map Fill.qty) = 6 := by rw [sumW_eq _ (by decide) (by decide)]; rfl
theorem page_cost : sumW (pageFills.map Fill.cost) = 61 := by rw [sumW_eq _ (by decide) (by decide)]; rfl
theorem page_ok : page.any Bid.bad = false := by decide

set_option maxRecDepth 100000 in
set_option maxHeartbeats 1000000 in
theorem awake25 (w : World) : Calls Try.prog 12 #[] w fun e w' => e = .returned (.bool true) ∧ Below w.heap.size w w' := by
  go_enter Try.func12, Try.ntmps12
  go_wp2_with fail
  refine (run_any _ 2 2 page 7 64 _ (Rd.lit w _ _ _ rfl rfl) (by omega) (by omega) (by omega) page_ok (by omega) (by omega)).mono ?_
  rw [page_run]
  rintro e w1 ⟨v, rfl, hown, hb1⟩
  obtain ⟨g, cap, rfl, _, hlt⟩ := hown.form (by decide)
  have hcs := hown.cells (g := g) rfl
  have c5 := hcs 5 _ rfl
  have c6 := hcs 6 _ rfl
  have c7 := hcs 7 _ rfl
  have c12 := hcs 12 _ rfl
  have c13 := hcs 13 _ rfl
  simp only [Addr.add, Nat.reduceEqDiff, if_false, Nat.zero_add] at c5 c6 c7 c12 c13
  have hrd := Rd.of_own hown
  have hsz : w.heap.size ≤ w1.heap.size := by have := hb1.size; simp at this; omega
  clear hcs
  go_wp2_with fail
  refine (units_any _ _ _ pageFills _ hrd (by decide)).mono ?_
  rw [page_units]
  rintro e w2 ⟨rfl, hb2⟩
  go_wp2_with fail
  refine (cost_any _ _ _ pageFills _ (hrd.past hb2) (by decide)).mono ?_
  rw [page_cost]
  rintro e w3 ⟨rfl, hb3⟩
  go_wp2_with fail
  go_ret
  refine ⟨rfl, ?_⟩
  have h0 : Below w.heap.size w w1 := (((Below.refl _ _).alloc (Nat.le_refl _) _).trans (hb1.mono (by simp)))
  exact Below.past (Below.past h0 hb2 hsz) hb3 (by have := hb2.size; omega)

def Bid.agg (b : Bid) : Array Value := #[.int .i64 b.seq, .int .i64 b.member, .int .i64 b.sec, .int .i64 b.qty, .int .i64 b.price]
theorem bid_ne (x y : Bid) (h : x ≠ y) (w : World) : (binOp .eql 30 (.agg #[.int .i64 x.seq, .int .i64 x.member, .int .i64 x.sec, .int .i64 x.qty, .int .i64 x.price]) (.agg #[.int .i64 y.seq, .int .i64 y.member, .int .i64 y.sec, .int .i64 y.qty, .int .i64 y.price])).run Try.prog w = .ok (.bool false) w := by
  have h' : ¬ (x.seq = y.seq ∧ x.member = y.member ∧ x.sec = y.sec ∧ x.qty = y.qty ∧ x.price = y.price) := by
    rintro ⟨h1, h2, h3, h4, h5⟩; apply h; cases x; cases y; simp_all
  go_simp
  by_cases h1 : x.seq = y.seq <;> by_cases h2 : x.member = y.member <;> by_cases h3 : x.sec = y.sec <;> by_cases h4 : x.qty = y.qty <;> by_cases h5 : x.price = y.price <;> simp [*] at * 

/-- What holds at the head of each round of the law's loop. -/
def BndRel (w : World) (bs : List Bid) (n : Nat) (l m : Int) (sa si : Value) (wr : World) : Prop :=
  ∃ (k a : Nat) (lk mk : Int), k ≤ n ∧ si = .int .i64 k ∧ sa = .int .i64 a ∧ a ≤ k ∧ Seen (runA bs l m) bs l m k a lk mk ∧ Below w.heap.size w wr

set_option maxRecDepth 100000 in
set_option maxHeartbeats 1000000 in
theorem bounds_good (A : Option Addr) (n c : Nat) (bs : List Bid) (l m : Int) (w : World) (hr : Rd w w.heap.size 5 A n (bs.flatMap Bid.cells)) (hn : n ≤ 40) (hl : 0 ≤ l) (hm : 0 ≤ m) (hg : bs.any Bid.bad = false)
    (hl' : l ≤ 9223372036854775807) (hm' : m ≤ 9223372036854775807) :
    Calls Try.prog 3 #[.slice A n c, .int .i64 l, .int .i64 m] w fun e w' => e = .returned (.bool true) ∧ Below w.heap.size w w' := by
  have HL := Lib.hid (hr.len Bid.cells_len (by omega))
  have hbd := runA_bd bs l m hg hl hm
  have HG := Lib.hid hg
  clear hg
  have HS := Lib.hid (Seen.start bs l m hl hm)
  have h0 : decide ((40 : Int) < n) = false := by simp; omega
  go_enter Try.func3, Try.ntmps3
  go_wp2_with fail
  refine (run_any A n c bs l m _ hr (by omega) hl hm HG.out hl' hm').mono ?_
  generalize hR : runA bs l m = R at *
  rintro e w1 ⟨v, rfl, hown, hb1⟩
  have HR := Lib.hid hR
  clear hR
  obtain ⟨q0, q1, c0, c1, _, hpos⟩ := hbd
  have hRl : R.length ≤ 40 := by have := runA_len bs l m; rw [HR.out] at this; have := HL.out; omega
  have HQ := Lib.hid (show sumW (R.map Fill.qty) = qs R from sumW_eq _ (by intro x hx; obtain ⟨f, hf, rfl⟩ := List.mem_map.1 hx; exact (hpos f hf).1) (by show qs R ≤ _; omega))
  have HC := Lib.hid (show sumW (R.map Fill.cost) = cs R from sumW_eq _ (by intro x hx; obtain ⟨f, hf, rfl⟩ := List.mem_map.1 hx; exact (hpos f hf).2) (by show cs R ≤ _; omega))
  clear hpos
  obtain ⟨A', cap, rfl⟩ := own_form hown
  have hrd := Rd.of_own hown
  have hs1 := hb1.size
  go_wp2_with fail
  refine (units_any _ _ _ R _ hrd (by omega)).mono ?_
  rw [HQ.out]
  rintro e w2 ⟨rfl, hb2⟩
  have hs2 := hb2.size
  go_wp2_with fail
  refine (cost_any _ _ _ R _ (hrd.past hb2) (by omega)).mono ?_
  rw [HC.out]
  rintro e w3 ⟨rfl, hb3⟩
  have hs3 := hb3.size
  have hrR := (hrd.past hb2).past hb3
  have hB : Below w.heap.size w w3 := Below.past (Below.past hb1 hb2 hs1) hb3 (by omega)
  have hr3 := hr.past hB
  clear hrd hb1 hb2 hb3 hown
  go_wp2_with fail
  go_loopw [11, 12] (BndRel w3 bs n l m) (fun _ i _ => n - (intOf i).toNat)
  case atStart => exact ⟨0, 0, l, m, Nat.zero_le _, rfl, rfl, Nat.le_refl _, by rw [HR.out]; exact HS.out, Below.refl _ _⟩
  case round =>
    obtain ⟨k, a, lk, mk, hk, rfl, rfl, hak, hseen, hb⟩ := hrel
    rw [HR.out] at hseen
    by_cases hlt : k < n
    · have hge : bs[k]? = some (bs[k]'(by have := HL.out; omega)) := List.getElem?_eq_getElem _
      obtain ⟨b, off, rfl, hbb, hc⟩ := (hr3.below hb).elem Bid.cells_len hge hlt
      have hT : bs.drop k = (bs[k]'(by have := HL.out; omega)) :: bs.drop (k + 1) := List.drop_eq_getElem_cons (by have := HL.out; omega)
      have hst := hseen.step HG.out hT
      generalize bs[k]'(by have := HL.out; omega) = f at *
      have e0 := hc 0 _ rfl
      have e1 := hc 1 _ rfl
      have e2 := hc 2 _ rfl
      have e3 := hc 3 _ rfl
      have e4 := hc 4 _ rfl
      clear hc hge hT
      simp only [Nat.add_zero] at e0
      rcases hst with ⟨x, hx, hxb, hx0, hx1, hxn, lk', mk', hnext⟩ | ⟨hx, hx0, hxn, lk', mk', hnext⟩
      · have hal : a < R.length := (List.getElem?_eq_some_iff.1 hx).1
        obtain ⟨b', off', rfl, hbb', hc'⟩ := (hrR.below hb).elem Fill.cells_len hx hal
        subst hxb
        have d0 := hc' 0 _ rfl
        have d1 := hc' 1 _ rfl
        have d2 := hc' 2 _ rfl
        have d3 := hc' 3 _ rfl
        have d4 := hc' 4 _ rfl
        have d5 := hc' 5 _ rfl
        simp only [Nat.add_zero] at d0
        clear hc'
        have HX := Lib.hid hx
        clear hx
        have g1 : decide ((a : Int) < R.length) = true := by simp; omega
        have HN := Lib.hid hnext
        clear hnext hseen
        go_wp2_with fail
        go_quiet (fail)
        go_wp2_with fail
        all_goals
          go_roundw
          case rel => exact ⟨k + 1, a + 1, lk', mk', by omega, by go_num, by go_num, by omega, by rw [HR.out]; exact HN.out, below_drewN hb _⟩
          case measure => simp [intOf]; omega
      · have HN := Lib.hid hnext
        clear hnext hseen
        by_cases hal : a < R.length
        · obtain ⟨x, HX⟩ : ∃ x, Hid (R[a]? = some x) := ⟨_, List.getElem?_eq_getElem hal⟩
          have hne := hx x HX.out
          obtain ⟨b', off', rfl, hbb', hc'⟩ := (hrR.below hb).elem Fill.cells_len HX.out hal
          have d0 := hc' 0 _ rfl
          have d1 := hc' 1 _ rfl
          have d2 := hc' 2 _ rfl
          have d3 := hc' 3 _ rfl
          have d4 := hc' 4 _ rfl
          have d5 := hc' 5 _ rfl
          simp only [Nat.add_zero] at d0
          clear hc' hx
          have HE := Lib.hid hne
          clear hne
          have g1 : decide ((a : Int) < R.length) = true := by simp; omega
          have hq := bid_ne x.bid f HE.out
          go_wp2_with fail
          go_quiet (fail)
          go_wp2_with fail
          all_goals
            go_roundw
            case rel => exact ⟨k + 1, a, lk', mk', by omega, by go_num, rfl, by omega, by rw [HR.out]; exact HN.out, below_drewN hb _⟩
            case measure => simp [intOf]; omega
        · have g1 : decide ((a : Int) < R.length) = false := by simp; omega
          clear hx
          go_wp2_with fail
          go_quiet (fail)
          go_wp2_with fail
          all_goals
            go_roundw
            case rel => exact ⟨k + 1, a, lk', mk', by omega, by go_num, rfl, by omega, by rw [HR.out]; exact HN.out, below_drewN hb _⟩
            case measure => simp [intOf]; omega
    · have hdone : ((a : Int) == R.length) = true := by
        have h1 := hseen.done (by have := HL.out; omega)
        simp [h1]
      clear hseen
      go_wp2_with fail
      refine (awake25 _).mono ?_
      rintro e w4 ⟨rfl, hb4⟩
      go_wp2_with fail
      go_ret
      exact ⟨rfl, Below.past (Below.past hB hb (by omega)) hb4 (by have := hb.size; omega)⟩

set_option maxRecDepth 100000 in
set_option maxHeartbeats 1000000 in
theorem bounds_bad (A : Option Addr) (n c : Nat) (bs : List Bid) (l m : Int) (w : World) (hr : Rd w w.heap.size 5 A n (bs.flatMap Bid.cells)) (hn : n ≤ 40) (hc : checkA bs l m ≠ 0) :
    Calls Try.prog 3 #[.slice A n c, .int .i64 l, .int .i64 m] w fun e w' => e = .returned (.bool true) ∧ Below w.heap.size w w' := by
  have q : (checkA bs l m != 0) = true := by simpa using hc
  have h0 : decide ((40 : Int) < n) = false := by simp; omega
  have h1 := run_bad A n c bs l m w hr (by omega) hc
  generalize checkA bs l m = x at *
  have H1 := Lib.hid h1
  clear hc h1
  go_enter Try.func3, Try.ntmps3
  go_wp2_with fail
  refine H1.out.mono ?_
  rintro e w1 ⟨rfl, hb1⟩
  go_wp2_with fail
  refine (awake25 _).mono ?_
  rintro e w2 ⟨rfl, hb2⟩
  go_wp2_with fail
  go_ret
  exact ⟨rfl, Below.past hb1 hb2 hb1.size⟩

set_option maxHeartbeats 1000000 in
theorem bounds_long (A : Option Addr) (n c : Nat) (l m : Int) (w : World) (hn : 40 < n) :
    Calls Try.prog 3 #[.slice A n c, .int .i64 l, .int .i64 m] w fun e w' => e = .returned (.bool true) ∧ Below w.heap.size w w' := by
  have h0 : decide ((40 : Int) < n) = true := by simp; omega
  go_enter Try.func3, Try.ntmps3
  go_wp2_with fail
  refine (awake25 _).mono ?_
  rintro e w2 ⟨rfl, hb2⟩
  go_wp2_with fail
  go_ret
  exact ⟨rfl, hb2⟩
end Go.Proofs.Ytjkabmijkbpodaa
