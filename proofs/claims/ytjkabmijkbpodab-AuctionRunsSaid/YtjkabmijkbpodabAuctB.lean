import Derived.Test.YtjkabmijkbpodabAuctA
namespace Go.Proofs.Ytjkabmijkbpodab
open Go.RowKit

/-- How many units of a bid are taken. -/
def takeN (b : Bid) (l m : Int) : Int := if m / b.price < (if l < b.qty then l else b.qty) then m / b.price else if l < b.qty then l else b.qty

/-- Which bids are taken, of l lacking units, with m cash. -/
def runA : List Bid → Int → Int → List Fill
  | [], _, _ => []
  | b :: bs, l, m => if l = 0 then [] else if takeN b l m = 0 then runA bs l m else ⟨b, takeN b l m, takeN b l m * b.price⟩ :: runA bs (l - takeN b l m) (m - takeN b l m * b.price)

theorem fill_info : (Try.prog.info? 36).map (fun i => (i.zero, i.size, i.bytes)) = some (some (.agg #[.int .i64 0, .int .i64 0, .int .i64 0, .int .i64 0, .int .i64 0, .int .i64 0, .int .i64 0]), 7, 56) := by kernel_rfl

theorem takeN_bd (b : Bid) (l m : Int) (hb : b.bad = false) (hl : 0 ≤ l) (hm : 0 ≤ m) : 0 ≤ takeN b l m ∧ takeN b l m ≤ l ∧ takeN b l m ≤ b.qty ∧ 0 ≤ takeN b l m * b.price ∧ takeN b l m * b.price ≤ m := by
  simp [Bid.bad] at hb
  obtain ⟨h1, h2⟩ := hb
  have hq : 0 ≤ m / b.price := Int.ediv_nonneg hm (by omega)
  have h3 : takeN b l m ≤ m / b.price := by unfold takeN; omega
  have h4 : 0 ≤ takeN b l m := by unfold takeN; omega
  have h5 : takeN b l m * b.price ≤ (m / b.price) * b.price := Int.mul_le_mul_of_nonneg_right h3 (by omega)
  have h6 : (m / b.price) * b.price ≤ m := Int.ediv_mul_le m (by omega)
  exact ⟨h4, by unfold takeN; omega, by unfold takeN; omega, Int.mul_nonneg h4 (by omega), by omega⟩

/-- What holds at the head of each round of the auction. -/
def RunRel (w : World) (bs : List Bid) (n : Nat) (l m : Int) (sl sm so si : Value) (wr : World) : Prop :=
  ∃ (k : Nat) (lk mk : Int) (acc : List Fill), k ≤ n ∧ si = .int .i64 k ∧ sl = .int .i64 lk ∧ sm = .int .i64 mk ∧ 0 ≤ lk ∧ lk ≤ l ∧ 0 ≤ mk ∧ mk ≤ m ∧ acc.length ≤ k ∧
    runA bs l m = acc ++ runA (bs.drop k) lk mk ∧ wr.ownsRow w.heap.size 36 7 so acc.length (acc.flatMap Fill.cells) ∧ Below w.heap.size w wr

set_option maxRecDepth 100000 in
set_option maxHeartbeats 1000000 in
theorem run_any (A : Option Addr) (n c : Nat) (bs : List Bid) (l m : Int) (w : World) (hr : Rd w w.heap.size 5 A n (bs.flatMap Bid.cells)) (hn : n ≤ 1024) (hl : 0 ≤ l) (hm : 0 ≤ m) (hg : bs.any Bid.bad = false)
   (hl' : l ≤ 9223372036854775807) (hm' : m ≤ 9223372036854775807) :
    Calls Try.prog 12 #[.slice A n c, .int .i64 l, .int .i64 m] w fun e w' => ∃ v, e = .returned (.tuple #[v, .int .i64 0]) ∧ w'.ownsRow w.heap.size 36 7 v (runA bs l m).length ((runA bs l m).flatMap Fill.cells) ∧ Below w.heap.size w w' := by
  have HL := Lib.hid (hr.len Bid.cells_len (by omega))
  have HG := Lib.hid hg
  have HC := Lib.hid (show checkA bs l m = 0 by unfold checkA; rw [if_neg (by have := HL.out; omega), if_neg (by simp [hg]; omega)])
  obtain ⟨i0, hi0, hz0, hz1, hz2⟩ := info_parts fill_info
  clear hg
  go_enter Try.func12, Try.ntmps12
  go_wp2_with fail
  go_step3
  go_wp2_with fail
  refine (check_any A n c bs l m _ hr hn).mono ?_
  rw [HC.out]
  rintro e w1 ⟨rfl, hb1⟩
  go_wp2
  go_step3
  go_wp2
  go_loopw [1, 2, 9, 22] (RunRel w bs n l m) (fun _ _ _ i _ => n - (intOf i).toNat)
  case atStart => exact ⟨0, l, m, [], Nat.zero_le _, rfl, rfl, rfl, hl, Int.le_refl _, hm, Int.le_refl _, Nat.le_refl _, rfl, World.ownsRow_nil _ _ _ _, hb1⟩
  case round =>
    obtain ⟨k, lk, mk, acc, hk, rfl, rfl, rfl, hl0, hl1, hm0, hm1, hacc, hrun, hown, hb⟩ := hrel
    have HR := Lib.hid hrun
    clear hrun
    by_cases hlt : k < n
    · have hge : bs[k]? = some (bs[k]'(by have := HL.out; omega)) := List.getElem?_eq_getElem _
      obtain ⟨b, off, rfl, hbb, hc⟩ := (hr.below hb).elem Bid.cells_len hge hlt
      have HT := Lib.hid (show bs.drop k = (bs[k]'(by have := HL.out; omega)) :: bs.drop (k + 1) from List.drop_eq_getElem_cons (by have := HL.out; omega))
      have hgood : (bs[k]'(by have := HL.out; omega)).bad = false := by
        have := List.any_eq_false.1 HG.out _ (List.getElem_mem (l := bs) (n := k) (by have := HL.out; omega))
        simpa using this
      generalize bs[k]'(by have := HL.out; omega) = f at *
      have ht := takeN_bd f lk mk hgood hl0 hm0
      have hp : 1 ≤ f.price ∧ 1 ≤ f.qty := by simp [Bid.bad] at hgood; omega
      obtain ⟨hp1, hp2⟩ := hp
      clear hgood
      have c0 := hc 0 _ rfl
      have c1 := hc 1 _ rfl
      have c2 := hc 2 _ rfl
      have c3 := hc 3 _ rfl
      have c4 := hc 4 _ rfl
      clear hc hge
      simp only [Nat.add_zero] at c0
      by_cases hz : lk = 0
      · have q1 : (lk == 0) = true := by simp [hz]
        have HZ := Lib.hid hz
        clear hz
        go_wp2_with fail
        go_quiet (fail)
        generalize (if mk / f.price < if lk < f.qty then lk else f.qty then mk / f.price else if lk < f.qty then lk else f.qty) = t
        go_wp2_with fail
        rw [Exit.noGoto_ret]
        go_ret2
        refine ⟨_, rfl, ?_, ?_⟩
        · rw [HR.out, HT.out, runA, if_pos HZ.out, List.append_nil]
          exact own_drewN (hown.alloc _) _
        · exact below_drewN (hb.alloc hb.size _) _
      have q1 : (lk == 0) = false := by simp [hz]
      have HZ := Lib.hid hz
      clear hz
      go_wp2_with fail
      go_quiet (fail)
      generalize hT : (if mk / f.price < if lk < f.qty then lk else f.qty then mk / f.price else if lk < f.qty then lk else f.qty) = t
      have HQ : Hid (takeN f lk mk = t) := hT
      clear hT
      rw [HQ.out] at ht
      obtain ⟨t0, t1, t2, t3, t4⟩ := ht
      by_cases hz : t = 0
      · have q2 : (t == 0) = true := by simp [hz]
        have HZ2 := Lib.hid hz
        clear hz
        go_wp2_with fail
        go_roundw
        case rel =>
          refine ⟨k + 1, lk, mk, acc, by omega, by go_num, rfl, rfl, hl0, hl1, hm0, hm1, by omega, ?_, own_drewN (hown.alloc _) _, below_drewN (hb.alloc hb.size _) _⟩
          rw [HR.out, HT.out, runA, if_neg HZ.out, if_pos (HQ.out.trans HZ2.out)]
        case measure => simp [intOf]; omega
      · have q2 : (t == 0) = false := by simp [hz]
        have HZ2 := Lib.hid hz
        clear hz
        have hsz := hb.size
        go_wp2_with (at_builtin; refine wpList_append_lit _ _ rfl (.tmp 40) (.tmp 48) 24 rfl w.heap.size 36 i0 _ 7 56 Try.underlying24 hi0 hz0 hz1 hz2 rfl (by decide) _ _ _ rfl (own_drewN (hown.alloc _) _) _ 1 1 rfl (by simp) rfl (by simp [Value.oneCell']) (by omega) (by omega) (by simp; omega) ?_; intro v' w' hown' hg'; have d4 : w'.cell? ⟨wr.heap.size, 4, none⟩ = some (.int .i64 f.price) := (cell_far hg' hown wr.heap.size 4 (Nat.le_refl _) (by simp; omega)).trans (by go_simp))
        go_roundw
        case rel =>
          refine ⟨k + 1, lk - t, mk - t * f.price, acc ++ [⟨f, t, t * f.price⟩], by omega, by go_num, rfl, rfl, by omega, by omega, by omega, by omega, by simp; omega, ?_, ?_, ?_⟩
          · rw [HR.out, HT.out, runA, if_neg HZ.out, if_neg (by rw [HQ.out]; exact HZ2.out), HQ.out]; simp
          · simpa [Fill.cells] using hown'
          · exact below_own (below_drewN (hb.alloc hsz _) _ |>.alloc (by simp; omega) _) hg' hown (by simp; omega) (Nat.le_refl _)
        case measure => simp [intOf]; omega
    · go_wp2_with fail
      rw [Exit.noGoto_ret]
      go_ret2
      refine ⟨_, rfl, ?_, hb⟩
      rw [HR.out, List.drop_of_length_le (by have := HL.out; omega), runA, List.append_nil]
      exact hown
end Go.Proofs.Ytjkabmijkbpodab
