import Derived.Test.YtfnhffcjhdeleaaMonE
namespace Go.Proofs.Ytfnhffcjhdeleaa
open Go.RowKit

structure Trad where
  id : Int
  buyer : Int
  seller : Int
  sec : Int
  qty : Int
  price : Int
structure Leg where
  member : Int
  asset : Int
  amount : Int
def Leg.cells (x : Leg) : List Value := [.int .i64 x.member, .int .i64 x.asset, .int .i64 x.amount]
theorem Leg.cells_len (x : Leg) : x.cells.length = 3 := rfl

/-- The legs of a trade. -/
def legsOf (t : Trad) : List Leg := [⟨t.buyer, 0, t.qty * t.price⟩, ⟨t.buyer, t.sec, -t.qty⟩, ⟨t.seller, 0, -(t.qty * t.price)⟩, ⟨t.seller, t.sec, t.qty⟩]
def legsIn (t : Trad) : Bool := decide (inI (t.qty * t.price)) && (decide (inI (-(t.qty * t.price))) && decide (inI (-t.qty)))

def LegsRes (t : Trad) (w : World) (e : Ending) (w' : World) : Prop := ∃ A c, e = .returned (.tuple #[.slice A 4 c, .int .i64 0]) ∧ Rd w' w'.heap.size 3 A 4 ((legsOf t).flatMap Leg.cells) ∧ Below w.heap.size w w'

/-- What a member has towards the house, of an asset: its amounts. -/
def owedL (l : List Leg) (m a : Int) : List Int := (l.filter fun x => x.member = m ∧ x.asset = a).map Leg.amount
theorem owedL_snoc (l : List Leg) (x : Leg) (m a : Int) : owedL (l ++ [x]) m a = if x.member = m ∧ x.asset = a then owedL l m a ++ [x.amount] else owedL l m a := by
  unfold owedL
  rw [List.filter_append, List.map_append]
  by_cases h : x.member = m ∧ x.asset = a
  · rw [if_pos h]; simp [h]
  · rw [if_neg h, List.filter_cons_of_neg (by simpa using h)]; simp
theorem owedL_len (l : List Leg) (m a : Int) : (owedL l m a).length ≤ l.length := by unfold owedL; rw [List.length_map]; exact List.length_filter_le _ _
theorem owedL_ok (l : List Leg) (m a : Int) (h : ∀ x ∈ l, inI x.amount) : ∀ x ∈ owedL l m a, inI x := by
  intro x hx
  unfold owedL at hx
  obtain ⟨y, hy, rfl⟩ := List.mem_map.1 hx
  exact h y (List.mem_filter.1 hy).1
theorem i64_info : (Try.prog.info? 2).map (fun i => (i.zero, i.size, i.bytes)) = some (some (.int .i64 0), 1, 8) := by kernel_rfl

set_option maxRecDepth 10000 in
set_option maxHeartbeats 1000000 in
theorem refOwed_any (A : Option Addr) (n c : Nat) (l : List Leg) (m a : Int) (w : World) (hr : Rd w w.heap.size 3 A n (l.flatMap Leg.cells)) (hn : n ≤ 1000) (hg : ∀ x ∈ l, inI x.amount) :
    Calls Try.prog 66 #[.slice A n c, .int .i64 m, .int .i64 a] w fun e w' => e = .returned (.tuple #[.int .i64 (amount (owedL l m a).sum), .int .i64 (over (owedL l m a).sum)]) ∧ Below w.heap.size w w' := by
  have HL := Lib.hid (hr.len Leg.cells_len (by omega))
  obtain ⟨i0, hi0, hz0, hz1, hz2⟩ := info_parts i64_info
  have HG := Lib.hid hg
  clear hg
  go_enter Try.func66, Try.ntmps66
  go_wp2_with fail
  go_loopw [8, 9] (fun v i wr => ∃ (k : Nat) (acc : List Int), k ≤ n ∧ i = .int .i64 k ∧ Hid (acc = owedL (l.take k) m a) ∧ wr.ownsRow w.heap.size 2 1 v acc.length (acc.flatMap i64Cells) ∧ Below w.heap.size w wr) (fun _ i _ => n - (intOf i).toNat)
  case atStart => exact ⟨0, [], Nat.zero_le _, rfl, rfl, World.ownsRow_nil _ _ _ _, Below.refl _ _⟩
  case round =>
    obtain ⟨k, acc, hk, rfl, hacc, hown, hb⟩ := hrel
    have hs := hb.size
    have hal : acc.length ≤ k := by rw [hacc.out]; exact Nat.le_trans (owedL_len _ _ _) (by simp; omega)
    by_cases hlt : k < n
    · have hg_f : l[k]? = some (l[k]'(by have := HL.out; omega)) := List.getElem?_eq_getElem _
      obtain ⟨b_f, off_f, rfl, hbb_f, hc_f⟩ := (hr.below hb).elem Leg.cells_len hg_f hlt
      have HT_f := Lib.hid (show l.take (k + 1) = l.take k ++ [(l[k]'(by have := HL.out; omega))] from List.take_succ_eq_append_getElem (by have := HL.out; omega))
      have HM_f := Lib.hid (show (l[k]'(by have := HL.out; omega)) ∈ l from List.getElem_mem _)
      generalize (l[k]'(by have := HL.out; omega)) = f at *
      have c0 := hc_f 0 _ rfl
      have c1 := hc_f 1 _ rfl
      have c2 := hc_f 2 _ rfl
      clear hc_f hg_f
      simp only [Nat.add_zero] at c0
      by_cases h1 : f.member = m
      · have q1 : (f.member == m) = true := by simp [h1]
        by_cases h2 : f.asset = a
        · have q2 : (f.asset == a) = true := by simp [h2]
          have HN : Hid (acc ++ [f.amount] = owedL (l.take (k + 1)) m a) := by rw [HT_f.out, owedL_snoc, if_pos ⟨h1, h2⟩, hacc.out]; rfl
          clear h1 h2
          go_wp2_with (at_builtin; refine wpList_append_lit _ _ rfl (.tmp 32) (.tmp 38) 35 rfl w.heap.size 2 i0 _ 1 8 Try.underlying35 hi0 hz0 hz1 hz2 rfl (by decide) _ _ _ rfl (hown) _ 1 1 rfl (by simp) rfl (by simp [Value.oneCell']) (by omega) (by omega) (by omega) ?_; intro v' w' hown' hg')
          go_roundw
          case rel => exact ⟨k + 1, acc ++ [f.amount], by omega, by go_num, HN, by simpa [i64Cells] using hown', below_own (hb.alloc (by omega) _) hg' hown (by simp; omega) (Nat.le_refl _)⟩
          case measure => simp [intOf]; omega
        · have q2 : (f.asset == a) = false := by simp [h2]
          have HN : Hid (acc = owedL (l.take (k + 1)) m a) := by rw [HT_f.out, owedL_snoc, if_neg (fun h => h2 h.2), hacc.out]; rfl
          clear h1 h2
          go_wp2_with fail
          go_roundw
          case rel => exact ⟨k + 1, acc, by omega, by go_num, HN, hown, hb⟩
          case measure => simp [intOf]; omega
      · have q1 : (f.member == m) = false := by simp [h1]
        have HN : Hid (acc = owedL (l.take (k + 1)) m a) := by rw [HT_f.out, owedL_snoc, if_neg (fun h => h1 h.1), hacc.out]; rfl
        clear h1
        go_wp2_with fail
        go_roundw
        case rel => exact ⟨k + 1, acc, by omega, by go_num, HN, hown, hb⟩
        case measure => simp [intOf]; omega
    · have hall : l.take k = l := List.take_of_length_le (by have := HL.out; omega)
      rw [hall] at hacc
      clear hall
      have HGA : ∀ x ∈ acc, inI x := by rw [hacc.out]; exact owedL_ok l m a HG.out
      obtain ⟨A', c', rfl⟩ := own_form hown
      have hrd := Rd.of_own hown
      go_wp2_with fail
      refine (refSum_any _ _ _ acc _ hrd (by omega) HGA).mono ?_
      rintro e w2 ⟨rfl, rfl⟩
      clear HGA
      go_wp2_with fail
      go_ret2
      rw [← hacc.out]
      exact ⟨rfl, hb⟩

end Go.Proofs.Ytfnhffcjhdeleaa
