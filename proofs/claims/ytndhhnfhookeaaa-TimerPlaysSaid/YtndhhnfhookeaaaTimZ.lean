import Derived.Test.YtndhhnfhookeaaaTimR
import Derived.Test.YtndhhnfhookeaaaTimY
namespace Go.Proofs.Ytndhhnfhookeaaa
open Go.RowKit

theorem dueN_late {now : Int} {x : Tim} {r : List Tim} (h : ¬ x.due ≤ now) : dueN now (x :: r) = 0 := by
  unfold dueN; rw [List.takeWhile_cons, if_neg (by simp [dueP]; omega)]; rfl
/-- A call on both tells the same, whatever it is. -/
theorem does_any (B g : Nat) (room rm : Int) (A : Option Addr) (n c : Nat) (ts : List Tim) (K : Int) (t : Tim) (w : World) (hq : WQ w B g room A n c ts) (hn : n ≤ 100) (hg : B ≤ g) (hB : B ≤ w.heap.size) (hrm : room = max rm 0) :
    Calls Try.prog 23 #[.pointer (some ⟨g, 0, none⟩), .slice A n c, .int .i64 rm, .agg #[.int .i64 K, .int .i64 t.due, .int .i64 t.kind, .int .i64 t.mem, .int .i64 t.lev]] w (DoesPost B g room w n) := by
  by_cases k0 : K = 0
  · subst k0
    cases hh : hasT ts t with
    | true => exact does_twice B g room rm A n c ts t w hq hn hg hB hh
    | false =>
      by_cases hr : room ≤ n
      · exact does_full B g room rm A n c ts t w hq hn hg hB hh hr (by omega)
      · exact does_new B g room rm A n c ts t w hq hn hg hB hh hr (by omega)
  by_cases k1 : K = 1
  · subst k1
    cases hh : hasT ts t with
    | true => exact does_cyes B g room rm A n c ts t w hq hn hg hB hh
    | false => exact does_cnone B g room rm A n c ts t w hq hn hg hB hh
  by_cases k2 : K = 2
  · subst k2
    exact does_drop B g room rm A n c ts t w hq hn hg hB
  by_cases k3 : K = 3
  · subst k3
    exact does_fire B g room rm A n c ts t w hq hn hg hB
  have q0 : (K == 0) = false := by simpa using k0
  have q1 : (K == 1) = false := by simpa using k1
  have q2 : (K == 2) = false := by simpa using k2
  have q3 : (K == 3) = false := by simpa using k3
  by_cases hd : dueN t.due (sortT ts) = 0
  · exact does_fnone B g room rm A n c ts t K w hq hn hg hB q0 q1 q2 q3 hd
  · cases hs : sortT ts with
    | nil => rw [hs] at hd; exact absurd rfl hd
    | cons x r =>
      by_cases hx : x.due ≤ t.due
      · exact does_fyes B g room rm A n c ts t K w hq hn hg hB q0 q1 q2 q3 x r hs hx
      · rw [hs] at hd; exact absurd (dueN_late hx) hd

/-! ### The law's loop -/
structure ActV where
  kind : Int
  t : Tim
def ActV.cells (x : ActV) : List Value := [.int .i64 x.kind, .int .i64 x.t.due, .int .i64 x.t.kind, .int .i64 x.t.mem, .int .i64 x.t.lev]
theorem ActV.cells_len (x : ActV) : x.cells.length = 5 := rfl

set_option maxHeartbeats 1000000 in
theorem timerPlays_long (room : Int) (A : Option Addr) (n cp : Nat) (w : World) (h : 60 < n) :
    Calls Try.prog 4 #[.int .i64 room, .slice A n cp] w fun e w' => e = .returned (.bool true) ∧ Below w.heap.size w w' := by
  have q1 : (60 : Int) < (n : Int) := by omega
  go_enter Try.func4, Try.ntmps4
  go_wp2_with fail
  refine (awake21 _).mono ?_
  rintro e w1 ⟨rfl, hb⟩
  go_wp2_with fail
  go_ret
  exact ⟨rfl, hb⟩

set_option maxHeartbeats 8000000 in
set_option maxRecDepth 100000 in
theorem timerPlays_few (room : Int) (A : Option Addr) (n cp : Nat) (l : List ActV) (w : World) (hr : Rd w w.heap.size 5 A n (l.flatMap ActV.cells)) (hn : n ≤ 60) :
    Calls Try.prog 4 #[.int .i64 room, .slice A n cp] w fun e w' => e = .returned (.bool true) ∧ Below w.heap.size w w' := by
  have q1 : ¬ (60 : Int) < (n : Int) := by omega
  have HL := Lib.hid (hr.len ActV.cells_len (by omega))
  obtain ⟨R, hR⟩ : ∃ R, Hid (R = max room 0) := ⟨_, Lib.hid rfl⟩
  have HN := Lib.hid (timerNew_any room w)
  go_enter Try.func4, Try.ntmps4
  go_wp2_with fail
  refine HN.out.mono ?_
  rintro e w1 ⟨rfl, hW, hb1⟩
  have HQ : Hid (WQ w1 w.heap.size w.heap.size R none 0 0 []) := by
    obtain ⟨v, hv⟩ := hW.out.whv
    exact Lib.hid ⟨⟨v, by rw [hR.out]; exact hv, fun h => absurd h (by omega)⟩, Rd.nil _ _ _ _, Nat.le_refl _, List.Pairwise.nil⟩
  have hs1 := hb1.size
  clear hW
  go_wp2_with fail
  go_loopw [6, 7, 8, 9] (fun q i _ _ wr => ∃ (k m c' : Nat) (A' : Option Addr) (ts : List Tim), k ≤ n ∧ m ≤ k ∧ i = .int .i64 k ∧ q = .slice A' m c' ∧ Hid (WQ wr w.heap.size w.heap.size R A' m c' ts) ∧ Below w.heap.size w wr) (fun _ i _ _ _ => n - (intOf i).toNat)
  case atStart => exact ⟨0, 0, 0, none, [], Nat.zero_le _, Nat.le_refl _, rfl, rfl, HQ, hb1⟩
  case round =>
    obtain ⟨k, m, c', A', ts, hk, hmk, rfl, rfl, HW, hb⟩ := hrel
    have hsb := hb.size
    by_cases hlt : k < n
    · have hlz : (k : Int) < (n : Int) := by omega
      have hg_f : l[k]? = some (l[k]'(by have := HL.out; omega)) := List.getElem?_eq_getElem _
      obtain ⟨b_f, off_f, rfl, hbb_f, hc_f⟩ := (hr.below hb).elem ActV.cells_len hg_f hlt
      have HT_f := Lib.hid (show l.take (k + 1) = l.take k ++ [(l[k]'(by have := HL.out; omega))] from List.take_succ_eq_append_getElem (by have := HL.out; omega))
      have HM_f := Lib.hid (show (l[k]'(by have := HL.out; omega)) ∈ l from List.getElem_mem _)
      generalize (l[k]'(by have := HL.out; omega)) = f at *
      have c0 := hc_f 0 _ rfl
      have c1 := hc_f 1 _ rfl
      have c2 := hc_f 2 _ rfl
      have c3 := hc_f 3 _ rfl
      have c4 := hc_f 4 _ rfl
      clear hc_f hg_f
      simp only [Nat.add_zero] at c0
      have HD := Lib.hid (does_any w.heap.size w.heap.size R room A' m c' ts f.kind f.t wr HW.out (by omega) (Nat.le_refl _) hsb hR.out)
      clear hb1
      go_wp2_with fail
      refine HD.out.mono ?_
      rintro e w2 ⟨A2, m2, c2, ts2, rfl, hq2, hm2, hb2⟩
      have HQ2 := Lib.hid hq2
      have hlen2 := hq2.len
      obtain ⟨v2, hv2, _⟩ := hq2.wh
      have HA := Lib.hid (all_any w.heap.size R w.heap.size ts2 w2 hv2.wh (by omega))
      have hbb := Below.trans hb hb2
      have hs2 := hb2.size
      clear hq2 hv2 hb hb2
      go_wp2_with fail
      refine HA.out.mono ?_
      rintro e w3 ⟨v3, rfl, hown, hb3⟩
      rw [hlen2] at hown
      obtain ⟨A3, c3, rfl⟩ := own_form hown
      have HQ3 := Lib.hid (HQ2.out.past hb3)
      have HS := Lib.hid (refSame_yes A3 m2 c3 A2 c2 (sortT ts2) _ _ w3 (Rd.of_own hown) HQ3.out.rd (by omega))
      have hbc := Below.past hbb hb3 (by omega)
      clear hown hb3 hbb
      go_wp2_with fail
      refine HS.out.mono ?_
      rintro e w4 ⟨rfl, hd4⟩
      have hb4 : Below w3.heap.size w3 w4 := hd4.below (Below.refl _ _)
      have HQ4 := Lib.hid (HQ3.out.past hb4)
      have hbd := Below.past hbc hb4 (by have := hbc.size; omega)
      obtain ⟨v4, hv4, _⟩ := HQ4.out.wh
      have HLn := timerLen_any w.heap.size R w.heap.size ts2 w4 hv4.wh
      rw [hlen2] at HLn
      have HLN := Lib.hid HLn
      have q5 : ((m2 : Int) != (m2 : Int)) = false := by simp
      clear hd4 hb4 hv4 HLn hbc
      go_wp2_with fail
      refine HLN.out.mono ?_
      rintro e w5 ⟨rfl, rfl⟩
      go_wp2_with fail
      go_roundw
      case rel => exact ⟨k + 1, m2, c2, A2, ts2, by omega, by omega, by go_num, rfl, HQ4, hbd⟩
      case measure => simp [intOf]; omega
    · have hlz : ¬ (k : Int) < (n : Int) := by omega
      have HF := Lib.hid (first_nil 5 wr)
      have HB := Lib.hid hb
      clear hb1 hb HW HQ HN
      go_wp2_with fail
      refine HF.out.mono ?_
      rintro e w2 ⟨rfl, hb2⟩
      have hb3 := (Below.past HB.out hb2 hsb).alloc (by have := hb2.size; omega) (.cells #[.int .i64 0, .int .i64 0, .int .i64 0, .int .i64 0] 29)
      have hs3 := hb3.size
      clear hb2
      go_wp2_with fail
      refine (awake21 _).mono ?_
      rintro e w4 ⟨rfl, hb4⟩
      have hb5 := Below.past hb3 hb4 hs3
      have hs5 := hb5.size
      clear hb4 hb3 hs3
      go_wp2_with fail
      refine (set_nil ⟨0, 0, 0, 0⟩ _).mono ?_
      rintro e w6 ⟨rfl, hb6⟩
      have hb7 := Below.past hb5 hb6 hs5
      have hs7 := hb7.size
      clear hb6 hb5 hs5
      go_wp2_with fail
      refine (cancel_nil ⟨0, 0, 0, 0⟩ _).mono ?_
      rintro e w8 ⟨rfl, hb8⟩
      have hb9 := Below.past hb7 hb8 hs7
      have hs9 := hb9.size
      clear hb8 hb7 hs7
      go_wp2_with fail
      refine (drop_nil 1 1 _).mono ?_
      rintro e w10 ⟨rfl, hb10⟩
      have hb11 := Below.past hb9 hb10 hs9
      have hs11 := hb11.size
      clear hb10 hb9 hs9
      go_wp2_with fail
      refine (fire_nil 5 _).mono ?_
      rintro e w12 ⟨rfl, hb12⟩
      have hb13 := Below.past hb11 hb12 hs11
      have hs13 := hb13.size
      clear hb12 hb11 hs11
      go_wp2_with fail
      refine (all_nil _).mono ?_
      rintro e w14 ⟨rfl, rfl⟩
      go_wp2_with fail
      refine (len_nil _).mono ?_
      rintro e w15 ⟨rfl, rfl⟩
      go_wp2_with fail
      refine (copy_nil _).mono ?_
      rintro e w16 ⟨rfl, rfl⟩
      go_wp2_with fail
      go_ret
      exact ⟨rfl, hb13⟩
end Go.Proofs.Ytndhhnfhookeaaa
