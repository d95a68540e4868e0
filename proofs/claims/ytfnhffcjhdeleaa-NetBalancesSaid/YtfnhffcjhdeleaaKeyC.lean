import Derived.Test.YtfnhffcjhdeleaaKeyB
import Derived.Deep.OwnRows
namespace Go.Proofs.Ytfnhffcjhdeleaa
open Go.RowKit Go.Lib Go.Sort Go.Proofs

set_option maxHeartbeats 1000000 in
theorem insertion_none (A : Option Addr) (cp : Nat) (f : Value) (w : World) :
    Calls Try.prog 161 #[.slice A 0 cp, .int .i64 0, .int .i64 0, f] w fun e w' => e = .returned (.tuple #[]) ∧ w = w' := by
  go_enter Try.func161, Try.ntmps161
  go_wp2_with fail
  go_loop [8] (fun i => i = .int .i64 1) (fun _ => 0)
  case atStart => rfl
  case round =>
    subst hrel
    go_wp2_with fail
    go_end0
    exact ⟨rfl, rfl⟩

set_option maxHeartbeats 1000000 in
theorem stable_none (A : Option Addr) (cp : Nat) (f : Value) (w : World) :
    Calls Try.prog 144 #[.slice A 0 cp, .int .i64 0, f] w fun e w' => e = .returned (.tuple #[]) ∧ w = w' := by
  go_enter Try.func144, Try.ntmps144
  go_wp2_with fail
  go_loop [7, 8] (fun a b => a = .int .i64 0 ∧ b = .int .i64 20) (fun _ _ => 0)
  case atStart => exact ⟨rfl, rfl⟩
  case round =>
    obtain ⟨rfl, rfl⟩ := hrel
    go_wp2_with fail
    refine (insertion_none A cp f _).mono ?_
    rintro e w1 ⟨rfl, rfl⟩
    go_wp2_with fail
    go_loop [6, 7, 8, 9] (fun s _ _ _ => s = .int .i64 20) (fun _ _ _ _ => 0)
    case atStart => rfl
    case round =>
      subst hrel
      go_wp2_with fail
      go_end0
      exact ⟨rfl, rfl⟩

theorem sortStable_none (A : Option Addr) (cp : Nat) (f : Value) (w : World) :
    Calls Try.prog 130 #[.slice A 0 cp, f] w fun e w' => e = .returned (.tuple #[]) ∧ w = w' := by
  go_enter Try.func130, Try.ntmps130
  go_wp2_with fail
  refine (stable_none A cp f _).mono ?_
  rintro e w1 ⟨rfl, rfl⟩
  go_wp2_with fail
  go_end0
  exact ⟨rfl, rfl⟩

theorem intInfo : (Try.prog.info? 3).map (fun i => (i.zero, i.size, i.bytes)) = some (some (.int .i64 0), 1, 8) := by kernel_rfl
theorem made_fill (n : Nat) : madeCells #[.int .i64 0] n = fillA n 0 := by
  rw [← fillA_zero]
  apply Array.ext_getElem?
  intro i
  unfold madeCells
  by_cases hi : i < n
  · simp [hi, Nat.mod_one]
  · simp [Array.getElem?_eq_none (show (Array.map (fun x => (#[Value.int IntKind.i64 0])[x % 1]!) (Array.range n)).size ≤ i by simp; omega), hi]
/-- make([]int, n). -/
theorem make_ints (n : Nat) (hn : n ≤ 1000000) (w : World) : (Instr.makeSlice 178 (.int .i64 (n : Int)) (.int .i64 (n : Int))).run Try.prog w = .ok (.slice (some ⟨w.heap.size, 0, none⟩) n n) (w.alloc (.cells (fillA n 0) 3)) := by
  rw [← made_fill]
  exact run_make_row' 178 3 (.int .i64 0) 8 Try.underlying178 intInfo rfl .i64 .i64 n (by omega) (by omega) w

set_option maxHeartbeats 4000000 in
set_option maxRecDepth 100000 in
theorem order_any (A : Option Addr) (n cp : Nat) (vs : List KeyV) (w : World) (hr : Rd w w.heap.size 1 A n (vs.flatMap KeyV.cells)) (hks : KeysRd w w.heap.size vs) (hn : n ≤ 1000000) :
    Calls Try.prog 100 #[.slice A n cp] w (OrdPost w vs n) := by
  have hB0 := (Below.refl w.heap.size w).alloc (Nat.le_refl _) (.cells #[.slice A n cp] 176)
  have bx0 := Blk.new w 176 #[.slice A n cp] w.heap.size rfl
  have hB1 := hB0.alloc (by simp) (.cells (fillA n 0) 3)
  have bx1 := bx0.alloc (.cells (fillA n 0) 3)
  have bl1 := Blk.new (w.alloc (.cells #[.slice A n cp] 176)) 3 (fillA n 0) (w.heap.size + 1) (by simp)
  have hmk := make_ints n hn
  have hL := Lib.hid (show (keysOf vs).length = n by rw [keysOf_len]; exact hr.len KeyV.cells_len (by omega))
  go_enter Try.func100, Try.ntmps100
  go_wp2_with fail
  clear hmk bx0 hB0
  go_loopw [4, 10] (fun _ i wr => ∃ k : Nat, k ≤ n ∧ i = .int .i64 k ∧ Blk wr (w.heap.size + 1) 3 (fillA n k) ∧ Blk wr w.heap.size 176 #[.slice A n cp] ∧ Below w.heap.size w wr) (fun _ i _ => n - (intOf i).toNat)
  case atStart => exact ⟨0, Nat.zero_le _, rfl, bl1, bx1, hB1⟩
  case round =>
    clear bl1 bx1 hB1
    obtain ⟨k, hk, rfl, bl, bx, hb⟩ := hrel
    by_cases hlt : k < n
    · have hlz : (k : Int) < (n : Int) := by omega
      have c1 := (bl.cell k).trans (fillA_at hlt)
      have f1 := bl.frozen k
      have bl2 := bl.put k (.int .i64 (k : Nat))
      rw [fillA_put n k hlt] at bl2
      have bx2 := bx.far (p := ⟨w.heap.size + 1, k, none⟩) (by simp) (.int .i64 (k : Nat))
      have hb2 := hb.setCell (p := ⟨w.heap.size + 1, k, none⟩) (by simp) (.int .i64 (k : Nat))
      go_wp2_with fail
      go_roundw
      case rel => exact ⟨k + 1, by omega, by go_num, bl2, bx2, hb2⟩
      case measure => simp [intOf]; omega
    · have hlz : ¬ (k : Int) < (n : Int) := by omega
      obtain rfl : n = k := by omega
      by_cases h0 : n = 0
      · obtain rfl : 0 = n := h0.symm
        have hnil : ordK (keysOf vs) = [] := List.eq_nil_of_length_eq_zero (by rw [ordK_len, hL.out])
        have HN := Lib.hid hnil
        clear hnil h0
        go_wp2_with fail
        refine (sortStable_none _ _ _ _).mono ?_
        rintro e w' ⟨rfl, rfl⟩
        go_wp2_with fail
        go_ret
        exact ⟨_, _, rfl, by rw [HN.out]; exact Rd.nil _ _ _ _, hb, fun p hp => by cases hp; simp⟩
      · have hp : 0 < n := by omega
        have hgw : w.heap.size + 1 < wr.heap.size := bl.lt
        have hH : Holds (encP n) wr (w.heap.size + 1) 0 (Array.range n) := fun j hj => by
          have hj' : j < n := by simpa using hj
          rw [Nat.zero_add, range_at hj']
          refine ⟨(bl.cell j).trans ?_, bl.frozen j⟩
          rw [fillA_at hj', if_pos hj', encP, clamp_of hj']
        have hbox : wr.cell? ⟨w.heap.size, 0, none⟩ = some (.slice A n cp) := bx.cell 0
        have T : Told (encP n) (cfK (keysOf vs)) 131 #[.pointer (some ⟨w.heap.size, 0, none⟩)] (w.heap.size + 1) 0 n (Array.range n) wr (fun x y => ahead (keysOf vs) x y = true) :=
          ⟨fun _ => rfl, hH, by simp, eg_order, order_reads A n cp w.heap.size (w.heap.size + 1) vs w.heap.size wr hbox (hr.below hb) (hks.below hb (Nat.le_refl _)) hn hp (by omega) (by omega) (by omega) (by omega), ahead_str _, ahead_later _, hn⟩
        have HK := Lib.hid (sortStable_at T n (Array.range n) 0 (by simp) (fun k hk => range_at hk))
        have hs : (putRow (encP n) wr (w.heap.size + 1) 0 (Array.range n)).drewN 0 = wr := putRow_self (encP n) wr (w.heap.size + 1) 0 (Array.range n) hH
        rw [hs] at HK
        have HD := Lib.hid (fun d' q (hd : d'.size = n) hg => ord_done w wr (w.heap.size + 1) n vs d' q hb (by omega) hgw hH hL.out hd hg)
        clear hs T hH hbox h0 hks hr
        go_wp2_with fail
        refine HK.out.mono ?_
        rintro e w' ⟨rfl, d', p', hQ, rfl⟩
        have HQ := Lib.hid hQ
        clear hQ
        go_wp2_with fail
        go_ret
        exact HD.out d' p' HQ.out.1 HQ.out.2
end Go.Proofs.Ytfnhffcjhdeleaa
