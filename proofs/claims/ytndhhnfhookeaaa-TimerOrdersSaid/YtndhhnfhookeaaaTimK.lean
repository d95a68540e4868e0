import Derived.Test.YtndhhnfhookeaaaTimJ
namespace Go.Proofs.Ytndhhnfhookeaaa
open Go.RowKit

/-! ### The document's own answers -/
theorem any_take_succ {l : List Tim} {t f : Tim} {k : Nat} (h : l.take (k + 1) = l.take k ++ [f]) : hasT (l.take (k + 1)) t = (hasT (l.take k) t || eqT t f) := by
  rw [h]; simp [hasT]
theorem hasT_at {l : List Tim} {t f : Tim} {k : Nat} (h : l[k]? = some f) (he : eqT f t = true) : hasT l t = true := by
  rw [eqT_iff.1 he] at h
  exact hasT_iff.2 (List.mem_of_getElem? h)

set_option maxHeartbeats 2000000 in
theorem refHas_any (A : Option Addr) (n cp : Nat) (l : List Tim) (t : Tim) (w : World) (hr : Rd w w.heap.size 4 A n (l.flatMap Tim.cells)) (hn : n ≤ 1000) :
    Calls Try.prog 21 #[.slice A n cp, .agg #[.int .i64 t.due, .int .i64 t.kind, .int .i64 t.mem, .int .i64 t.lev]] w fun e w' => e = .returned (.bool (hasT l t)) ∧ Below w.heap.size w w' := by
  have HL := Lib.hid (hr.len Tim.cells_len (by omega))
  have hB0 := (Below.refl w.heap.size w).alloc (Nat.le_refl _) (.cells #[.int .i64 t.due, .int .i64 t.kind, .int .i64 t.mem, .int .i64 t.lev] 29)
  have bt0 := Blk.new w 29 #[.int .i64 t.due, .int .i64 t.kind, .int .i64 t.mem, .int .i64 t.lev] w.heap.size rfl
  go_enter Try.func21, Try.ntmps21
  go_wp2_with fail
  go_loopw [5] (fun i wr => ∃ k : Nat, k ≤ n ∧ i = .int .i64 k ∧ Hid (hasT (l.take k) t = false) ∧ Blk wr w.heap.size 29 #[.int .i64 t.due, .int .i64 t.kind, .int .i64 t.mem, .int .i64 t.lev] ∧ Below w.heap.size w wr) (fun i _ => n - (intOf i).toNat)
  case atStart => exact ⟨0, Nat.zero_le _, rfl, Lib.hid rfl, bt0, hB0⟩
  case round =>
    clear bt0 hB0
    obtain ⟨k, hk, rfl, HN, bt, hb⟩ := hrel
    by_cases hlt : k < n
    · have hlz : (k : Int) < (n : Int) := by omega
      have hg_f : l[k]? = some (l[k]'(by have := HL.out; omega)) := List.getElem?_eq_getElem _
      obtain ⟨b_f, off_f, rfl, hbb_f, hc_f⟩ := (hr.below hb).elem Tim.cells_len hg_f hlt
      have HT_f := Lib.hid (show l.take (k + 1) = l.take k ++ [(l[k]'(by have := HL.out; omega))] from List.take_succ_eq_append_getElem (by have := HL.out; omega))
      have HM_f := Lib.hid (show (l[k]'(by have := HL.out; omega)) ∈ l from List.getElem_mem _)
      generalize (l[k]'(by have := HL.out; omega)) = f at *
      have c0 := hc_f 0 _ rfl
      have c1 := hc_f 1 _ rfl
      have c2 := hc_f 2 _ rfl
      have c3 := hc_f 3 _ rfl
      clear hc_f hg_f
      simp only [Nat.add_zero] at c0
      have t0 := bt.cell 0
      have t1 := bt.cell 1
      have t2 := bt.cell 2
      have t3 := bt.cell 3
      simp at t0 t1 t2 t3
      have hq := tim_eql f t
      cases hE : eqT f t with
      | true =>
        rw [hE] at hq
        have HV := Lib.hid (show hasT l t = true by rw [eqT_iff.1 hE] at HM_f; exact hasT_iff.2 HM_f.out)
        clear hE
        go_wp2_with fail
        go_quiet (fail)
        have hbV := below_drewN hb nq
        clear hq
        go_wp2_with fail
        go_ret
        exact ⟨by rw [HV.out]; rfl, hbV⟩
      | false =>
        rw [hE] at hq
        have HV := Lib.hid (show hasT (l.take (k + 1)) t = false by rw [any_take_succ HT_f.out, HN.out, eqT_comm, hE]; rfl)
        clear hE
        go_wp2_with fail
        go_quiet (fail)
        have hbV := below_drewN hb nq
        have btV := bt.drewN nq
        clear hq
        go_wp2_with fail
        go_roundw
        case rel => exact ⟨k + 1, by omega, by go_num, HV, btV, hbV⟩
        case measure => simp [intOf]; omega
    · have hlz : ¬ (k : Int) < (n : Int) := by omega
      have HV := Lib.hid (show hasT l t = false by
        have := HN.out
        rw [List.take_of_length_le (by have := HL.out; omega)] at this
        exact this)
      go_wp2_with fail
      go_ret
      exact ⟨by rw [HV.out]; rfl, hb⟩
end Go.Proofs.Ytndhhnfhookeaaa
