import Derived.Test.YtndhhnfhookeaaaTimU
namespace Go.Proofs.Ytndhhnfhookeaaa
open Go.RowKit

theorem filt_ne_yes {l : List Tim} {t f : Tim} {k : Nat} (hT : l.take (k + 1) = l.take k ++ [f]) (he : eqT f t = true) : ((l.take (k + 1)).filter fun x => !eqT x t) = (l.take k).filter fun x => !eqT x t := by
  rw [hT, List.filter_append]; simp [he]
theorem filt_ne_no {l : List Tim} {t f : Tim} {k : Nat} (hT : l.take (k + 1) = l.take k ++ [f]) (he : eqT f t = false) : ((l.take (k + 1)).filter fun x => !eqT x t) = ((l.take k).filter fun x => !eqT x t) ++ [f] := by
  rw [hT, List.filter_append]; simp [he]

set_option maxHeartbeats 4000000 in
set_option maxRecDepth 100000 in
theorem refWithout_any (A : Option Addr) (n cp : Nat) (l : List Tim) (t : Tim) (w : World) (hr : Rd w w.heap.size 4 A n (l.flatMap Tim.cells)) (hn : n ≤ 1000) :
    Calls Try.prog 65 #[.slice A n cp, .agg #[.int .i64 t.due, .int .i64 t.kind, .int .i64 t.mem, .int .i64 t.lev]] w fun e w' => ∃ v, e = .returned v ∧ w'.ownsRow w.heap.size 29 4 v (l.filter fun x => !eqT x t).length ((l.filter fun x => !eqT x t).flatMap Tim.cells) ∧ Below w.heap.size w w' := by
  have HL := Lib.hid (hr.len Tim.cells_len (by omega))
  have hB0 := (Below.refl w.heap.size w).alloc (Nat.le_refl _) (.cells #[.int .i64 t.due, .int .i64 t.kind, .int .i64 t.mem, .int .i64 t.lev] 29)
  have bt0 := Blk.new w 29 #[.int .i64 t.due, .int .i64 t.kind, .int .i64 t.mem, .int .i64 t.lev] w.heap.size rfl
  obtain ⟨j0, hj0, jz0, jz1, jz2⟩ := info_parts timInfo
  go_enter Try.func65, Try.ntmps65
  go_wp2_with fail
  go_loopw [5, 6] (fun v i wr => ∃ k m : Nat, k ≤ n ∧ m ≤ k ∧ i = .int .i64 k ∧ Hid (m = ((l.take k).filter fun x => !eqT x t).length) ∧ wr.ownsRow (w.heap.size + 1) 29 4 v m (((l.take k).filter fun x => !eqT x t).flatMap Tim.cells) ∧ Blk wr w.heap.size 29 #[.int .i64 t.due, .int .i64 t.kind, .int .i64 t.mem, .int .i64 t.lev] ∧ Below w.heap.size w wr) (fun _ i _ => n - (intOf i).toNat)
  case atStart => exact ⟨0, 0, Nat.zero_le _, Nat.le_refl _, rfl, Lib.hid rfl, World.ownsRow_nil _ _ _ _, bt0, hB0⟩
  case round =>
    clear bt0 hB0
    obtain ⟨k, m, hk, hmk, rfl, HM, hown, bt, hb⟩ := hrel
    by_cases hlt : k < n
    · have hlz : (k : Int) < (n : Int) := by omega
      have hg_f : l[k]? = some (l[k]'(by have := HL.out; omega)) := List.getElem?_eq_getElem _
      obtain ⟨b_f, off_f, rfl, hbb_f, hc_f⟩ := (hr.below hb).elem Tim.cells_len hg_f hlt
      have HT_f := Lib.hid (show l.take (k + 1) = l.take k ++ [(l[k]'(by have := HL.out; omega))] from List.take_succ_eq_append_getElem (by have := HL.out; omega))
      have HM_f := Lib.hid (show (l[k]'(by have := HL.out; omega)) ∈ l from List.getElem_mem _)
      generalize (l[k]'(by have := HL.out; omega)) = f at *
      have c0 := hc_f 0 _ rfl
      have c1 := hc_f 1 _ rfl
      have c2 := hc_f 2 _ rfl
      have c3 := hc_f 3 _ rfl
      clear hc_f hg_f
      simp only [Nat.add_zero] at c0
      have t0 := bt.cell 0
      have t1 := bt.cell 1
      have t2 := bt.cell 2
      have t3 := bt.cell 3
      simp at t0 t1 t2 t3
      cases hE : eqT f t with
      | true =>
        have hq := tim_neq f t true hE
        have HV := Lib.hid (filt_ne_yes HT_f.out hE)
        clear hE
        go_wp2_with fail
        go_quiet (fail)
        have hbV := below_drewN hb nq
        have btV := bt.drewN nq
        have hoV := own_drewN hown nq
        clear hq
        go_wp2_with fail
        go_roundw
        case rel => exact ⟨k + 1, m, by omega, by omega, by go_num, Lib.hid (by rw [HV.out]; exact HM.out), by rw [HV.out]; exact hoV, btV, hbV⟩
        case measure => simp [intOf]; omega
      | false =>
        have hq := tim_neq f t false hE
        have HV := Lib.hid (filt_ne_no HT_f.out hE)
        clear hE
        go_wp2_with fail
        go_quiet (fail)
        have hbV := below_drewN hb nq
        have btV := bt.drewN nq
        have hoV := own_drewN hown nq
        have d0 : (wr.drewN nq).cell? _ = _ := c0
        have d1 : (wr.drewN nq).cell? _ = _ := c1
        have d2 : (wr.drewN nq).cell? _ = _ := c2
        have d3 : (wr.drewN nq).cell? _ = _ := c3
        clear c0 c1 c2 c3 t0 t1 t2 t3 bt hown
        generalize wr.drewN nq = V at hbV btV hoV d0 d1 d2 d3 ⊢
        have hs := hbV.size
        have hwl := btV.lt
        clear hq
        go_wp2_with (at_builtin; refine wpList_append_lit _ _ rfl (.tmp 19) (.tmp 24) 22 rfl (w.heap.size + 1) 29 j0 _ 4 32 Try.underlying22 hj0 jz0 jz1 jz2 rfl (by decide) _ _ _ rfl hoV _ 1 1 rfl (by first | rfl | simp) rfl (by simp [Value.oneCell']) (by omega) (by omega) (by omega) ?_; intro v' w' hown' hg'; have hbw := below_own (hbV.alloc hs _) hg' hoV (by simp; omega) (by omega); have btw := (btV.alloc (.cells #[.int .i64 f.due, .int .i64 f.kind, .int .i64 f.mem, .int .i64 f.lev] 29)).grown hg' (fun e => by have := (hoV.lt _ e).1; omega))
        go_roundw
        case rel => exact ⟨k + 1, m + 1, by omega, by omega, by go_num, Lib.hid (by rw [HV.out, List.length_append, ← HM.out]; rfl), by rw [HV.out, List.flatMap_append]; exact hown', btw, hbw⟩
        case measure => simp [intOf]; omega
    · have hlz : ¬ (k : Int) < (n : Int) := by omega
      have HT : Hid (l.take k = l) := Lib.hid (List.take_of_length_le (by have := HL.out; omega))
      have HO := Lib.hid (own_mono hown (show w.heap.size ≤ w.heap.size + 1 by omega))
      rw [HT.out] at HO HM
      clear hown
      go_wp2_with fail
      go_ret
      exact ⟨_, rfl, by rw [← HM.out]; exact HO.out, hb⟩
end Go.Proofs.Ytndhhnfhookeaaa
