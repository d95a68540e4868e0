import Derived.Test.YtndhhnfhookeaaaTimB
import Derived.StillTailTactics
namespace Go.Proofs.Ytndhhnfhookeaaa
open Go.RowKit

/-- The row while a timer is put into a list: the first k are in, and t, if it stands ahead of one of them. -/
def putPre (l : List Tim) (t : Tim) (k : Nat) : List Tim := if (l.take k).any (tB t) then putT (l.take k) t else l.take k
theorem putPre_len (l : List Tim) (t : Tim) {k : Nat} (hk : k ≤ l.length) : (putPre l t k).length = k + if (l.take k).any (tB t) then 1 else 0 := by
  unfold putPre
  split
  · rw [putT_len, List.length_take]; omega
  · rw [List.length_take]; omega
theorem putPre_late {l : List Tim} {t f : Tim} {k : Nat} (hT : l.take (k + 1) = l.take k ++ [f]) (h : (l.take k).any (tB t) = true) : putPre l t (k + 1) = putPre l t k ++ [f] ∧ (l.take (k + 1)).any (tB t) = true := by
  have h2 : (l.take (k + 1)).any (tB t) = true := by rw [hT, List.any_append, h]; rfl
  refine ⟨?_, h2⟩
  unfold putPre
  rw [if_pos h2, if_pos h, hT, putT_past h]
theorem putPre_here {l : List Tim} {t f : Tim} {k : Nat} (hT : l.take (k + 1) = l.take k ++ [f]) (h : (l.take k).any (tB t) = false) (hf : tB t f = true) : putPre l t (k + 1) = putPre l t k ++ [t, f] ∧ (l.take (k + 1)).any (tB t) = true := by
  have h2 : (l.take (k + 1)).any (tB t) = true := by rw [hT, List.any_append]; simp [hf]
  refine ⟨?_, h2⟩
  unfold putPre
  rw [if_pos h2, if_neg (by rw [h]; simp), hT, putT_here h hf]
theorem putPre_not {l : List Tim} {t f : Tim} {k : Nat} (hT : l.take (k + 1) = l.take k ++ [f]) (h : (l.take k).any (tB t) = false) (hf : tB t f = false) : putPre l t (k + 1) = putPre l t k ++ [f] ∧ (l.take (k + 1)).any (tB t) = false := by
  have h2 : (l.take (k + 1)).any (tB t) = false := by rw [hT, List.any_append, h]; simp [hf]
  refine ⟨?_, h2⟩
  unfold putPre
  rw [if_neg (by rw [h2]; simp), if_neg (by rw [h]; simp), hT]
theorem putPre_done {l : List Tim} {t : Tim} : putT l t = if l.any (tB t) then putPre l t l.length else putPre l t l.length ++ [t] := by
  unfold putPre
  rw [List.take_length]
  cases h : l.any (tB t) with
  | true => simp
  | false => simp [putT_none h]

/-- What Put hands back. -/
def PutPost (w : World) (l : List Tim) (t : Tim) (n : Nat) (e : Ending) (w' : World) : Prop := ∃ v, e = .returned v ∧ w'.ownsRow w.heap.size 29 4 v (n + 1) ((putT l t).flatMap Tim.cells) ∧ Below w.heap.size w w'

set_option maxHeartbeats 8000000 in
set_option maxRecDepth 100000 in
theorem refPut_any (A : Option Addr) (n cp : Nat) (l : List Tim) (t : Tim) (w : World) (hr : Rd w w.heap.size 4 A n (l.flatMap Tim.cells)) (hn : n ≤ 1000) :
    Calls Try.prog 64 #[.slice A n cp, .agg #[.int .i64 t.due, .int .i64 t.kind, .int .i64 t.mem, .int .i64 t.lev]] w (PutPost w l t n) := by
  have HL := Lib.hid (hr.len Tim.cells_len (by omega))
  obtain ⟨j0, hj0, jz0, jz1, jz2⟩ := info_parts timInfo
  have hB0 := (Below.refl w.heap.size w).alloc (Nat.le_refl _) (.cells #[.int .i64 t.due, .int .i64 t.kind, .int .i64 t.mem, .int .i64 t.lev] 29)
  have bt0 := Blk.new w 29 #[.int .i64 t.due, .int .i64 t.kind, .int .i64 t.mem, .int .i64 t.lev] w.heap.size rfl
  go_enter Try.func64, Try.ntmps64
  go_wp2_with fail
  go_loopw [5, 6, 7] (fun v d i wr => ∃ (k m : Nat) (D : Bool), k ≤ n ∧ m ≤ k + 1 ∧ i = .int .i64 k ∧ d = .bool D ∧ Hid ((l.take k).any (tB t) = D) ∧ Hid (m = (putPre l t k).length) ∧ wr.ownsRow (w.heap.size + 1) 29 4 v m ((putPre l t k).flatMap Tim.cells) ∧ Blk wr w.heap.size 29 #[.int .i64 t.due, .int .i64 t.kind, .int .i64 t.mem, .int .i64 t.lev] ∧ Below w.heap.size w wr) (fun _ _ i _ => n - (intOf i).toNat)
  case atStart => exact ⟨0, 0, false, Nat.zero_le _, by omega, rfl, rfl, Lib.hid rfl, Lib.hid rfl, World.ownsRow_nil _ _ _ _, bt0, hB0⟩
  case round =>
    obtain ⟨k, m, D, hk, hmk, rfl, rfl, HD, HM, hown, bt, hb⟩ := hrel
    by_cases hlt : k < n
    · as_aux_lemma =>
      have hlz : (k : Int) < (n : Int) := by omega
      have hg_f : l[k]? = some (l[k]'(by have := HL.out; omega)) := List.getElem?_eq_getElem _
      obtain ⟨b_f, off_f, rfl, hbb_f, hc_f⟩ := (hr.below hb).elem Tim.cells_len hg_f hlt
      have HT_f := Lib.hid (show l.take (k + 1) = l.take k ++ [(l[k]'(by have := HL.out; omega))] from List.take_succ_eq_append_getElem (by have := HL.out; omega))
      have HM_f := Lib.hid (show (l[k]'(by have := HL.out; omega)) ∈ l from List.getElem_mem _)
      generalize (l[k]'(by have := HL.out; omega)) = f at *
      have c0 := hc_f 0 _ rfl
      have c1 := hc_f 1 _ rfl
      have c2 := hc_f 2 _ rfl
      have c3 := hc_f 3 _ rfl
      clear hc_f hg_f
      simp only [Nat.add_zero] at c0
      have hs := hb.size
      have t0 := bt.cell 0
      have t1 := bt.cell 1
      have t2 := bt.cell 2
      have t3 := bt.cell 3
      simp at t0 t1 t2 t3
      have hwz : w.heap.size < wr.heap.size := bt.lt
      cases D with
      | true =>
        have HP := Lib.hid (putPre_late HT_f.out HD.out)
        have hoV := fun q => own_drewN hown q
        go_wp2_with fail
        go_quiet (fail)
        have hbV := below_drewN hb nq
        have hoW := hoV nq
        have btV : Blk (wr.drewN nq) w.heap.size 29 #[.int .i64 t.due, .int .i64 t.kind, .int .i64 t.mem, .int .i64 t.lev] := bt
        have f0 : (wr.drewN nq).cell? ⟨b_f, off_f + k * 4, none⟩ = some (.int .i64 f.due) := c0
        have f1 : (wr.drewN nq).cell? ⟨b_f, off_f + k * 4 + 1, none⟩ = some (.int .i64 f.kind) := c1
        have f2 : (wr.drewN nq).cell? ⟨b_f, off_f + k * 4 + 2, none⟩ = some (.int .i64 f.mem) := c2
        have f3 : (wr.drewN nq).cell? ⟨b_f, off_f + k * 4 + 3, none⟩ = some (.int .i64 f.lev) := c3
        clear hoV hown hb bt c0 c1 c2 c3 t0 t1 t2 t3 hs hwz
        generalize wr.drewN nq = V at hbV hoW btV f0 f1 f2 f3 ⊢
        have hs := hbV.size
        have hwz : w.heap.size < V.heap.size := btV.lt
        go_wp2_with (at_builtin; refine wpList_append_lit _ _ rfl (.tmp 28) (.tmp 33) 22 rfl (w.heap.size + 1) 29 j0 _ 4 32 Try.underlying22 hj0 jz0 jz1 jz2 rfl (by decide) _ _ _ rfl hoW _ 1 1 rfl (by first | rfl | simp) rfl (by simp [Value.oneCell']) (by omega) (by omega) (by omega) ?_; intro v' w' hown' hg'; have hbw := below_own (hbV.alloc hs _) hg' hoW (by simp; omega) (by omega))
        go_roundw
        case rel => exact ⟨k + 1, m + 1, true, by omega, by omega, by go_num, rfl, Lib.hid HP.out.2, Lib.hid (by rw [HP.out.1, HM.out]; simp), by rw [HP.out.1, List.flatMap_append]; simpa [Tim.cells] using hown', (btV.alloc _).grown hg' (fun e => by have := (hoW.lt _ e).1; omega), hbw⟩
        case measure => simp [intOf]; omega
      | false =>
        have hmf : m ≤ k := by rw [HM.out, putPre_len l t (by rw [HL.out]; omega), HD.out]; simp
        have k0 : w.cell? ⟨b_f, off_f + k * 4, none⟩ = some (.int .i64 f.due) := (hb.cell (p := ⟨b_f, off_f + k * 4, none⟩) hbb_f).symm.trans c0
        have k1 : w.cell? ⟨b_f, off_f + k * 4 + 1, none⟩ = some (.int .i64 f.kind) := (hb.cell (p := ⟨b_f, off_f + k * 4 + 1, none⟩) hbb_f).symm.trans c1
        have k2 : w.cell? ⟨b_f, off_f + k * 4 + 2, none⟩ = some (.int .i64 f.mem) := (hb.cell (p := ⟨b_f, off_f + k * 4 + 2, none⟩) hbb_f).symm.trans c2
        have k3 : w.cell? ⟨b_f, off_f + k * 4 + 3, none⟩ = some (.int .i64 f.lev) := (hb.cell (p := ⟨b_f, off_f + k * 4 + 3, none⟩) hbb_f).symm.trans c3
        cases hTB : tB t f with
        | true =>
          have HTB := Lib.hid hTB
          have HP := Lib.hid (putPre_here HT_f.out HD.out hTB)
          clear hTB
          go_wp2_with fail
          go_still_tail 8, (by kernel_rfl)
          change wpList _ _ _ _ _ wr.drew
          have hbV := hb.drew
          have hoV : wr.drew.ownsRow (w.heap.size + 1) 29 4 u5 m ((putPre l t k).flatMap Tim.cells) := own_drewN hown 1
          have btV : Blk wr.drew w.heap.size 29 #[.int .i64 t.due, .int .i64 t.kind, .int .i64 t.mem, .int .i64 t.lev] := bt
          have f0 : wr.drew.cell? ⟨b_f, off_f + k * 4, none⟩ = some (.int .i64 f.due) := c0
          have f1 : wr.drew.cell? ⟨b_f, off_f + k * 4 + 1, none⟩ = some (.int .i64 f.kind) := c1
          have f2 : wr.drew.cell? ⟨b_f, off_f + k * 4 + 2, none⟩ = some (.int .i64 f.mem) := c2
          have f3 : wr.drew.cell? ⟨b_f, off_f + k * 4 + 3, none⟩ = some (.int .i64 f.lev) := c3
          clear hown hb bt c0 c1 c2 c3 t0 t1 t2 t3 hs hwz
          generalize wr.drew = V at hbV hoV btV f0 f1 f2 f3 ⊢
          go_wp2_with fail
          have HCL := Lib.hid (refBelow_any t f V)
          rw [HTB.out] at HCL
          refine HCL.out.mono ?_
          rintro e W ⟨rfl, hbW⟩
          have hbf : b_f < V.heap.size := by have := hbV.size; omega
          have e0 := (hbW.cell (p := ⟨b_f, off_f + k * 4, none⟩) hbf).trans f0
          have e1 := (hbW.cell (p := ⟨b_f, off_f + k * 4 + 1, none⟩) hbf).trans f1
          have e2 := (hbW.cell (p := ⟨b_f, off_f + k * 4 + 2, none⟩) hbf).trans f2
          have e3 := (hbW.cell (p := ⟨b_f, off_f + k * 4 + 3, none⟩) hbf).trans f3
          have hoW := own_past hoV hbW
          have btW := btV.past hbW
          have hbX := Below.past hbV hbW hbV.size
          clear f0 f1 f2 f3 hoV btV hbV hbW
          have hs := hbX.size
          have hwz : w.heap.size < W.heap.size := btW.lt
          have t0 := btW.cell 0
          have t1 := btW.cell 1
          have t2 := btW.cell 2
          have t3 := btW.cell 3
          simp at t0 t1 t2 t3
          go_wp2_with (first | (at_builtin; refine wpList_append_lit (o := ⟨some 27, _, _, _, _, _⟩) _ _ rfl (.tmp 24) (.tmp 26) 22 rfl (w.heap.size + 1) 29 j0 _ 4 32 Try.underlying22 hj0 jz0 jz1 jz2 rfl (by decide) _ _ _ rfl hoW _ 1 1 rfl (by first | rfl | simp) rfl (by simp [Value.oneCell']) (by omega) (by omega) (by omega) ?_; intro v' w' hown' hg'; have hbw := below_own (hbX.alloc hs _) hg' hoW (by simp; omega) (by omega); have bw := (btW.alloc (.cells #[.int .i64 t.due, .int .i64 t.kind, .int .i64 t.mem, .int .i64 t.lev] 29)).grown hg' (fun e => by have := (hoW.lt _ e).1; omega); have hsw := hbw.size; have hww : w.heap.size < w'.heap.size := bw.lt; have g0 := (hbw.cell (p := ⟨b_f, off_f + k * 4, none⟩) hbb_f).trans k0; have g1 := (hbw.cell (p := ⟨b_f, off_f + k * 4 + 1, none⟩) hbb_f).trans k1; have g2 := (hbw.cell (p := ⟨b_f, off_f + k * 4 + 2, none⟩) hbb_f).trans k2; have g3 := (hbw.cell (p := ⟨b_f, off_f + k * 4 + 3, none⟩) hbb_f).trans k3; have tok : True := trivial) | (at_builtin; refine wpList_append_lit (o := ⟨some 34, _, _, _, _, _⟩) _ _ rfl (.tmp 28) (.tmp 33) 22 rfl (w.heap.size + 1) 29 j0 _ 4 32 Try.underlying22 hj0 jz0 jz1 jz2 rfl (by decide) _ _ _ rfl hown' _ 1 1 rfl (by first | rfl | simp) rfl (by simp [Value.oneCell']) (by omega) (by omega) (by omega) ?_; intro v2 w2 hown2 hg2; have hbz := below_own (hbw.alloc hsw _) hg2 hown' (by simp; omega) (by omega); have bz := (bw.alloc (.cells #[.int .i64 f.due, .int .i64 f.kind, .int .i64 f.mem, .int .i64 f.lev] 29)).grown hg2 (fun e => by have := (hown'.lt _ e).1; omega)))
          go_roundw
          case rel => exact ⟨k + 1, m + 1 + 1, true, by omega, by omega, by go_num, rfl, Lib.hid HP.out.2, Lib.hid (by rw [HP.out.1, HM.out]; simp), by rw [HP.out.1, List.flatMap_append]; simpa [Tim.cells] using hown2, bz, hbz⟩
          case measure => simp [intOf]; omega
        | false =>
          have HTB := Lib.hid hTB
          have HP := Lib.hid (putPre_not HT_f.out HD.out hTB)
          clear hTB
          go_wp2_with fail
          go_still_tail 8, (by kernel_rfl)
          change wpList _ _ _ _ _ wr.drew
          have hbV := hb.drew
          have hoV : wr.drew.ownsRow (w.heap.size + 1) 29 4 u5 m ((putPre l t k).flatMap Tim.cells) := own_drewN hown 1
          have btV : Blk wr.drew w.heap.size 29 #[.int .i64 t.due, .int .i64 t.kind, .int .i64 t.mem, .int .i64 t.lev] := bt
          have f0 : wr.drew.cell? ⟨b_f, off_f + k * 4, none⟩ = some (.int .i64 f.due) := c0
          have f1 : wr.drew.cell? ⟨b_f, off_f + k * 4 + 1, none⟩ = some (.int .i64 f.kind) := c1
          have f2 : wr.drew.cell? ⟨b_f, off_f + k * 4 + 2, none⟩ = some (.int .i64 f.mem) := c2
          have f3 : wr.drew.cell? ⟨b_f, off_f + k * 4 + 3, none⟩ = some (.int .i64 f.lev) := c3
          clear hown hb bt c0 c1 c2 c3 t0 t1 t2 t3 hs hwz
          generalize wr.drew = V at hbV hoV btV f0 f1 f2 f3 ⊢
          go_wp2_with fail
          have HCL := Lib.hid (refBelow_any t f V)
          rw [HTB.out] at HCL
          refine HCL.out.mono ?_
          rintro e W ⟨rfl, hbW⟩
          have hbf : b_f < V.heap.size := by have := hbV.size; omega
          have e0 := (hbW.cell (p := ⟨b_f, off_f + k * 4, none⟩) hbf).trans f0
          have e1 := (hbW.cell (p := ⟨b_f, off_f + k * 4 + 1, none⟩) hbf).trans f1
          have e2 := (hbW.cell (p := ⟨b_f, off_f + k * 4 + 2, none⟩) hbf).trans f2
          have e3 := (hbW.cell (p := ⟨b_f, off_f + k * 4 + 3, none⟩) hbf).trans f3
          have hoW := own_past hoV hbW
          have btW := btV.past hbW
          have hbX := Below.past hbV hbW hbV.size
          clear f0 f1 f2 f3 hoV btV hbV hbW
          have hs := hbX.size
          have hwz : w.heap.size < W.heap.size := btW.lt
          go_wp2_with (at_builtin; refine wpList_append_lit _ _ rfl (.tmp 28) (.tmp 33) 22 rfl (w.heap.size + 1) 29 j0 _ 4 32 Try.underlying22 hj0 jz0 jz1 jz2 rfl (by decide) _ _ _ rfl hoW _ 1 1 rfl (by first | rfl | simp) rfl (by simp [Value.oneCell']) (by omega) (by omega) (by omega) ?_; intro v' w' hown' hg'; have hbw := below_own (hbX.alloc hs _) hg' hoW (by simp; omega) (by omega))
          go_roundw
          case rel => exact ⟨k + 1, m + 1, false, by omega, by omega, by go_num, rfl, Lib.hid HP.out.2, Lib.hid (by rw [HP.out.1, HM.out]; simp), by rw [HP.out.1, List.flatMap_append]; simpa [Tim.cells] using hown', (btW.alloc _).grown hg' (fun e => by have := (hoW.lt _ e).1; omega), hbw⟩
          case measure => simp [intOf]; omega
    · as_aux_lemma =>
      have hlz : ¬ (k : Int) < (n : Int) := by omega
      obtain rfl : n = k := by omega
      rw [List.take_of_length_le (by rw [HL.out]; exact Nat.le_refl _)] at HD
      have HPD := Lib.hid (putPre_done (l := l) (t := t))
      rw [HL.out, HD.out] at HPD
      have HLN := Lib.hid (putPre_len l t (k := n) (by rw [HL.out]; exact Nat.le_refl _))
      rw [List.take_of_length_le (by rw [HL.out]; exact Nat.le_refl _), HD.out] at HLN
      have t0 := bt.cell 0
      have t1 := bt.cell 1
      have t2 := bt.cell 2
      have t3 := bt.cell 3
      simp at t0 t1 t2 t3
      have hs := hb.size
      have hwz : w.heap.size < wr.heap.size := bt.lt
      cases D with
      | true =>
        obtain rfl : m = n + 1 := by rw [HM.out, HLN.out]; simp
        have HW := Lib.hid (own_mono hown (show w.heap.size ≤ w.heap.size + 1 by omega))
        rw [show putPre l t n = putT l t from (by rw [HPD.out]; simp)] at HW
        clear hown
        go_wp2_with fail
        go_ret
        exact ⟨_, rfl, HW.out, hb⟩
      | false =>
        obtain rfl : m = n := by rw [HM.out, HLN.out]; simp
        have HE : Hid (putT l t = putPre l t m ++ [t]) := Lib.hid (by rw [HPD.out]; simp)
        go_wp2_with (at_builtin; refine wpList_append_lit _ _ rfl (.tmp 37) (.tmp 39) 22 rfl (w.heap.size + 1) 29 j0 _ 4 32 Try.underlying22 hj0 jz0 jz1 jz2 rfl (by decide) _ _ _ rfl hown _ 1 1 rfl (by first | rfl | simp) rfl (by simp [Value.oneCell']) (by omega) (by omega) (by omega) ?_; intro v' w' hown' hg'; have hbw := below_own (hb.alloc hs _) hg' hown (by simp; omega) (by omega); have HW := Lib.hid (own_mono hown' (show w.heap.size ≤ w.heap.size + 1 by omega)); clear hown')
        go_ret
        exact ⟨_, rfl, by rw [HE.out, List.flatMap_append]; simpa [Tim.cells] using HW.out, hbw⟩
end Go.Proofs.Ytndhhnfhookeaaa
