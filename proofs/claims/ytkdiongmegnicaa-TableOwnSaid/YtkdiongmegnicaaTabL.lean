import Derived.Test.YtkdiongmegnicaaTabJ
namespace Go.Proofs.Ytkdiongmegnicaa
open Go.RowKit

/-! ### The page's example; are a table's rows the document's? -/
set_option maxHeartbeats 1000000 in
theorem leftT_q (g base : Nat) (room : Int) (v : Value) (S : List RowT) (w : World) (hx : TabV w g base room v S) : Calls Try.prog 35 #[.pointer (some ⟨g, 0, none⟩)] w fun e w' => e = .returned (.int .i64 (room - (S.length : Nat))) ∧ w' = w.drew := by
  obtain ⟨X, c, hv⟩ := hx.form
  subst hv
  have p0 := hx.blk.cell 0
  have p1 := hx.blk.cell 1
  simp at p0 p1
  have hr := hx.rm
  have hl := hx.len
  generalize S.length = n at p1 hl ⊢
  have hw : IntKind.i64.wrap (room - (n : Int)) = room - (n : Int) := IntWalk.i64_in _ (by omega)
  clear hx
  go_enter Try.func35, Try.ntmps35
  go_wp2_with fail
  go_region
  all_goals
    go_wp2_with fail
    go_ret
    exact ⟨rfl, rfl⟩
set_option maxHeartbeats 4000000 in
theorem awake04 (w : World) : Calls Try.prog 22 #[] w fun e w' => e = .returned (.bool true) ∧ Below w.heap.size w w' := by
  go_enter Try.func22, Try.ntmps22
  go_wp2_with fail
  refine (newT_any 2 (by omega) _).mono ?_
  rintro e w1 ⟨g, rfl, hg, ht, hb⟩
  rw [show max (2 : Int) 0 = 2 from rfl] at ht
  have HP1 := Lib.hid (putT_any g w.heap.size 2 _ [] 5 ⟨#[97]⟩ w1 ht (by simp) hb.size)
  have HB1 := Lib.hid hb
  have HT1 := Lib.hid ht
  clear hb ht
  go_wp2_with fail
  refine HP1.out.mono ?_
  rintro e w2 ⟨rfl, v2, ht, ho, _⟩
  rw [show putTS 2 [] 5 ⟨#[97]⟩ = [⟨5, ⟨#[97]⟩⟩] from rfl] at ht
  rw [show putTK 2 [] 5 = 0 from rfl]
  have HB2 := Lib.hid (Below.trans HB1.out (ho.frame hg HB1.out.size fun k e => (HT1.out.row.lt k e).1))
  have HP2 := Lib.hid (putT_any g w.heap.size 2 _ [⟨5, ⟨#[97]⟩⟩] 3 ⟨#[98]⟩ w2 ht (by simp) HB2.out.size)
  have HT2 := Lib.hid ht
  clear ht ho HB1 HT1 HP1
  go_wp2_with fail
  refine HP2.out.mono ?_
  rintro e w3 ⟨rfl, v3, ht, ho, _⟩
  rw [show putTS 2 [⟨5, ⟨#[97]⟩⟩] 3 ⟨#[98]⟩ = [⟨3, ⟨#[98]⟩⟩, ⟨5, ⟨#[97]⟩⟩] from rfl] at ht
  rw [show putTK 2 [⟨5, ⟨#[97]⟩⟩] 3 = 0 from rfl]
  have HB3 := Lib.hid (Below.trans HB2.out (ho.frame hg HB2.out.size fun k e => (HT2.out.row.lt k e).1))
  have HP3 := Lib.hid (putT_any g w.heap.size 2 _ [⟨3, ⟨#[98]⟩⟩, ⟨5, ⟨#[97]⟩⟩] 4 ⟨#[99]⟩ w3 ht (by simp) HB3.out.size)
  have HT3 := Lib.hid ht
  clear ht ho HB2 HT2 HP2
  go_wp2_with fail
  refine HP3.out.mono ?_
  rintro e w4 ⟨rfl, v4, ht, ho, _⟩
  rw [show putTS 2 [⟨3, ⟨#[98]⟩⟩, ⟨5, ⟨#[97]⟩⟩] 4 ⟨#[99]⟩ = [⟨3, ⟨#[98]⟩⟩, ⟨5, ⟨#[97]⟩⟩] from rfl] at ht
  rw [show putTK 2 [⟨3, ⟨#[98]⟩⟩, ⟨5, ⟨#[97]⟩⟩] 4 = 6 from rfl]
  have HB4 := Lib.hid (Below.trans HB3.out (ho.frame hg HB3.out.size fun k e => (HT3.out.row.lt k e).1))
  have HN := Lib.hid (nearT_yes g w.heap.size 2 _ [⟨3, ⟨#[98]⟩⟩, ⟨5, ⟨#[97]⟩⟩] 4 w4 ht ⟨5, ⟨#[97]⟩⟩ rfl)
  have HT4 := Lib.hid ht
  clear ht ho HB3 HT3 HP3
  go_wp2_with fail
  refine HN.out.mono ?_
  rintro e w5 ⟨rfl, hb⟩
  have HB5 := Lib.hid (Below.past HB4.out hb HB4.out.size)
  have HT5 := Lib.hid (HT4.out.past hb)
  have hba := (Below.refl w5.heap.size w5).alloc (Nat.le_refl _) (.cells #[.int .i64 5, .string ⟨#[97]⟩] 53)
  have HLN := Lib.hid (lenT_any g w.heap.size 2 _ _ _ (HT5.out.past hba))
  have HB6 := Lib.hid (Below.past HB5.out hba HB5.out.size)
  clear hb HN hba
  go_wp2_with fail
  refine HLN.out.mono ?_
  rintro e w6 ⟨rfl, rfl⟩
  go_wp2_with fail
  go_ret
  exact ⟨rfl, HB6.out⟩
set_option maxHeartbeats 4000000 in
set_option maxRecDepth 100000 in
theorem sameT_any (W : World) (g h : Nat) (room : Int) (v u : Value) (S L : List RowT) (w : World) (H : TwoT W g h room v u S L w) :
    Calls Try.prog 25 #[.pointer (some ⟨g, 0, none⟩), .pointer (some ⟨h, 0, none⟩)] w fun e w' => e = .returned (.bool true) ∧ Below w.heap.size w w' := by
  have HR := Lib.hid (rowsT_any g W.heap.size room v S w H.tab)
  have HH := Lib.hid H
  have hrm := H.tab.rm
  have hln := H.tab.len
  obtain ⟨n, hn⟩ : ∃ n, Hid (S.length = n) := ⟨_, Lib.hid rfl⟩
  rw [hn.out] at HR hln
  clear H
  go_enter Try.func25, Try.ntmps25
  go_wp2_with fail
  refine HR.out.mono ?_
  rintro e w1 ⟨v1, rfl, ho1, hb1⟩
  obtain ⟨A1, c1, rfl⟩ := own_form ho1
  have HQ := Lib.hid (refRowsT_any h W.heap.size room u L w1 (HH.out.doc.past hb1))
  rw [HH.out.rel.rows, ← HH.out.rel.len, hn.out] at HQ
  have HR1 := Lib.hid (Rd.of_own ho1)
  have HB1 := Lib.hid hb1
  clear ho1 hb1 HR
  go_wp2_with fail
  refine HQ.out.mono ?_
  rintro e w2 ⟨v2, rfl, ho2, hb2⟩
  obtain ⟨A2, c2, rfl⟩ := own_form ho2
  have HR2 := Lib.hid (Rd.of_own ho2)
  have HR12 := Lib.hid (HR1.out.past hb2)
  have HB2 := Lib.hid (Below.past HB1.out hb2 HB1.out.size)
  have HT2 := Lib.hid (HH.out.past HB2.out)
  clear ho2 hb2 HQ HR1 HB1
  have HLN : Hid (∀ k, Calls Try.prog 34 #[.pointer (some ⟨g, 0, none⟩)] (w2.drewN k) fun e w'' => e = .returned (.int .i64 n) ∧ ∃ m, w'' = w2.drewN m) := Lib.hid fun k => by
    refine (lenT_any g W.heap.size room v S (w2.drewN k) (HT2.out.past (below_drewN (Below.refl _ _) k)).tab).mono ?_
    rintro e w'' ⟨rfl, rfl⟩
    exact ⟨by rw [hn.out], k, rfl⟩
  have HLF : Hid (∀ k, Calls Try.prog 35 #[.pointer (some ⟨g, 0, none⟩)] (w2.drewN k) fun e w'' => e = .returned (.int .i64 (room - n)) ∧ ∃ m, w'' = w2.drewN m) := Lib.hid fun k => by
    refine (leftT_q g W.heap.size room v S (w2.drewN k) (HT2.out.past (below_drewN (Below.refl _ _) k)).tab).mono ?_
    rintro e w'' ⟨rfl, rfl⟩
    exact ⟨by rw [hn.out], k + 1, rfl⟩
  obtain ⟨X, c, hv⟩ := HT2.out.doc.form
  have q0 := HT2.out.doc.blk.cell 0
  have q1 := HT2.out.doc.blk.cell 1
  simp at q0 q1
  have hw : IntKind.i64.wrap (room - (n : Int)) = room - (n : Int) := IntWalk.i64_in _ (by omega)
  have hnn : ((n : Int) != (n : Int)) = false := by simp
  have hrr : ((room - (n : Int)) != (room - (n : Int))) = false := by simp
  go_wp2_with fail
  go_quiet (first | (go_at_call 34; exact HLN.out _) | (go_at_call 35; exact HLF.out _))
  go_wp2_with fail
  clear q0 q1 hw hnn hrr HLN HLF
  go_loopw [7] (fun i wr => ∃ k : Nat, k ≤ n ∧ i = .int .i64 k ∧ Hid (Below w2.heap.size w2 wr)) (fun i _ => n - (intOf i).toNat)
  case atStart => exact ⟨0, Nat.zero_le _, rfl, Lib.hid (below_drewN (Below.refl _ _) nq)⟩
  case round =>
    obtain ⟨k, hk, rfl, HB⟩ := hrel
    by_cases hlt : k < n
    · have hlz : (k : Int) < (n : Int) := by omega
      obtain ⟨b2, o2, rfl, _, hd⟩ := (HR2.out.past HB.out).elem RowT.cells_len (List.getElem?_eq_getElem (by rw [hn.out]; exact hlt)) hlt
      have hg_f : S[k]? = some (S[k]'(by have := hn.out; omega)) := List.getElem?_eq_getElem _
      obtain ⟨b_f, off_f, rfl, hbb_f, hc_f⟩ := (HR12.out.past HB.out).elem RowT.cells_len hg_f hlt
      have HT_f := Lib.hid (show S.take (k + 1) = S.take k ++ [(S[k]'(by have := hn.out; omega))] from List.take_succ_eq_append_getElem (by have := hn.out; omega))
      have HM_f := Lib.hid (show (S[k]'(by have := hn.out; omega)) ∈ S from List.getElem_mem _)
      generalize (S[k]'(by have := hn.out; omega)) = f at *
      have c0 := hc_f 0 _ rfl
      have c1 := hc_f 1 _ rfl
      clear hc_f hg_f
      simp only [Nat.add_zero] at c0
      have d0 := hd 0 _ rfl
      have d1 := hd 1 _ rfl
      simp only [Nat.add_zero] at d0
      have e0 : (f.id != f.id) = false := by simp
      clear hd
      go_wp2_with fail
      go_quiet (fail)
      go_wp2_with fail
      go_roundw
      case rel => exact ⟨k + 1, by omega, by go_num, Lib.hid (below_drewN HB.out nq)⟩
      case measure => simp [intOf]; omega
    · have hlz : ¬ (k : Int) < (n : Int) := by omega
      go_wp2_with fail
      go_ret
      exact ⟨rfl, Below.past HB2.out HB.out HB2.out.size⟩
end Go.Proofs.Ytkdiongmegnicaa
