import Derived.Test.YtkdiongmegnicaaTabB
import Derived.Test.YtkdiongmegnicaaOnlyG
namespace Go.Proofs.Ytkdiongmegnicaa
open Go.RowKit

/-! ### Near -/
set_option maxHeartbeats 4000000 in
theorem nearT_yes (g base : Nat) (room : Int) (v : Value) (S : List RowT) (id : Int) (w : World) (hx : TabV w g base room v S) (r : RowT) (hr : S[posT S id]? = some r) :
    Calls Try.prog 26 #[.pointer (some ⟨g, 0, none⟩), .int .i64 id] w fun e w' => e = .returned (.tuple #[.agg #[.int .i64 r.id, .string r.v], .bool true]) ∧ Below w.heap.size w w' := by
  have hB0 := (Below.refl w.heap.size w).alloc (Nat.le_refl _) (.cells #[.int .i64 0, .string ⟨#[]⟩] 53)
  have bz0 := Blk.new w 53 #[.int .i64 0, .string ⟨#[]⟩] w.heap.size rfl
  obtain ⟨W, hW⟩ : ∃ W, Hid (w.alloc (.cells #[.int .i64 0, .string ⟨#[]⟩] 53) = W) := ⟨_, Lib.hid rfl⟩
  rw [hW.out] at hB0 bz0
  have HF := Lib.hid (findT_any g base room v S id W (hx.past hB0))
  have HX := Lib.hid (hx.past hB0)
  have HL := (List.getElem?_eq_some_iff.1 hr).1
  obtain ⟨I, hI⟩ : ∃ I, Hid (posT S id = I) := ⟨_, Lib.hid rfl⟩
  have HR := Lib.hid hr
  rw [hI.out] at HF HR HL
  generalize isT S id = B at HF
  have HB0 := Lib.hid hB0
  have HZ := Lib.hid bz0
  clear hx hr hB0 bz0
  go_enter Try.func26, Try.ntmps26
  go_upto_region 1 with fail
  rw [hW.out]
  go_wp2_with fail
  refine HF.out.mono ?_
  rintro e w1 ⟨rfl, hb⟩
  have hx1 := HX.out.past hb
  have HLN := Lib.hid (lenT_any g base room v S w1 hx1)
  have HX1 := Lib.hid hx1
  have HZ1 := Lib.hid (HZ.out.past hb)
  have HB1 := Lib.hid (Below.past HB0.out hb HB0.out.size)
  have hz : ¬ (S.length : Int) ≤ (I : Int) := by omega
  clear hb hx1 HF
  go_wp2_with fail
  refine HLN.out.mono ?_
  rintro e w2 ⟨rfl, rfl⟩
  obtain ⟨X, c, hv⟩ := HX1.out.form
  subst hv
  have p1 := HX1.out.blk.cell 1
  simp at p1
  obtain ⟨b, off, he, _, hc⟩ := (Rd.of_own HX1.out.row).elem RowT.cells_len HR.out HL
  cases he
  have c0 := hc 0 _ rfl
  have c1 := hc 1 _ rfl
  simp only [Nat.add_zero] at c0
  have hz2 : (I : Int) < (S.length : Int) := by omega
  have z0 := HZ1.out.cell 0
  have z1 := HZ1.out.cell 1
  have f0 := HZ1.out.frozen 0
  have f1 := HZ1.out.frozen 1
  have hzl := HZ1.out.lt
  simp at z0 z1
  clear hc HLN
  go_wp2_with fail
  refine bodyPost_ret (v := .tuple #[.agg #[.int .i64 r.id, .string r.v], .bool true]) (by simp [results, Try.results26, go_sem, z0, z1, hzl]) rfl ⟨rfl, ?_⟩
  exact ((HB1.out).setCell (p := ⟨w.heap.size, 0, none⟩) (Nat.le_refl _) _).setCell (p := ⟨w.heap.size, 1, none⟩) (Nat.le_refl _) _
set_option maxHeartbeats 4000000 in
theorem nearT_no (g base : Nat) (room : Int) (v : Value) (S : List RowT) (id : Int) (w : World) (hx : TabV w g base room v S) (hr : posT S id = S.length) :
    Calls Try.prog 26 #[.pointer (some ⟨g, 0, none⟩), .int .i64 id] w fun e w' => e = .returned (.tuple #[.agg #[.int .i64 0, .string ⟨#[]⟩], .bool false]) ∧ Below w.heap.size w w' := by
  have hB0 := (Below.refl w.heap.size w).alloc (Nat.le_refl _) (.cells #[.int .i64 0, .string ⟨#[]⟩] 53)
  have bz0 := Blk.new w 53 #[.int .i64 0, .string ⟨#[]⟩] w.heap.size rfl
  obtain ⟨W, hW⟩ : ∃ W, Hid (w.alloc (.cells #[.int .i64 0, .string ⟨#[]⟩] 53) = W) := ⟨_, Lib.hid rfl⟩
  rw [hW.out] at hB0 bz0
  have HF := Lib.hid (findT_any g base room v S id W (hx.past hB0))
  rw [hr] at HF
  have HX := Lib.hid (hx.past hB0)
  generalize isT S id = B at HF
  have HB0 := Lib.hid hB0
  have HZ := Lib.hid bz0
  clear hx hr hB0 bz0
  go_enter Try.func26, Try.ntmps26
  go_upto_region 1 with fail
  rw [hW.out]
  go_wp2_with fail
  refine HF.out.mono ?_
  rintro e w1 ⟨rfl, hb⟩
  have HLN := Lib.hid (lenT_any g base room v S w1 (HX.out.past hb))
  have HZ1 := Lib.hid (HZ.out.past hb)
  have HB1 := Lib.hid (Below.past HB0.out hb HB0.out.size)
  clear hb HF
  go_wp2_with fail
  refine HLN.out.mono ?_
  rintro e w2 ⟨rfl, rfl⟩
  have z0 := HZ1.out.cell 0
  have z1 := HZ1.out.cell 1
  have f0 := HZ1.out.frozen 0
  have f1 := HZ1.out.frozen 1
  have hzl := HZ1.out.lt
  simp at z0 z1
  clear HLN
  go_wp2_with fail
  refine bodyPost_ret (v := .tuple #[.agg #[.int .i64 0, .string ⟨#[]⟩], .bool false]) (by simp [results, Try.results26, go_sem, z0, z1, hzl]) rfl ⟨rfl, ?_⟩
  exact ((HB1.out).setCell (p := ⟨w.heap.size, 0, none⟩) (Nat.le_refl _) _).setCell (p := ⟨w.heap.size, 1, none⟩) (Nat.le_refl _) _

/-! ### A copy of any rows; Rows, Copy -/
theorem rowInfo : (Try.prog.info? 53).map (fun i => (i.zero, i.size, i.bytes)) = some (some (.agg #[.int .i64 0, .string ⟨#[]⟩]), 2, 24) := by kernel_rfl
theorem rd_none0T {w : World} {B sz n : Nat} {xs : List Value} (h : Rd w B sz none n xs) : n = 0 := by
  rcases Nat.eq_zero_or_pos n with h0 | h0
  · exact h0
  · obtain ⟨_, _, he, _⟩ := h.2 h0
    cases he
set_option maxRecDepth 100000 in
set_option maxHeartbeats 1000000 in
theorem cloneR_nil (cp : Nat) (w : World) : Calls Try.prog 85 #[.slice none 0 cp] w fun e w' => e = .returned (.slice none 0 0) ∧ w = w' := by
  have hq := fun w => Lib.run_eql_slice_nil (P := Try.prog) w 59 53 none 0 cp 0 0 Try.underlying59
  go_enter Try.func85, Try.ntmps85
  go_wp2_with fail
  go_ret
  exact ⟨rfl, rfl⟩
set_option maxRecDepth 100000 in
set_option maxHeartbeats 1000000 in
theorem cloneR_some (A : Addr) (n cp : Nat) (l : List RowT) (w : World) (hr : Rd w w.heap.size 2 (some A) n (l.flatMap RowT.cells)) (hn : n ≤ 1000) : Calls Try.prog 85 #[.slice (some A) n cp] w fun e w' => ∃ v, e = .returned v ∧ w'.ownsRow w.heap.size 53 2 v n (l.flatMap RowT.cells) ∧ Below w.heap.size w w' := by
  have hq := fun w => Lib.run_eql_slice_nil (P := Try.prog) w 59 53 (some A) n cp 0 0 Try.underlying59
  have hB0 := (Below.refl w.heap.size w).alloc (Nat.le_refl _) (.cells #[] 53)
  have hr0 := hr.past hB0
  have hown : (w.alloc (.cells #[] 53)).ownsRow w.heap.size 53 2 (.slice (some ⟨w.heap.size, 0, none⟩) 0 0) 0 [] := ⟨rfl, .inr ⟨w.heap.size, 0, #[], rfl, Nat.le_refl _, heap_alloc_new w _, Nat.le_refl _, Nat.zero_le _, rfl, rfl⟩⟩
  obtain ⟨j0, hj0, jz0, jz1, jz2⟩ := info_parts rowInfo
  have hone : ∀ u ∈ l.flatMap RowT.cells, u.oneCell' = true := by
    intro u hu
    obtain ⟨f, _, h2⟩ := List.mem_flatMap.1 hu
    simp [RowT.cells] at h2
    rcases h2 with rfl | rfl <;> rfl
  go_enter Try.func85, Try.ntmps85
  go_wp2_with (at_builtin; refine wpList_append_rd _ rfl (.tmp 5) (.tmp 6) 59 rfl w.heap.size 53 j0 _ 2 24 Try.underlying59 hj0 jz0 jz1 jz2 rfl (by decide) _ _ _ rfl hown (some A) n cp _ rfl hr0 (fun e => by cases e) hone (by omega) (by omega) (by simp) hB0 (Nat.le_refl _) ?_; intro v' w' hown' hb'; rw [Nat.zero_add, List.nil_append] at hown')
  go_ret
  exact ⟨_, rfl, hown', hb'⟩
theorem cloneR_any (A : Option Addr) (n cp : Nat) (l : List RowT) (w : World) (hr : Rd w w.heap.size 2 A n (l.flatMap RowT.cells)) (hn : n ≤ 1000) : Calls Try.prog 85 #[.slice A n cp] w fun e w' => ∃ v, e = .returned v ∧ w'.ownsRow w.heap.size 53 2 v n (l.flatMap RowT.cells) ∧ Below w.heap.size w w' := by
  cases A with
  | none =>
    obtain rfl := rd_none0T hr
    have hl : l = [] := List.length_eq_zero_iff.1 (hr.len (fun _ => rfl) (by omega))
    subst hl
    refine (cloneR_nil cp w).mono ?_
    rintro e w' ⟨rfl, rfl⟩
    exact ⟨_, rfl, World.ownsRow_nil _ _ _ _, Below.refl _ _⟩
  | some A1 => exact cloneR_some A1 n cp l w hr hn
set_option maxHeartbeats 1000000 in
theorem rowsT_any (g base : Nat) (room : Int) (v : Value) (S : List RowT) (w : World) (hx : TabV w g base room v S) : Calls Try.prog 28 #[.pointer (some ⟨g, 0, none⟩)] w fun e w' => ∃ v', e = .returned v' ∧ w'.ownsRow w.heap.size 53 2 v' S.length (S.flatMap RowT.cells) ∧ Below w.heap.size w w' := by
  obtain ⟨X, c, hv⟩ := hx.form
  subst hv
  have p1 := hx.blk.cell 1
  simp at p1
  have HC := Lib.hid (cloneR_any X S.length c S w (Rd.of_own hx.row) hx.len)
  clear hx
  go_enter Try.func28, Try.ntmps28
  go_wp2_with fail
  refine HC.out.mono ?_
  rintro e w1 ⟨v', rfl, hov, hb⟩
  have HO := Lib.hid hov
  have HB := Lib.hid hb
  obtain ⟨A2, c2, rfl⟩ := own_form hov
  clear hov hb
  go_wp2_with fail
  go_ret
  exact ⟨_, rfl, HO.out, HB.out⟩
theorem rowsT_nil (w : World) : Calls Try.prog 28 #[.pointer none] w fun e w' => e = .returned (.slice none 0 0) ∧ w = w' := by
  go_enter Try.func28, Try.ntmps28
  go_wp2_with fail
  go_ret
  exact ⟨rfl, rfl⟩
theorem copyT_nil (w : World) : Calls Try.prog 29 #[.pointer none] w fun e w' => e = .returned (.pointer none) ∧ w = w' := by
  go_enter Try.func29, Try.ntmps29
  go_wp2_with fail
  go_ret
  exact ⟨rfl, rfl⟩
end Go.Proofs.Ytkdiongmegnicaa
