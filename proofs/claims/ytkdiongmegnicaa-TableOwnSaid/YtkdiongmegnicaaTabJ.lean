import Derived.Test.YtkdiongmegnicaaTabI
namespace Go.Proofs.Ytkdiongmegnicaa
open Go.RowKit

/-! ### slices.Delete of one row -/
def DelTPost (base b m c : Nat) (ys : List Value) (w : World) (e : Ending) (w' : World) : Prop :=
  e = .returned (.slice (some ⟨b, 0, none⟩) m c) ∧ w'.ownsRow base 53 2 (.slice (some ⟨b, 0, none⟩) m c) m ys ∧ w.grownBy w' (some b)
set_option maxHeartbeats 8000000 in
set_option maxRecDepth 100000 in
theorem delT_any (base b m c i : Nat) (cur : Array Value) (xs : List Value) (w : World) (hb : Blk w b 53 cur) (hbb : base ≤ b) (h1 : ∀ u ∈ xs, u.oneCell' = true) (hi : i ≤ m) (hn : m ≤ 1000) (hc : m + 1 ≤ c) (hcm : c ≤ maxLen) (hcs : cur.size = c * 2) (hxs : cur.toList.take ((m + 1) * 2) = xs) :
    Calls Try.prog 86 #[.slice (some ⟨b, 0, none⟩) (m + 1) c, .int .i64 i, .int .i64 ((i : Int) + 1)] w (DelTPost base b m c (xs.take (i * 2) ++ xs.drop (i * 2 + 2)) w) := by
  obtain ⟨i0, hi0, hz0, hz1, hz2⟩ := info_parts rowInfo
  have hxl : xs.length = (m + 1) * 2 := by rw [← hxs, List.length_take]; simp [hcs]; omega
  obtain ⟨ip1, ip2⟩ := del_place cur.toList xs (i * 2) 2 ((m + 1) * 2) hxs (by omega) (by simp [hcs]; omega)
  have hdl : (xs.drop (i * 2 + 2)).length = (m - i) * 2 := by rw [List.length_drop, hxl]; omega
  obtain ⟨A, hA, hsrc⟩ : ∃ A : Addr, (if c = i + 1 then (some ⟨b, 0, none⟩ : Option Addr) else some ⟨b, (i + 1) * 2, none⟩) = some A ∧ ∀ j u, (xs.drop (i * 2 + 2))[j]? = some u → w.drew.cell? (A.add j) = some u := by
    by_cases h : c = i + 1
    · refine ⟨⟨b, 0, none⟩, by simp [h], fun j u hu => ?_⟩
      have h0 : (xs.drop (i * 2 + 2)).length = 0 := by rw [hdl]; omega
      rw [List.length_eq_zero_iff.1 h0] at hu
      simp at hu
    · refine ⟨⟨b, (i + 1) * 2, none⟩, by simp [h], fun j u hu => ?_⟩
      rw [Addr.add_lit]
      have hj2 : xs[i * 2 + 2 + j]? = some u := by rwa [List.getElem?_drop] at hu
      rw [← hxs, List.getElem?_take] at hj2
      split at hj2
      · rw [show (w.drew).cell? ⟨b, (i + 1) * 2 + j, none⟩ = cur[(i + 1) * 2 + j]? from hb.cell _, show (i + 1) * 2 + j = i * 2 + 2 + j by omega]
        simpa using hj2
      · cases hj2
  obtain ⟨L1, hL1⟩ : ∃ L1, cur.toList.take (i * 2) ++ xs.drop (i * 2 + 2) ++ cur.toList.drop (i * 2 + (xs.drop (i * 2 + 2)).length) = L1 := ⟨_, rfl⟩
  simp only [hL1] at ip1 ip2
  have hap : ∀ ty, (Builtin.append_ #[59, 59] ty #[.slice (some ⟨b, 0, none⟩) i c, .slice (some A) (m - i) (c - (i + 1))]).run Try.prog w.drew = .ok (.slice (some ⟨b, 0, none⟩) m c) (w.drew.setRow b L1.toArray) := fun ty => by
    have h := run_append_room_row (P := Try.prog) w.drew 59 59 ty 53 i0 rowUnder hi0 2 hz1 b 0 i c (.slice (some A) (m - i) (c - (i + 1))) (m - i) (xs.drop (i * 2 + 2)) (Src.ofSlice _ rowUnder A _ _ _ hdl hsrc (fun u hu => h1 u (List.mem_of_mem_drop hu))) (by omega) cur 53 hb (by rw [hdl, hcs]; omega)
    simp only [Nat.zero_add, hL1] at h
    rw [h, show i + (m - i) = m by omega]
  have hb1 : Blk (w.drew.setRow b L1.toArray) b 53 L1.toArray := setRow_heap _ b cur _ _ (0, 0) hb
  have hg1 : w.grownBy (w.drew.setRow b L1.toArray) (some b) := grown_setRowI (grown_drewI (grown_reflI w _)) _
  obtain ⟨W1, hW1⟩ : ∃ W1, Hid (w.drew.setRow b L1.toArray = W1) := ⟨_, Lib.hid rfl⟩
  rw [hW1.out] at hap hb1 hg1
  obtain ⟨L2, hL2⟩ : ∃ L2, L1.take (m * 2) ++ [Value.int .i64 0, .string ⟨#[]⟩] ++ L1.drop (m * 2 + 2) = L2 := ⟨_, rfl⟩
  have hcl : ∀ ty, (Builtin.clear_ #[59] ty #[.slice (some ⟨b, m * 2, none⟩) 1 (c - m)]).run Try.prog W1 = .ok (.tuple #[]) (W1.setRow b L2.toArray) := fun ty => by
    have h := run_clear_row1 (P := Try.prog) W1 59 53 ty (.agg #[.int .i64 0, .string ⟨#[]⟩]) rowUnder (by intro w; simp [zeroValue, typeInfo, hi0, hz0]) (by intro v hv; simp [Value.cells] at hv; rcases hv with rfl | rfl <;> rfl) b (m * 2) (c - m) L1.toArray 53 hb1 (by simp [Value.cells, ip2, hcs]; omega)
    rw [h]
    simp only [Value.cells]
    rw [← hL2]
    rfl
  have HP1 : Hid (L2.take (m * 2) = xs.take (i * 2) ++ xs.drop (i * 2 + 2)) := Lib.hid (by
    rw [← hL2, List.append_assoc, List.take_append_of_le_length (by simp [ip2, hcs]; omega), List.take_take, Nat.min_self, ← ip1]
    congr 1
    omega)
  have HCS : Hid (L2.length = c * 2) := Lib.hid (by rw [← hL2]; simp [ip2, hcs]; omega)
  obtain ⟨ys, hys⟩ : ∃ ys, Hid (xs.take (i * 2) ++ xs.drop (i * 2 + 2) = ys) := ⟨_, Lib.hid rfl⟩
  have HYL : Hid (ys.length = m * 2) := Lib.hid (by rw [← hys.out]; simp [hxl]; omega)
  rw [hys.out] at HP1 ⊢
  have HB1 := Lib.hid hb1
  have HG1 := Lib.hid hg1
  clear hb h1 hxs ip1 ip2 hL1 hL2 hb1 hg1 hcs hxl hdl hsrc hz0 hz1 hz2 hi0
  have hz2 : ¬ ((i : Int) = (i : Int) + 1) := by omega
  have hb1 : (0 : Int) ≤ (i : Int) + 1 := by omega
  have hin : i ≤ c := by omega
  have hic : i + 1 ≤ c := by omega
  have him : i ≤ m + 1 := by omega
  have hbm : ¬ (c = m) := by omega
  have hmc : m ≤ c := by omega
  have hb3 : (i : Int) + 1 ≤ (m : Int) + 1 := by omega
  have hb5 : (i : Int) ≤ (m : Int) + 1 := by omega
  have htn : ((i : Int) + 1).toNat = i + 1 := by omega
  go_enter Try.func86, Try.ntmps86
  go_wp2_with fail
  go_region_law (refine step_append_runI rfl (.tmp 22) (.tmp 25) 59 59 rfl (.slice (some ⟨b, 0, none⟩) i c) (.slice (some A) (m - i) (c - (i + 1))) (by simp [Act.eval, Act.put]) (by simp [Act.eval, Act.put]) (hap _) ?_)
  go_wp2_with (at_builtin; refine wpList_clear_runJ _ rfl _ 59 rfl _ rfl (hcl _) ?_)
  go_ret
  refine ⟨rfl, ⟨HYL.out, .inr ⟨b, c, L2.toArray, rfl, hbb, setRow_heap _ b _ _ _ (0, 0) HB1.out, hmc, hcm, by simpa using HCS.out, by simpa using HP1.out⟩⟩, grown_setRowI HG1.out _⟩

/-! ### Drop -/
theorem outT_len {S : List RowT} {p m : Nat} (hl : S.length = m + 1) (hp : p < m + 1) : (outT S p).length = m := by
  simp [outT]; omega
theorem outT_cells (S : List RowT) (p : Nat) : (outT S p).flatMap RowT.cells = (S.flatMap RowT.cells).take (p * 2) ++ (S.flatMap RowT.cells).drop (p * 2 + 2) := by
  rw [flat_take RowT.cells 2 RowT.cells_len, show p * 2 + 2 = (p + 1) * 2 by omega, flat_drop RowT.cells 2 RowT.cells_len, outT, List.flatMap_append]
theorem outT_ris {S : List RowT} (h : RisT S) {p : Nat} {r : RowT} (hr : S[p]? = some r) : RisT (outT S p) := by
  rw [ris_pw] at h ⊢
  rw [splitT hr, List.pairwise_append, List.pairwise_cons] at h
  exact List.pairwise_append.2 ⟨h.1, h.2.1.2, fun a ha b hb => h.2.2 a ha b (List.mem_cons_of_mem _ hb)⟩
def DropTPost (g base : Nat) (room : Int) (v : Value) (S : List RowT) (s : ByteArray) (w : World) (e : Ending) (w' : World) : Prop :=
  e = .returned (.tuple #[.string s, .int .i64 0]) ∧ ∃ v', TabV w' g base room v' S ∧ OnlyG g v w w' ∧ v'.ownBlock = v.ownBlock
set_option maxHeartbeats 4000000 in
theorem dropT_yes (g base : Nat) (room : Int) (v : Value) (S : List RowT) (id : Int) (w : World) (hx : TabV w g base room v S) (hi : isT S id = true) (r : RowT) (hr : S[posT S id]? = some r) :
    Calls Try.prog 31 #[.pointer (some ⟨g, 0, none⟩), .int .i64 id] w (DropTPost g base room v (outT S (posT S id)) r.v w) := by
  have HG := Lib.hid (getT_yes g base room v S id w hx hi r hr)
  have HX := Lib.hid hx
  have HI := Lib.hid hi
  have HR := Lib.hid hr
  have HL := (List.getElem?_eq_some_iff.1 hr).1
  obtain ⟨I, hI⟩ : ∃ I, Hid (posT S id = I) := ⟨_, Lib.hid rfl⟩
  rw [hI.out] at HL HR ⊢
  obtain ⟨m, hm⟩ : ∃ m, S.length = m + 1 := ⟨S.length - 1, by omega⟩
  have HM := Lib.hid hm
  rw [hm] at HL
  clear hx hi hr hm
  go_enter Try.func31, Try.ntmps31
  go_wp2_with fail
  refine HG.out.mono ?_
  rintro e w1 ⟨rfl, hb⟩
  have HF := Lib.hid (findT_any g base room v S id w1 (HX.out.past hb))
  rw [hI.out, HI.out] at HF
  have HB := Lib.hid hb
  clear hb HG
  go_wp2_with fail
  refine HF.out.mono ?_
  rintro e w2 ⟨rfl, hb⟩
  have HB2 := Lib.hid (Below.past HB.out hb HB.out.size)
  have HX2 := Lib.hid (HX.out.past HB2.out)
  clear hb HF HB
  obtain ⟨b, c, cur, hv, hbb, hh, hnc, hcm, hcs, hxs⟩ : ∃ b c cur, v = .slice (some ⟨b, 0, none⟩) (m + 1) c ∧ base ≤ b ∧ w2.heap[b]? = some (.cells cur 53 (0, 0)) ∧ m + 1 ≤ c ∧ c ≤ maxLen ∧ cur.size = c * 2 ∧ cur.toList.take ((m + 1) * 2) = S.flatMap RowT.cells := by
    rcases HX2.out.row.2 with ⟨_, h0⟩ | ⟨b, c, cur, e, h1, h2, h3, h4, h5, h6⟩
    · have := HM.out; omega
    · rw [HM.out] at e h3 h6
      exact ⟨b, c, cur, e, h1, h2, h3, h4, h5, h6⟩
  subst hv
  have HBK := Lib.hid HX2.out.blk
  have p1 := HBK.out.cell 1
  simp at p1
  have HD := Lib.hid (delT_any base b m c I cur (S.flatMap RowT.cells) w2 hh hbb (one_cellsT S) (by omega) (by have := HX.out.len; have := HM.out; omega) hnc hcm hcs hxs)
  have hw1 : IntKind.i64.wrap ((I : Int) + 1) = (I : Int) + 1 := IntWalk.i64_in _ (by have := HX.out.len; have := HM.out; omega)
  clear hh hbb hnc hcm hcs hxs
  go_wp2_with fail
  refine HD.out.mono ?_
  rintro e w3 ⟨rfl, hown', hg'⟩
  have bz := Blk.grown HBK.out hg' (own_blk_ne HX2.out.row HBK.out (by decide))
  have y1 := bz.cell 1
  have f1 := bz.frozen 1
  simp at y1
  have HV : Hid (TabV (w3.setCell ⟨g, 1, none⟩ (.slice (some ⟨b, 0, none⟩) m c)) g base room (.slice (some ⟨b, 0, none⟩) m c) (outT S I)) := Lib.hid (by
    have hll := outT_len HM.out HL
    refine ⟨⟨_, c, by rw [hll]⟩, bz.put 1 _, ?_, outT_ris HX.out.ris HR.out, by rw [hll]; have := HX.out.len; have := HM.out; omega, HX.out.rm⟩
    rw [hll, outT_cells]
    exact own_far (p := ⟨g, 1, none⟩) hown' (own_blk_ne hown' bz (by decide)) _)
  have HO : Hid (OnlyG g (.slice (some ⟨b, 0, none⟩) (m + 1) c) w (w3.setCell ⟨g, 1, none⟩ (.slice (some ⟨b, 0, none⟩) m c))) := Lib.hid (((OnlyG.of_below HB2.out).grown hg').setCell ⟨g, 1, none⟩ rfl _)
  clear hown' hg' bz HD
  go_wp2_with fail
  go_ret2
  exact ⟨rfl, _, HV.out, HO.out, rfl⟩
set_option maxHeartbeats 2000000 in
theorem dropT_no (g base : Nat) (room : Int) (v : Value) (S : List RowT) (id : Int) (w : World) (hx : TabV w g base room v S) (hi : isT S id = false) :
    Calls Try.prog 31 #[.pointer (some ⟨g, 0, none⟩), .int .i64 id] w fun e w' => e = .returned (.tuple #[.string ⟨#[]⟩, .int .i64 8]) ∧ Below w.heap.size w w' := by
  have HG := Lib.hid (getT_no g base room v S id w hx hi)
  clear hx hi
  go_enter Try.func31, Try.ntmps31
  go_wp2_with fail
  refine HG.out.mono ?_
  rintro e w1 ⟨rfl, hb⟩
  go_wp2_with fail
  go_ret2
  exact ⟨rfl, hb⟩
theorem dropT_nil (id : Int) (w : World) : Calls Try.prog 31 #[.pointer none, .int .i64 id] w fun e w' => e = .returned (.tuple #[.string ⟨#[]⟩, .int .i64 8]) ∧ w = w' := by
  go_enter Try.func31, Try.ntmps31
  go_wp2_with fail
  refine (getT_nil _ _).mono ?_
  rintro e w1 ⟨rfl, rfl⟩
  go_wp2_with fail
  go_ret2
  exact ⟨rfl, rfl⟩
theorem nearT_nil (id : Int) (w : World) : Calls Try.prog 26 #[.pointer none, .int .i64 id] w fun e w' => e = .returned (.tuple #[.agg #[.int .i64 0, .string ⟨#[]⟩], .bool false]) ∧ Below w.heap.size w w' := by
  have hB0 := (Below.refl w.heap.size w).alloc (Nat.le_refl _) (.cells #[.int .i64 0, .string ⟨#[]⟩] 53)
  have bz0 := Blk.new w 53 #[.int .i64 0, .string ⟨#[]⟩] w.heap.size rfl
  obtain ⟨W, hW⟩ : ∃ W, Hid (w.alloc (.cells #[.int .i64 0, .string ⟨#[]⟩] 53) = W) := ⟨_, Lib.hid rfl⟩
  rw [hW.out] at hB0 bz0
  have HB0 := Lib.hid hB0
  have HZ := Lib.hid bz0
  clear hB0 bz0
  go_enter Try.func26, Try.ntmps26
  go_upto_region 1 with fail
  rw [hW.out]
  go_wp2_with fail
  refine (findT_nil _ _).mono ?_
  rintro e w1 ⟨rfl, rfl⟩
  go_wp2_with fail
  refine (lenT_nil _).mono ?_
  rintro e w2 ⟨rfl, rfl⟩
  have z0 := HZ.out.cell 0
  have z1 := HZ.out.cell 1
  have f0 := HZ.out.frozen 0
  have f1 := HZ.out.frozen 1
  simp at z0 z1
  go_wp2_with fail
  refine bodyPost_ret (v := .tuple #[.agg #[.int .i64 0, .string ⟨#[]⟩], .bool false]) (by simp [results, Try.results26, go_sem, z0, z1]) rfl ⟨rfl, ?_⟩
  exact ((HB0.out).setCell (p := ⟨w.heap.size, 0, none⟩) (Nat.le_refl _) _).setCell (p := ⟨w.heap.size, 1, none⟩) (Nat.le_refl _) _
end Go.Proofs.Ytkdiongmegnicaa
