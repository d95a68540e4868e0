import Derived.Test.YtelbolhckhdioaaTbRH
namespace Go.Proofs.Ytelbolhckhdioaa.TTbR
open Go.RowKit Go.Proofs.Ytelbolhckhdioaa

/-! ### Put -/
def putTS (room : Int) (S : List RowT) (id : Int) (s : Trad) : List RowT := if putTK room S id = 0 then insT S ⟨id, s⟩ else S
def PutTPost (g base : Nat) (room : Int) (v : Value) (S : List RowT) (id : Int) (s : Trad) (w : World) (e : Ending) (w' : World) : Prop :=
  e = .returned (.int .i64 (putTK room S id)) ∧ ∃ v', TabV w' g base room v' (putTS room S id s) ∧ OnlyG g v w w' ∧ (v'.ownBlock = v.ownBlock ∨ ∃ k, v'.ownBlock = some k ∧ w.heap.size ≤ k)
theorem putT_no {g base : Nat} {room : Int} {v : Value} {S : List RowT} {id : Int} {s : Trad} {w w' : World} {K : Int} (hx : TabV w g base room v S) (hk : putTK room S id = K) (h0 : K ≠ 0) (hb : Below w.heap.size w w') : PutTPost g base room v S id s w (.returned (.int .i64 K)) w' :=
  ⟨by rw [hk], v, by rw [putTS, hk, if_neg h0]; exact hx.past hb, OnlyG.of_below hb, .inl rfl⟩
theorem one_cellsT (S : List RowT) : ∀ u ∈ S.flatMap RowT.cells, u.oneCell' = true := by
  intro u hu
  obtain ⟨f, _, h2⟩ := List.mem_flatMap.1 hu
  simp [RowT.cells] at h2
  rcases h2 with rfl | rfl | rfl | rfl | rfl | rfl | rfl <;> rfl
theorem insT_len (S : List RowT) (x : RowT) : (insT S x).length = S.length + 1 := by
  have := posT_le S x.id
  simp [insT]; omega
theorem insT_cells (S : List RowT) (x : RowT) : (insT S x).flatMap RowT.cells = (S.flatMap RowT.cells).take (posT S x.id * 7) ++ x.cells ++ (S.flatMap RowT.cells).drop (posT S x.id * 7) := by
  rw [flat_take RowT.cells 7 RowT.cells_len, flat_drop RowT.cells 7 RowT.cells_len, insT, List.flatMap_append, List.flatMap_cons, List.append_assoc]
theorem insT_ris {S : List RowT} (h : RisT S) {x : RowT} (hn : isT S x.id = false) : RisT (insT S x) := (RelT.put ⟨h, List.Perm.refl S⟩ hn).ris
/-! ### slices.Delete of one row -/
def DelTPost (base b m c : Nat) (ys : List Value) (w : World) (e : Ending) (w' : World) : Prop :=
  e = .returned (.slice (some ⟨b, 0, none⟩) m c) ∧ w'.ownsRow base 156 7 (.slice (some ⟨b, 0, none⟩) m c) m ys ∧ w.grownBy w' (some b)
set_option maxHeartbeats 8000000 in
set_option maxRecDepth 100000 in
theorem delT_any (base b m c i : Nat) (cur : Array Value) (xs : List Value) (w : World) (hb : Blk w b 156 cur) (hbb : base ≤ b) (h1 : ∀ u ∈ xs, u.oneCell' = true) (hi : i ≤ m) (hn : m ≤ 1000) (hc : m + 1 ≤ c) (hcm : c ≤ maxLen) (hcs : cur.size = c * 7) (hxs : cur.toList.take ((m + 1) * 7) = xs) :
    Calls Try.prog 143 #[.slice (some ⟨b, 0, none⟩) (m + 1) c, .int .i64 i, .int .i64 ((i : Int) + 1)] w (DelTPost base b m c (xs.take (i * 7) ++ xs.drop (i * 7 + 7)) w) := by
  obtain ⟨i0, hi0, hz0, hz1, hz2⟩ := info_parts rowInfo
  have hxl : xs.length = (m + 1) * 7 := by rw [← hxs, List.length_take]; simp [hcs]; omega
  obtain ⟨ip1, ip2⟩ := del_place cur.toList xs (i * 7) 7 ((m + 1) * 7) hxs (by omega) (by simp [hcs]; omega)
  have hdl : (xs.drop (i * 7 + 7)).length = (m - i) * 7 := by rw [List.length_drop, hxl]; omega
  obtain ⟨A, hA, hsrc⟩ : ∃ A : Addr, (if c = i + 1 then (some ⟨b, 0, none⟩ : Option Addr) else some ⟨b, (i + 1) * 7, none⟩) = some A ∧ ∀ j u, (xs.drop (i * 7 + 7))[j]? = some u → w.drew.cell? (A.add j) = some u := by
    by_cases h : c = i + 1
    · refine ⟨⟨b, 0, none⟩, by simp [h], fun j u hu => ?_⟩
      have h0 : (xs.drop (i * 7 + 7)).length = 0 := by rw [hdl]; omega
      rw [List.length_eq_zero_iff.1 h0] at hu
      simp at hu
    · refine ⟨⟨b, (i + 1) * 7, none⟩, by simp [h], fun j u hu => ?_⟩
      rw [Addr.add_lit]
      have hj2 : xs[i * 7 + 7 + j]? = some u := by rwa [List.getElem?_drop] at hu
      rw [← hxs, List.getElem?_take] at hj2
      split at hj2
      · rw [show (w.drew).cell? ⟨b, (i + 1) * 7 + j, none⟩ = cur[(i + 1) * 7 + j]? from hb.cell _, show (i + 1) * 7 + j = i * 7 + 7 + j by omega]
        simpa using hj2
      · cases hj2
  obtain ⟨L1, hL1⟩ : ∃ L1, cur.toList.take (i * 7) ++ xs.drop (i * 7 + 7) ++ cur.toList.drop (i * 7 + (xs.drop (i * 7 + 7)).length) = L1 := ⟨_, rfl⟩
  simp only [hL1] at ip1 ip2
  have hap : ∀ ty, (Builtin.append_ #[153, 153] ty #[.slice (some ⟨b, 0, none⟩) i c, .slice (some A) (m - i) (c - (i + 1))]).run Try.prog w.drew = .ok (.slice (some ⟨b, 0, none⟩) m c) (w.drew.setRow b L1.toArray) := fun ty => by
    have h := run_append_room_row (P := Try.prog) w.drew 153 153 ty 156 i0 rowUnder hi0 7 hz1 b 0 i c (.slice (some A) (m - i) (c - (i + 1))) (m - i) (xs.drop (i * 7 + 7)) (Src.ofSlice _ rowUnder A _ _ _ hdl hsrc (fun u hu => h1 u (List.mem_of_mem_drop hu))) (by omega) cur 156 hb (by rw [hdl, hcs]; omega)
    simp only [Nat.zero_add, hL1] at h
    rw [h, show i + (m - i) = m by omega]
  have hb1 : Blk (w.drew.setRow b L1.toArray) b 156 L1.toArray := setRow_heap _ b cur _ _ (0, 0) hb
  have hg1 : w.grownBy (w.drew.setRow b L1.toArray) (some b) := grown_setRowI (grown_drewI (grown_reflI w _)) _
  obtain ⟨W1, hW1⟩ : ∃ W1, Hid (w.drew.setRow b L1.toArray = W1) := ⟨_, Lib.hid rfl⟩
  rw [hW1.out] at hap hb1 hg1
  obtain ⟨L2, hL2⟩ : ∃ L2, L1.take (m * 7) ++ [Value.int .i64 0, .int .i64 0, .int .i64 0, .int .i64 0, .int .i64 0, .int .i64 0, .int .i64 0] ++ L1.drop (m * 7 + 7) = L2 := ⟨_, rfl⟩
  have hcl : ∀ ty, (Builtin.clear_ #[153] ty #[.slice (some ⟨b, m * 7, none⟩) 1 (c - m)]).run Try.prog W1 = .ok (.tuple #[]) (W1.setRow b L2.toArray) := fun ty => by
    have h := run_clear_row1 (P := Try.prog) W1 153 156 ty (.agg #[.int .i64 0, .int .i64 0, .int .i64 0, .int .i64 0, .int .i64 0, .int .i64 0, .int .i64 0]) rowUnder (by intro w; simp [zeroValue, typeInfo, hi0, hz0]) (by intro v hv; simp [Value.cells] at hv; rcases hv with rfl | rfl | rfl | rfl | rfl | rfl | rfl <;> rfl) b (m * 7) (c - m) L1.toArray 156 hb1 (by simp [Value.cells, ip2, hcs]; omega)
    rw [h]
    simp only [Value.cells]
    rw [← hL2]
    rfl
  have HP1 : Hid (L2.take (m * 7) = xs.take (i * 7) ++ xs.drop (i * 7 + 7)) := Lib.hid (by
    rw [← hL2, List.append_assoc, List.take_append_of_le_length (by simp [ip2, hcs]; omega), List.take_take, Nat.min_self, ← ip1]
    congr 1
    omega)
  have HCS : Hid (L2.length = c * 7) := Lib.hid (by rw [← hL2]; simp [ip2, hcs]; omega)
  obtain ⟨ys, hys⟩ : ∃ ys, Hid (xs.take (i * 7) ++ xs.drop (i * 7 + 7) = ys) := ⟨_, Lib.hid rfl⟩
  have HYL : Hid (ys.length = m * 7) := Lib.hid (by rw [← hys.out]; simp [hxl]; omega)
  rw [hys.out] at HP1 ⊢
  have HB1 := Lib.hid hb1
  have HG1 := Lib.hid hg1
  clear hb h1 hxs ip1 ip2 hL1 hL2 hb1 hg1 hcs hxl hdl hsrc hz0 hz1 hz2 hi0
  have hz2 : ¬ ((i : Int) = (i : Int) + 1) := by omega
  have hb1 : (0 : Int) ≤ (i : Int) + 1 := by omega
  have hin : i ≤ c := by omega
  have hic : i + 1 ≤ c := by omega
  have him : i ≤ m + 1 := by omega
  have hbm : ¬ (c = m) := by omega
  have hmc : m ≤ c := by omega
  have hb3 : (i : Int) + 1 ≤ (m : Int) + 1 := by omega
  have hb5 : (i : Int) ≤ (m : Int) + 1 := by omega
  have htn : ((i : Int) + 1).toNat = i + 1 := by omega
  go_enter Try.func143, Try.ntmps143
  go_wp2_with fail
  go_region_law (refine step_append_runI rfl (.tmp 22) (.tmp 25) 153 153 rfl (.slice (some ⟨b, 0, none⟩) i c) (.slice (some A) (m - i) (c - (i + 1))) (by simp [Act.eval, Act.put]) (by simp [Act.eval, Act.put]) (hap _) ?_)
  go_wp2_with (at_builtin; refine wpList_clear_runJ _ rfl _ 153 rfl _ rfl (hcl _) ?_)
  go_ret
  refine ⟨rfl, ⟨HYL.out, .inr ⟨b, c, L2.toArray, rfl, hbb, setRow_heap _ b _ _ _ (0, 0) HB1.out, hmc, hcm, by simpa using HCS.out, by simpa using HP1.out⟩⟩, grown_setRowI HG1.out _⟩
/-! ### Drop -/
theorem outT_len {S : List RowT} {p m : Nat} (hl : S.length = m + 1) (hp : p < m + 1) : (outT S p).length = m := by
  simp [outT]; omega
theorem outT_cells (S : List RowT) (p : Nat) : (outT S p).flatMap RowT.cells = (S.flatMap RowT.cells).take (p * 7) ++ (S.flatMap RowT.cells).drop (p * 7 + 7) := by
  rw [flat_take RowT.cells 7 RowT.cells_len, show p * 7 + 7 = (p + 1) * 7 by omega, flat_drop RowT.cells 7 RowT.cells_len, outT, List.flatMap_append]
theorem outT_ris {S : List RowT} (h : RisT S) {p : Nat} {r : RowT} (hr : S[p]? = some r) : RisT (outT S p) := by
  rw [ris_pw] at h ⊢
  rw [splitT hr, List.pairwise_append, List.pairwise_cons] at h
  exact List.pairwise_append.2 ⟨h.1, h.2.1.2, fun a ha b hb => h.2.2 a ha b (List.mem_cons_of_mem _ hb)⟩

end Go.Proofs.Ytelbolhckhdioaa.TTbR
