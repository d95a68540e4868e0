import Derived.Test.YtelbolhckhdioaaTbRP
namespace Go.Proofs.Ytelbolhckhdioaa.TTbR
open Go.RowKit Go.Proofs.Ytelbolhckhdioaa

/-! ### slices.Insert of one row -/
def InsTPost (base : Nat) (v : Value) (n : Nat) (ys : List Value) (w : World) (e : Ending) (w' : World) : Prop :=
  ∃ v', e = .returned v' ∧ w'.ownsRow base 156 7 v' (n + 1) ys ∧ w.grownBy w' v.ownBlock ∧ (v'.ownBlock = v.ownBlock ∨ ∃ k, v'.ownBlock = some k ∧ w.heap.size ≤ k)
theorem rowUnder : Try.prog.underlying 153 = some (.slice 156) := Try.underlying153
theorem rowSz : (Try.prog.info? 156).map (·.size) = some 7 := by kernel_rfl
set_option maxHeartbeats 8000000 in
set_option maxRecDepth 100000 in
theorem insT_end (base : Nat) (v : Value) (n g vc : Nat) (xs : List Value) (a1 a2 a3 a4 a5 a6 a7 : Value) (w : World) (hown : w.ownsRow base 156 7 v n xs) (hx : Blk w g 156 #[a1, a2, a3, a4, a5, a6, a7]) (h1 : ∀ u ∈ [a1, a2, a3, a4, a5, a6, a7], u.oneCell' = true) (hn : n ≤ 1000) (hbase : base ≤ w.heap.size) :
    Calls Try.prog 135 #[v, .int .i64 n, .slice (some ⟨g, 0, none⟩) 1 vc] w (InsTPost base v n (xs ++ [a1, a2, a3, a4, a5, a6, a7]) w) := by
  obtain ⟨i0, hi0, hz0, hz1, hz2⟩ := info_parts rowInfo
  obtain ⟨X, c, rfl⟩ := own_form hown
  have hnews : ∀ (j : Nat) (u : Value), [a1, a2, a3, a4, a5, a6, a7][j]? = some u → w.cell? ((⟨g, 0, none⟩ : Addr).add j) = some u := fun j u hj => by
    rw [Addr.add_lit, Nat.zero_add, hx.cell j]
    simpa using hj
  have HO := Lib.hid hown
  have HN : Hid (∀ u ∈ [a1, a2, a3, a4, a5, a6, a7], u.oneCell' = true) := Lib.hid h1
  have HNW := Lib.hid hnews
  clear hown hx h1 hnews
  cases X with
  | none =>
    have h0 : n = 0 ∧ c = 0 := by
      rcases HO.out.2 with ⟨e, h0⟩ | ⟨g, cap, cur, e, _⟩
      · injection e with _ _ e; exact ⟨h0, e⟩
      · cases e
    obtain ⟨rfl, rfl⟩ := h0
    go_enter Try.func135, Try.ntmps135
    go_wp2_with (at_builtin; refine wpList_append_own_at _ rfl (.tmp 23) (.tmp 24) 153 rfl base 156 i0 _ 7 56 rowUnder hi0 hz0 hz1 hz2 rfl (by decide) _ _ _ rfl HO.out ⟨g, 0, none⟩ 1 vc [a1, a2, a3, a4, a5, a6, a7] rfl rfl HNW.out HN.out (by simp only [maxLen]; omega) (by omega) hbase ?_; intro v' w' q1 q2 _ q3)
    go_ret
    exact ⟨_, rfl, q1, q2, q3.imp id fun e => ⟨_, e, Nat.le_refl _⟩⟩
  | some ad =>
    go_enter Try.func135, Try.ntmps135
    go_wp2_with (at_builtin; refine wpList_append_own_at _ rfl (.tmp 23) (.tmp 24) 153 rfl base 156 i0 _ 7 56 rowUnder hi0 hz0 hz1 hz2 rfl (by decide) _ _ _ rfl HO.out ⟨g, 0, none⟩ 1 vc [a1, a2, a3, a4, a5, a6, a7] rfl rfl HNW.out HN.out (by simp only [maxLen]; omega) (by omega) hbase ?_; intro v' w' q1 q2 _ q3)
    all_goals
      go_ret
      exact ⟨_, rfl, q1, q2, q3.imp id fun e => ⟨_, e, Nat.le_refl _⟩⟩
set_option maxHeartbeats 8000000 in
set_option maxRecDepth 100000 in
theorem insT_shift (base b n c i g vc : Nat) (cur : Array Value) (xs : List Value) (a1 a2 a3 a4 a5 a6 a7 : Value) (w : World) (hb : Blk w b 156 cur) (hbb : base ≤ b) (hx : Blk w g 156 #[a1, a2, a3, a4, a5, a6, a7]) (hgb : g ≠ b) (h1 : ∀ u ∈ xs, u.oneCell' = true) (h2 : ∀ u ∈ [a1, a2, a3, a4, a5, a6, a7], u.oneCell' = true) (hi : i < n) (hn : n ≤ 1000) (hc : n + 1 ≤ c) (hcm : c ≤ maxLen) (hcs : cur.size = c * 7) (hxs : cur.toList.take (n * 7) = xs) :
    Calls Try.prog 135 #[.slice (some ⟨b, 0, none⟩) n c, .int .i64 i, .slice (some ⟨g, 0, none⟩) 1 vc] w (InsTPost base (.slice (some ⟨b, 0, none⟩) n c) n (xs.take (i * 7) ++ [a1, a2, a3, a4, a5, a6, a7] ++ xs.drop (i * 7)) w) := by
  have hxl : xs.length = n * 7 := by rw [← hxs, List.length_take]; simp [hcs]; omega
  obtain ⟨ip1, ip2, ip3⟩ := ins_place cur.toList xs [a1, a2, a3, a4, a5, a6, a7] (i * 7) (n * 7) hxs (by omega) (by simp [hcs]; omega)
  have hgl := hx.lt
  have hov : ∀ lb cb, (callFunc 158 #[.slice (some ⟨g, 0, none⟩) 1 vc, .slice (some ⟨b, (i + 1) * 7, none⟩) lb cb]).run Try.prog w = .ok (.value (.bool false)) w := fun lb cb => by
    rw [run_callFunc_extern Try.func158 (by kernel_rfl) (by kernel_rfl) (by kernel_rfl) (e := Extern.SlicesOverlaps.overlaps #[153, 153] #[4]) (by kernel_rfl),
      Lib.run_overlaps_apart w 153 4 156 rowUnder 7 (by intro w; kernel_rfl) ⟨g, 0, none⟩ ⟨b, (i + 1) * 7, none⟩ 1 vc lb cb hgb 156 156 7 cur.size (by unfold Blk at hx; simp [World.shape?, hx]) (by unfold Blk at hb; simp [World.shape?, hb]) (by omega) (hx.frozen 0) (hx.frozen 7)]
    rfl
  have hcp1 : ∀ ty dc sc, (Builtin.copy_ #[153, 153] ty #[.slice (some ⟨b, (i + 1) * 7, none⟩) (n - i) dc, .slice (some ⟨b, i * 7, none⟩) (n + 1 - i) sc]).run Try.prog w.drew = .ok (goInt ((n - i : Nat) : Int)) (w.drew.setRow b (cur.toList.take ((i + 1) * 7) ++ xs.drop (i * 7) ++ cur.toList.drop ((i + 1) * 7 + (xs.drop (i * 7)).length)).toArray) := fun ty dc sc =>
    run_copy_rowS w.drew _ _ ty 156 7 b ((i + 1) * 7) (n - i) dc ⟨b, i * 7, none⟩ (n + 1 - i) sc cur 156 (xs.drop (i * 7)) rowUnder rowSz hb (n - i) (by simp only [Nat.min_def]; split <;> omega) (by rw [List.length_drop, hxl]; omega)
      (fun j u hj => by
        rw [Addr.add_lit]
        have hj2 : xs[i * 7 + j]? = some u := by rwa [List.getElem?_drop] at hj
        rw [← hxs, List.getElem?_take] at hj2
        split at hj2
        · rw [show (w.drew).cell? ⟨b, i * 7 + j, none⟩ = cur[i * 7 + j]? from hb.cell _]
          simpa using hj2
        · cases hj2)
      (by rw [List.length_drop, hxl, hcs]; omega) (fun u hu => h1 u (List.mem_of_mem_drop hu))
  have e2 : (i + 1) * 7 = i * 7 + [a1, a2, a3, a4, a5, a6, a7].length := by simp; omega
  obtain ⟨L1, hL1⟩ : ∃ L1, cur.toList.take (i * 7 + [a1, a2, a3, a4, a5, a6, a7].length) ++ xs.drop (i * 7) ++ cur.toList.drop (i * 7 + [a1, a2, a3, a4, a5, a6, a7].length + (xs.drop (i * 7)).length) = L1 := ⟨_, rfl⟩
  simp only [hL1] at ip1 ip2 ip3
  simp only [e2, hL1] at hcp1
  rw [← e2] at hcp1
  have hb1 : Blk (w.drew.setRow b L1.toArray) b 156 L1.toArray := setRow_heap _ b cur _ _ (0, 0) hb
  have hx1 : Blk (w.drew.setRow b L1.toArray) g 156 #[a1, a2, a3, a4, a5, a6, a7] := (setRow_other _ b g _ hgb).trans hx
  have hg1 : w.grownBy (w.drew.setRow b L1.toArray) (some b) := grown_setRowI (grown_drewI (grown_reflI w _)) _
  obtain ⟨W1, hW1⟩ : ∃ W1, Hid (w.drew.setRow b L1.toArray = W1) := ⟨_, Lib.hid rfl⟩
  rw [hW1.out] at hcp1 hb1 hx1 hg1
  obtain ⟨L2, hL2⟩ : ∃ L2, L1.take (i * 7) ++ [a1, a2, a3, a4, a5, a6, a7] ++ L1.drop (i * 7 + [a1, a2, a3, a4, a5, a6, a7].length) = L2 := ⟨_, rfl⟩
  rw [hL2] at ip1 ip2
  have hcp2 : ∀ (W : World), W.heap = W1.heap → ∀ ty dc, (Builtin.copy_ #[153, 153] ty #[.slice (some ⟨b, i * 7, none⟩) (n + 1 - i) dc, .slice (some ⟨g, 0, none⟩) 1 vc]).run Try.prog W = .ok (goInt 1) (W.setRow b L2.toArray) := fun W hW ty dc => by
    have h := run_copy_rowS (P := Try.prog) W 153 153 ty 156 7 b (i * 7) (n + 1 - i) dc ⟨g, 0, none⟩ 1 vc L1.toArray 156 [a1, a2, a3, a4, a5, a6, a7] rowUnder rowSz (by rw [hW]; exact hb1) 1 (by simp only [Nat.min_def]; split <;> omega) rfl
      (fun j u hj => by
        rw [Addr.add_lit, Nat.zero_add]
        have := hx1.cell j
        unfold World.cell? at this ⊢
        rw [hW, this]
        simpa using hj)
      (by simp [ip3, hcs]; omega) h2
    rw [h]
    simp only [hL2]
    rfl
  have HP1 := Lib.hid ip1
  have HB1 := Lib.hid hb1
  have HG1 := Lib.hid hg1
  obtain ⟨ys, hys⟩ : ∃ ys, Hid (xs.take (i * 7) ++ [a1, a2, a3, a4, a5, a6, a7] ++ xs.drop (i * 7) = ys) := ⟨_, Lib.hid rfl⟩
  rw [hys.out] at HP1 ⊢
  have HCS : Hid (L2.length = c * 7) := Lib.hid (by rw [ip2]; simpa using hcs)
  have HYL : Hid (ys.length = (n + 1) * 7) := Lib.hid (by rw [← hys.out]; simp [hxl]; omega)
  clear hb hx h1 h2 hxs ip1 ip2 ip3 hL1 hL2 hb1 hx1 hg1 hcs hxl e2
  have hz2 : ¬ ((i : Int) = (n : Int)) := by omega
  have hz4 : (i : Int) ≤ (n : Int) := by omega
  have hz5 : (n : Int) + 1 ≤ (c : Int) := by omega
  have hw1 : IntKind.i64.wrap ((i : Int) + 1) = (i : Int) + 1 := IntWalk.i64_in _ (by omega)
  have hw2 : IntKind.i64.wrap ((n : Int) + 1) = (n : Int) + 1 := IntWalk.i64_in _ (by omega)
  have hb1 : (0 : Int) ≤ (i : Int) + 1 := by omega
  have hin : i ≤ n := by omega
  have hb2 : ¬ (c = i + 1) := by omega
  have hb3 : (i : Int) + 1 ≤ (n : Int) + 1 := by omega
  have hb4 : ¬ (c = i) := by omega
  have hb5 : (i : Int) ≤ (n : Int) + 1 := by omega
  have htn : ((i : Int) + 1).toNat = i + 1 := by omega
  have htm : ((n : Int) + 1).toNat = n + 1 := by omega
  go_enter Try.func135, Try.ntmps135
  go_wp2_with (simp only [hov])
  go_region_law (refine step_copy_runJ rfl _ _ 153 153 rfl _ _ (by simp [Act.eval, Act.put]) (by simp [Act.eval, Act.put]) (hcp1 _ _ _) ?_)
  go_wp2_with (at_builtin; refine wpList_copy_runJ _ rfl _ _ 153 153 rfl _ _ rfl rfl (hcp2 _ rfl _ _) ?_)
  go_ret
  refine ⟨_, rfl, ⟨HYL.out, .inr ⟨b, c, L2.toArray, rfl, hbb, setRow_heap _ b _ _ _ (0, 0) HB1.out, hc, hcm, by simpa using HCS.out, ?_⟩⟩, grown_setRowI HG1.out _, .inl rfl⟩
  have := HP1.out
  rw [show n * 7 + [a1, a2, a3, a4, a5, a6, a7].length = (n + 1) * 7 by simp; omega] at this
  simpa using this
set_option maxHeartbeats 8000000 in
set_option maxRecDepth 100000 in
theorem insT_grow (base b n c i g vc : Nat) (cur : Array Value) (xs : List Value) (a1 a2 a3 a4 a5 a6 a7 : Value) (w : World) (hb : Blk w b 156 cur) (hbase : base ≤ w.heap.size) (hx : Blk w g 156 #[a1, a2, a3, a4, a5, a6, a7]) (h1 : ∀ u ∈ xs, u.oneCell' = true) (h2 : ∀ u ∈ [a1, a2, a3, a4, a5, a6, a7], u.oneCell' = true) (hi : i < n) (hn : n ≤ 1000) (hnc : n ≤ c) (hc : c < n + 1) (hcs : cur.size = c * 7) (hxs : cur.toList.take (n * 7) = xs) :
    Calls Try.prog 135 #[.slice (some ⟨b, 0, none⟩) n c, .int .i64 i, .slice (some ⟨g, 0, none⟩) 1 vc] w (InsTPost base (.slice (some ⟨b, 0, none⟩) n c) n (xs.take (i * 7) ++ [a1, a2, a3, a4, a5, a6, a7] ++ xs.drop (i * 7)) w) := by
  obtain ⟨i0, hi0, hz0, hz1, hz2⟩ := info_parts rowInfo
  have hxl : xs.length = n * 7 := by rw [← hxs, List.length_take]; simp [hcs]; omega
  have hgl := hx.lt
  have hbl := hb.lt
  have hcell : ∀ j u, xs[j]? = some u → w.cell? ⟨b, j, none⟩ = some u := fun j u hj => by
    rw [← hxs, List.getElem?_take] at hj
    split at hj
    · rw [hb.cell j]; simpa using hj
    · cases hj
  have hik : i + (n + 1 - i) = n + 1 := by omega
  have hkk : (n : Int) + 1 - (i : Int) = ((n + 1 - i : Nat) : Int) := by omega
  have hold : (Builtin.firstCells i0.size i (.slice (some ⟨b, 0, none⟩) i c)).run Try.prog w.drew = .ok (xs.take (i * 7)).toArray w.drew := by
    rw [hz1]
    exact run_firstCells_some w.drew 7 i ⟨b, 0, none⟩ i c (xs.take (i * 7)) (by rw [List.length_take]; omega) (fun j v hj => by
      rw [Addr.add_lit, Nat.zero_add]
      rw [List.getElem?_take] at hj
      split at hj
      · exact hcell j v hj
      · cases hj)
  obtain ⟨z, hz⟩ : ∃ z, Hid (Value.agg #[.int .i64 0, .int .i64 0, .int .i64 0, .int .i64 0, .int .i64 0, .int .i64 0, .int .i64 0] = z) := ⟨_, Lib.hid rfl⟩
  have hzs : z.cells.size = 7 := by rw [← hz.out]; rfl
  rw [hz.out] at hz0
  have hrz : ∀ ty, (Builtin.append_ #[153, 3] ty #[.slice (some ⟨b, 0, none⟩) i c, .int .i64 ((n : Int) + 1 - (i : Int))]).run Try.prog w =
      .ok (.slice (some ⟨w.heap.size, 0, none⟩) (n + 1) (grownCap w (n + 1) c 156)) (w.drew.alloc (.cells ((xs.take (i * 7)).toArray ++ Builtin.zeroCells z.cells (n + 1 - i) ++ Builtin.zeroCells z.cells (grownCap w (n + 1) c 156 - (n + 1))) 156)) := fun ty => by
    have h := Lib.run_append_grow_zeros (P := Try.prog) w 153 3 ty 156 i0 _ .i64 .i64 rowUnder Try.underlying3 hi0 hz0 (some ⟨b, 0, none⟩) i c (xs.take (i * 7)) hold (n + 1 - i) (by omega) (by omega) (by omega) (by omega) (by rw [hz2]; omega) (by rw [hz2, hik]; exact growslice_fits hc (by omega))
    rw [hik] at h
    rw [hkk]
    exact h
  have hGn : n + 1 ≤ grownCap w (n + 1) c 156 := grownCap_ge w _ _ _
  have hGm : grownCap w (n + 1) c 156 ≤ maxLen := grownCap_le_maxLen w (n + 1) c 156 (by unfold maxLen; omega)
  obtain ⟨G, hG⟩ : ∃ G, Hid (grownCap w (n + 1) c 156 = G) := ⟨_, Lib.hid rfl⟩
  rw [hG.out] at hrz hGn hGm
  obtain ⟨ROW, hROW⟩ : ∃ ROW : Array Value, (xs.take (i * 7)).toArray ++ Builtin.zeroCells z.cells (n + 1 - i) ++ Builtin.zeroCells z.cells (G - (n + 1)) = ROW := ⟨_, rfl⟩
  have hRs : ROW.size = G * 7 := by
    rw [← hROW]
    simp only [Array.size_append, zeroCells_sizeZ, hzs, List.size_toArray, List.length_take, hxl]
    omega
  have hRt : ROW.toList.take (i * 7) = xs.take (i * 7) := by
    have hl : (xs.take (i * 7)).length = i * 7 := by rw [List.length_take]; omega
    rw [← hROW, Array.toList_append, Array.toList_append, List.append_assoc, List.take_append_of_le_length (by simp [hl])]
    exact List.take_of_length_le (by simp [hl])
  rw [hROW] at hrz
  obtain ⟨ip1, ip2, ip3⟩ := ins_new ROW.toList xs [a1, a2, a3, a4, a5, a6, a7] (i * 7) (n * 7) hRt hxl (by omega) (by simp [hRs]; omega)
  obtain ⟨R1, hR1⟩ : ∃ R1, ROW.toList.take (i * 7) ++ [a1, a2, a3, a4, a5, a6, a7] ++ ROW.toList.drop (i * 7 + [a1, a2, a3, a4, a5, a6, a7].length) = R1 := ⟨_, rfl⟩
  simp only [hR1] at ip1 ip2 ip3
  obtain ⟨R2, hR2⟩ : ∃ R2, R1.take (i * 7 + [a1, a2, a3, a4, a5, a6, a7].length) ++ xs.drop (i * 7) ++ R1.drop (i * 7 + [a1, a2, a3, a4, a5, a6, a7].length + (xs.drop (i * 7)).length) = R2 := ⟨_, rfl⟩
  rw [hR2] at ip1 ip2
  have e2 : (i + 1) * 7 = i * 7 + [a1, a2, a3, a4, a5, a6, a7].length := by simp; omega
  have hbw : Below w.heap.size w (w.drew.alloc (.cells ROW 156)) := (Below.drew (Below.refl w.heap.size w)).alloc (Nat.le_refl _) _
  have hbk : Blk (w.drew.alloc (.cells ROW 156)) w.heap.size 156 ROW := heap_alloc_new w.drew _
  obtain ⟨W1, hW1⟩ : ∃ W1, Hid (w.drew.alloc (.cells ROW 156) = W1) := ⟨_, Lib.hid rfl⟩
  rw [hW1.out] at hrz hbw hbk
  obtain ⟨N, hN⟩ : ∃ N, Hid (w.heap.size = N) := ⟨_, Lib.hid rfl⟩
  rw [hN.out] at hrz hbk hgl hbl
  have hx1 : Blk W1 g 156 #[a1, a2, a3, a4, a5, a6, a7] := hx.past hbw
  have hcpA : ∀ (W : World), W.heap = W1.heap → ∀ ty dc, (Builtin.copy_ #[153, 153] ty #[.slice (some ⟨N, i * 7, none⟩) (n + 1 - i) dc, .slice (some ⟨g, 0, none⟩) 1 vc]).run Try.prog W = .ok (goInt 1) (W.setRow N R1.toArray) := fun W hW ty dc => by
    have h := run_copy_rowS (P := Try.prog) W 153 153 ty 156 7 N (i * 7) (n + 1 - i) dc ⟨g, 0, none⟩ 1 vc ROW 156 [a1, a2, a3, a4, a5, a6, a7] rowUnder rowSz (by rw [hW]; exact hbk) 1 (by simp only [Nat.min_def]; split <;> omega) rfl
      (fun j u hj => by
        rw [Addr.add_lit, Nat.zero_add]
        have := hx1.cell j
        unfold World.cell? at this ⊢
        rw [hW, this]
        simpa using hj)
      (by simp [hRs]; omega) h2
    rw [h]
    simp only [hR1]
    rfl
  have hb1 : Blk W1 b 156 cur := hb.past hbw
  have hcpB : ∀ (W : World), W.heap = (W1.setRow N R1.toArray).heap → ∀ ty dc sc, (Builtin.copy_ #[153, 153] ty #[.slice (some ⟨N, (i + 1) * 7, none⟩) (n - i) dc, .slice (some ⟨b, i * 7, none⟩) (n - i) sc]).run Try.prog W = .ok (goInt ((n - i : Nat) : Int)) (W.setRow N R2.toArray) := fun W hW ty dc sc => by
    have hbN : b ≠ N := by omega
    have hb2 : Blk (W1.setRow N R1.toArray) b 156 cur := (setRow_other _ N b _ hbN).trans hb1
    have h := run_copy_rowS (P := Try.prog) W 153 153 ty 156 7 N ((i + 1) * 7) (n - i) dc ⟨b, i * 7, none⟩ (n - i) sc R1.toArray 156 (xs.drop (i * 7)) rowUnder rowSz (by rw [hW]; exact setRow_heap _ N _ _ _ (0, 0) hbk) (n - i) (by simp only [Nat.min_def]; split <;> omega) (by rw [List.length_drop, hxl]; omega)
      (fun j u hj => by
        rw [Addr.add_lit]
        have hj2 : xs[i * 7 + j]? = some u := by rwa [List.getElem?_drop] at hj
        rw [← hxs, List.getElem?_take] at hj2
        split at hj2
        · have := hb2.cell (i * 7 + j)
          unfold World.cell? at this ⊢
          rw [hW, this]
          simpa using hj2
        · cases hj2)
      (by simp [ip3, hRs, hxl]; omega) (fun u hu => h1 u (List.mem_of_mem_drop hu))
    rw [h, e2]
    simp only [hR2]
  obtain ⟨ys, hys⟩ : ∃ ys, Hid (xs.take (i * 7) ++ [a1, a2, a3, a4, a5, a6, a7] ++ xs.drop (i * 7) = ys) := ⟨_, Lib.hid rfl⟩
  rw [hys.out] at ip1 ⊢
  have HP1 := Lib.hid ip1
  have HCS : Hid (R2.length = G * 7) := Lib.hid (by rw [ip2]; simpa using hRs)
  have HYL : Hid (ys.length = (n + 1) * 7) := Lib.hid (by rw [← hys.out]; simp [hxl]; omega)
  have HBK := Lib.hid hbk
  have HBW := Lib.hid hbw
  have hlz : (c : Int) < (n : Int) + 1 := by omega
  clear hb hx h1 h2 hxs ip1 ip2 ip3 hR1 hR2 hb1 hx1 hbk hbw hcs hxl e2 hROW hRs hRt hold hkk hik hcell hzs hz0 hz1 hz2 hi0
  have hq2 : ¬ ((i : Int) = (n : Int)) := by omega
  have hq4 : (i : Int) ≤ (n : Int) := by omega
  have hw1 : IntKind.i64.wrap ((i : Int) + 1) = (i : Int) + 1 := IntWalk.i64_in _ (by omega)
  have hw2 : IntKind.i64.wrap ((n : Int) + 1) = (n : Int) + 1 := IntWalk.i64_in _ (by omega)
  have hw3 : IntKind.i64.wrap ((n : Int) + 1 - (i : Int)) = (n : Int) + 1 - (i : Int) := IntWalk.i64_in _ (by omega)
  have hb1 : (0 : Int) ≤ (i : Int) + 1 := by omega
  have hin : i ≤ n := by omega
  have hic : i ≤ c := by omega
  have hb2 : ¬ (G = i + 1) := by omega
  have hb3 : (i : Int) + 1 ≤ (n : Int) + 1 := by omega
  have hb4 : ¬ (G = i) := by omega
  have hb6 : ¬ (c = i) := by omega
  have hb5 : (i : Int) ≤ (n : Int) + 1 := by omega
  have htn : ((i : Int) + 1).toNat = i + 1 := by omega
  have htm : ((n : Int) + 1).toNat = n + 1 := by omega
  go_enter Try.func135, Try.ntmps135
  go_wp2_with (first
    | (at_builtin; refine Lib.wpList_append_run _ rfl _ _ _ _ rfl _ _ rfl rfl _ _ (hrz _) ?_)
    | (at_builtin; refine wpList_copy_runJ _ rfl _ _ 153 153 rfl _ _ rfl rfl (hcpA _ rfl _ _) ?_))
  go_region_law (refine step_copy_runJ rfl _ _ 153 153 rfl (.slice (some ⟨N, (i + 1) * 7, none⟩) (n - i) (G - (i + 1))) (.slice (some ⟨b, i * 7, none⟩) (n - i) (c - i)) (by simp [Act.eval, Act.put]) (by simp [Act.eval, Act.put]) (hcpB (W1.setRow N R1.toArray).drew rfl _ (G - (i + 1)) (c - i)) ?_)
  go_wp2_with fail
  go_ret
  refine ⟨_, rfl, ⟨HYL.out, .inr ⟨N, G, R2.toArray, rfl, by have := hN.out; omega, setRow_heap _ N R1.toArray _ _ (0, 0) (setRow_heap _ N _ _ _ (0, 0) HBK.out), hGn, hGm, by simpa using HCS.out, ?_⟩⟩, grown_of_belowIZ ?_ _, .inr ⟨N, rfl, by have := hN.out; omega⟩⟩
  · have := HP1.out
    rw [show n * 7 + [a1, a2, a3, a4, a5, a6, a7].length = (n + 1) * 7 by simp; omega] at this
    simpa using this
  · exact belowI_setRowZ (Below.drew (belowI_setRowZ HBW.out (by have := hN.out; omega) _)) (by have := hN.out; omega) _
theorem insT_any (base : Nat) (v : Value) (n i g vc : Nat) (xs : List Value) (a1 a2 a3 a4 a5 a6 a7 : Value) (w : World) (hown : w.ownsRow base 156 7 v n xs) (hx : Blk w g 156 #[a1, a2, a3, a4, a5, a6, a7]) (hg : v.ownBlock ≠ some g) (h1 : ∀ u ∈ xs, u.oneCell' = true) (h4 : ∀ u ∈ [a1, a2, a3, a4, a5, a6, a7], u.oneCell' = true) (hi : i ≤ n) (hn : n ≤ 1000) (hbase : base ≤ w.heap.size) :
    Calls Try.prog 135 #[v, .int .i64 i, .slice (some ⟨g, 0, none⟩) 1 vc] w (InsTPost base v n (xs.take (i * 7) ++ [a1, a2, a3, a4, a5, a6, a7] ++ xs.drop (i * 7)) w) := by
  have hxl := hown.1
  by_cases hin : i = n
  · subst hin
    rw [List.take_of_length_le (by omega), List.drop_of_length_le (by omega), List.append_nil]
    exact insT_end base v i g vc xs a1 a2 a3 a4 a5 a6 a7 w hown hx h4 hn hbase
  · rcases hown.2 with ⟨_, h0⟩ | ⟨b, c, cur, rfl, hbb, hh, hnc, hcm, hcs, hxs⟩
    · omega
    · have hgb : g ≠ b := fun e => hg (by rw [e]; rfl)
      by_cases hc : n + 1 ≤ c
      · exact insT_shift base b n c i g vc cur xs a1 a2 a3 a4 a5 a6 a7 w hh hbb hx hgb h1 h4 (by omega) hn hc hcm hcs hxs
      · exact insT_grow base b n c i g vc cur xs a1 a2 a3 a4 a5 a6 a7 w hh hbase hx h1 h4 (by omega) hn hnc (by omega) hcs hxs
end Go.Proofs.Ytelbolhckhdioaa.TTbR
