import Derived.Test.YtelbolhckhdioaaTbIH
namespace Go.Proofs.Ytelbolhckhdioaa.TTbI
open Go.RowKit Go.Proofs.Ytelbolhckhdioaa

/-! ### Put -/
def putTS (room : Int) (S : List RowT) (id : Int) (s : Int) : List RowT := if putTK room S id = 0 then insT S ⟨id, s⟩ else S
def PutTPost (g base : Nat) (room : Int) (v : Value) (S : List RowT) (id : Int) (s : Int) (w : World) (e : Ending) (w' : World) : Prop :=
  e = .returned (.int .i64 (putTK room S id)) ∧ ∃ v', TabV w' g base room v' (putTS room S id s) ∧ OnlyG g v w w' ∧ (v'.ownBlock = v.ownBlock ∨ ∃ k, v'.ownBlock = some k ∧ w.heap.size ≤ k)
theorem putT_no {g base : Nat} {room : Int} {v : Value} {S : List RowT} {id : Int} {s : Int} {w w' : World} {K : Int} (hx : TabV w g base room v S) (hk : putTK room S id = K) (h0 : K ≠ 0) (hb : Below w.heap.size w w') : PutTPost g base room v S id s w (.returned (.int .i64 K)) w' :=
  ⟨by rw [hk], v, by rw [putTS, hk, if_neg h0]; exact hx.past hb, OnlyG.of_below hb, .inl rfl⟩
theorem one_cellsT (S : List RowT) : ∀ u ∈ S.flatMap RowT.cells, u.oneCell' = true := by
  intro u hu
  obtain ⟨f, _, h2⟩ := List.mem_flatMap.1 hu
  simp [RowT.cells] at h2
  rcases h2 with rfl | rfl <;> rfl
theorem insT_len (S : List RowT) (x : RowT) : (insT S x).length = S.length + 1 := by
  have := posT_le S x.id
  simp [insT]; omega
theorem insT_cells (S : List RowT) (x : RowT) : (insT S x).flatMap RowT.cells = (S.flatMap RowT.cells).take (posT S x.id * 2) ++ x.cells ++ (S.flatMap RowT.cells).drop (posT S x.id * 2) := by
  rw [flat_take RowT.cells 2 RowT.cells_len, flat_drop RowT.cells 2 RowT.cells_len, insT, List.flatMap_append, List.flatMap_cons, List.append_assoc]
theorem insT_ris {S : List RowT} (h : RisT S) {x : RowT} (hn : isT S x.id = false) : RisT (insT S x) := (RelT.put ⟨h, List.Perm.refl S⟩ hn).ris
set_option maxHeartbeats 4000000 in
set_option maxRecDepth 100000 in
theorem putT_any (g base : Nat) (room : Int) (v : Value) (S : List RowT) (id : Int) (s : Int) (w : World) (hx : TabV w g base room v S) (hl9 : S.length ≤ 900) (hbase : base ≤ w.heap.size) :
    Calls Try.prog 98 #[.pointer (some ⟨g, 0, none⟩), .int .i64 id, .int .i64 s] w (PutTPost g base room v S id s w) := by
  have HF := Lib.hid (findT_any g base room v S id w hx)
  have HX := Lib.hid hx
  obtain ⟨n, hn⟩ : ∃ n, Hid (S.length = n) := ⟨_, Lib.hid rfl⟩
  obtain ⟨I, hI⟩ : ∃ I, Hid (posT S id = I) := ⟨_, Lib.hid rfl⟩
  have hIn : I ≤ n := by rw [← hI.out, ← hn.out]; exact posT_le S id
  rw [hI.out] at HF
  rw [hn.out] at hl9
  clear hx
  cases hi : isT S id with
  | true =>
    rw [hi] at HF
    have HK : Hid (putTK room S id = 7) := Lib.hid (by rw [putTK, if_pos hi])
    clear hi
    go_enter Try.func98, Try.ntmps98
    go_wp2_with fail
    refine HF.out.mono ?_
    rintro e w1 ⟨rfl, hb⟩
    go_wp2_with fail
    go_ret
    exact putT_no HX.out HK.out (by decide) hb
  | false =>
    rw [hi] at HF
    have HIS := Lib.hid hi
    clear hi
    go_enter Try.func98, Try.ntmps98
    go_wp2_with fail
    refine HF.out.mono ?_
    rintro e w1 ⟨rfl, hb⟩
    have HX1 := Lib.hid (HX.out.past hb)
    obtain ⟨X, c, hv⟩ := HX1.out.form
    subst hv
    have HBK := Lib.hid HX1.out.blk
    have HRW := Lib.hid HX1.out.row
    rw [hn.out] at HBK HRW
    have p0 := HBK.out.cell 0
    have p1 := HBK.out.cell 1
    simp at p0 p1
    have hd := Below.drew hb
    have HB := Lib.hid hb
    clear hb HF
    by_cases hr : room ≤ (n : Int)
    · have HK : Hid (putTK room S id = 6) := Lib.hid (by rw [putTK, HIS.out, if_neg (by simp), hn.out, if_pos hr])
      go_wp2_with fail
      go_region
      all_goals
        go_wp2_with fail
        go_ret
        rw [hn.out] at *
        exact putT_no HX.out HK.out (by decide) hd
    · have HK : Hid (putTK room S id = 0) := Lib.hid (by rw [putTK, HIS.out, if_neg (by simp), hn.out, if_neg hr])
      go_wp2_with fail
      go_region
      have HRW2 := Lib.hid (own_pastZ HRW.out (Below.drew (Below.refl _ _)))
      have HBK2 := Lib.hid (HBK.out.past (Below.drew (Below.refl _ _)))
      obtain ⟨W1, hW1⟩ : ∃ W1, Hid (w1.drew = W1) := ⟨_, Lib.hid rfl⟩
      rw [hW1.out] at hd HRW2 HBK2
      go_upto_region 8 with fail
      rw [hW1.out]
      have hbz : base ≤ W1.heap.size := by have := hd.size; omega
      have hdb := (Below.refl W1.heap.size W1).alloc (Nat.le_refl _) (.cells #[.int .i64 id, .int .i64 s] 205)
      have HRW3 := Lib.hid (own_pastZ HRW2.out hdb)
      have HBK3 := Lib.hid (HBK2.out.past hdb)
      have HXB := Lib.hid (Blk.new W1 205 #[.int .i64 id, .int .i64 s] W1.heap.size rfl)
      have hne : (Value.slice X n c).ownBlock ≠ some W1.heap.size := fun e => by have := (HRW2.out.lt _ e).2; omega
      have HI := Lib.hid (insT_any base (.slice X n c) n I W1.heap.size 1 (S.flatMap RowT.cells) (.int .i64 id) (.int .i64 s) _ HRW3.out HXB.out hne (one_cellsT S) (by simp [Value.oneCell']) hIn (by omega) (by simp; omega))
      have HD := Lib.hid hd
      have q1 := HBK2.out.cell 1
      simp at q1
      clear hd hdb hne p0 p1
      go_wp2_with fail
      refine HI.out.mono ?_
      rintro e w2 ⟨v', rfl, hown', hg', hdd⟩
      obtain ⟨A', c', rfl⟩ := own_form hown'
      have bz := Blk.grown HBK3.out hg' (own_blk_ne HRW3.out HBK3.out (by decide))
      have y1 := bz.cell 1
      have f1 := bz.frozen 1
      simp at y1
      have HV : Hid (TabV (w2.setCell ⟨g, 1, none⟩ (.slice A' (n + 1) c')) g base room (.slice A' (n + 1) c') (insT S ⟨id, s⟩)) := Lib.hid (by
        have hll : (insT S ⟨id, s⟩).length = n + 1 := by rw [insT_len, hn.out]
        refine ⟨⟨A', c', by rw [hll]⟩, bz.put 1 _, ?_, insT_ris HX.out.ris HIS.out, by rw [hll]; omega, HX.out.rm⟩
        rw [hll, insT_cells, hI.out]
        exact own_far (p := ⟨g, 1, none⟩) hown' (own_blk_ne hown' bz (by decide)) _)
      have HO : Hid (OnlyG g (.slice X n c) w (w2.setCell ⟨g, 1, none⟩ (.slice A' (n + 1) c'))) := Lib.hid (((OnlyG.of_below (HD.out.alloc HD.out.size _)).grown hg').setCell ⟨g, 1, none⟩ rfl _)
      have HOW : Hid ((Value.slice A' (n + 1) c').ownBlock = (Value.slice X n c).ownBlock ∨ ∃ k, (Value.slice A' (n + 1) c').ownBlock = some k ∧ w.heap.size ≤ k) := Lib.hid (hdd.imp (fun e => e) fun ⟨k, e, hk⟩ => ⟨k, e, by have := HD.out.size; simp at hk; omega⟩)
      clear hown' hg' hdd bz HI
      go_wp2_with fail
      go_ret
      rw [hn.out]
      refine ⟨by rw [HK.out]; rfl, .slice A' (n + 1) c', ?_, HO.out, HOW.out⟩
      rw [putTS, HK.out, if_pos rfl]
      exact HV.out
/-! ### slices.Delete of one row -/
/-! ### Drop -/
theorem outT_len {S : List RowT} {p m : Nat} (hl : S.length = m + 1) (hp : p < m + 1) : (outT S p).length = m := by
  simp [outT]; omega
theorem outT_cells (S : List RowT) (p : Nat) : (outT S p).flatMap RowT.cells = (S.flatMap RowT.cells).take (p * 2) ++ (S.flatMap RowT.cells).drop (p * 2 + 2) := by
  rw [flat_take RowT.cells 2 RowT.cells_len, show p * 2 + 2 = (p + 1) * 2 by omega, flat_drop RowT.cells 2 RowT.cells_len, outT, List.flatMap_append]
theorem outT_ris {S : List RowT} (h : RisT S) {p : Nat} {r : RowT} (hr : S[p]? = some r) : RisT (outT S p) := by
  rw [ris_pw] at h ⊢
  rw [splitT hr, List.pairwise_append, List.pairwise_cons] at h
  exact List.pairwise_append.2 ⟨h.1, h.2.1.2, fun a ha b hb => h.2.2 a ha b (List.mem_cons_of_mem _ hb)⟩

end Go.Proofs.Ytelbolhckhdioaa.TTbI
