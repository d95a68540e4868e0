import Derived.Test.YtelbolhckhdioaaTbRJ
namespace Go.Proofs.Ytelbolhckhdioaa.TTbR
open Go.RowKit Go.Proofs.Ytelbolhckhdioaa


/-! ### Get, Drop, Set: a value is a struct -/
set_option maxHeartbeats 4000000 in
theorem getT_yes (g base : Nat) (room : Int) (v : Value) (S : List RowT) (id : Int) (w : World) (hx : TabV w g base room v S) (hi : isT S id = true) (r : RowT) (hr : S[posT S id]? = some r) :
    Calls Try.prog 142 #[.pointer (some ⟨g, 0, none⟩), .int .i64 id] w fun e w' => e = .returned (.tuple #[.agg #[.int .i64 r.v.id, .int .i64 r.v.buyer, .int .i64 r.v.seller, .int .i64 r.v.sec, .int .i64 r.v.qty, .int .i64 r.v.price], .int .i64 0]) ∧ Below w.heap.size w w' := by
  have hB0 := (Below.refl w.heap.size w).alloc (Nat.le_refl _) (.cells #[.int .i64 0, .int .i64 0, .int .i64 0, .int .i64 0, .int .i64 0, .int .i64 0] 87)
  have bz0 := Blk.new w 87 #[.int .i64 0, .int .i64 0, .int .i64 0, .int .i64 0, .int .i64 0, .int .i64 0] w.heap.size rfl
  obtain ⟨W, hW⟩ : ∃ W, Hid (w.alloc (.cells #[.int .i64 0, .int .i64 0, .int .i64 0, .int .i64 0, .int .i64 0, .int .i64 0] 87) = W) := ⟨_, Lib.hid rfl⟩
  obtain ⟨zb, hzb⟩ : ∃ zb, Hid (w.heap.size = zb) := ⟨_, Lib.hid rfl⟩
  rw [hW.out] at hB0 bz0
  rw [hzb.out] at bz0
  have HF := Lib.hid (findT_any g base room v S id W (hx.past hB0))
  rw [hi] at HF
  have HX := Lib.hid (hx.past hB0)
  have HL := (List.getElem?_eq_some_iff.1 hr).1
  obtain ⟨I, hI⟩ : ∃ I, Hid (posT S id = I) := ⟨_, Lib.hid rfl⟩
  have HR := Lib.hid hr
  rw [hI.out] at HF HR HL
  have HB0 := Lib.hid hB0
  have HZ := Lib.hid bz0
  clear hx hi hr hB0 bz0
  go_enter Try.func142, Try.ntmps142
  go_upto_region 1 with fail
  rw [hW.out, hzb.out]
  go_wp2_with fail
  refine HF.out.mono ?_
  rintro e w1 ⟨rfl, hb⟩
  have hx1 := HX.out.past hb
  have HZ1 := Lib.hid (HZ.out.past hb)
  have HB1 := Lib.hid (Below.past HB0.out hb HB0.out.size)
  obtain ⟨X, c, hv⟩ := hx1.form
  subst hv
  have p1 := hx1.blk.cell 1
  simp at p1
  obtain ⟨b, off, he, _, hc⟩ := (Rd.of_own hx1.row).elem RowT.cells_len HR.out HL
  cases he
  have c1 := hc 1 _ rfl
  have c2 := hc 2 _ rfl
  have c3 := hc 3 _ rfl
  have c4 := hc 4 _ rfl
  have c5 := hc 5 _ rfl
  have c6 := hc 6 _ rfl
  have hz : (I : Int) < (S.length : Int) := by omega
  have z0 := HZ1.out.cell 0
  have f0 := HZ1.out.frozen 0
  have z1 := HZ1.out.cell 1
  have f1 := HZ1.out.frozen 1
  have z2 := HZ1.out.cell 2
  have f2 := HZ1.out.frozen 2
  have z3 := HZ1.out.cell 3
  have f3 := HZ1.out.frozen 3
  have z4 := HZ1.out.cell 4
  have f4 := HZ1.out.frozen 4
  have z5 := HZ1.out.cell 5
  have f5 := HZ1.out.frozen 5
  simp at z0 z1 z2 z3 z4 z5
  have hzl := HZ1.out.lt
  clear hx1 hc hb HF
  go_wp2_with fail
  refine bodyPost_ret (v := .tuple #[.agg #[.int .i64 r.v.id, .int .i64 r.v.buyer, .int .i64 r.v.seller, .int .i64 r.v.sec, .int .i64 r.v.qty, .int .i64 r.v.price], .int .i64 0]) (by simp [results, Try.results142, go_sem, z0, z1, z2, z3, z4, z5, hzl]) rfl ⟨rfl, ?_⟩
  exact ((((((HB1.out).setCell (p := ⟨zb, 0, none⟩) (show w.heap.size ≤ zb by have := hzb.out; omega) _).setCell (p := ⟨zb, 1, none⟩) (show w.heap.size ≤ zb by have := hzb.out; omega) _).setCell (p := ⟨zb, 2, none⟩) (show w.heap.size ≤ zb by have := hzb.out; omega) _).setCell (p := ⟨zb, 3, none⟩) (show w.heap.size ≤ zb by have := hzb.out; omega) _).setCell (p := ⟨zb, 4, none⟩) (show w.heap.size ≤ zb by have := hzb.out; omega) _).setCell (p := ⟨zb, 5, none⟩) (show w.heap.size ≤ zb by have := hzb.out; omega) _
set_option maxHeartbeats 4000000 in
theorem getT_no (g base : Nat) (room : Int) (v : Value) (S : List RowT) (id : Int) (w : World) (hx : TabV w g base room v S) (hi : isT S id = false) :
    Calls Try.prog 142 #[.pointer (some ⟨g, 0, none⟩), .int .i64 id] w fun e w' => e = .returned (.tuple #[.agg #[.int .i64 0, .int .i64 0, .int .i64 0, .int .i64 0, .int .i64 0, .int .i64 0], .int .i64 8]) ∧ Below w.heap.size w w' := by
  have hB0 := (Below.refl w.heap.size w).alloc (Nat.le_refl _) (.cells #[.int .i64 0, .int .i64 0, .int .i64 0, .int .i64 0, .int .i64 0, .int .i64 0] 87)
  have bz0 := Blk.new w 87 #[.int .i64 0, .int .i64 0, .int .i64 0, .int .i64 0, .int .i64 0, .int .i64 0] w.heap.size rfl
  obtain ⟨W, hW⟩ : ∃ W, Hid (w.alloc (.cells #[.int .i64 0, .int .i64 0, .int .i64 0, .int .i64 0, .int .i64 0, .int .i64 0] 87) = W) := ⟨_, Lib.hid rfl⟩
  obtain ⟨zb, hzb⟩ : ∃ zb, Hid (w.heap.size = zb) := ⟨_, Lib.hid rfl⟩
  rw [hW.out] at hB0 bz0
  rw [hzb.out] at bz0
  have HF := Lib.hid (findT_any g base room v S id W (hx.past hB0))
  rw [hi] at HF
  have HB0 := Lib.hid hB0
  have HZ := Lib.hid bz0
  clear hx hi hB0 bz0
  go_enter Try.func142, Try.ntmps142
  go_upto_region 1 with fail
  rw [hW.out, hzb.out]
  go_wp2_with fail
  refine HF.out.mono ?_
  rintro e w1 ⟨rfl, hb⟩
  have HZ1 := Lib.hid (HZ.out.past hb)
  have HB1 := Lib.hid (Below.past HB0.out hb HB0.out.size)
  have z0 := HZ1.out.cell 0
  have f0 := HZ1.out.frozen 0
  have z1 := HZ1.out.cell 1
  have f1 := HZ1.out.frozen 1
  have z2 := HZ1.out.cell 2
  have f2 := HZ1.out.frozen 2
  have z3 := HZ1.out.cell 3
  have f3 := HZ1.out.frozen 3
  have z4 := HZ1.out.cell 4
  have f4 := HZ1.out.frozen 4
  have z5 := HZ1.out.cell 5
  have f5 := HZ1.out.frozen 5
  simp at z0 z1 z2 z3 z4 z5
  have hzl := HZ1.out.lt
  clear hb HF
  go_wp2_with fail
  refine bodyPost_ret (v := .tuple #[.agg #[.int .i64 0, .int .i64 0, .int .i64 0, .int .i64 0, .int .i64 0, .int .i64 0], .int .i64 8]) (by simp [results, Try.results142, go_sem, z0, z1, z2, z3, z4, z5, hzl]) rfl ⟨rfl, ?_⟩
  first | exact (((((((HB1.out).setCell (p := ⟨zb, 0, none⟩) (show w.heap.size ≤ zb by have := hzb.out; omega) _).setCell (p := ⟨zb, 1, none⟩) (show w.heap.size ≤ zb by have := hzb.out; omega) _).setCell (p := ⟨zb, 2, none⟩) (show w.heap.size ≤ zb by have := hzb.out; omega) _).setCell (p := ⟨zb, 3, none⟩) (show w.heap.size ≤ zb by have := hzb.out; omega) _).setCell (p := ⟨zb, 4, none⟩) (show w.heap.size ≤ zb by have := hzb.out; omega) _).setCell (p := ⟨zb, 5, none⟩) (show w.heap.size ≤ zb by have := hzb.out; omega) _).alloc (by have := HB1.out.size; simp; omega) _ | exact ((((((HB1.out.alloc (by have := HB1.out.size; omega) _).setCell (p := ⟨zb, 0, none⟩) (show w.heap.size ≤ zb by have := hzb.out; omega) _).setCell (p := ⟨zb, 1, none⟩) (show w.heap.size ≤ zb by have := hzb.out; omega) _).setCell (p := ⟨zb, 2, none⟩) (show w.heap.size ≤ zb by have := hzb.out; omega) _).setCell (p := ⟨zb, 3, none⟩) (show w.heap.size ≤ zb by have := hzb.out; omega) _).setCell (p := ⟨zb, 4, none⟩) (show w.heap.size ≤ zb by have := hzb.out; omega) _).setCell (p := ⟨zb, 5, none⟩) (show w.heap.size ≤ zb by have := hzb.out; omega) _

set_option maxHeartbeats 8000000 in
set_option maxRecDepth 100000 in
theorem putT_any (g base : Nat) (room : Int) (v : Value) (S : List RowT) (id : Int) (s : Trad) (w : World) (hx : TabV w g base room v S) (hl9 : S.length ≤ 900) (hbase : base ≤ w.heap.size) :
    Calls Try.prog 99 #[.pointer (some ⟨g, 0, none⟩), .int .i64 id, .agg #[.int .i64 s.id, .int .i64 s.buyer, .int .i64 s.seller, .int .i64 s.sec, .int .i64 s.qty, .int .i64 s.price]] w (PutTPost g base room v S id s w) := by
  have hB0 := (Below.refl w.heap.size w).alloc (Nat.le_refl _) (.cells #[.int .i64 s.id, .int .i64 s.buyer, .int .i64 s.seller, .int .i64 s.sec, .int .i64 s.qty, .int .i64 s.price] 87)
  have bz0 := Blk.new w 87 #[.int .i64 s.id, .int .i64 s.buyer, .int .i64 s.seller, .int .i64 s.sec, .int .i64 s.qty, .int .i64 s.price] w.heap.size rfl
  obtain ⟨W, hW⟩ : ∃ W, Hid (w.alloc (.cells #[.int .i64 s.id, .int .i64 s.buyer, .int .i64 s.seller, .int .i64 s.sec, .int .i64 s.qty, .int .i64 s.price] 87) = W) := ⟨_, Lib.hid rfl⟩
  obtain ⟨xb, hxb⟩ : ∃ xb, Hid (w.heap.size = xb) := ⟨_, Lib.hid rfl⟩
  rw [hW.out] at hB0 bz0
  rw [hxb.out] at bz0
  have HX0 := Lib.hid hx
  have HX := Lib.hid (hx.past hB0)
  have HF := Lib.hid (findT_any g base room v S id W HX.out)
  obtain ⟨n, hn⟩ : ∃ n, Hid (S.length = n) := ⟨_, Lib.hid rfl⟩
  obtain ⟨I, hI⟩ : ∃ I, Hid (posT S id = I) := ⟨_, Lib.hid rfl⟩
  have hIn : I ≤ n := by rw [← hI.out, ← hn.out]; exact posT_le S id
  have HB0 := Lib.hid hB0
  have HZ := Lib.hid bz0
  rw [hI.out] at HF
  rw [hn.out] at hl9
  clear hx hB0 bz0
  cases hi : isT S id with
  | true =>
    rw [hi] at HF
    have HK : Hid (putTK room S id = 7) := Lib.hid (by rw [putTK, if_pos hi])
    clear hi
    go_enter Try.func99, Try.ntmps99
    go_upto_region 1 with fail
    rw [hW.out, hxb.out]
    go_wp2_with fail
    refine HF.out.mono ?_
    rintro e w1 ⟨rfl, hb⟩
    have HB1 := Lib.hid (Below.past HB0.out hb HB0.out.size)
    clear hb
    go_wp2_with fail
    go_ret
    exact putT_no HX0.out HK.out (by decide) HB1.out
  | false =>
    rw [hi] at HF
    have HIS := Lib.hid hi
    clear hi
    go_enter Try.func99, Try.ntmps99
    go_upto_region 1 with fail
    rw [hW.out, hxb.out]
    go_wp2_with fail
    refine HF.out.mono ?_
    rintro e w1 ⟨rfl, hb⟩
    have HX1 := Lib.hid (HX.out.past hb)
    have HZ1 := Lib.hid (HZ.out.past hb)
    obtain ⟨X, c, hv⟩ := HX1.out.form
    subst hv
    have HBK := Lib.hid HX1.out.blk
    have HRW := Lib.hid HX1.out.row
    rw [hn.out] at HBK HRW
    have p0 := HBK.out.cell 0
    have p1 := HBK.out.cell 1
    simp at p0 p1
    have HB := Lib.hid (Below.past HB0.out hb HB0.out.size)
    have hd := Below.drew HB.out
    clear hb HF
    by_cases hr : room ≤ (n : Int)
    · have HK : Hid (putTK room S id = 6) := Lib.hid (by rw [putTK, HIS.out, if_neg (by simp), hn.out, if_pos hr])
      go_wp2_with fail
      go_region
      all_goals
        go_wp2_with fail
        go_ret
        rw [hn.out] at *
        exact putT_no HX0.out HK.out (by decide) hd
    · have HK : Hid (putTK room S id = 0) := Lib.hid (by rw [putTK, HIS.out, if_neg (by simp), hn.out, if_neg hr])
      go_wp2_with fail
      go_region
      have hdr := Below.drew (Below.refl w1.heap.size w1)
      have HRW2 := Lib.hid (own_pastZ HRW.out hdr)
      have HBK2 := Lib.hid (HBK.out.past hdr)
      have HZ2 := Lib.hid (HZ1.out.past hdr)
      obtain ⟨W1, hW1⟩ : ∃ W1, Hid (w1.drew = W1) := ⟨_, Lib.hid rfl⟩
      rw [hW1.out] at hd HRW2 HBK2 HZ2
      clear hdr
      go_upto_region 8 with fail
      rw [hW1.out]
      have hbz : base ≤ W1.heap.size := by have := hd.size; omega
      have hdb := ((Below.refl W1.heap.size W1).alloc (Nat.le_refl _) (.cells #[.int .i64 id, .int .i64 s.id, .int .i64 s.buyer, .int .i64 s.seller, .int .i64 s.sec, .int .i64 s.qty, .int .i64 s.price] 156)).drew
      have HRW3 := Lib.hid (own_pastZ HRW2.out hdb)
      have HBK3 := Lib.hid (HBK2.out.past hdb)
      have HXB := Lib.hid ((Blk.new W1 156 #[.int .i64 id, .int .i64 s.id, .int .i64 s.buyer, .int .i64 s.seller, .int .i64 s.sec, .int .i64 s.qty, .int .i64 s.price] W1.heap.size rfl).drewN 1)
      have hne : (Value.slice X n c).ownBlock ≠ some W1.heap.size := fun e => by have := (HRW2.out.lt _ e).2; omega
      have HI := Lib.hid (insT_any base (.slice X n c) n I W1.heap.size 1 (S.flatMap RowT.cells) (.int .i64 id) (.int .i64 s.id) (.int .i64 s.buyer) (.int .i64 s.seller) (.int .i64 s.sec) (.int .i64 s.qty) (.int .i64 s.price) ((W1.alloc (.cells #[.int .i64 id, .int .i64 s.id, .int .i64 s.buyer, .int .i64 s.seller, .int .i64 s.sec, .int .i64 s.qty, .int .i64 s.price] 156)).drew) HRW3.out HXB.out hne (one_cellsT S) (by simp [Value.oneCell']) hIn (by omega) (by simp; omega))
      have HD := Lib.hid hd
      have q1 := HBK2.out.cell 1
      simp at q1
      have hgl := HBK2.out.lt
      have hxl := HZ2.out.lt
      have x0 := HZ2.out.cell 0
      have x1 := HZ2.out.cell 1
      have x2 := HZ2.out.cell 2
      have x3 := HZ2.out.cell 3
      have x4 := HZ2.out.cell 4
      have x5 := HZ2.out.cell 5
      simp at x0 x1 x2 x3 x4 x5
      clear hd hdb hne p0 p1
      go_region_with (go_at_call 135; refine HI.out.mono ?_; rintro e w2 ⟨v', rfl, hown', hg', hdd⟩; obtain ⟨A', c', rfl⟩ := own_form hown'; have bz := Blk.grown HBK3.out hg' (own_blk_ne HRW3.out HBK3.out (by decide)); have y1 := bz.cell 1; have f1 := bz.frozen 1; simp at y1)
      all_goals
        have HV : Hid (TabV (w2.setCell ⟨g, 1, none⟩ (.slice A' (n + 1) c')) g base room (.slice A' (n + 1) c') (insT S ⟨id, s⟩)) := Lib.hid (by
          have hll : (insT S ⟨id, s⟩).length = n + 1 := by rw [insT_len, hn.out]
          refine ⟨⟨A', c', by rw [hll]⟩, bz.put 1 _, ?_, insT_ris HX.out.ris HIS.out, by rw [hll]; omega, HX.out.rm⟩
          rw [hll, insT_cells, hI.out]
          exact own_far (p := ⟨g, 1, none⟩) hown' (own_blk_ne hown' bz (by decide)) _)
        have HO : Hid (OnlyG g (.slice X n c) w (w2.setCell ⟨g, 1, none⟩ (.slice A' (n + 1) c'))) := Lib.hid (((OnlyG.of_below (HD.out.alloc HD.out.size _).drew).grown hg').setCell ⟨g, 1, none⟩ rfl _)
        have HOW : Hid ((Value.slice A' (n + 1) c').ownBlock = (Value.slice X n c).ownBlock ∨ ∃ k, (Value.slice A' (n + 1) c').ownBlock = some k ∧ w.heap.size ≤ k) := Lib.hid (hdd.imp (fun e => e) fun ⟨k, e, hk⟩ => ⟨k, e, by have := HD.out.size; simp at hk; omega⟩)
        clear hown' hg' hdd bz y1 f1
        go_wp2_with fail
        go_ret
        rw [hn.out]
        refine ⟨by rw [HK.out]; rfl, .slice A' (n + 1) c', ?_, HO.out, HOW.out⟩
        rw [putTS, HK.out, if_pos rfl]
        exact HV.out

theorem TabV.far {w : World} {g base : Nat} {room : Int} {v : Value} {S : List RowT} (h : TabV w g base room v S) {p : Addr} (h1 : g ≠ p.block) (h2 : v.ownBlock ≠ some p.block) (u : Value) : TabV (w.setCell p u) g base room v S :=
  ⟨h.form, h.blk.far h1 u, own_far h.row h2 u, h.ris, h.len, h.rm⟩

def DropTPost (g base : Nat) (room : Int) (v : Value) (S : List RowT) (s : Trad) (w : World) (e : Ending) (w' : World) : Prop :=
  e = .returned (.tuple #[.agg #[.int .i64 s.id, .int .i64 s.buyer, .int .i64 s.seller, .int .i64 s.sec, .int .i64 s.qty, .int .i64 s.price], .int .i64 0]) ∧ ∃ v', TabV w' g base room v' S ∧ OnlyG g v w w' ∧ v'.ownBlock = v.ownBlock
set_option maxHeartbeats 8000000 in
theorem dropT_yes (g base : Nat) (room : Int) (v : Value) (S : List RowT) (id : Int) (w : World) (hx : TabV w g base room v S) (hi : isT S id = true) (r : RowT) (hr : S[posT S id]? = some r) :
    Calls Try.prog 107 #[.pointer (some ⟨g, 0, none⟩), .int .i64 id] w (DropTPost g base room v (outT S (posT S id)) r.v w) := by
  have hB0 := (Below.refl w.heap.size w).alloc (Nat.le_refl _) (.cells #[.int .i64 0, .int .i64 0, .int .i64 0, .int .i64 0, .int .i64 0, .int .i64 0] 87)
  have bz0 := Blk.new w 87 #[.int .i64 0, .int .i64 0, .int .i64 0, .int .i64 0, .int .i64 0, .int .i64 0] w.heap.size rfl
  obtain ⟨W, hW⟩ : ∃ W, Hid (w.alloc (.cells #[.int .i64 0, .int .i64 0, .int .i64 0, .int .i64 0, .int .i64 0, .int .i64 0] 87) = W) := ⟨_, Lib.hid rfl⟩
  obtain ⟨zb, hzb⟩ : ∃ zb, Hid (w.heap.size = zb) := ⟨_, Lib.hid rfl⟩
  rw [hW.out] at hB0 bz0
  rw [hzb.out] at bz0
  have HX := Lib.hid (hx.past hB0)
  have HG := Lib.hid (getT_yes g base room v S id W HX.out hi r hr)
  have HI := Lib.hid hi
  have HR := Lib.hid hr
  have HL := (List.getElem?_eq_some_iff.1 hr).1
  obtain ⟨I, hI⟩ : ∃ I, Hid (posT S id = I) := ⟨_, Lib.hid rfl⟩
  rw [hI.out] at HL HR ⊢
  obtain ⟨m, hm⟩ : ∃ m, S.length = m + 1 := ⟨S.length - 1, by omega⟩
  have HM := Lib.hid hm
  rw [hm] at HL
  have HB0 := Lib.hid hB0
  have HZ := Lib.hid bz0
  clear hx hi hr hm hB0 bz0
  go_enter Try.func107, Try.ntmps107
  go_upto_region 1 with fail
  rw [hW.out, hzb.out]
  go_wp2_with fail
  refine HG.out.mono ?_
  rintro e w1 ⟨rfl, hb⟩
  have hB1 := Below.past HB0.out hb HB0.out.size
  have hba := (Below.refl w1.heap.size w1).alloc (Nat.le_refl _) (.cells #[.int .i64 r.v.id, .int .i64 r.v.buyer, .int .i64 r.v.seller, .int .i64 r.v.sec, .int .i64 r.v.qty, .int .i64 r.v.price] 87)
  have hbk := Blk.new w1 87 #[.int .i64 r.v.id, .int .i64 r.v.buyer, .int .i64 r.v.seller, .int .i64 r.v.sec, .int .i64 r.v.qty, .int .i64 r.v.price] w1.heap.size rfl
  obtain ⟨vb, hvb⟩ : ∃ vb, Hid (w1.heap.size = vb) := ⟨_, Lib.hid rfl⟩
  obtain ⟨W2, hW2⟩ : ∃ W2, Hid (w1.alloc (.cells #[.int .i64 r.v.id, .int .i64 r.v.buyer, .int .i64 r.v.seller, .int .i64 r.v.sec, .int .i64 r.v.qty, .int .i64 r.v.price] 87) = W2) := ⟨_, Lib.hid rfl⟩
  have HZ2 := Lib.hid ((HZ.out.past hb).past hba)
  have HX2a := Lib.hid ((HX.out.past hb).past hba)
  have HB2 := Lib.hid (Below.past hB1 hba hB1.size)
  rw [hW2.out] at hbk HZ2 HX2a HB2
  rw [hvb.out] at hbk
  have hvz : vb ≠ zb := by have h1 := HZ.out.lt; have h2 := hb.size; have h3 := hvb.out; omega
  have HVB := Lib.hid hbk
  have HF := Lib.hid (findT_any g base room v S id W2 HX2a.out)
  rw [hI.out, HI.out] at HF
  clear hb HG hB1 hba hbk HZ
  go_upto_region 2 with fail
  rw [hW2.out, hvb.out]
  go_wp2_with fail
  refine HF.out.mono ?_
  rintro e w2 ⟨rfl, hb⟩
  have HB3 := Lib.hid (Below.past HB2.out hb HB2.out.size)
  have HX2 := Lib.hid (HX2a.out.past hb)
  have HZ3 := Lib.hid (HZ2.out.past hb)
  have HV3 := Lib.hid (HVB.out.past hb)
  clear hb HF HB2 HX2a HZ2 HVB
  obtain ⟨b, c, cur, hv, hbb, hh, hnc, hcm, hcs, hxs⟩ : ∃ b c cur, v = .slice (some ⟨b, 0, none⟩) (m + 1) c ∧ base ≤ b ∧ w2.heap[b]? = some (.cells cur 156 (0, 0)) ∧ m + 1 ≤ c ∧ c ≤ maxLen ∧ cur.size = c * 7 ∧ cur.toList.take ((m + 1) * 7) = S.flatMap RowT.cells := by
    rcases HX2.out.row.2 with ⟨_, h0⟩ | ⟨b, c, cur, e, h1, h2, h3, h4, h5, h6⟩
    · have := HM.out; omega
    · rw [HM.out] at e h3 h6
      exact ⟨b, c, cur, e, h1, h2, h3, h4, h5, h6⟩
  subst hv
  have HBK := Lib.hid HX2.out.blk
  have p1 := HBK.out.cell 1
  simp at p1
  have HD := Lib.hid (delT_any base b m c I cur (S.flatMap RowT.cells) w2 hh hbb (one_cellsT S) (by omega) (by have := HX.out.len; have := HM.out; omega) hnc hcm hcs hxs)
  have hw1 : IntKind.i64.wrap ((I : Int) + 1) = (I : Int) + 1 := IntWalk.i64_in _ (by have := HX.out.len; have := HM.out; omega)
  clear hh hbb hnc hcm hcs hxs
  go_wp2_with fail
  refine HD.out.mono ?_
  rintro e w3 ⟨rfl, hown', hg'⟩
  have bz := Blk.grown HBK.out hg' (own_blk_ne HX2.out.row HBK.out (by decide))
  have hzg : zb ≠ g := blk_neZ HZ3.out HBK.out (by decide)
  have hvg : vb ≠ g := blk_neZ HV3.out HBK.out (by decide)
  have HZ1 := Lib.hid ((Blk.grown HZ3.out hg' (own_blk_ne HX2.out.row HZ3.out (by decide))).far (p := ⟨g, 1, none⟩) hzg (.slice (some ⟨b, 0, none⟩) m c))
  have HV1 := Lib.hid ((Blk.grown HV3.out hg' (own_blk_ne HX2.out.row HV3.out (by decide))).far (p := ⟨g, 1, none⟩) hvg (.slice (some ⟨b, 0, none⟩) m c))
  have y1 := bz.cell 1
  have f1' := bz.frozen 1
  simp at y1
  have HV : Hid (TabV (w3.setCell ⟨g, 1, none⟩ (.slice (some ⟨b, 0, none⟩) m c)) g base room (.slice (some ⟨b, 0, none⟩) m c) (outT S I)) := Lib.hid (by
    have hll := outT_len HM.out HL
    refine ⟨⟨_, c, by rw [hll]⟩, bz.put 1 _, ?_, outT_ris HX.out.ris HR.out, by rw [hll]; have := HX.out.len; have := HM.out; omega, HX.out.rm⟩
    rw [hll, outT_cells]
    exact own_far (p := ⟨g, 1, none⟩) hown' (own_blk_ne hown' bz (by decide)) _)
  have HO : Hid (OnlyG g (.slice (some ⟨b, 0, none⟩) (m + 1) c) w (w3.setCell ⟨g, 1, none⟩ (.slice (some ⟨b, 0, none⟩) m c))) := Lib.hid (((OnlyG.of_below HB3.out).grown hg').setCell ⟨g, 1, none⟩ rfl _)
  obtain ⟨W4, hW4⟩ : ∃ W4, Hid (w3.setCell ⟨g, 1, none⟩ (.slice (some ⟨b, 0, none⟩) m c) = W4) := ⟨_, Lib.hid rfl⟩
  rw [hW4.out] at HV HO HZ1 HV1
  clear hown' hg' bz HD
  go_upto_region 5 with fail
  rw [hW4.out]
  have z0 := HZ1.out.cell 0
  have f0 := HZ1.out.frozen 0
  have z1 := HZ1.out.cell 1
  have f1 := HZ1.out.frozen 1
  have z2 := HZ1.out.cell 2
  have f2 := HZ1.out.frozen 2
  have z3 := HZ1.out.cell 3
  have f3 := HZ1.out.frozen 3
  have z4 := HZ1.out.cell 4
  have f4 := HZ1.out.frozen 4
  have z5 := HZ1.out.cell 5
  have f5 := HZ1.out.frozen 5
  simp at z0 z1 z2 z3 z4 z5
  have hzl := HZ1.out.lt
  have u0 := HV1.out.cell 0
  have u1 := HV1.out.cell 1
  have u2 := HV1.out.cell 2
  have u3 := HV1.out.cell 3
  have u4 := HV1.out.cell 4
  have u5 := HV1.out.cell 5
  simp at u0 u1 u2 u3 u4 u5
  have hvl := HV1.out.lt
  have hoz := own_blk_ne HV.out.row HZ1.out (by decide)
  clear y1 f1' p1
  go_wp2_with fail
  refine bodyPost_ret (v := .tuple #[.agg #[.int .i64 r.v.id, .int .i64 r.v.buyer, .int .i64 r.v.seller, .int .i64 r.v.sec, .int .i64 r.v.qty, .int .i64 r.v.price], .int .i64 0]) (by simp [results, Try.results107, go_sem, z0, z1, z2, z3, z4, z5, hzl]) rfl ⟨rfl, _, ((((((HV.out).far (p := ⟨zb, 0, none⟩) (Ne.symm hzg) hoz _).far (p := ⟨zb, 1, none⟩) (Ne.symm hzg) hoz _).far (p := ⟨zb, 2, none⟩) (Ne.symm hzg) hoz _).far (p := ⟨zb, 3, none⟩) (Ne.symm hzg) hoz _).far (p := ⟨zb, 4, none⟩) (Ne.symm hzg) hoz _).far (p := ⟨zb, 5, none⟩) (Ne.symm hzg) hoz _, ((((((HO.out).newZ (p := ⟨zb, 0, none⟩) (show w.heap.size ≤ zb by have := hzb.out; omega) _).newZ (p := ⟨zb, 1, none⟩) (show w.heap.size ≤ zb by have := hzb.out; omega) _).newZ (p := ⟨zb, 2, none⟩) (show w.heap.size ≤ zb by have := hzb.out; omega) _).newZ (p := ⟨zb, 3, none⟩) (show w.heap.size ≤ zb by have := hzb.out; omega) _).newZ (p := ⟨zb, 4, none⟩) (show w.heap.size ≤ zb by have := hzb.out; omega) _).newZ (p := ⟨zb, 5, none⟩) (show w.heap.size ≤ zb by have := hzb.out; omega) _, rfl⟩
set_option maxHeartbeats 4000000 in
theorem dropT_no (g base : Nat) (room : Int) (v : Value) (S : List RowT) (id : Int) (w : World) (hx : TabV w g base room v S) (hi : isT S id = false) :
    Calls Try.prog 107 #[.pointer (some ⟨g, 0, none⟩), .int .i64 id] w fun e w' => e = .returned (.tuple #[.agg #[.int .i64 0, .int .i64 0, .int .i64 0, .int .i64 0, .int .i64 0, .int .i64 0], .int .i64 8]) ∧ Below w.heap.size w w' := by
  have hB0 := (Below.refl w.heap.size w).alloc (Nat.le_refl _) (.cells #[.int .i64 0, .int .i64 0, .int .i64 0, .int .i64 0, .int .i64 0, .int .i64 0] 87)
  have bz0 := Blk.new w 87 #[.int .i64 0, .int .i64 0, .int .i64 0, .int .i64 0, .int .i64 0, .int .i64 0] w.heap.size rfl
  obtain ⟨W, hW⟩ : ∃ W, Hid (w.alloc (.cells #[.int .i64 0, .int .i64 0, .int .i64 0, .int .i64 0, .int .i64 0, .int .i64 0] 87) = W) := ⟨_, Lib.hid rfl⟩
  obtain ⟨zb, hzb⟩ : ∃ zb, Hid (w.heap.size = zb) := ⟨_, Lib.hid rfl⟩
  rw [hW.out] at hB0 bz0
  rw [hzb.out] at bz0
  have HG := Lib.hid (getT_no g base room v S id W (hx.past hB0) hi)
  have HB0 := Lib.hid hB0
  have HZ := Lib.hid bz0
  clear hx hi hB0 bz0
  go_enter Try.func107, Try.ntmps107
  go_upto_region 1 with fail
  rw [hW.out, hzb.out]
  go_wp2_with fail
  refine HG.out.mono ?_
  rintro e w1 ⟨rfl, hb⟩
  have HZ1 := Lib.hid (HZ.out.past hb)
  have HB1 := Lib.hid (Below.past HB0.out hb HB0.out.size)
  have z0 := HZ1.out.cell 0
  have f0 := HZ1.out.frozen 0
  have z1 := HZ1.out.cell 1
  have f1 := HZ1.out.frozen 1
  have z2 := HZ1.out.cell 2
  have f2 := HZ1.out.frozen 2
  have z3 := HZ1.out.cell 3
  have f3 := HZ1.out.frozen 3
  have z4 := HZ1.out.cell 4
  have f4 := HZ1.out.frozen 4
  have z5 := HZ1.out.cell 5
  have f5 := HZ1.out.frozen 5
  simp at z0 z1 z2 z3 z4 z5
  have hzl := HZ1.out.lt
  clear hb HG
  go_wp2_with fail
  refine bodyPost_ret (v := .tuple #[.agg #[.int .i64 0, .int .i64 0, .int .i64 0, .int .i64 0, .int .i64 0, .int .i64 0], .int .i64 8]) (by simp [results, Try.results107, go_sem, z0, z1, z2, z3, z4, z5, hzl]) rfl ⟨rfl, ?_⟩
  first | exact (((((((HB1.out).setCell (p := ⟨zb, 0, none⟩) (show w.heap.size ≤ zb by have := hzb.out; omega) _).setCell (p := ⟨zb, 1, none⟩) (show w.heap.size ≤ zb by have := hzb.out; omega) _).setCell (p := ⟨zb, 2, none⟩) (show w.heap.size ≤ zb by have := hzb.out; omega) _).setCell (p := ⟨zb, 3, none⟩) (show w.heap.size ≤ zb by have := hzb.out; omega) _).setCell (p := ⟨zb, 4, none⟩) (show w.heap.size ≤ zb by have := hzb.out; omega) _).setCell (p := ⟨zb, 5, none⟩) (show w.heap.size ≤ zb by have := hzb.out; omega) _).alloc (by have := HB1.out.size; simp; omega) _ | exact ((((((HB1.out.alloc (by have := HB1.out.size; omega) _).setCell (p := ⟨zb, 0, none⟩) (show w.heap.size ≤ zb by have := hzb.out; omega) _).setCell (p := ⟨zb, 1, none⟩) (show w.heap.size ≤ zb by have := hzb.out; omega) _).setCell (p := ⟨zb, 2, none⟩) (show w.heap.size ≤ zb by have := hzb.out; omega) _).setCell (p := ⟨zb, 3, none⟩) (show w.heap.size ≤ zb by have := hzb.out; omega) _).setCell (p := ⟨zb, 4, none⟩) (show w.heap.size ≤ zb by have := hzb.out; omega) _).setCell (p := ⟨zb, 5, none⟩) (show w.heap.size ≤ zb by have := hzb.out; omega) _
end Go.Proofs.Ytelbolhckhdioaa.TTbR
