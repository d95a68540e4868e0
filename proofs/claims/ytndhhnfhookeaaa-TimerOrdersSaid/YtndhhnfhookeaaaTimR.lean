import Derived.Test.YtndhhnfhookeaaaTimQ
namespace Go.Proofs.Ytndhhnfhookeaaa
open Go.RowKit

theorem flat_take (l : List Tim) (d : Nat) : (l.flatMap Tim.cells).take (d * 4) = (l.take d).flatMap Tim.cells := by
  induction l generalizing d with
  | nil => simp
  | cons x l ih =>
    cases d with
    | zero => simp
    | succ d =>
      rw [List.flatMap_cons, List.take_succ_cons, List.flatMap_cons, ← ih d, List.take_append]
      rw [List.take_of_length_le (by rw [Tim.cells_len]; omega), Tim.cells_len, show (d + 1) * 4 - 4 = d * 4 from by omega]
theorem flat_drop (l : List Tim) (d : Nat) : (l.flatMap Tim.cells).drop (d * 4) = (l.drop d).flatMap Tim.cells := by
  induction l generalizing d with
  | nil => simp
  | cons x l ih =>
    cases d with
    | zero => simp
    | succ d =>
      rw [List.flatMap_cons, List.drop_succ_cons, ← ih d, List.drop_append]
      rw [List.drop_of_length_le (by rw [Tim.cells_len]; omega), Tim.cells_len, List.nil_append, show (d + 1) * 4 - 4 = d * 4 from by omega]
theorem dueN_pos {now : Int} {h : Tim} {r : List Tim} (hd : h.due ≤ now) : 0 < dueN now (h :: r) := by
  unfold dueN; rw [List.takeWhile_cons, if_pos (by simp [dueP]; exact hd)]; simp
theorem first_none (g : Nat) (room : Int) (base : Nat) (ts : List Tim) (now : Int) (w : World) (hw : Wh w g room base ts) (hl : ts.length ≤ 1000) (hd : dueN now (sortT ts) = 0) :
    Calls Try.prog 20 #[.pointer (some ⟨g, 0, none⟩), .int .i64 now] w fun e w' => e = .returned (.tuple #[.agg #[.int .i64 0, .int .i64 0, .int .i64 0, .int .i64 0], .bool false]) ∧ Below w.heap.size w w' := by
  cases hs : sortT ts with
  | nil =>
    have h0 : ts = [] := List.length_eq_zero_iff.1 (by rw [← sortT_len, hs]; rfl)
    subst h0
    exact first_empty g room base now w hw
  | cons h r =>
    refine first_late g room base ts r h now w hw hl hs ?_
    rcases Int.lt_or_le now h.due with hlt | hge
    · exact hlt
    · rw [hs] at hd
      have := dueN_pos (r := r) hge
      omega

set_option maxHeartbeats 2000000 in
set_option maxRecDepth 100000 in
theorem does_fnone (B g : Nat) (room rm : Int) (A : Option Addr) (n c : Nat) (ts : List Tim) (t : Tim) (K : Int) (w : World) (hq : WQ w B g room A n c ts) (hn : n ≤ 100) (hg : B ≤ g) (hB : B ≤ w.heap.size) (k0 : (K == 0) = false) (k1 : (K == 1) = false) (k2 : (K == 2) = false) (k3 : (K == 3) = false) (hd : dueN t.due (sortT ts) = 0) :
    Calls Try.prog 23 #[.pointer (some ⟨g, 0, none⟩), .slice A n c, .int .i64 rm, .agg #[.int .i64 K, .int .i64 t.due, .int .i64 t.kind, .int .i64 t.mem, .int .i64 t.lev]] w (DoesPost B g room w n) := by
  have hlen := hq.len
  obtain ⟨⟨v, hv, hbs⟩, hrd, hcap, honce⟩ := hq
  have hgw := hv.wh.lt
  have hvo := hv.own_le
  have hB0 := (Below.refl w.heap.size w).alloc (Nat.le_refl _) (.cells #[.int .i64 K, .int .i64 t.due, .int .i64 t.kind, .int .i64 t.mem, .int .i64 t.lev] 43)
  have bx := Blk.new w 43 #[.int .i64 K, .int .i64 t.due, .int .i64 t.kind, .int .i64 t.mem, .int .i64 t.lev] w.heap.size rfl
  obtain ⟨W, hW⟩ : ∃ W, Hid (w.alloc (.cells #[.int .i64 K, .int .i64 t.due, .int .i64 t.kind, .int .i64 t.mem, .int .i64 t.lev] 43) = W) := ⟨_, Lib.hid rfl⟩
  rw [hW.out] at hB0 bx
  have hvW := hv.past hB0
  have hrW := hrd.past hB0
  have hxW := Lib.hid bx.lt
  have x0 := bx.cell 0
  have x1 := bx.cell 1
  have x2 := bx.cell 2
  have x3 := bx.cell 3
  have x4 := bx.cell 4
  simp at x0 x1 x2 x3 x4
  have HS := Lib.hid (first_none g room B ts t.due W hvW.wh (by omega) hd)
  have HV := Lib.hid hvW
  have HB0 := Lib.hid hB0
  have HR := Lib.hid hrW
  have HX := Lib.hid bx
  have HBS := Lib.hid hbs
  have HO := Lib.hid honce
  have HVO := Lib.hid hvo
  clear hB0 hrW bx hv hvW hrd honce hbs hvo
  go_enter Try.func23, Try.ntmps23
  go_upto_region 1 with fail
  rw [hW.out]
  go_wp2_with fail
  refine HS.out.mono ?_
  rintro e w1 ⟨rfl, hb1⟩
  have bx1 := HX.out.past hb1
  have y0 := bx1.cell 0
  have y1 := bx1.cell 1
  have y2 := bx1.cell 2
  have y3 := bx1.cell 3
  have y4 := bx1.cell 4
  simp at y0 y1 y2 y3 y4
  have hs1 := bx1.lt
  have bz1 := Blk.new w1 29 #[.int .i64 0, .int .i64 0, .int .i64 0, .int .i64 0] w1.heap.size rfl
  have hbz := (Below.refl w1.heap.size w1).alloc (Nat.le_refl _) (.cells #[.int .i64 0, .int .i64 0, .int .i64 0, .int .i64 0] 29)
  have HR1 := Lib.hid ((HR.out.past hb1).past hbz)
  have HV1 := Lib.hid ((HV.out.past hb1).past hbz)
  have HF1 := Lib.hid (Below.past (Below.past (HB0.out.mono hB) hb1 (Nat.le_trans hB HB0.out.size)) hbz (by omega))
  have HZ1 := Lib.hid bz1
  have HD : Hid (Calls Try.prog 66 #[.slice A n c, .int .i64 t.due] (w1.alloc (.cells #[.int .i64 0, .int .i64 0, .int .i64 0, .int .i64 0] 29)) fun e w' => e = .returned (.int .i64 0) ∧ Below (w1.alloc (.cells #[.int .i64 0, .int .i64 0, .int .i64 0, .int .i64 0] 29)).heap.size (w1.alloc (.cells #[.int .i64 0, .int .i64 0, .int .i64 0, .int .i64 0] 29)) w') := by
    have h := refDue_any A n c (sortT ts) t.due _ HR1.out (by omega)
    rw [hd] at h
    exact Lib.hid h
  clear hb1 bx1 bz1 hbz x0 x1 x2 x3 x4 hd
  go_wp2_with fail
  refine HD.out.mono ?_
  rintro e w2 ⟨rfl, hb2⟩
  have bz2 := HZ1.out.past hb2
  have z0 := bz2.cell 0
  have z1 := bz2.cell 1
  have z2 := bz2.cell 2
  have z3 := bz2.cell 3
  simp at z0 z1 z2 z3
  have HR2 := Lib.hid (HR1.out.past hb2)
  have HV2 := Lib.hid (HV1.out.past hb2)
  have HF2 := Lib.hid (Below.past HF1.out hb2 (by have := HF1.out.size; omega))
  have hq : ∀ w, (binOp .eql 29 (.agg #[.int .i64 0, .int .i64 0, .int .i64 0, .int .i64 0]) (.agg #[.int .i64 0, .int .i64 0, .int .i64 0, .int .i64 0])).run Try.prog w = .ok (.bool true) w := fun w => tim_eql ⟨0, 0, 0, 0⟩ ⟨0, 0, 0, 0⟩ w
  clear hb2 bz2
  go_wp2_with fail
  go_quiet (fail)
  have HR3 := Lib.hid (HR2.out.past (below_drewN (Below.refl _ _) nq))
  have HV3 := Lib.hid (HV2.out.past (below_drewN (Below.refl _ _) nq))
  have HF3 := Lib.hid (below_drewN HF2.out nq)
  clear hq
  go_wp2_with fail
  refine bodyPost_ret (v := .tuple #[.slice (A) (n) (c), .bool true]) (by simp [results, Try.results23, go_sem]) rfl ⟨A, n, c, ts, rfl, ⟨⟨v, HV3.out, HBS.out⟩, HR3.out, hcap, HO.out⟩, by omega, HF3.out⟩

set_option maxHeartbeats 2000000 in
set_option maxRecDepth 100000 in
theorem does_fyes (B g : Nat) (room rm : Int) (A : Option Addr) (n c : Nat) (ts : List Tim) (t : Tim) (K : Int) (w : World) (hq : WQ w B g room A n c ts) (hn : n ≤ 100) (hg : B ≤ g) (hB : B ≤ w.heap.size) (k0 : (K == 0) = false) (k1 : (K == 1) = false) (k2 : (K == 2) = false) (k3 : (K == 3) = false) (x : Tim) (r : List Tim) (hs : sortT ts = x :: r) (hd : x.due ≤ t.due) :
    Calls Try.prog 23 #[.pointer (some ⟨g, 0, none⟩), .slice A n c, .int .i64 rm, .agg #[.int .i64 K, .int .i64 t.due, .int .i64 t.kind, .int .i64 t.mem, .int .i64 t.lev]] w (DoesPost B g room w n) := by
  have hlen := hq.len
  obtain ⟨⟨v, hv, hbs⟩, hrd, hcap, honce⟩ := hq
  have hgw := hv.wh.lt
  have hvo := hv.own_le
  have hB0 := (Below.refl w.heap.size w).alloc (Nat.le_refl _) (.cells #[.int .i64 K, .int .i64 t.due, .int .i64 t.kind, .int .i64 t.mem, .int .i64 t.lev] 43)
  have bx := Blk.new w 43 #[.int .i64 K, .int .i64 t.due, .int .i64 t.kind, .int .i64 t.mem, .int .i64 t.lev] w.heap.size rfl
  obtain ⟨W, hW⟩ : ∃ W, Hid (w.alloc (.cells #[.int .i64 K, .int .i64 t.due, .int .i64 t.kind, .int .i64 t.mem, .int .i64 t.lev] 43) = W) := ⟨_, Lib.hid rfl⟩
  rw [hW.out] at hB0 bx
  have hvW := hv.past hB0
  have hrW := hrd.past hB0
  have hxW := Lib.hid bx.lt
  have x0 := bx.cell 0
  have x1 := bx.cell 1
  have x2 := bx.cell 2
  have x3 := bx.cell 3
  have x4 := bx.cell 4
  simp at x0 x1 x2 x3 x4
  have HS := Lib.hid (first_yes g room B ts r x t.due W hvW.wh (by omega) honce hs hd)
  have HSZ := Lib.hid hB0.size
  have HB0 := Lib.hid hB0
  have HR := Lib.hid hrW
  have HX := Lib.hid bx
  have HBS := Lib.hid hbs
  have HO := Lib.hid honce
  have HVO := Lib.hid hvo
  clear hB0 hrW bx hv hvW hrd honce hbs hvo
  have HRL := Lib.hid (first_law HO.out hs)
  have HDN := Lib.hid (dueN_pos (r := r) hd)
  have hpos : 0 < n := by rw [← hlen, ← sortT_len, hs]; simp
  have HHS := Lib.hid hs
  rw [hs] at HR
  clear hs hd
  go_enter Try.func23, Try.ntmps23
  go_upto_region 1 with fail
  rw [hW.out]
  go_wp2_with fail
  refine HS.out.mono ?_
  rintro e w1 ⟨rfl, v', hv1, hon⟩
  have bx1 := hon.blk HX.out (by omega) (by simp [Value.ownBlock])
  have y0 := bx1.cell 0
  have y1 := bx1.cell 1
  have y2 := bx1.cell 2
  have y3 := bx1.cell 3
  have y4 := bx1.cell 4
  simp at y0 y1 y2 y3 y4
  have hs1 := bx1.lt
  have bz1 := Blk.new w1 29 #[.int .i64 x.due, .int .i64 x.kind, .int .i64 x.mem, .int .i64 x.lev] w1.heap.size rfl
  have hbz := (Below.refl w1.heap.size w1).alloc (Nat.le_refl _) (.cells #[.int .i64 x.due, .int .i64 x.kind, .int .i64 x.mem, .int .i64 x.lev] 29)
  have HR1 := Lib.hid ((HR.out.only hon HBS.out.nilrow).past hbz)
  have HBN := Lib.hid (HBS.out.parted HR.out hv1)
  have HV1 := Lib.hid ((hv1.mono (show B ≤ _ from by have := HSZ.out; omega)).past hbz)
  have HF1 := Lib.hid (Below.past (hon.frame2 HB0.out hg hB (by simp [Value.ownBlock])) hbz (by omega))
  have HZ1 := Lib.hid bz1
  obtain ⟨d, hdd⟩ : ∃ d, Hid (dueN t.due (x :: r) = d) := ⟨_, Lib.hid rfl⟩
  have HD := Lib.hid (refDue_any A n c (x :: r) t.due _ HR1.out (by omega))
  rw [hdd.out] at HD HDN
  have q1 : ((d : Int) == 0) = false := by have := HDN.out; simp; omega
  clear hv1 hon bx1 bz1 hbz x0 x1 x2 x3 x4
  go_wp2_with fail
  refine HD.out.mono ?_
  rintro e w2 ⟨rfl, hb2⟩
  have bz2 := HZ1.out.past hb2
  have z0 := bz2.cell 0
  have z1 := bz2.cell 1
  have z2 := bz2.cell 2
  have z3 := bz2.cell 3
  simp at z0 z1 z2 z3
  have hr2 := HR1.out.past hb2
  have hcut := Rd.cut hr2 (k := 1) (by omega) hcap
  rw [flat_drop, show (x :: r).drop 1 = r from rfl] at hcut
  have hbcut := HBN.out.cut (m := n - 1) (fun _ => hpos) (c = 1) (1 * 4)
  obtain ⟨bA, oA, hA, hbA, hcA⟩ := hr2.elem Tim.cells_len (show (x :: r)[0]? = some x from rfl) hpos
  subst hA
  have HC : Hid ((c = 1 → Rd w2 w2.heap.size 4 (some ⟨bA, oA, none⟩) (n - 1) (r.flatMap Tim.cells) ∧ Beside g v' (some ⟨bA, oA, none⟩) (n - 1)) ∧ (¬ c = 1 → Rd w2 w2.heap.size 4 (some ⟨bA, oA + 4, none⟩) (n - 1) (r.flatMap Tim.cells) ∧ Beside g v' (some ⟨bA, oA + 4, none⟩) (n - 1))) :=
    Lib.hid ⟨fun e => by rw [if_pos e] at hcut hbcut; exact ⟨hcut, hbcut⟩, fun e => by rw [if_neg e] at hcut hbcut; exact ⟨by simpa [Addr.add] using hcut, by simpa [Addr.add] using hbcut⟩⟩
  clear hcut hbcut
  have a0 := hcA 0 _ rfl
  have a1 := hcA 1 _ rfl
  have a2 := hcA 2 _ rfl
  have a3 := hcA 3 _ rfl
  simp at a0 a1 a2 a3
  have HV2 := Lib.hid (HV1.out.past hb2)
  have HF2 := Lib.hid (Below.past HF1.out hb2 (by have := HF1.out.size; omega))
  have hq : ∀ w, (binOp .eql 29 (.agg #[.int .i64 x.due, .int .i64 x.kind, .int .i64 x.mem, .int .i64 x.lev]) (.agg #[.int .i64 x.due, .int .i64 x.kind, .int .i64 x.mem, .int .i64 x.lev])).run Try.prog w = .ok (.bool true) w := fun w => by rw [tim_eql, eqT_refl]
  have q2 : (0 : Int) < (n : Int) := by omega
  have q3 : (1 : Int) ≤ (n : Int) := by omega
  clear hb2 bz2 hr2 hcA
  go_wp2_with fail
  go_quiet (fail)
  clear hq
  go_wp2_with fail
  all_goals first
    | (refine bodyPost_ret (v := .tuple #[.slice (some ⟨bA, oA + 4, none⟩) (n - 1) (c - 1), .bool true]) (by simp [results, Try.results23, go_sem]) rfl ⟨_, n - 1, c - 1, ts.filter (fun f => !eqT f x), rfl, ⟨⟨v', HV2.out.past (below_drewN (Below.refl _ _) nq), (HC.out.2 (by assumption)).2⟩, by rw [HRL.out]; exact (HC.out.2 (by assumption)).1.past (below_drewN (Below.refl _ _) nq), by omega, once_filter HO.out _⟩, by omega, below_drewN HF2.out nq⟩)
    | (refine bodyPost_ret (v := .tuple #[.slice (some ⟨bA, oA, none⟩) (n - 1) 0, .bool true]) (by simp [results, Try.results23, go_sem]) rfl ⟨_, n - 1, 0, ts.filter (fun f => !eqT f x), rfl, ⟨⟨v', HV2.out.past (below_drewN (Below.refl _ _) nq), (HC.out.1 (by first | rfl | assumption)).2⟩, by rw [HRL.out]; exact (HC.out.1 (by first | rfl | assumption)).1.past (below_drewN (Below.refl _ _) nq), by omega, once_filter HO.out _⟩, by omega, below_drewN HF2.out nq⟩)

set_option maxHeartbeats 8000000 in
set_option maxRecDepth 100000 in
theorem does_fire (B g : Nat) (room rm : Int) (A : Option Addr) (n c : Nat) (ts : List Tim) (t : Tim) (w : World) (hq : WQ w B g room A n c ts) (hn : n ≤ 100) (hg : B ≤ g) (hB : B ≤ w.heap.size) :
    Calls Try.prog 23 #[.pointer (some ⟨g, 0, none⟩), .slice A n c, .int .i64 rm, .agg #[.int .i64 3, .int .i64 t.due, .int .i64 t.kind, .int .i64 t.mem, .int .i64 t.lev]] w (DoesPost B g room w n) := by
  have hlen := hq.len
  obtain ⟨⟨v, hv, hbs⟩, hrd, hcap, honce⟩ := hq
  have hgw := hv.wh.lt
  have hvo := hv.own_le
  have hB0 := (Below.refl w.heap.size w).alloc (Nat.le_refl _) (.cells #[.int .i64 3, .int .i64 t.due, .int .i64 t.kind, .int .i64 t.mem, .int .i64 t.lev] 43)
  have bx := Blk.new w 43 #[.int .i64 3, .int .i64 t.due, .int .i64 t.kind, .int .i64 t.mem, .int .i64 t.lev] w.heap.size rfl
  obtain ⟨W, hW⟩ : ∃ W, Hid (w.alloc (.cells #[.int .i64 3, .int .i64 t.due, .int .i64 t.kind, .int .i64 t.mem, .int .i64 t.lev] 43) = W) := ⟨_, Lib.hid rfl⟩
  rw [hW.out] at hB0 bx
  have hvW := hv.past hB0
  have hrW := hrd.past hB0
  have hxW := Lib.hid bx.lt
  have x0 := bx.cell 0
  have x1 := bx.cell 1
  have x2 := bx.cell 2
  have x3 := bx.cell 3
  have x4 := bx.cell 4
  simp at x0 x1 x2 x3 x4
  have hrW2 := hrW
  have HD := Lib.hid (refDue_any A n c (sortT ts) t.due W hrW (by omega))
  have HV := Lib.hid hvW
  have HSZ := Lib.hid hB0.size
  clear hrW2
  have HB0 := Lib.hid hB0
  have HR := Lib.hid hrW
  have HX := Lib.hid bx
  have HBS := Lib.hid hbs
  have HO := Lib.hid honce
  have HVO := Lib.hid hvo
  clear hB0 hrW bx hv hvW hrd honce hbs hvo
  have HFL := Lib.hid (fire_law t.due ts)
  have hdle := dueN_le t.due (sortT ts)
  rw [sortT_len, hlen] at hdle
  obtain ⟨d, hdd⟩ : ∃ d, Hid (dueN t.due (sortT ts) = d) := ⟨_, Lib.hid rfl⟩
  rw [hdd.out] at HD HFL hdle
  have HGL : Hid ((ts.filter (dueP t.due)).length = d) := Lib.hid (by rw [← sortT_len, HFL.out.1, List.length_take, sortT_len, hlen]; omega)
  by_cases hcd : c = d
  · obtain rfl : d = c := hcd.symm
    go_enter Try.func23, Try.ntmps23
    go_upto_region 1 with fail
    rw [hW.out]
    go_wp2_with fail
    refine HD.out.mono ?_
    rintro e w1 ⟨rfl, hb1⟩
    have bx1 := HX.out.past hb1
    have y0 := bx1.cell 0
    have y1 := bx1.cell 1
    have y2 := bx1.cell 2
    have y3 := bx1.cell 3
    have y4 := bx1.cell 4
    simp at y0 y1 y2 y3 y4
    have hs1 := bx1.lt
    have hr1 := HR.out.past hb1
    have hv1 := HV.out.past hb1
    have hF1 := (Below.past HB0.out hb1 HB0.out.size).drew
    have HF := Lib.hid (firev_any g room B ts t.due w1.drew (hv1.past (Below.refl _ _).drew).wh (by omega))
    have q2 : (d : Int) ≤ (n : Int) := by omega
    have q3 : (n : Int) ≤ (d : Int) := by omega
    have HBQ := Lib.hid (HBS.out)
    have HR1 := Lib.hid hr1
    have HF1 := Lib.hid hF1
    clear hr1 hv1 hF1 hb1 bx1 x0 x1 x2 x3 x4
    go_wp2_with fail
    go_region_with (first
      | (go_at_call 17; refine HF.out.mono ?_; rintro e w2 ⟨vf, rfl, hown, v', hv2, hon⟩; rw [HGL.out] at hown; obtain ⟨Af, cf, rfl⟩ := own_form hown; have hr2 := (HR1.out.past (Below.refl _ _).drew).only hon HBQ.out.nilrow; have hb2 := HBQ.out.parted (HR1.out.past (Below.refl _ _).drew) hv2; have hpre := hr2.pre (k := d) hdle; rw [flat_take] at hpre; have hof := Rd.of_own hown; rw [HFL.out.1] at hof; have hF2 := hon.frame2 HF1.out hg hB (by simp [Value.ownBlock]))
      | (go_at_call 18; refine (refSame_yes Af d cf A _ ((sortT ts).take d) _ _ w2 hof hpre (by omega)).mono ?_; rintro e w3 ⟨rfl, hd3⟩; have hb3 : Below w2.heap.size w2 w3 := hd3.below (Below.refl _ _)))
    all_goals
      have hv3 := (hv2.past hb3).mono (show B ≤ _ from Nat.le_trans (Nat.le_trans hB HF1.out.size) (Nat.le_refl _))
      have hr3 := hr2.past hb3
      have hF3 := Below.past hF2 hb3 (Nat.le_trans hB hF2.size)
      have hr4 := hr3.cut (k := d) hdle hcap
      have hb4 := hb2.cut (m := n - d) (fun h => by omega) (d = d) (d * 4)
      rw [if_pos rfl, flat_drop] at hr4
      rw [if_pos rfl] at hb4
      have h0 : n - d = 0 := by omega
      rw [h0] at hr4 hb4
      have HR4 := Lib.hid hr4
      have HB4 := Lib.hid hb4
      have HV4 := Lib.hid hv3
      have HF4 := Lib.hid hF3
      go_wp2_with fail
      refine bodyPost_ret (v := .tuple #[.slice (A) 0 0, .bool true]) (by simp [results, Try.results23, go_sem]) rfl ⟨_, 0, _, ts.filter (fun f => !dueP t.due f), rfl, ⟨⟨v', HV4.out, HB4.out⟩, by rw [HFL.out.2]; exact HR4.out, by omega, once_filter HO.out _⟩, by omega, HF4.out⟩
  · skip
    go_enter Try.func23, Try.ntmps23
    go_upto_region 1 with fail
    rw [hW.out]
    go_wp2_with fail
    refine HD.out.mono ?_
    rintro e w1 ⟨rfl, hb1⟩
    have bx1 := HX.out.past hb1
    have y0 := bx1.cell 0
    have y1 := bx1.cell 1
    have y2 := bx1.cell 2
    have y3 := bx1.cell 3
    have y4 := bx1.cell 4
    simp at y0 y1 y2 y3 y4
    have hs1 := bx1.lt
    have hr1 := HR.out.past hb1
    have hv1 := HV.out.past hb1
    have hF1 := (Below.past HB0.out hb1 HB0.out.size).drew
    have HF := Lib.hid (firev_any g room B ts t.due w1.drew (hv1.past (Below.refl _ _).drew).wh (by omega))
    have q2 : (d : Int) ≤ (n : Int) := by omega
    have q3 : (n : Int) ≤ (c : Int) := by omega
    have HBQ := Lib.hid (HBS.out)
    have HR1 := Lib.hid hr1
    have HF1 := Lib.hid hF1
    clear hr1 hv1 hF1 hb1 bx1 x0 x1 x2 x3 x4
    go_wp2_with fail
    go_region_with (first
      | (go_at_call 17; refine HF.out.mono ?_; rintro e w2 ⟨vf, rfl, hown, v', hv2, hon⟩; rw [HGL.out] at hown; obtain ⟨Af, cf, rfl⟩ := own_form hown; have hr2 := (HR1.out.past (Below.refl _ _).drew).only hon HBQ.out.nilrow; have hb2 := HBQ.out.parted (HR1.out.past (Below.refl _ _).drew) hv2; have hpre := hr2.pre (k := d) hdle; rw [flat_take] at hpre; have hof := Rd.of_own hown; rw [HFL.out.1] at hof; have hF2 := hon.frame2 HF1.out hg hB (by simp [Value.ownBlock]))
      | (go_at_call 18; refine (refSame_yes Af d cf A _ ((sortT ts).take d) _ _ w2 hof hpre (by omega)).mono ?_; rintro e w3 ⟨rfl, hd3⟩; have hb3 : Below w2.heap.size w2 w3 := hd3.below (Below.refl _ _)))
    all_goals
      have hv3 := (hv2.past hb3).mono (show B ≤ _ from Nat.le_trans (Nat.le_trans hB HF1.out.size) (Nat.le_refl _))
      have hr3 := hr2.past hb3
      have hF3 := Below.past hF2 hb3 (Nat.le_trans hB hF2.size)
      have hr4 := hr3.cut (k := d) hdle hcap
      have hb4 := hb2.cut (m := n - d) (fun h => by omega) (c = d) (d * 4)
      rw [if_neg hcd, flat_drop] at hr4
      rw [if_neg hcd] at hb4
      have HR4 := Lib.hid hr4
      have HB4 := Lib.hid hb4
      have HV4 := Lib.hid hv3
      have HF4 := Lib.hid hF3
      go_wp2_with fail
      refine bodyPost_ret (v := .tuple #[.slice (A.map (·.add (d * 4))) (n - d) (c - d), .bool true]) (by simp [results, Try.results23, go_sem]) rfl ⟨_, n - d, _, ts.filter (fun f => !dueP t.due f), rfl, ⟨⟨v', HV4.out, HB4.out⟩, by rw [HFL.out.2]; exact HR4.out, by omega, once_filter HO.out _⟩, by omega, HF4.out⟩
end Go.Proofs.Ytndhhnfhookeaaa
