import Derived.Test.YtndhhnfhookeaaaTimN
import Derived.Test.YtndhhnfhookeaaaTimS
namespace Go.Proofs.Ytndhhnfhookeaaa
open Go.RowKit

theorem Only.frame2 {g B : Nat} {v : Value} {w W w' : World} (h : Only g v W w') (h0 : Below w.heap.size w W) (hg : B ≤ g) (hB : B ≤ w.heap.size) (hv : ∀ k, v.ownBlock = some k → B ≤ k) : Below B w w' :=
  Below.trans (h0.mono hB) (h.frame hg (Nat.le_trans hB h0.size) hv)
theorem sort_has_no {ts : List Tim} {t : Tim} (h : hasT ts t = false) : (ts.filter fun f => !eqT f t) = ts :=
  List.filter_eq_self.2 fun y hy => by
    cases e : eqT y t with
    | false => rfl
    | true => rw [eqT_iff.1 e] at hy; rw [hasT_iff.2 hy] at h; cases h

set_option maxHeartbeats 2000000 in
set_option maxRecDepth 100000 in
theorem does_twice (B g : Nat) (room rm : Int) (A : Option Addr) (n c : Nat) (ts : List Tim) (t : Tim) (w : World) (hq : WQ w B g room A n c ts) (hn : n ≤ 100) (hg : B ≤ g) (hB : B ≤ w.heap.size) (hh : hasT ts t = true) :
    Calls Try.prog 23 #[.pointer (some ⟨g, 0, none⟩), .slice A n c, .int .i64 rm, .agg #[.int .i64 0, .int .i64 t.due, .int .i64 t.kind, .int .i64 t.mem, .int .i64 t.lev]] w (DoesPost B g room w n) := by
  have hlen := hq.len
  obtain ⟨⟨v, hv, hbs⟩, hrd, hcap, honce⟩ := hq
  have hgw := hv.wh.lt
  have hvo := hv.own_le
  have hB0 := (Below.refl w.heap.size w).alloc (Nat.le_refl _) (.cells #[.int .i64 0, .int .i64 t.due, .int .i64 t.kind, .int .i64 t.mem, .int .i64 t.lev] 43)
  have bx := Blk.new w 43 #[.int .i64 0, .int .i64 t.due, .int .i64 t.kind, .int .i64 t.mem, .int .i64 t.lev] w.heap.size rfl
  obtain ⟨W, hW⟩ : ∃ W, Hid (w.alloc (.cells #[.int .i64 0, .int .i64 t.due, .int .i64 t.kind, .int .i64 t.mem, .int .i64 t.lev] 43) = W) := ⟨_, Lib.hid rfl⟩
  rw [hW.out] at hB0 bx
  have hvW := hv.past hB0
  have hrW := hrd.past hB0
  have hxW := Lib.hid bx.lt
  have x0 := bx.cell 0
  have x1 := bx.cell 1
  have x2 := bx.cell 2
  have x3 := bx.cell 3
  have x4 := bx.cell 4
  simp at x0 x1 x2 x3 x4
  have HS := Lib.hid (setv_twice g room B ts t v W hvW (by omega) hh (by have := hB0.size; omega))
  have HB0 := Lib.hid hB0
  have HR := Lib.hid hrW
  have HX := Lib.hid bx
  have HBS := Lib.hid hbs
  have HO := Lib.hid honce
  have HVO := Lib.hid hvo
  clear hB0 hrW bx hv hvW hrd honce hbs hvo
  go_enter Try.func23, Try.ntmps23
  go_upto_region 1 with fail
  rw [hW.out]
  go_wp2_with fail
  refine HS.out.mono ?_
  rintro e w1 ⟨rfl, v', hv1, hon, hd⟩
  have hr1 := HR.out.only hon HBS.out
  have bx1 := hon.blk HX.out (by omega) (fun e => by have := (HVO.out _ e).2; omega)
  have y0 := bx1.cell 0
  have y1 := bx1.cell 1
  have y2 := bx1.cell 2
  have y3 := bx1.cell 3
  have y4 := bx1.cell 4
  simp at y0 y1 y2 y3 y4
  have HH := Lib.hid (refHas_any A n c (sortT ts) t w1 hr1 (by omega))
  rw [hasT_sort, hh] at HH
  have HF := Lib.hid (hon.frame2 HB0.out hg hB fun k e => (HVO.out k e).1)
  have HV1 := Lib.hid hv1
  have HBN := Lib.hid (HBS.out.next HR.out hd)
  have HR1 := Lib.hid hr1
  have hs1 := bx1.lt
  have HX1 := Lib.hid bx1
  clear hon hv1 hr1 bx1 hd x0 x1 x2 x3 x4
  go_wp2_with fail
  refine HH.out.mono ?_
  rintro e w2 ⟨rfl, hb2⟩
  have HV2 := Lib.hid (HV1.out.past hb2)
  have HR2 := Lib.hid (HR1.out.past hb2)
  have HF2 := Lib.hid (Below.past HF.out hb2 (by omega))
  clear hb2
  go_wp2_with fail
  refine bodyPost_ret (v := .tuple #[.slice (A) (n) (c), .bool true]) (by simp [results, Try.results23, go_sem]) rfl ⟨A, n, c, ts, rfl, ⟨⟨v', HV2.out, HBN.out⟩, HR2.out, hcap, HO.out⟩, by omega, HF2.out⟩

set_option maxHeartbeats 2000000 in
set_option maxRecDepth 100000 in
theorem does_full (B g : Nat) (room rm : Int) (A : Option Addr) (n c : Nat) (ts : List Tim) (t : Tim) (w : World) (hq : WQ w B g room A n c ts) (hn : n ≤ 100) (hg : B ≤ g) (hB : B ≤ w.heap.size) (hh : hasT ts t = false) (hr : room ≤ n) (hr2 : rm ≤ n) :
    Calls Try.prog 23 #[.pointer (some ⟨g, 0, none⟩), .slice A n c, .int .i64 rm, .agg #[.int .i64 0, .int .i64 t.due, .int .i64 t.kind, .int .i64 t.mem, .int .i64 t.lev]] w (DoesPost B g room w n) := by
  have hlen := hq.len
  obtain ⟨⟨v, hv, hbs⟩, hrd, hcap, honce⟩ := hq
  have hgw := hv.wh.lt
  have hvo := hv.own_le
  have hB0 := (Below.refl w.heap.size w).alloc (Nat.le_refl _) (.cells #[.int .i64 0, .int .i64 t.due, .int .i64 t.kind, .int .i64 t.mem, .int .i64 t.lev] 43)
  have bx := Blk.new w 43 #[.int .i64 0, .int .i64 t.due, .int .i64 t.kind, .int .i64 t.mem, .int .i64 t.lev] w.heap.size rfl
  obtain ⟨W, hW⟩ : ∃ W, Hid (w.alloc (.cells #[.int .i64 0, .int .i64 t.due, .int .i64 t.kind, .int .i64 t.mem, .int .i64 t.lev] 43) = W) := ⟨_, Lib.hid rfl⟩
  rw [hW.out] at hB0 bx
  have hvW := hv.past hB0
  have hrW := hrd.past hB0
  have hxW := Lib.hid bx.lt
  have x0 := bx.cell 0
  have x1 := bx.cell 1
  have x2 := bx.cell 2
  have x3 := bx.cell 3
  have x4 := bx.cell 4
  simp at x0 x1 x2 x3 x4
  have HS := Lib.hid (setv_full g room B ts t v W hvW (by omega) hh (by omega) (by have := hB0.size; omega))
  have HB0 := Lib.hid hB0
  have HR := Lib.hid hrW
  have HX := Lib.hid bx
  have HBS := Lib.hid hbs
  have HO := Lib.hid honce
  have HVO := Lib.hid hvo
  clear hB0 hrW bx hv hvW hrd honce hbs hvo
  go_enter Try.func23, Try.ntmps23
  go_upto_region 1 with fail
  rw [hW.out]
  go_wp2_with fail
  refine HS.out.mono ?_
  rintro e w1 ⟨rfl, v', hv1, hon, hd⟩
  have hr1 := HR.out.only hon HBS.out
  have bx1 := hon.blk HX.out (by omega) (fun e => by have := (HVO.out _ e).2; omega)
  have y0 := bx1.cell 0
  have y1 := bx1.cell 1
  have y2 := bx1.cell 2
  have y3 := bx1.cell 3
  have y4 := bx1.cell 4
  simp at y0 y1 y2 y3 y4
  have HH := Lib.hid (refHas_any A n c (sortT ts) t w1 hr1 (by omega))
  rw [hasT_sort, hh] at HH
  have HF := Lib.hid (hon.frame2 HB0.out hg hB fun k e => (HVO.out k e).1)
  have HV1 := Lib.hid hv1
  have HBN := Lib.hid (HBS.out.next HR.out hd)
  have HR1 := Lib.hid hr1
  have hs1 := bx1.lt
  have HX1 := Lib.hid bx1
  clear hon hv1 hr1 bx1 hd x0 x1 x2 x3 x4
  go_wp2_with fail
  refine HH.out.mono ?_
  rintro e w2 ⟨rfl, hb2⟩
  have HV2 := Lib.hid (HV1.out.past hb2)
  have HR2 := Lib.hid (HR1.out.past hb2)
  have HF2 := Lib.hid (Below.past HF.out hb2 (by omega))
  clear hb2
  go_wp2_with fail
  refine bodyPost_ret (v := .tuple #[.slice (A) (n) (c), .bool true]) (by simp [results, Try.results23, go_sem]) rfl ⟨A, n, c, ts, rfl, ⟨⟨v', HV2.out, HBN.out⟩, HR2.out, hcap, HO.out⟩, by omega, HF2.out⟩

set_option maxHeartbeats 2000000 in
set_option maxRecDepth 100000 in
theorem does_new (B g : Nat) (room rm : Int) (A : Option Addr) (n c : Nat) (ts : List Tim) (t : Tim) (w : World) (hq : WQ w B g room A n c ts) (hn : n ≤ 100) (hg : B ≤ g) (hB : B ≤ w.heap.size) (hh : hasT ts t = false) (hr : ¬ room ≤ n) (hr2 : ¬ rm ≤ n) :
    Calls Try.prog 23 #[.pointer (some ⟨g, 0, none⟩), .slice A n c, .int .i64 rm, .agg #[.int .i64 0, .int .i64 t.due, .int .i64 t.kind, .int .i64 t.mem, .int .i64 t.lev]] w (DoesPost B g room w n) := by
  have hlen := hq.len
  obtain ⟨⟨v, hv, hbs⟩, hrd, hcap, honce⟩ := hq
  have hgw := hv.wh.lt
  have hvo := hv.own_le
  have hB0 := (Below.refl w.heap.size w).alloc (Nat.le_refl _) (.cells #[.int .i64 0, .int .i64 t.due, .int .i64 t.kind, .int .i64 t.mem, .int .i64 t.lev] 43)
  have bx := Blk.new w 43 #[.int .i64 0, .int .i64 t.due, .int .i64 t.kind, .int .i64 t.mem, .int .i64 t.lev] w.heap.size rfl
  obtain ⟨W, hW⟩ : ∃ W, Hid (w.alloc (.cells #[.int .i64 0, .int .i64 t.due, .int .i64 t.kind, .int .i64 t.mem, .int .i64 t.lev] 43) = W) := ⟨_, Lib.hid rfl⟩
  rw [hW.out] at hB0 bx
  have hvW := hv.past hB0
  have hrW := hrd.past hB0
  have hxW := Lib.hid bx.lt
  have x0 := bx.cell 0
  have x1 := bx.cell 1
  have x2 := bx.cell 2
  have x3 := bx.cell 3
  have x4 := bx.cell 4
  simp at x0 x1 x2 x3 x4
  have HS := Lib.hid (setv_new g room B ts t v W hvW (by omega) hh (by omega) (by have := hB0.size; omega))
  have HB0 := Lib.hid hB0
  have HR := Lib.hid hrW
  have HX := Lib.hid bx
  have HBS := Lib.hid hbs
  have HO := Lib.hid honce
  have HVO := Lib.hid hvo
  clear hB0 hrW bx hv hvW hrd honce hbs hvo
  go_enter Try.func23, Try.ntmps23
  go_upto_region 1 with fail
  rw [hW.out]
  go_wp2_with fail
  refine HS.out.mono ?_
  rintro e w1 ⟨rfl, v', hv1, hon, hd⟩
  have hr1 := HR.out.only hon HBS.out
  have bx1 := hon.blk HX.out (by omega) (fun e => by have := (HVO.out _ e).2; omega)
  have y0 := bx1.cell 0
  have y1 := bx1.cell 1
  have y2 := bx1.cell 2
  have y3 := bx1.cell 3
  have y4 := bx1.cell 4
  simp at y0 y1 y2 y3 y4
  have HH := Lib.hid (refHas_any A n c (sortT ts) t w1 hr1 (by omega))
  rw [hasT_sort, hh] at HH
  have HF := Lib.hid (hon.frame2 HB0.out hg hB fun k e => (HVO.out k e).1)
  have HV1 := Lib.hid hv1
  have HBN := Lib.hid (HBS.out.next HR.out hd)
  have HR1 := Lib.hid hr1
  have hs1 := bx1.lt
  have HX1 := Lib.hid bx1
  clear hon hv1 hr1 bx1 hd x0 x1 x2 x3 x4
  go_wp2_with fail
  refine HH.out.mono ?_
  rintro e w2 ⟨rfl, hb2⟩
  have HV2 := Lib.hid (HV1.out.past hb2)
  have HR2 := Lib.hid (HR1.out.past hb2)
  have HF2 := Lib.hid (Below.past HF.out hb2 (by omega))
  have bx2 := HX1.out.past hb2
  have z0 := bx2.cell 0
  have z1 := bx2.cell 1
  have z2 := bx2.cell 2
  have z3 := bx2.cell 3
  have z4 := bx2.cell 4
  simp at z0 z1 z2 z3 z4
  have HP := Lib.hid (refPut_any A n c (sortT ts) t w2 HR2.out (by omega))
  have hs2 := bx2.lt
  clear y0 y1 y2 y3 y4 bx2
  clear hb2
  go_wp2_with fail
  refine HP.out.mono ?_
  rintro e w3 ⟨v3, rfl, hown, hb3⟩
  obtain ⟨A3, c3, rfl⟩ := own_form hown
  have hcp := own_cap hown
  have HR3 := Lib.hid (Rd.of_own hown)
  have HBE := Lib.hid (Beside.own HV2.out hown (n + 1))
  have HV3 := Lib.hid (HV2.out.past hb3)
  have HF3 := Lib.hid (Below.past HF2.out hb3 (by omega))
  clear hown hb3
  go_wp2_with fail
  refine bodyPost_ret (v := .tuple #[.slice (A3) (n + 1) (c3), .bool true]) (by simp [results, Try.results23, go_sem]) rfl ⟨A3, n + 1, c3, ts ++ [t], rfl, ⟨⟨v', HV3.out, HBE.out⟩, by rw [sortT_snoc]; exact HR3.out, hcp, once_snoc HO.out hh⟩, by omega, HF3.out⟩

set_option maxHeartbeats 2000000 in
set_option maxRecDepth 100000 in
theorem does_cnone (B g : Nat) (room rm : Int) (A : Option Addr) (n c : Nat) (ts : List Tim) (t : Tim) (w : World) (hq : WQ w B g room A n c ts) (hn : n ≤ 100) (hg : B ≤ g) (hB : B ≤ w.heap.size) (hh : hasT ts t = false) :
    Calls Try.prog 23 #[.pointer (some ⟨g, 0, none⟩), .slice A n c, .int .i64 rm, .agg #[.int .i64 1, .int .i64 t.due, .int .i64 t.kind, .int .i64 t.mem, .int .i64 t.lev]] w (DoesPost B g room w n) := by
  have hlen := hq.len
  obtain ⟨⟨v, hv, hbs⟩, hrd, hcap, honce⟩ := hq
  have hgw := hv.wh.lt
  have hvo := hv.own_le
  have hB0 := (Below.refl w.heap.size w).alloc (Nat.le_refl _) (.cells #[.int .i64 1, .int .i64 t.due, .int .i64 t.kind, .int .i64 t.mem, .int .i64 t.lev] 43)
  have bx := Blk.new w 43 #[.int .i64 1, .int .i64 t.due, .int .i64 t.kind, .int .i64 t.mem, .int .i64 t.lev] w.heap.size rfl
  obtain ⟨W, hW⟩ : ∃ W, Hid (w.alloc (.cells #[.int .i64 1, .int .i64 t.due, .int .i64 t.kind, .int .i64 t.mem, .int .i64 t.lev] 43) = W) := ⟨_, Lib.hid rfl⟩
  rw [hW.out] at hB0 bx
  have hvW := hv.past hB0
  have hrW := hrd.past hB0
  have hxW := Lib.hid bx.lt
  have x0 := bx.cell 0
  have x1 := bx.cell 1
  have x2 := bx.cell 2
  have x3 := bx.cell 3
  have x4 := bx.cell 4
  simp at x0 x1 x2 x3 x4
  have HS := Lib.hid (cancelv_any g room B ts t W hvW.wh (by omega))
  rw [sort_has_no hh, show cancC ts t = 8 from by rw [cancC, if_pos ((cancel_law ts t).2 hh)]] at HS
  have HSZ := Lib.hid hB0.size
  have HB0 := Lib.hid hB0
  have HR := Lib.hid hrW
  have HX := Lib.hid bx
  have HBS := Lib.hid hbs
  have HO := Lib.hid honce
  have HVO := Lib.hid hvo
  clear hB0 hrW bx hv hvW hrd honce hbs hvo
  go_enter Try.func23, Try.ntmps23
  go_upto_region 1 with fail
  rw [hW.out]
  go_wp2_with fail
  refine HS.out.mono ?_
  rintro e w1 ⟨rfl, v', hv1, hon⟩
  have hr1 := HR.out.only hon HBS.out.nilrow
  have bx1 := hon.blk HX.out (by omega) (by simp [Value.ownBlock])
  have y0 := bx1.cell 0
  have y1 := bx1.cell 1
  have y2 := bx1.cell 2
  have y3 := bx1.cell 3
  have y4 := bx1.cell 4
  simp at y0 y1 y2 y3 y4
  have HH := Lib.hid (refHas_any A n c (sortT ts) t w1 hr1 (by omega))
  rw [hasT_sort, hh] at HH
  have HF := Lib.hid (hon.frame2 HB0.out hg hB (by simp [Value.ownBlock]))
  have HV1 := Lib.hid (hv1.mono (show B ≤ _ from by have := HSZ.out; omega))
  have HBN := Lib.hid (HBS.out.parted HR.out hv1)
  have HR1 := Lib.hid hr1
  have hs1 := bx1.lt
  have HX1 := Lib.hid bx1
  clear hon hv1 hr1 bx1 x0 x1 x2 x3 x4
  go_wp2_with fail
  refine HH.out.mono ?_
  rintro e w2 ⟨rfl, hb2⟩
  have HV2 := Lib.hid (HV1.out.past hb2)
  have HR2 := Lib.hid (HR1.out.past hb2)
  have HF2 := Lib.hid (Below.past HF.out hb2 (by omega))
  clear hb2
  go_wp2_with fail
  refine bodyPost_ret (v := .tuple #[.slice (A) (n) (c), .bool true]) (by simp [results, Try.results23, go_sem]) rfl ⟨A, n, c, ts, rfl, ⟨⟨v', HV2.out, HBN.out⟩, HR2.out, hcap, HO.out⟩, by omega, HF2.out⟩

set_option maxHeartbeats 2000000 in
set_option maxRecDepth 100000 in
theorem does_cyes (B g : Nat) (room rm : Int) (A : Option Addr) (n c : Nat) (ts : List Tim) (t : Tim) (w : World) (hq : WQ w B g room A n c ts) (hn : n ≤ 100) (hg : B ≤ g) (hB : B ≤ w.heap.size) (hh : hasT ts t = true) :
    Calls Try.prog 23 #[.pointer (some ⟨g, 0, none⟩), .slice A n c, .int .i64 rm, .agg #[.int .i64 1, .int .i64 t.due, .int .i64 t.kind, .int .i64 t.mem, .int .i64 t.lev]] w (DoesPost B g room w n) := by
  have hlen := hq.len
  obtain ⟨⟨v, hv, hbs⟩, hrd, hcap, honce⟩ := hq
  have hgw := hv.wh.lt
  have hvo := hv.own_le
  have hB0 := (Below.refl w.heap.size w).alloc (Nat.le_refl _) (.cells #[.int .i64 1, .int .i64 t.due, .int .i64 t.kind, .int .i64 t.mem, .int .i64 t.lev] 43)
  have bx := Blk.new w 43 #[.int .i64 1, .int .i64 t.due, .int .i64 t.kind, .int .i64 t.mem, .int .i64 t.lev] w.heap.size rfl
  obtain ⟨W, hW⟩ : ∃ W, Hid (w.alloc (.cells #[.int .i64 1, .int .i64 t.due, .int .i64 t.kind, .int .i64 t.mem, .int .i64 t.lev] 43) = W) := ⟨_, Lib.hid rfl⟩
  rw [hW.out] at hB0 bx
  have hvW := hv.past hB0
  have hrW := hrd.past hB0
  have hxW := Lib.hid bx.lt
  have x0 := bx.cell 0
  have x1 := bx.cell 1
  have x2 := bx.cell 2
  have x3 := bx.cell 3
  have x4 := bx.cell 4
  simp at x0 x1 x2 x3 x4
  have HS := Lib.hid (cancelv_any g room B ts t W hvW.wh (by omega))
  rw [show cancC ts t = 0 from by rw [cancC, if_neg (fun h => by rw [(cancel_law ts t).1 h] at hh; cases hh)]] at HS
  have HSZ := Lib.hid hB0.size
  have HB0 := Lib.hid hB0
  have HR := Lib.hid hrW
  have HX := Lib.hid bx
  have HBS := Lib.hid hbs
  have HO := Lib.hid honce
  have HVO := Lib.hid hvo
  clear hB0 hrW bx hv hvW hrd honce hbs hvo
  go_enter Try.func23, Try.ntmps23
  go_upto_region 1 with fail
  rw [hW.out]
  go_wp2_with fail
  refine HS.out.mono ?_
  rintro e w1 ⟨rfl, v', hv1, hon⟩
  have hr1 := HR.out.only hon HBS.out.nilrow
  have bx1 := hon.blk HX.out (by omega) (by simp [Value.ownBlock])
  have y0 := bx1.cell 0
  have y1 := bx1.cell 1
  have y2 := bx1.cell 2
  have y3 := bx1.cell 3
  have y4 := bx1.cell 4
  simp at y0 y1 y2 y3 y4
  have HH := Lib.hid (refHas_any A n c (sortT ts) t w1 hr1 (by omega))
  rw [hasT_sort, hh] at HH
  have HF := Lib.hid (hon.frame2 HB0.out hg hB (by simp [Value.ownBlock]))
  have HV1 := Lib.hid (hv1.mono (show B ≤ _ from by have := HSZ.out; omega))
  have HBN := Lib.hid (HBS.out.parted HR.out hv1)
  have HR1 := Lib.hid hr1
  have hs1 := bx1.lt
  have HX1 := Lib.hid bx1
  clear hon hv1 hr1 bx1 x0 x1 x2 x3 x4
  go_wp2_with fail
  refine HH.out.mono ?_
  rintro e w2 ⟨rfl, hb2⟩
  have HV2 := Lib.hid (HV1.out.past hb2)
  have HR2 := Lib.hid (HR1.out.past hb2)
  have HF2 := Lib.hid (Below.past HF.out hb2 (by omega))
  have bx2 := HX1.out.past hb2
  have z0 := bx2.cell 0
  have z1 := bx2.cell 1
  have z2 := bx2.cell 2
  have z3 := bx2.cell 3
  have z4 := bx2.cell 4
  simp at z0 z1 z2 z3 z4
  have HP := Lib.hid (refWithout_any A n c (sortT ts) t w2 HR2.out (by omega))
  have HM := Lib.hid (List.length_filter_le (fun x => !eqT x t) (sortT ts))
  rw [sortT_len, hlen] at HM
  obtain ⟨m, hm⟩ : ∃ m, Hid (((sortT ts).filter fun x => !eqT x t).length = m) := ⟨_, Lib.hid rfl⟩
  rw [hm.out] at HM HP
  have hs2 := bx2.lt
  clear y0 y1 y2 y3 y4 bx2
  clear hb2
  go_wp2_with fail
  refine HP.out.mono ?_
  rintro e w3 ⟨v3, rfl, hown, hb3⟩
  obtain ⟨A3, c3, rfl⟩ := own_form hown
  have hcp := own_cap hown
  have HR3 := Lib.hid (Rd.of_own hown)
  have HBE := Lib.hid (Beside.own HV2.out hown m)
  have HV3 := Lib.hid (HV2.out.past hb3)
  have HF3 := Lib.hid (Below.past HF2.out hb3 (by omega))
  clear hown hb3
  go_wp2_with fail
  refine bodyPost_ret (v := .tuple #[.slice (A3) (m) (c3), .bool true]) (by simp [results, Try.results23, go_sem]) rfl ⟨A3, m, c3, (ts.filter fun f => !eqT f t), rfl, ⟨⟨v', HV3.out, HBE.out⟩, by rw [sortT_filter]; exact HR3.out, hcp, once_filter HO.out _⟩, by have := HM.out; omega, HF3.out⟩
end Go.Proofs.Ytndhhnfhookeaaa
