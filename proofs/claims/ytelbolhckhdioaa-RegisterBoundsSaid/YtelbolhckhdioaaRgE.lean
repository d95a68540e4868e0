import Derived.Test.YtelbolhckhdioaaRgD
namespace Go.Proofs.Ytelbolhckhdioaa
open Go.RowKit

section
variable {g gt gu base : Nat} {B1 : Option Addr} {n1 d1 : Nat} {B2 : Option Addr} {n2 d2 : Nat} {B3 : Option Addr} {n3 d3 : Nat} {cf : Conf} {vt vu vt' vu' : Value} {ac : Int} {S S' : List TRow} {U U' : List URow}
theorem own_of_only {w w' : World} {g0 : Nat} {v0 : Value} (ho : OnlyG g0 v0 w w') {b0 : Nat} {e : TypeId} {sz n : Nat} {v : Value} {xs : List Value} (h : w.ownsRow b0 e sz v n xs) (h1 : v.ownBlock ≠ some g0) (h2 : ∀ k, v0.ownBlock = some k → v.ownBlock ≠ some k) : w'.ownsRow b0 e sz v n xs := own_onlyZ ho h h1 h2
theorem RgsV.useNext {w w' : World} (hx : RgsV w g gt gu base B1 n1 d1 B2 n2 d2 B3 n3 d3 cf vt vu ac S U) (ht : TTbI.TabV w' gu base (cf.trades * (n3 : Nat)) vu' U') (ho : OnlyG gu vu w w') : RgsV w' g gt gu base B1 n1 d1 B2 n2 d2 B3 n3 d3 cf vt vu' ac S U' := by
  have hb : ∀ {b0 : Nat} {e : TypeId} {sz n : Nat} {v : Value} {xs : List Value}, w.ownsRow b0 e sz v n xs → e ≠ 197 → e ≠ 205 → w'.ownsRow b0 e sz v n xs := fun h h1 h2 => own_onlyZ ho h (own_blk_ne h hx.use.blk h1) (fun k e1 e2 => own_neZ h hx.use.row h2 k e1 e2)
  exact ⟨ho.blkZ hx.blk (blk_neZ hx.blk hx.use.blk (by decide)) (own_blk_ne hx.use.row hx.blk (by decide)), ⟨hx.tab.form, ho.blkZ hx.tab.blk (blk_neZ hx.tab.blk hx.use.blk (by decide)) (own_blk_ne hx.use.row hx.tab.blk (by decide)), hb hx.tab.row (by decide) (by decide), hx.tab.ris, hx.tab.len, hx.tab.rm⟩, ht, ⟨hb hx.cfo.m (by decide) (by decide), hb hx.cfo.s (by decide) (by decide), hb hx.cfo.c (by decide) (by decide), hx.cfo.hm, hx.cfo.hs, hx.cfo.hc⟩, hx.hg, hx.ht, hx.hu⟩
theorem RgsV.tabNext {w w' : World} (hx : RgsV w g gt gu base B1 n1 d1 B2 n2 d2 B3 n3 d3 cf vt vu ac S U) (ht : TTbR.TabV w' gt base cf.trades vt' S') (ho : OnlyG gt vt w w') : RgsV w' g gt gu base B1 n1 d1 B2 n2 d2 B3 n3 d3 cf vt' vu ac S' U := by
  have hb : ∀ {b0 : Nat} {e : TypeId} {sz n : Nat} {v : Value} {xs : List Value}, w.ownsRow b0 e sz v n xs → e ≠ 194 → e ≠ 156 → w'.ownsRow b0 e sz v n xs := fun h h1 h2 => own_onlyZ ho h (own_blk_ne h hx.tab.blk h1) (fun k e1 e2 => own_neZ h hx.tab.row h2 k e1 e2)
  exact ⟨ho.blkZ hx.blk (blk_neZ hx.blk hx.tab.blk (by decide)) (own_blk_ne hx.tab.row hx.blk (by decide)), ht, ⟨hx.use.form, ho.blkZ hx.use.blk (blk_neZ hx.use.blk hx.tab.blk (by decide)) (own_blk_ne hx.tab.row hx.use.blk (by decide)), hb hx.use.row (by decide) (by decide), hx.use.ris, hx.use.len, hx.use.rm⟩, ⟨hb hx.cfo.m (by decide) (by decide), hb hx.cfo.s (by decide) (by decide), hb hx.cfo.c (by decide) (by decide), hx.cfo.hm, hx.cfo.hs, hx.cfo.hc⟩, hx.hg, hx.ht, hx.hu⟩
theorem RgsV.setAc {w : World} (hx : RgsV w g gt gu base B1 n1 d1 B2 n2 d2 B3 n3 d3 cf vt vu ac S U) (a : Int) : RgsV (w.setCell ⟨g, 10, none⟩ (.int .i64 a)) g gt gu base B1 n1 d1 B2 n2 d2 B3 n3 d3 cf vt vu a S U ∧ OnlyG g (.slice none 0 0) w (w.setCell ⟨g, 10, none⟩ (.int .i64 a)) := by
  have hb : ∀ {b0 : Nat} {e : TypeId} {sz n : Nat} {v : Value} {xs : List Value}, w.ownsRow b0 e sz v n xs → e ≠ 149 → (w.setCell ⟨g, 10, none⟩ (.int .i64 a)).ownsRow b0 e sz v n xs := fun h h1 => own_far (p := ⟨g, 10, none⟩) h (own_blk_ne h hx.blk h1) _
  exact ⟨⟨hx.blk.put 10 _, ⟨hx.tab.form, hx.tab.blk.far (p := ⟨g, 10, none⟩) (blk_neZ hx.tab.blk hx.blk (by decide)) _, hb hx.tab.row (by decide), hx.tab.ris, hx.tab.len, hx.tab.rm⟩, ⟨hx.use.form, hx.use.blk.far (p := ⟨g, 10, none⟩) (blk_neZ hx.use.blk hx.blk (by decide)) _, hb hx.use.row (by decide), hx.use.ris, hx.use.len, hx.use.rm⟩, ⟨hb hx.cfo.m (by decide), hb hx.cfo.s (by decide), hb hx.cfo.c (by decide), hx.cfo.hm, hx.cfo.hs, hx.cfo.hc⟩, hx.hg, hx.ht, hx.hu⟩, (OnlyG.of_below (Below.refl _ _)).setCell ⟨g, 10, none⟩ rfl _⟩
set_option maxHeartbeats 16000000 in
set_option maxRecDepth 100000 in
theorem addR_any (t : Trad) (w : World) (hx : RgsV w g gt gu base B1 n1 d1 B2 n2 d2 B3 n3 d3 cf vt vu ac S U) (hi : RegI cf n1 n2 n3 ac S U) (hq : inI t.qty) (hp : inI t.price) (hu9 : U.length ≤ 900) (htr : cf.trades ≤ 64) (hbase : base ≤ w.heap.size) :
    Calls Try.prog 43 #[.pointer (some ⟨g, 0, none⟩), .agg #[.int .i64 t.id, .int .i64 t.buyer, .int .i64 t.seller, .int .i64 t.sec, .int .i64 t.qty, .int .i64 t.price]] w (AddRPost g gt gu base B1 n1 d1 B2 n2 d2 B3 n3 d3 cf vt vu ac S U t w) := by
  have hB0 := (Below.refl w.heap.size w).alloc (Nat.le_refl _) (.cells #[.int .i64 t.id, .int .i64 t.buyer, .int .i64 t.seller, .int .i64 t.sec, .int .i64 t.qty, .int .i64 t.price] 87)
  have bt0 := Blk.new w 87 #[.int .i64 t.id, .int .i64 t.buyer, .int .i64 t.seller, .int .i64 t.sec, .int .i64 t.qty, .int .i64 t.price] w.heap.size rfl
  obtain ⟨W, hW⟩ : ∃ W, Hid (w.alloc (.cells #[.int .i64 t.id, .int .i64 t.buyer, .int .i64 t.seller, .int .i64 t.sec, .int .i64 t.qty, .int .i64 t.price] 87) = W) := ⟨_, Lib.hid rfl⟩
  obtain ⟨xb, hxb⟩ : ∃ xb, Hid (w.heap.size = xb) := ⟨_, Lib.hid rfl⟩
  rw [hW.out] at hB0 bt0
  rw [hxb.out] at bt0
  have HV := Lib.hid hx
  have hdr := Below.drew (Below.refl W.heap.size W)
  have HX := Lib.hid (hx.past hB0)
  have HXd := Lib.hid (HX.out.past hdr)
  have HT := Lib.hid bt0
  have HTd := Lib.hid (bt0.past hdr)
  have HB0 := Lib.hid hB0.drew
  have HI := Lib.hid hi
  have HCK := Lib.hid (checkT_any B1 B2 B3 n1 n2 n3 d1 d2 d3 cf t W.drew HXd.out.cfo.rd hq hp)
  obtain ⟨ck, hck⟩ : ∃ z, Hid (checkT n1 n2 t = z) := ⟨_, Lib.hid rfl⟩
  rw [hck.out] at HCK
  have HKK : Hid (addKS cf n1 n2 n3 ac S U t = if ck = 0 then (if TTbI.isT U t.id = true then 7 else if fullS cf n3 ac U = true then 6 else if muchS S t = true then 2 else 0) else ck) := Lib.hid (by unfold addKS; rw [hck.out])
  have x0 := (HT.out).cell 0
  have x1 := (HT.out).cell 1
  have x2 := (HT.out).cell 2
  have x3 := (HT.out).cell 3
  have x4 := (HT.out).cell 4
  have x5 := (HT.out).cell 5
  simp at x0 x1 x2 x3 x4 x5
  have hbk := HX.out.blk
  have p0 := (hbk).cell 0
  have p1 := (hbk).cell 1
  have p2 := (hbk).cell 2
  have p3 := (hbk).cell 3
  have p4 := (hbk).cell 4
  have p5 := (hbk).cell 5
  have p6 := (hbk).cell 6
  have p7 := (hbk).cell 7
  have p8 := (hbk).cell 8
  have p9 := (hbk).cell 9
  have p10 := (hbk).cell 10
  simp at p0 p1 p2 p3 p4 p5 p6 p7 p8 p9 p10
  clear hx hi hB0 bt0 hdr hbk
  go_enter Try.func43, Try.ntmps43
  go_upto_region 1 with fail
  rw [hW.out, hxb.out]
  go_upto_region 3 with fail
  go_still_tail 5, (by kernel_rfl)
  change wpList _ _ _ _ _ W.drew
  clear x0 x1 x2 x3 x4 x5 p0 p1 p2 p3 p4 p5 p6 p7 p8 p9 p10
  go_wp2_with fail
  refine HCK.out.mono ?_
  rintro e w1 ⟨rfl, hb1⟩
  have HX1 := Lib.hid (HXd.out.past hb1)
  have HT1 := Lib.hid (HTd.out.past hb1)
  have HB1 := Lib.hid (Below.past HB0.out hb1 HB0.out.size)
  clear hb1 HCK
  by_cases hc : ck = 0
  · have HC0 : Hid (checkT n1 n2 t = 0) := Lib.hid (by rw [hck.out]; exact hc)
    have HK1 : Hid (addKS cf n1 n2 n3 ac S U t = if TTbI.isT U t.id = true then 7 else if fullS cf n3 ac U = true then 6 else if muchS S t = true then 2 else 0) := Lib.hid (by rw [HKK.out, if_pos hc])
    subst hc
    have HUS := Lib.hid (usedG_any t.id w1 HX1.out)
    have x0 := (HT1.out).cell 0
    have x1 := (HT1.out).cell 1
    have x2 := (HT1.out).cell 2
    have x3 := (HT1.out).cell 3
    have x4 := (HT1.out).cell 4
    have x5 := (HT1.out).cell 5
    simp at x0 x1 x2 x3 x4 x5
    clear HKK
    cases hu : TTbI.isT U t.id with
    | true =>
      have HK : Hid (addKS cf n1 n2 n3 ac S U t = 7) := Lib.hid (by rw [HK1.out, if_pos hu])
      rw [hu] at HUS
      clear hu
      go_wp2_with fail
      refine HUS.out.mono ?_
      rintro e w2 ⟨rfl, hb2⟩
      have HB2 := Lib.hid (Below.past HB1.out hb2 HB1.out.size)
      clear hb2
      go_wp2_with fail
      go_ret
      exact addR_no HV.out HK.out (by decide) HB2.out
    | false =>
      have HK2 : Hid (addKS cf n1 n2 n3 ac S U t = if fullS cf n3 ac U = true then 6 else if muchS S t = true then 2 else 0) := Lib.hid (by rw [HK1.out, if_neg (by rw [hu]; simp)])
      have HU0 := Lib.hid hu
      rw [hu] at HUS
      clear hu HK1
      go_wp2_with fail
      refine HUS.out.mono ?_
      rintro e w2 ⟨rfl, hb2⟩
      have hdr := Below.drew (Below.refl w2.heap.size w2)
      have HX2 := Lib.hid ((HX1.out.past hb2).past hdr)
      have HT2 := Lib.hid ((HT1.out.past hb2).past hdr)
      have HB2 := Lib.hid ((Below.past HB1.out hb2 HB1.out.size).drew)
      clear hb2 hdr HUS x0 x1 x2 x3 x4 x5
      obtain ⟨pr, hpr⟩ : ∃ pr, Hid (cf.trades * (n3 : Int) = pr) := ⟨_, Lib.hid rfl⟩
      obtain ⟨un, hun⟩ : ∃ un, Hid (U.length = un) := ⟨_, Lib.hid rfl⟩
      have hul := HI.out.ulen
      have hac := HI.out.ac0
      have hsl := HI.out.len
      rw [hpr.out, hun.out] at hul
      have HFL : Hid (fullS cf n3 ac U = (decide (cf.trades ≤ ac) || decide (pr ≤ (un : Int)))) := Lib.hid (by unfold fullS; rw [hpr.out, hun.out])
      have HLF := Lib.hid (TTbI.leftT_any gu base (cf.trades * (n3 : Nat)) vu U w2.drew HX2.out.use)
      rw [hpr.out, hun.out] at HLF
      have hS0 : w2.drew.cell? ⟨g, 6, none⟩ = some (.int .i64 cf.trades) ∧ w2.drew.cell? ⟨g, 9, none⟩ = some (.pointer (some ⟨gu, 0, none⟩)) ∧ w2.drew.cell? ⟨g, 10, none⟩ = some (.int .i64 ac) := ⟨by simpa using HX2.out.blk.cell 6, by simpa using HX2.out.blk.cell 9, by simpa using HX2.out.blk.cell 10⟩
      go_upto_region 8 with fail
      refine wp_region_held_drew (S := fun w' => w'.cell? ⟨g, 6, none⟩ = some (.int .i64 cf.trades) ∧ w'.cell? ⟨g, 9, none⟩ = some (.pointer (some ⟨gu, 0, none⟩)) ∧ w'.cell? ⟨g, 10, none⟩ = some (.int .i64 ac)) (by kernel_rfl) hS0 (fun hHeld => ?_)
      clear hS0
      by_cases ha : cf.trades ≤ ac
      · have hda := decide_eq_true ha
        have HK : Hid (addKS cf n1 n2 n3 ac S U t = 6) := Lib.hid (by rw [HK2.out, if_pos (by rw [HFL.out, hda]; rfl)])
        clear ha HLF
        refine wpAnyH_take (i := 0) (v := ?_) rfl (by kernel_rfl) (by kernel_rfl) (by kernel_rfl) (fun _ _ _ h => h) (Or.inl ⟨by rfl, ?_⟩) (by assumption) ?_
        rotate_left
        · (intro w' hSw; (try dsimp only at hSw); first | (go_simp; done) | (go_simp; with_reducible rfl))
        try simp only [Act.put, List.getElem_toArray, List.getElem_cons_zero, List.getElem_cons_succ, List.setIfInBounds_toArray, List.set_cons_zero, List.set_cons_succ]
        refine wpAnyH_take (i := 1) (v := ?_) rfl (by kernel_rfl) (by kernel_rfl) (by kernel_rfl) (fun _ _ _ h => h) (Or.inl ⟨by rfl, ?_⟩) (by assumption) ?_
        rotate_left
        · (intro w' hSw; (try dsimp only at hSw); first | (go_simp; done) | (go_simp; with_reducible rfl))
        try simp only [Act.put, List.getElem_toArray, List.getElem_cons_zero, List.getElem_cons_succ, List.setIfInBounds_toArray, List.set_cons_zero, List.set_cons_succ]
        refine wpAnyH_take (i := 2) (v := ?_) rfl (by kernel_rfl) (by kernel_rfl) (by kernel_rfl) (fun _ _ _ h => h) (Or.inl ⟨by rfl, ?_⟩) (by assumption) ?_
        rotate_left
        · (intro w' hSw; (try dsimp only at hSw); first | (go_simp; done) | (go_simp; with_reducible rfl))
        try simp only [Act.put, List.getElem_toArray, List.getElem_cons_zero, List.getElem_cons_succ, List.setIfInBounds_toArray, List.set_cons_zero, List.set_cons_succ]
        refine wpAnyH_take (i := 3) (v := ?_) rfl (by kernel_rfl) (by kernel_rfl) (by kernel_rfl) (fun _ _ _ h => h) (Or.inl ⟨by rfl, ?_⟩) (by assumption) ?_
        rotate_left
        · (intro w' hSw; (try dsimp only at hSw); first | (go_simp; done) | (go_simp; with_reducible rfl))
        try simp only [Act.put, List.getElem_toArray, List.getElem_cons_zero, List.getElem_cons_succ, List.setIfInBounds_toArray, List.set_cons_zero, List.set_cons_succ]
        refine wpAnyH_take (i := 4) (v := ?_) rfl (by kernel_rfl) (by kernel_rfl) (by kernel_rfl) (fun _ _ _ h => h) (Or.inl ⟨by rfl, ?_⟩) (by assumption) ?_
        rotate_left
        · (intro w' hSw; (try dsimp only at hSw); first | (go_simp; done) | (go_simp; with_reducible rfl))
        try simp only [Act.put, List.getElem_toArray, List.getElem_cons_zero, List.getElem_cons_succ, List.setIfInBounds_toArray, List.set_cons_zero, List.set_cons_succ]
        refine wpAnyH_take (i := 5) (v := ?_) rfl (by kernel_rfl) (by kernel_rfl) (by kernel_rfl) (fun _ _ _ h => h) (Or.inl ⟨by rfl, ?_⟩) (by assumption) ?_
        rotate_left
        · (intro w' hSw; (try dsimp only at hSw); first | (go_simp; done) | (go_simp; with_reducible rfl))
        try simp only [Act.put, List.getElem_toArray, List.getElem_cons_zero, List.getElem_cons_succ, List.setIfInBounds_toArray, List.set_cons_zero, List.set_cons_succ]
        refine wpAnyH_take (i := 6) (v := ?_) rfl (by kernel_rfl) (by kernel_rfl) (by kernel_rfl) (fun _ _ _ h => h) (Or.inl ⟨by rfl, ?_⟩) (by assumption) ?_
        rotate_left
        · (intro w' hSw; (try dsimp only at hSw); first | (go_simp; done) | (go_simp; with_reducible rfl))
        try simp only [Act.put, List.getElem_toArray, List.getElem_cons_zero, List.getElem_cons_succ, List.setIfInBounds_toArray, List.set_cons_zero, List.set_cons_succ]
        refine wpAnyH_take (i := 7) (v := ?_) rfl (by kernel_rfl) (by kernel_rfl) (by kernel_rfl) (fun _ _ _ h => h) (Or.inl ⟨by rfl, ?_⟩) (by assumption) ?_
        rotate_left
        · (intro w' hSw; (try dsimp only at hSw); first | (go_simp; done) | (go_simp; with_reducible rfl))
        try simp only [Act.put, List.getElem_toArray, List.getElem_cons_zero, List.getElem_cons_succ, List.setIfInBounds_toArray, List.set_cons_zero, List.set_cons_succ]
        refine wpAnyH_take (i := 8) (v := ?_) rfl (by kernel_rfl) (by kernel_rfl) (by kernel_rfl) (fun _ _ _ h => h) (Or.inl ⟨by rfl, ?_⟩) (by assumption) ?_
        rotate_left
        · (intro w' hSw; (try dsimp only at hSw); first | (go_simp; done) | (go_simp; with_reducible rfl))
        try simp only [Act.put, List.getElem_toArray, List.getElem_cons_zero, List.getElem_cons_succ, List.setIfInBounds_toArray, List.set_cons_zero, List.set_cons_succ]
        refine wpAnyH_take (i := 9) (v := ?_) rfl (by kernel_rfl) (by kernel_rfl) (by kernel_rfl) (fun _ _ _ h => h) (Or.inl ⟨by rfl, ?_⟩) (by assumption) ?_
        rotate_left
        · (intro w' hSw; (try dsimp only at hSw); first | (go_simp; done) | (go_simp; with_reducible rfl))
        try simp only [Act.put, List.getElem_toArray, List.getElem_cons_zero, List.getElem_cons_succ, List.setIfInBounds_toArray, List.set_cons_zero, List.set_cons_succ]
        refine wpAnyH_take (i := 10) (v := ?_) rfl (by kernel_rfl) (by kernel_rfl) (by kernel_rfl) (fun _ _ _ h => h) (Or.inl ⟨by rfl, ?_⟩) (by assumption) ?_
        rotate_left
        · (intro w' hSw; (try dsimp only at hSw); first | (go_simp; done) | (go_simp; with_reducible rfl))
        try simp only [Act.put, List.getElem_toArray, List.getElem_cons_zero, List.getElem_cons_succ, List.setIfInBounds_toArray, List.set_cons_zero, List.set_cons_succ]
        refine wpAnyH_take (i := 11) (v := undef) rfl (by kernel_rfl) (by kernel_rfl) (by kernel_rfl) (fun _ _ _ h => h) (Or.inr ⟨by rfl, rfl⟩) (by assumption) ?_
        try simp only [Act.put, List.getElem_toArray, List.getElem_cons_zero, List.getElem_cons_succ, List.setIfInBounds_toArray, List.set_cons_zero, List.set_cons_succ]
        refine wpAnyH_take (i := 12) (v := undef) rfl (by kernel_rfl) (by kernel_rfl) (by kernel_rfl) (fun _ _ _ h => h) (Or.inr ⟨by rfl, rfl⟩) (by assumption) ?_
        try simp only [Act.put, List.getElem_toArray, List.getElem_cons_zero, List.getElem_cons_succ, List.setIfInBounds_toArray, List.set_cons_zero, List.set_cons_succ]
        refine wpAnyH_take (i := 13) (v := undef) rfl (by kernel_rfl) (by kernel_rfl) (by kernel_rfl) (fun _ _ _ h => h) (Or.inr ⟨by rfl, rfl⟩) (by assumption) ?_
        try simp only [Act.put, List.getElem_toArray, List.getElem_cons_zero, List.getElem_cons_succ, List.setIfInBounds_toArray, List.set_cons_zero, List.set_cons_succ]
        refine wpAnyH_take (i := 14) (v := undef) rfl (by kernel_rfl) (by kernel_rfl) (by kernel_rfl) (fun _ _ _ h => h) (Or.inr ⟨by rfl, rfl⟩) (by assumption) ?_
        try simp only [Act.put, List.getElem_toArray, List.getElem_cons_zero, List.getElem_cons_succ, List.setIfInBounds_toArray, List.set_cons_zero, List.set_cons_succ]
        refine wpAnyH_take (i := 15) (v := undef) rfl (by kernel_rfl) (by kernel_rfl) (by kernel_rfl) (fun _ _ _ h => h) (Or.inr ⟨by rfl, rfl⟩) (by assumption) ?_
        try simp only [Act.put, List.getElem_toArray, List.getElem_cons_zero, List.getElem_cons_succ, List.setIfInBounds_toArray, List.set_cons_zero, List.set_cons_succ]
        refine wpAnyH_take (i := 16) (v := undef) rfl (by kernel_rfl) (by kernel_rfl) (by kernel_rfl) (fun _ _ _ h => h) (Or.inr ⟨by rfl, rfl⟩) (by assumption) ?_
        try simp only [Act.put, List.getElem_toArray, List.getElem_cons_zero, List.getElem_cons_succ, List.setIfInBounds_toArray, List.set_cons_zero, List.set_cons_succ]
        refine wpAnyH_take (i := 17) (v := ?_) rfl (by kernel_rfl) (by kernel_rfl) (by kernel_rfl) (fun _ _ _ h => h) (Or.inl ⟨by rfl, ?_⟩) (by assumption) ?_
        rotate_left
        · (intro w' hSw; (try dsimp only at hSw); first | (go_simp; done) | (go_simp; with_reducible rfl))
        try simp only [Act.put, List.getElem_toArray, List.getElem_cons_zero, List.getElem_cons_succ, List.setIfInBounds_toArray, List.set_cons_zero, List.set_cons_succ]
        refine wpAnyH_take (i := 18) (v := ?_) rfl (by kernel_rfl) (by kernel_rfl) (by kernel_rfl) (fun _ _ _ h => h) (Or.inl ⟨by rfl, ?_⟩) (by assumption) ?_
        rotate_left
        · (intro w' hSw; (try dsimp only at hSw); first | (go_simp; done) | (go_simp; with_reducible rfl))
        try simp only [Act.put, List.getElem_toArray, List.getElem_cons_zero, List.getElem_cons_succ, List.setIfInBounds_toArray, List.set_cons_zero, List.set_cons_succ]
        refine wpAnyH_done (by kernel_rfl) ?_ _
        clear hHeld hda
        go_wp2_with fail
        go_ret
        exact addR_no HV.out HK.out (by decide) HB2.out
      · have hda := decide_eq_false ha
        have HNA := Lib.hid ha
        clear ha
        refine wpAnyH_take (i := 0) (v := ?_) rfl (by kernel_rfl) (by kernel_rfl) (by kernel_rfl) (fun _ _ _ h => h) (Or.inl ⟨by rfl, ?_⟩) (by assumption) ?_
        rotate_left
        · (intro w' hSw; (try dsimp only at hSw); first | (go_simp; done) | (go_simp; with_reducible rfl))
        try simp only [Act.put, List.getElem_toArray, List.getElem_cons_zero, List.getElem_cons_succ, List.setIfInBounds_toArray, List.set_cons_zero, List.set_cons_succ]
        refine wpAnyH_take (i := 1) (v := ?_) rfl (by kernel_rfl) (by kernel_rfl) (by kernel_rfl) (fun _ _ _ h => h) (Or.inl ⟨by rfl, ?_⟩) (by assumption) ?_
        rotate_left
        · (intro w' hSw; (try dsimp only at hSw); first | (go_simp; done) | (go_simp; with_reducible rfl))
        try simp only [Act.put, List.getElem_toArray, List.getElem_cons_zero, List.getElem_cons_succ, List.setIfInBounds_toArray, List.set_cons_zero, List.set_cons_succ]
        refine wpAnyH_take (i := 2) (v := ?_) rfl (by kernel_rfl) (by kernel_rfl) (by kernel_rfl) (fun _ _ _ h => h) (Or.inl ⟨by rfl, ?_⟩) (by assumption) ?_
        rotate_left
        · (intro w' hSw; (try dsimp only at hSw); first | (go_simp; done) | (go_simp; with_reducible rfl))
        try simp only [Act.put, List.getElem_toArray, List.getElem_cons_zero, List.getElem_cons_succ, List.setIfInBounds_toArray, List.set_cons_zero, List.set_cons_succ]
        refine wpAnyH_take (i := 3) (v := ?_) rfl (by kernel_rfl) (by kernel_rfl) (by kernel_rfl) (fun _ _ _ h => h) (Or.inl ⟨by rfl, ?_⟩) (by assumption) ?_
        rotate_left
        · (intro w' hSw; (try dsimp only at hSw); first | (go_simp; done) | (go_simp; with_reducible rfl))
        try simp only [Act.put, List.getElem_toArray, List.getElem_cons_zero, List.getElem_cons_succ, List.setIfInBounds_toArray, List.set_cons_zero, List.set_cons_succ]
        refine wpAnyH_take (i := 4) (v := ?_) rfl (by kernel_rfl) (by kernel_rfl) (by kernel_rfl) (fun _ _ _ h => h) (Or.inl ⟨by rfl, ?_⟩) (by assumption) ?_
        rotate_left
        · (intro w' hSw; (try dsimp only at hSw); first | (go_simp; done) | (go_simp; with_reducible rfl))
        try simp only [Act.put, List.getElem_toArray, List.getElem_cons_zero, List.getElem_cons_succ, List.setIfInBounds_toArray, List.set_cons_zero, List.set_cons_succ]
        refine wpAnyH_take (i := 5) (v := ?_) rfl (by kernel_rfl) (by kernel_rfl) (by kernel_rfl) (fun _ _ _ h => h) (Or.inl ⟨by rfl, ?_⟩) (by assumption) ?_
        rotate_left
        · (intro w' hSw; (try dsimp only at hSw); first | (go_simp; done) | (go_simp; with_reducible rfl))
        try simp only [Act.put, List.getElem_toArray, List.getElem_cons_zero, List.getElem_cons_succ, List.setIfInBounds_toArray, List.set_cons_zero, List.set_cons_succ]
        refine wpAnyH_take (i := 6) (v := ?_) rfl (by kernel_rfl) (by kernel_rfl) (by kernel_rfl) (fun _ _ _ h => h) (Or.inl ⟨by rfl, ?_⟩) (by assumption) ?_
        rotate_left
        · (intro w' hSw; (try dsimp only at hSw); first | (go_simp; done) | (go_simp; with_reducible rfl))
        try simp only [Act.put, List.getElem_toArray, List.getElem_cons_zero, List.getElem_cons_succ, List.setIfInBounds_toArray, List.set_cons_zero, List.set_cons_succ]
        refine wpAnyH_take (i := 7) (v := ?_) rfl (by kernel_rfl) (by kernel_rfl) (by kernel_rfl) (fun _ _ _ h => h) (Or.inl ⟨by rfl, ?_⟩) (by assumption) ?_
        rotate_left
        · (intro w' hSw; (try dsimp only at hSw); first | (go_simp; done) | (go_simp; with_reducible rfl))
        try simp only [Act.put, List.getElem_toArray, List.getElem_cons_zero, List.getElem_cons_succ, List.setIfInBounds_toArray, List.set_cons_zero, List.set_cons_succ]
        refine wpAnyH_take (i := 8) (v := ?_) rfl (by kernel_rfl) (by kernel_rfl) (by kernel_rfl) (fun _ _ _ h => h) (Or.inl ⟨by rfl, ?_⟩) (by assumption) ?_
        rotate_left
        · (intro w' hSw; (try dsimp only at hSw); first | (go_simp; done) | (go_simp; with_reducible rfl))
        try simp only [Act.put, List.getElem_toArray, List.getElem_cons_zero, List.getElem_cons_succ, List.setIfInBounds_toArray, List.set_cons_zero, List.set_cons_succ]
        refine wpAnyH_take (i := 9) (v := ?_) rfl (by kernel_rfl) (by kernel_rfl) (by kernel_rfl) (fun _ _ _ h => h) (Or.inl ⟨by rfl, ?_⟩) (by assumption) ?_
        rotate_left
        · (intro w' hSw; (try dsimp only at hSw); first | (go_simp; done) | (go_simp; with_reducible rfl))
        try simp only [Act.put, List.getElem_toArray, List.getElem_cons_zero, List.getElem_cons_succ, List.setIfInBounds_toArray, List.set_cons_zero, List.set_cons_succ]
        refine wpAnyH_take (i := 10) (v := ?_) rfl (by kernel_rfl) (by kernel_rfl) (by kernel_rfl) (fun _ _ _ h => h) (Or.inl ⟨by rfl, ?_⟩) (by assumption) ?_
        rotate_left
        · (intro w' hSw; (try dsimp only at hSw); first | (go_simp; done) | (go_simp; with_reducible rfl))
        try simp only [Act.put, List.getElem_toArray, List.getElem_cons_zero, List.getElem_cons_succ, List.setIfInBounds_toArray, List.set_cons_zero, List.set_cons_succ]
        refine wpAnyH_take (i := 11) (v := ?_) rfl (by kernel_rfl) (by kernel_rfl) (by kernel_rfl) (fun _ _ _ h => h) (Or.inl ⟨by rfl, ?_⟩) (by assumption) ?_
        rotate_left
        · (intro w' hSw; (try dsimp only at hSw); first | (go_simp; done) | (go_simp; with_reducible rfl))
        try simp only [Act.put, List.getElem_toArray, List.getElem_cons_zero, List.getElem_cons_succ, List.setIfInBounds_toArray, List.set_cons_zero, List.set_cons_succ]
        refine wpAnyH_take (i := 12) (v := ?_) rfl (by kernel_rfl) (by kernel_rfl) (by kernel_rfl) (fun _ _ _ h => h) (Or.inl ⟨by rfl, ?_⟩) (by assumption) ?_
        rotate_left
        · (intro w' hSw; (try dsimp only at hSw); first | (go_simp; done) | (go_simp; with_reducible rfl))
        try simp only [Act.put, List.getElem_toArray, List.getElem_cons_zero, List.getElem_cons_succ, List.setIfInBounds_toArray, List.set_cons_zero, List.set_cons_succ]
        refine wpAnyH_take (i := 13) (v := ?_) rfl (by kernel_rfl) (by kernel_rfl) (by kernel_rfl) (fun _ _ _ h => h) (Or.inl ⟨by rfl, ?_⟩) (by assumption) ?_
        rotate_left
        · (intro w' hSw; (try dsimp only at hSw); first | (go_simp; done) | (go_simp; with_reducible rfl))
        try simp only [Act.put, List.getElem_toArray, List.getElem_cons_zero, List.getElem_cons_succ, List.setIfInBounds_toArray, List.set_cons_zero, List.set_cons_succ]
        refine wpAnyH_take (i := 14) (v := ?_) rfl (by kernel_rfl) (by kernel_rfl) (by kernel_rfl) (fun _ _ _ h => h) (Or.inl ⟨by rfl, ?_⟩) (by assumption) ?_
        rotate_left
        · (intro w' hSw; (try dsimp only at hSw); first | (go_simp; done) | (go_simp; with_reducible rfl))
        try simp only [Act.put, List.getElem_toArray, List.getElem_cons_zero, List.getElem_cons_succ, List.setIfInBounds_toArray, List.set_cons_zero, List.set_cons_succ]
        refine wpAnyH_ready (rs := [15]) (by kernel_rfl) (by simp) ?_
        refine AllReadyH.cons rfl (fun K hK => ?_) AllReadyH.nil
        go_simp
        go_at_call 96
        refine HLF.out.mono ?_
        rintro e w3 ⟨rfl, hb3⟩
        have HX3 := Lib.hid (HX2.out.past hb3)
        have HT3 := Lib.hid (HT2.out.past hb3)
        have HB3 := Lib.hid (Below.past HB2.out hb3 HB2.out.size)
        clear hb3 HLF hHeld
        refine hK.out _ _ (⟨by simpa using HX3.out.blk.cell 6, by simpa using HX3.out.blk.cell 9, by simpa using HX3.out.blk.cell 10⟩) (fun hHeld => ?_)
        try simp only [Act.put, List.getElem_toArray, List.getElem_cons_zero, List.getElem_cons_succ, List.setIfInBounds_toArray, List.set_cons_zero, List.set_cons_succ]
        by_cases hf : pr ≤ (un : Int)
        · have hz : (pr - (un : Int) == 0) = true := by simp; omega
          have HK : Hid (addKS cf n1 n2 n3 ac S U t = 6) := Lib.hid (by rw [HK2.out, if_pos (by rw [HFL.out, hda, decide_eq_true hf]; rfl)])
          clear hf
          refine wpAnyH_take (i := 16) (v := ?_) rfl (by kernel_rfl) (by kernel_rfl) (by kernel_rfl) (fun _ _ _ h => h) (Or.inl ⟨by rfl, ?_⟩) (by assumption) ?_
          rotate_left
          · (intro w' hSw; (try dsimp only at hSw); first | (go_simp; done) | (go_simp; with_reducible rfl))
          try simp only [Act.put, List.getElem_toArray, List.getElem_cons_zero, List.getElem_cons_succ, List.setIfInBounds_toArray, List.set_cons_zero, List.set_cons_succ]
          refine wpAnyH_take (i := 17) (v := ?_) rfl (by kernel_rfl) (by kernel_rfl) (by kernel_rfl) (fun _ _ _ h => h) (Or.inl ⟨by rfl, ?_⟩) (by assumption) ?_
          rotate_left
          · (intro w' hSw; (try dsimp only at hSw); first | (go_simp; done) | (go_simp; with_reducible rfl))
          try simp only [Act.put, List.getElem_toArray, List.getElem_cons_zero, List.getElem_cons_succ, List.setIfInBounds_toArray, List.set_cons_zero, List.set_cons_succ]
          refine wpAnyH_take (i := 18) (v := ?_) rfl (by kernel_rfl) (by kernel_rfl) (by kernel_rfl) (fun _ _ _ h => h) (Or.inl ⟨by rfl, ?_⟩) (by assumption) ?_
          rotate_left
          · (intro w' hSw; (try dsimp only at hSw); first | (go_simp; done) | (go_simp; with_reducible rfl))
          try simp only [Act.put, List.getElem_toArray, List.getElem_cons_zero, List.getElem_cons_succ, List.setIfInBounds_toArray, List.set_cons_zero, List.set_cons_succ]
          refine wpAnyH_done (by kernel_rfl) ?_ _
          clear hHeld hda hz
          go_wp2_with fail
          go_ret
          exact addR_no HV.out HK.out (by decide) HB3.out
        · have hz : (pr - (un : Int) == 0) = false := by simp; omega
          have HK3 : Hid (addKS cf n1 n2 n3 ac S U t = if muchS S t = true then 2 else 0) := Lib.hid (by rw [HK2.out, if_neg (by rw [HFL.out, hda, decide_eq_false hf]; simp)])
          have HNF := Lib.hid hf
          clear hf HK2
          refine wpAnyH_take (i := 16) (v := ?_) rfl (by kernel_rfl) (by kernel_rfl) (by kernel_rfl) (fun _ _ _ h => h) (Or.inl ⟨by rfl, ?_⟩) (by assumption) ?_
          rotate_left
          · (intro w' hSw; (try dsimp only at hSw); first | (go_simp; done) | (go_simp; with_reducible rfl))
          try simp only [Act.put, List.getElem_toArray, List.getElem_cons_zero, List.getElem_cons_succ, List.setIfInBounds_toArray, List.set_cons_zero, List.set_cons_succ]
          refine wpAnyH_take (i := 17) (v := ?_) rfl (by kernel_rfl) (by kernel_rfl) (by kernel_rfl) (fun _ _ _ h => h) (Or.inl ⟨by rfl, ?_⟩) (by assumption) ?_
          rotate_left
          · (intro w' hSw; (try dsimp only at hSw); first | (go_simp; done) | (go_simp; with_reducible rfl))
          try simp only [Act.put, List.getElem_toArray, List.getElem_cons_zero, List.getElem_cons_succ, List.setIfInBounds_toArray, List.set_cons_zero, List.set_cons_succ]
          refine wpAnyH_take (i := 18) (v := ?_) rfl (by kernel_rfl) (by kernel_rfl) (by kernel_rfl) (fun _ _ _ h => h) (Or.inl ⟨by rfl, ?_⟩) (by assumption) ?_
          rotate_left
          · (intro w' hSw; (try dsimp only at hSw); first | (go_simp; done) | (go_simp; with_reducible rfl))
          try simp only [Act.put, List.getElem_toArray, List.getElem_cons_zero, List.getElem_cons_succ, List.setIfInBounds_toArray, List.set_cons_zero, List.set_cons_succ]
          refine wpAnyH_done (by kernel_rfl) ?_ _
          clear hHeld hda hz
          have hsb := sum_bds t.sec (fun r hr => (HI.out.ok r hr).1)
          have htop := HI.out.top
          have hckr := checkT_okR HC0.out
          have hqv := qty_le_val HC0.out
          have HRM := Lib.hid (room_any t w3 HX3.out HI.out.trd (trdIn_of HC0.out hq hp) (by omega) (by unfold inI; omega) (by unfold inI; omega))
          clear hsb htop hckr hqv
          have x0 := (HT3.out).cell 0
          have x1 := (HT3.out).cell 1
          have x2 := (HT3.out).cell 2
          have x3 := (HT3.out).cell 3
          have x4 := (HT3.out).cell 4
          have x5 := (HT3.out).cell 5
          simp at x0 x1 x2 x3 x4 x5
          cases hmu : muchS S t with
          | true =>
            have HK : Hid (addKS cf n1 n2 n3 ac S U t = 2) := Lib.hid (by rw [HK3.out, if_pos hmu])
            rw [hmu, if_pos rfl] at HRM
            clear hmu
            go_wp2_with fail
            refine HRM.out.mono ?_
            rintro e w4 ⟨rfl, hb4⟩
            have HB4 := Lib.hid (Below.past HB3.out hb4 HB3.out.size)
            clear hb4
            go_wp2_with fail
            go_ret
            exact addR_no HV.out HK.out (by decide) HB4.out
          | false =>
            have HK : Hid (addKS cf n1 n2 n3 ac S U t = 0) := Lib.hid (by rw [HK3.out, if_neg (by rw [hmu]; simp)])
            rw [hmu, if_neg (by simp)] at HRM
            clear hmu HK3
            go_wp2_with fail
            refine HRM.out.mono ?_
            rintro e w4 ⟨rfl, hb4⟩
            have HX4 := Lib.hid (HX3.out.past hb4)
            have HT4 := Lib.hid (HT3.out.past hb4)
            have HB4 := Lib.hid (Below.past HB3.out hb4 HB3.out.size)
            have HSA := Lib.hid (HX4.out.setAc (ac + 1))
            have hxg : xb ≠ g := blk_neZ HT4.out HX4.out.blk (by decide)
            have hdr5 := Below.drew (Below.refl (w4.setCell ⟨g, 10, none⟩ (.int .i64 (ac + 1))).heap.size (w4.setCell ⟨g, 10, none⟩ (.int .i64 (ac + 1))))
            have HT5 := Lib.hid (HT4.out.far (p := ⟨g, 10, none⟩) hxg (.int .i64 (ac + 1)))
            have p10 := HX4.out.blk.cell 10
            have f10 := HX4.out.blk.frozen 10
            simp at p10
            have hw1 : IntKind.i64.wrap (ac + 1) = ac + 1 := IntWalk.i64_in _ (by omega)
            obtain ⟨W5, hW5⟩ : ∃ W5, Hid (w4.setCell ⟨g, 10, none⟩ (.int .i64 (ac + 1)) = W5) := ⟨_, Lib.hid rfl⟩
            rw [hW5.out] at HSA HT5 hdr5
            have HX5 := Lib.hid (HSA.out.1.past hdr5)
            have HT5d := Lib.hid (HT5.out.past hdr5)
            have hs5 : W5.heap.size = W5.drew.heap.size := rfl
            have hB5 : base ≤ W5.drew.heap.size := Nat.le_trans hbase (Nat.le_trans HB4.out.size (Nat.le_trans HSA.out.2.size hdr5.size))
            have HPU := Lib.hid (TTbI.putT_any gu base (cf.trades * (n3 : Nat)) vu U t.id (ac + 1) W5.drew HX5.out.use hu9 hB5)
            unfold TTbI.PutTPost at HPU
            have hPK : TTbI.putTK (cf.trades * (n3 : Nat)) U t.id = 0 := by
              unfold TTbI.putTK
              rw [if_neg (by rw [HU0.out]; simp), if_neg (by rw [hpr.out, hun.out]; have := HNF.out; omega)]
            have hPS : TTbI.putTS (cf.trades * (n3 : Nat)) U t.id (ac + 1) = TTbI.insT U ⟨t.id, ac + 1⟩ := by
              unfold TTbI.putTS; rw [if_pos hPK]
            rw [hPK, hPS] at HPU
            clear hb4 HRM hxg hPK hPS x0 x1 x2 x3 x4 x5
            go_upto_region 14 with fail
            rw [hW5.out]
            clear p10 f10
            have hbk5 := HSA.out.1.blk
            have p0 := (hbk5).cell 0
            have p1 := (hbk5).cell 1
            have p2 := (hbk5).cell 2
            have p3 := (hbk5).cell 3
            have p4 := (hbk5).cell 4
            have p5 := (hbk5).cell 5
            have p6 := (hbk5).cell 6
            have p7 := (hbk5).cell 7
            have p8 := (hbk5).cell 8
            have p9 := (hbk5).cell 9
            have p10 := (hbk5).cell 10
            simp at p0 p1 p2 p3 p4 p5 p6 p7 p8 p9 p10
            have x0 := (HT5.out).cell 0
            have x1 := (HT5.out).cell 1
            have x2 := (HT5.out).cell 2
            have x3 := (HT5.out).cell 3
            have x4 := (HT5.out).cell 4
            have x5 := (HT5.out).cell 5
            simp at x0 x1 x2 x3 x4 x5
            clear hbk5 hdr5
            go_still_tail 10, (by kernel_rfl)
            change wpList _ _ _ _ _ W5.drew
            clear p0 p1 p2 p3 p4 p5 p6 p7 p8 p9 p10 x0 x1 x2 x3 x4 x5
            go_wp2_with fail
            refine HPU.out.mono ?_
            rintro e w6 ⟨rfl, vu', hut, hou, hun'⟩
            have HX6 := Lib.hid (HX5.out.useNext hut hou)
            have HT6 := Lib.hid (hou.blkZ HT5d.out (blk_neZ HT5d.out HX5.out.use.blk (by decide)) (own_blk_ne HX5.out.use.row HT5d.out (by decide)))
            have HOU := Lib.hid hou
            have HUN := Lib.hid hun'
            have hdr6 := Below.drew (Below.refl w6.heap.size w6)
            have HX6d := Lib.hid (HX6.out.past hdr6)
            have hB6 : base ≤ w6.drew.heap.size := Nat.le_trans hB5 (Nat.le_trans hou.size hdr6.size)
            have HPT := Lib.hid (TTbR.putT_any gt base cf.trades vt S t.id t w6.drew HX6d.out.tab (by omega) hB6)
            unfold TTbR.PutTPost at HPT
            have hPK : TTbR.putTK cf.trades S t.id = 0 := by
              have hns : TTbR.isT S t.id = false := by
                rw [Bool.eq_false_iff]
                intro hh
                obtain ⟨r, hr, hrid⟩ := List.any_eq_true.1 hh
                have h1 := HI.out.used r hr
                have h2 : r.id = t.id := by simpa using hrid
                rw [h2, HU0.out] at h1
                cases h1
              unfold TTbR.putTK
              rw [if_neg (by rw [hns]; simp), if_neg (by have := HNA.out; omega)]
            have hPS : TTbR.putTS cf.trades S t.id t = TTbR.insT S ⟨t.id, t⟩ := by
              unfold TTbR.putTS; rw [if_pos hPK]
            rw [hPK, hPS] at HPT
            have hbk6 := HX6.out.blk
            have p0 := (hbk6).cell 0
            have p1 := (hbk6).cell 1
            have p2 := (hbk6).cell 2
            have p3 := (hbk6).cell 3
            have p4 := (hbk6).cell 4
            have p5 := (hbk6).cell 5
            have p6 := (hbk6).cell 6
            have p7 := (hbk6).cell 7
            have p8 := (hbk6).cell 8
            have p9 := (hbk6).cell 9
            have p10 := (hbk6).cell 10
            simp at p0 p1 p2 p3 p4 p5 p6 p7 p8 p9 p10
            have x0 := (HT6.out).cell 0
            have x1 := (HT6.out).cell 1
            have x2 := (HT6.out).cell 2
            have x3 := (HT6.out).cell 3
            have x4 := (HT6.out).cell 4
            have x5 := (HT6.out).cell 5
            simp at x0 x1 x2 x3 x4 x5
            clear hut hou hun' HPU hPK hPS hbk6
            go_upto_region 15 with fail
            go_still_tail 7, (by kernel_rfl)
            change wpList _ _ _ _ _ w6.drew
            clear p0 p1 p2 p3 p4 p5 p6 p7 p8 p9 p10 x0 x1 x2 x3 x4 x5
            go_wp2_with fail
            refine HPT.out.mono ?_
            rintro e w7 ⟨rfl, vt', htt, hot, htn⟩
            have HFIN : Hid (AddRPost g gt gu base B1 n1 d1 B2 n2 d2 B3 n3 d3 cf vt vu ac S U t w (.returned (.int .i64 0)) w7) := Lib.hid (by
              refine ⟨by rw [HK.out], vt', vu', ?_, ?_, ?_, ?_⟩
              · unfold addA addS addU
                rw [HK.out, if_pos rfl, if_pos rfl, if_pos rfl]
                exact HX6d.out.tabNext htt hot
              · have h1 : OnlyS (rbad g gt gu vt vu) w W5 := (OnlyS.of_below HB4.out).trans (OnlyS.of_onlyG (bad := rbad g gt gu vt vu) HSA.out.2 (.inl rfl) (fun k e => by cases e)) (fun _ _ e => e) (fun _ _ e => e)
                have h2 : OnlyS (rbad g gt gu vt vu) w w6.drew := ((h1.below (Below.drew (Below.refl _ _))).trans (OnlyS.of_onlyG (bad := rbad g gt gu vt vu) HOU.out (.inr (.inr (.inr (.inl rfl)))) (fun k e => .inr (.inr (.inr (.inr e))))) (fun _ _ e => e) (fun _ _ e => e)).below hdr6
                exact h2.trans (OnlyS.of_onlyG (bad := rbad g gt gu vt vu) hot (.inr (.inl rfl)) (fun k e => .inr (.inr (.inl e)))) (fun _ _ e => e) (fun _ _ e => e)
              · intro k ek
                have hsz : w.heap.size ≤ w6.drew.heap.size := Nat.le_trans HB4.out.size (Nat.le_trans HSA.out.2.size HOU.out.size)
                rcases htn with e1 | ⟨j, e1, e2⟩
                · exact .inl (e1 ▸ ek)
                · rw [e1] at ek; cases ek; exact .inr (Nat.le_trans hsz e2)
              · intro k ek
                have hsz : w.heap.size ≤ W5.drew.heap.size := Nat.le_trans HB4.out.size HSA.out.2.size
                rcases HUN.out with e1 | ⟨j, e1, e2⟩
                · exact .inl (e1 ▸ ek)
                · rw [e1] at ek; cases ek; exact .inr (Nat.le_trans hsz e2))
            clear htt hot htn HPT hdr6
            go_wp2_with fail
            go_ret
            exact HFIN.out
  · have HK : Hid (addKS cf n1 n2 n3 ac S U t = ck) := Lib.hid (by rw [HKK.out, if_neg hc])
    have q1 : (ck != 0) = true := by simpa using hc
    have HN := Lib.hid hc
    clear hc HKK
    go_wp2_with fail
    go_ret
    exact addR_no HV.out HK.out HN.out HB1.out
end
end Go.Proofs.Ytelbolhckhdioaa
