import Derived.Test.YtelbolhckhdioaaRgE
import Derived.Test.YtelbolhckhdioaaConfH
namespace Go.Proofs.Ytelbolhckhdioaa
open Go.RowKit

section
variable {g gt gu base : Nat} {B1 : Option Addr} {n1 d1 : Nat} {B2 : Option Addr} {n2 d2 : Nat} {B3 : Option Addr} {n3 d3 : Nat} {cf : Conf} {vt vu vt' vu' : Value} {ac : Int} {S S' : List TRow} {U U' : List URow}
/-- A register over writes that do not touch it. -/
theorem RgsV.onlyS {w w' : World} {bad : Nat → Prop} (hx : RgsV w g gt gu base B1 n1 d1 B2 n2 d2 B3 n3 d3 cf vt vu ac S U) (ho : OnlyS bad w w') (h1 : ¬ bad g) (h2 : ¬ bad gt) (h3 : ¬ bad gu) (h4 : ∀ k, vt.ownBlock = some k → ¬ bad k) (h5 : ∀ k, vu.ownBlock = some k → ¬ bad k) (h6 : ∀ k, (Value.slice B1 n1 d1).ownBlock = some k → ¬ bad k) (h7 : ∀ k, (Value.slice B2 n2 d2).ownBlock = some k → ¬ bad k) (h8 : ∀ k, (Value.slice B3 n3 d3).ownBlock = some k → ¬ bad k) : RgsV w' g gt gu base B1 n1 d1 B2 n2 d2 B3 n3 d3 cf vt vu ac S U :=
  ⟨ho.blk hx.blk h1, ⟨hx.tab.form, ho.blk hx.tab.blk h2, ho.own hx.tab.row h4, hx.tab.ris, hx.tab.len, hx.tab.rm⟩, ⟨hx.use.form, ho.blk hx.use.blk h3, ho.own hx.use.row h5, hx.use.ris, hx.use.len, hx.use.rm⟩, hx.cfo.onlyS ho h6 h7 h8, hx.hg, hx.ht, hx.hu⟩
theorem RgsV.base_mono {w : World} {base' : Nat} (hx : RgsV w g gt gu base B1 n1 d1 B2 n2 d2 B3 n3 d3 cf vt vu ac S U) (hb : base' ≤ base) : RgsV w g gt gu base' B1 n1 d1 B2 n2 d2 B3 n3 d3 cf vt vu ac S U :=
  ⟨hx.blk, ⟨hx.tab.form, hx.tab.blk, own_monoZ hx.tab.row hb, hx.tab.ris, hx.tab.len, hx.tab.rm⟩, ⟨hx.use.form, hx.use.blk, own_monoZ hx.use.row hb, hx.use.ris, hx.use.len, hx.use.rm⟩, ⟨own_monoZ hx.cfo.m hb, own_monoZ hx.cfo.s hb, own_monoZ hx.cfo.c hb, hx.cfo.hm, hx.cfo.hs, hx.cfo.hc⟩, Nat.le_trans hb hx.hg, Nat.le_trans hb hx.ht, Nat.le_trans hb hx.hu⟩
theorem RgsV.frame {w w' : World} (hx : RgsV w g gt gu base B1 n1 d1 B2 n2 d2 B3 n3 d3 cf vt vu ac S U) (ho : OnlyS (rbad g gt gu vt vu) w w') (hb : base ≤ w.heap.size) : Below base w w' :=
  ho.frame hb fun k _ hk => by
    rcases hk with e | e | e | e | e
    · subst e; exact hx.hg
    · subst e; exact hx.ht
    · exact (hx.tab.row.lt k e).1
    · subst e; exact hx.hu
    · exact (hx.use.row.lt k e).1
/-- Another block, over a call of the register. -/
theorem RgsV.stay {w w' : World} {zb : Nat} {t : TypeId} {arr : Array Value} (hx : RgsV w g gt gu base B1 n1 d1 B2 n2 d2 B3 n3 d3 cf vt vu ac S U) (hz : Blk w zb t arr) (ho : OnlyS (rbad g gt gu vt vu) w w') (h1 : t ≠ 149) (h2 : t ≠ 194) (h3 : t ≠ 197) (h4 : 156 ≠ t) (h5 : 205 ≠ t) : Blk w' zb t arr :=
  ho.blk hz fun hk => by
    rcases hk with e | e | e | e | e
    · exact blk_neZ hz hx.blk h1 e
    · exact blk_neZ hz hx.tab.blk h2 e
    · exact own_blk_ne hx.tab.row hz h4 e
    · exact blk_neZ hz hx.use.blk h3 e
    · exact own_blk_ne hx.use.row hz h5 e
/-- Over one block of another type. -/
theorem RgsV.blkOnly {w w' : World} {zb : Nat} {t : TypeId} {arr : Array Value} (hx : RgsV w g gt gu base B1 n1 d1 B2 n2 d2 B3 n3 d3 cf vt vu ac S U) (hz : Blk w zb t arr) (ho : OnlyS (fun k => k = zb) w w') (h1 : 149 ≠ t) (h2 : 194 ≠ t) (h3 : 197 ≠ t) (h4 : 156 ≠ t) (h5 : 205 ≠ t) (h6 : 135 ≠ t) (h7 : 137 ≠ t) (h8 : 139 ≠ t) : RgsV w' g gt gu base B1 n1 d1 B2 n2 d2 B3 n3 d3 cf vt vu ac S U :=
  hx.onlyS ho (blk_neZ hx.blk hz h1) (blk_neZ hx.tab.blk hz h2) (blk_neZ hx.use.blk hz h3) (fun _ e e' => own_blk_ne hx.tab.row hz h4 (e' ▸ e)) (fun _ e e' => own_blk_ne hx.use.row hz h5 (e' ▸ e)) (fun _ e e' => own_blk_ne hx.cfo.m hz h6 (e' ▸ e)) (fun _ e e' => own_blk_ne hx.cfo.s hz h7 (e' ▸ e)) (fun _ e e' => own_blk_ne hx.cfo.c hz h8 (e' ▸ e))
theorem OnlyS.set {bad : Nat → Prop} {a w : World} (h : OnlyS bad a w) (p : Addr) (hp : p.block < a.heap.size → bad p.block) (u : Value) : OnlyS bad a (w.setCell p u) :=
  ⟨h.os, h.tape, h.output, by have := h.size; simpa [World.setCell] using this, fun k hk hb => (Below.heap_setCell w p u k (fun e => hb (e ▸ hp (e ▸ hk)))).trans (h.block k hk hb)⟩

/-! ### Cancel -/
def CanPost (g gt gu base : Nat) (B1 : Option Addr) (n1 d1 : Nat) (B2 : Option Addr) (n2 d2 : Nat) (B3 : Option Addr) (n3 d3 : Nat) (cf : Conf) (vt vu : Value) (ac : Int) (S' : List TRow) (U : List URow) (t : Trad) (K : Int) (w : World) (e : Ending) (w' : World) : Prop :=
  e = .returned (.tuple #[.agg #[.int .i64 t.id, .int .i64 t.buyer, .int .i64 t.seller, .int .i64 t.sec, .int .i64 t.qty, .int .i64 t.price], .int .i64 K]) ∧ ∃ vt', RgsV w' g gt gu base B1 n1 d1 B2 n2 d2 B3 n3 d3 cf vt' vu ac S' U ∧ OnlyS (rbad g gt gu vt vu) w w' ∧ NewOwn vt vt' w
set_option maxHeartbeats 8000000 in
set_option maxRecDepth 100000 in
theorem cancelR_yes (id : Int) (r : TRow) (w : World) (hx : RgsV w g gt gu base B1 n1 d1 B2 n2 d2 B3 n3 d3 cf vt vu ac S U) (hi : TTbR.isT S id = true) (hr : S[TTbR.posT S id]? = some r) :
    Calls Try.prog 51 #[.pointer (some ⟨g, 0, none⟩), .int .i64 id] w (CanPost g gt gu base B1 n1 d1 B2 n2 d2 B3 n3 d3 cf vt vu ac (TTbR.outT S (TTbR.posT S id)) U r.v 0 w) := by
  have hB0 := (Below.refl w.heap.size w).alloc (Nat.le_refl _) (.cells #[.int .i64 0, .int .i64 0, .int .i64 0, .int .i64 0, .int .i64 0, .int .i64 0] 87)
  have bz0 := Blk.new w 87 #[.int .i64 0, .int .i64 0, .int .i64 0, .int .i64 0, .int .i64 0, .int .i64 0] w.heap.size rfl
  obtain ⟨W, hW⟩ : ∃ W, Hid (w.alloc (.cells #[.int .i64 0, .int .i64 0, .int .i64 0, .int .i64 0, .int .i64 0, .int .i64 0] 87) = W) := ⟨_, Lib.hid rfl⟩
  obtain ⟨zb, hzb⟩ : ∃ zb, Hid (w.heap.size = zb) := ⟨_, Lib.hid rfl⟩
  rw [hW.out] at hB0 bz0
  rw [hzb.out] at bz0
  have HX := Lib.hid (hx.past hB0)
  have HZ := Lib.hid bz0
  have HB0 := Lib.hid hB0
  have HD := Lib.hid (TTbR.dropT_yes gt base cf.trades vt S id W HX.out.tab hi r hr)
  unfold TTbR.DropTPost at HD
  have p8 := HX.out.blk.cell 8
  simp at p8
  clear hx hi hr hB0 bz0
  go_enter Try.func51, Try.ntmps51
  go_upto_region 1 with fail
  rw [hW.out, hzb.out]
  go_wp2_with fail
  refine HD.out.mono ?_
  rintro e w1 ⟨rfl, vt', ht, ho, hown⟩
  have HX1 := Lib.hid (HX.out.tabNext ht ho)
  have HZ1 := Lib.hid (ho.blkZ HZ.out (blk_neZ HZ.out HX.out.tab.blk (by decide)) (own_blk_ne HX.out.tab.row HZ.out (by decide)))
  have HO1 := Lib.hid ho
  have HOW := Lib.hid hown
  have z0 := (HZ1.out).cell 0
  have z1 := (HZ1.out).cell 1
  have z2 := (HZ1.out).cell 2
  have z3 := (HZ1.out).cell 3
  have z4 := (HZ1.out).cell 4
  have z5 := (HZ1.out).cell 5
  simp at z0 z1 z2 z3 z4 z5
  have f0 := HZ1.out.frozen 0
  have f1 := HZ1.out.frozen 1
  have f2 := HZ1.out.frozen 2
  have f3 := HZ1.out.frozen 3
  have f4 := HZ1.out.frozen 4
  have f5 := HZ1.out.frozen 5
  have hzl := HZ1.out.lt
  clear ht ho hown HD p8
  have hzw : ¬ zb < w.heap.size := by have := hzb.out; omega
  have HFIN : Hid (∀ w', OnlyS (fun k => k = zb) w1 w' → CanPost g gt gu base B1 n1 d1 B2 n2 d2 B3 n3 d3 cf vt vu ac (TTbR.outT S (TTbR.posT S id)) U r.v 0 w (.returned (.tuple #[.agg #[.int .i64 r.v.id, .int .i64 r.v.buyer, .int .i64 r.v.seller, .int .i64 r.v.sec, .int .i64 r.v.qty, .int .i64 r.v.price], .int .i64 0])) w') := Lib.hid (fun w' hz => by
    refine ⟨rfl, vt', HX1.out.blkOnly HZ1.out hz (by decide) (by decide) (by decide) (by decide) (by decide) (by decide) (by decide) (by decide), ?_, fun k e => .inl (HOW.out ▸ e)⟩
    have h1 : OnlyS (rbad g gt gu vt vu) w w1 := OnlyS.after HB0.out (OnlyS.of_onlyG (bad := rbad g gt gu vt vu) HO1.out (.inr (.inl rfl)) (fun k e => .inr (.inr (.inl e))))
    exact h1.trans hz (fun _ _ e => e) (fun k hk e => absurd (e ▸ hk) hzw))
  have HZS : Hid (OnlyS (fun k => k = zb) w1 ((((((w1.setCell ⟨zb, 0, none⟩ (.int .i64 r.v.id)).setCell ⟨zb, 1, none⟩ (.int .i64 r.v.buyer)).setCell ⟨zb, 2, none⟩ (.int .i64 r.v.seller)).setCell ⟨zb, 3, none⟩ (.int .i64 r.v.sec)).setCell ⟨zb, 4, none⟩ (.int .i64 r.v.qty)).setCell ⟨zb, 5, none⟩ (.int .i64 r.v.price))) := Lib.hid ((((((((OnlyS.of_below (bad := fun k => k = zb) (Below.refl _ _)).set ⟨zb, 0, none⟩ (fun _ => rfl) _).set ⟨zb, 1, none⟩ (fun _ => rfl) _).set ⟨zb, 2, none⟩ (fun _ => rfl) _).set ⟨zb, 3, none⟩ (fun _ => rfl) _).set ⟨zb, 4, none⟩ (fun _ => rfl) _).set ⟨zb, 5, none⟩ (fun _ => rfl) _))
  go_wp2_with fail
  refine bodyPost_ret (v := .tuple #[.agg #[.int .i64 r.v.id, .int .i64 r.v.buyer, .int .i64 r.v.seller, .int .i64 r.v.sec, .int .i64 r.v.qty, .int .i64 r.v.price], .int .i64 0]) (by simp [results, Try.results51, go_sem, z0, z1, z2, z3, z4, z5, hzl]) rfl ?_
  exact HFIN.out _ HZS.out
end
end Go.Proofs.Ytelbolhckhdioaa
