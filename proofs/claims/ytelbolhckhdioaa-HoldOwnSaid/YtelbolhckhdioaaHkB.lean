import Derived.Test.YtelbolhckhdioaaHkA
import Derived.Test.YtelbolhckhdioaaOnlyS
import Derived.Test.YtelbolhckhdioaaBokJ
/-! ## from HolE -/
namespace Go.Proofs.Ytelbolhckhdioaa
open Go.RowKit

/-! ### What a call of a vault leaves -/
def vbad (gv gt : Nat) (vt : Value) (k : Nat) : Prop := k = gv ∨ k = gt ∨ vt.ownBlock = some k
def VPost (gv gt base M A : Nat) (p room : Int) (vt : Value) (K : Int) (bl' : List Int) (S' : List HRow) (w : World) (e : Ending) (w' : World) : Prop :=
  e = .returned (.int .i64 K) ∧ ∃ gb' vb' p' vt', VltV w' gv gb' gt base M A vb' bl' p' room vt' S' ∧ OnlyS (vbad gv gt vt) w w' ∧ (vt'.ownBlock = vt.ownBlock ∨ ∃ k, vt'.ownBlock = some k ∧ w.heap.size ≤ k) ∧ (p' = p ∨ p' = p + 1)
section
variable {w w' : World} {gv gb gt base M A : Nat} {vb : Value} {bl : List Int} {p room : Int} {vt vt' : Value} {S S' : List HRow}
theorem VPost.same (hx : VltV w gv gb gt base M A vb bl p room vt S) (hb : Below w.heap.size w w') (K : Int) : VPost gv gt base M A p room vt K bl S w (.returned (.int .i64 K)) w' :=
  ⟨rfl, gb, vb, p, vt, hx.past hb, OnlyS.of_below hb, .inl rfl, .inl rfl⟩
theorem BookV.onlyH {w w' : World} {g' base M A : Nat} {v' : Value} {bl : List Int} {p : Int} {g : Nat} {v : Value} (h : BookV w g' base M A v' bl p) (ho : OnlyG g v w w') (h1 : g' ≠ g) (h2 : v.ownBlock ≠ some g') (h3 : v'.ownBlock ≠ some g) (h4 : ∀ k, v.ownBlock = some k → v'.ownBlock ≠ some k) : BookV w' g' base M A v' bl p :=
  ⟨h.form, ho.blkZ h.blk h1 h2, own_onlyZ ho h.row h3 h4, h.len, h.hM, h.hA⟩
/-- Behind a call of the vault's table. -/
theorem VltV.tab_next (hx : VltV w gv gb gt base M A vb bl p room vt S) (ht : TTbH.TabV w' gt base room vt' S') (ho : OnlyG gt vt w w') : VltV w' gv gb gt base M A vb bl p room vt' S' :=
  ⟨ho.blkZ hx.blk (blk_neZ hx.blk hx.tab.blk (by decide)) (own_blk_ne hx.tab.row hx.blk (by decide)),
   hx.book.onlyH ho (blk_neZ hx.book.blk hx.tab.blk (by decide)) (own_blk_ne hx.tab.row hx.book.blk (by decide)) (own_blk_ne hx.book.row hx.tab.blk (by decide)) (fun k e e' => own_neZ hx.book.row hx.tab.row (by decide) k e e'),
   ht, hx.hv, hx.hb, hx.ht⟩
theorem VPost.tab (hx : VltV w gv gb gt base M A vb bl p room vt S) (ht : TTbH.TabV w' gt base room vt' S') (ho : OnlyG gt vt w w') (hd : vt'.ownBlock = vt.ownBlock ∨ ∃ k, vt'.ownBlock = some k ∧ w.heap.size ≤ k) (K : Int) : VPost gv gt base M A p room vt K bl S' w (.returned (.int .i64 K)) w' :=
  ⟨rfl, gb, vb, p, vt', hx.tab_next ht ho, OnlyS.of_onlyG ho (.inr (.inl rfl)) (fun k e => .inr (.inr e)), hd, .inl rfl⟩
theorem VPost.after {w1 : World} {K : Int} {bl' : List Int} {e : Ending} (hb : Below w.heap.size w w1) (h : VPost gv gt base M A p room vt K bl' S' w1 e w') : VPost gv gt base M A p room vt K bl' S' w e w' := by
  obtain ⟨he, gb', vb', p', vt', h1, h2, h3, h4⟩ := h
  exact ⟨he, gb', vb', p', vt', h1, OnlyS.after hb h2, h3.imp (fun e => e) fun ⟨k, e1, e2⟩ => ⟨k, e1, Nat.le_trans hb.size e2⟩, h4⟩
theorem VPost.before {w2 : World} {K : Int} {bl' : List Int} {e : Ending} (h : VPost gv gt base M A p room vt K bl' S' w e w') (hb : Below w'.heap.size w' w2) : VPost gv gt base M A p room vt K bl' S' w e w2 := by
  obtain ⟨he, gb', vb', p', vt', h1, h2, h3, h4⟩ := h
  exact ⟨he, gb', vb', p', vt', h1.past hb, h2.below hb, h3, h4⟩
end
section
variable {gv gb gt base M A : Nat} {vb : Value} {bl : List Int} {p room : Int} {vt : Value} {S : List HRow}
theorem postV_any (P : Option Addr) (n c : Nat) (l : List Ent) (w : World) (hx : VltV w gv gb gt base M A vb bl p room vt S) (hi : HInv M A bl S) (hbl : ∀ z ∈ bl, inI z) (hr : Rd w w.heap.size 4 P n (l.flatMap Ent.cells)) (hn : n ≤ 1000) (hok : ∀ e ∈ l, EntOk e) (hp : 0 ≤ p ∧ p ≤ 1000000) (hbase : base ≤ w.heap.size) :
    Calls Try.prog 27 #[.pointer (some ⟨gv, 0, none⟩), .slice P n c] w (VPost gv gt base M A p room vt (hpK M A bl S l) (hpB M A bl S l) S w) := by
  refine (postH_any gv gb gt base M A vb bl p room vt S P n c l w hx hi hbl hr hn hok hp hbase).mono ?_
  rintro e w' ⟨he, gb', vb', p', h1, h2, h3⟩
  exact ⟨he, gb', vb', p', vt, h1, OnlyS.of_onlyG h2 (.inl rfl) (fun k e => by cases e), .inl rfl, h3⟩
theorem postV_nil (P : Option Addr) (n c : Nat) (w : World) : Calls Try.prog 27 #[.pointer none, .slice P n c] w fun e w' => e = .returned (.int .i64 8) ∧ w = w' := by
  go_enter Try.func27, Try.ntmps27
  go_wp2_with fail
  go_ret
  exact ⟨rfl, rfl⟩

/-! ### Move -/
def hmK (M A : Nat) (bl : List Int) (S : List HRow) (x y : Acc) (a z : Int) : Int := if z < 0 then 1 else hpK M A bl S (moveE x y a z)
def hmB (M A : Nat) (bl : List Int) (S : List HRow) (x y : Acc) (a z : Int) : List Int := if z < 0 then bl else hpB M A bl S (moveE x y a z)
def hmL (M A : Nat) (bl : List Int) (S : List HRow) (L : List Ent) (x y : Acc) (a z : Int) : List Ent := if z < 0 then L else hpL M A bl S L (moveE x y a z)
set_option maxHeartbeats 4000000 in
set_option maxRecDepth 100000 in
theorem moveV_any (x y : Acc) (a z : Int) (w : World) (hx : VltV w gv gb gt base M A vb bl p room vt S) (hi : HInv M A bl S) (hbl : ∀ z ∈ bl, inI z) (hix : inI x.kind ∧ inI x.member) (hiy : inI y.kind ∧ inI y.member) (hia : inI a) (hiz : inI z) (hp : 0 ≤ p ∧ p ≤ 1000000) (hbase : base ≤ w.heap.size) :
    Calls Try.prog 28 #[.pointer (some ⟨gv, 0, none⟩), .agg #[.int .i64 x.kind, .int .i64 x.member], .agg #[.int .i64 y.kind, .int .i64 y.member], .int .i64 a, .int .i64 z] w (VPost gv gt base M A p room vt (hmK M A bl S x y a z) (hmB M A bl S x y a z) S w) := by
  have bx := Blk.new w 52 #[.int .i64 x.kind, .int .i64 x.member] w.heap.size rfl
  have by_ := Blk.new (w.alloc (.cells #[.int .i64 x.kind, .int .i64 x.member] 52)) 52 #[.int .i64 y.kind, .int .i64 y.member] (w.heap.size + 1) (by simp)
  have hB0 := ((Below.refl w.heap.size w).alloc (Nat.le_refl _) (.cells #[.int .i64 x.kind, .int .i64 x.member] 52)).alloc (by simp) (.cells #[.int .i64 y.kind, .int .i64 y.member] 52)
  have bx := bx.alloc (.cells #[.int .i64 y.kind, .int .i64 y.member] 52)
  obtain ⟨W, hW⟩ : ∃ W, Hid ((w.alloc (.cells #[.int .i64 x.kind, .int .i64 x.member] 52)).alloc (.cells #[.int .i64 y.kind, .int .i64 y.member] 52) = W) := ⟨_, Lib.hid rfl⟩
  rw [hW.out] at bx by_ hB0
  have hWs := hB0.size
  by_cases hz : z < 0
  · have HK : Hid (hmK M A bl S x y a z = 1 ∧ hmB M A bl S x y a z = bl) := Lib.hid ⟨if_pos hz, if_pos hz⟩
    have HX := Lib.hid hx
    have HB0 := Lib.hid hB0
    clear bx by_ hx hi hbl hB0
    go_enter Try.func28, Try.ntmps28
    go_upto_region 1 with fail
    rw [hW.out]
    go_wp2_with fail
    go_ret
    rw [HK.out.1, HK.out.2]
    exact VPost.same HX.out HB0.out 1
  · have hz0 : 0 ≤ z := by omega
    have hB1 := hB0.alloc hB0.size (.cells #[.int .i64 x.kind, .int .i64 x.member, .int .i64 a, .int .i64 (-z), .int .i64 y.kind, .int .i64 y.member, .int .i64 a, .int .i64 z] 110)
    have hrl : Rd _ _ 4 _ 2 ((moveE x y a z).flatMap Ent.cells) := Rd.lit (n := 2) (sz := 4) W #[.int .i64 x.kind, .int .i64 x.member, .int .i64 a, .int .i64 (-z), .int .i64 y.kind, .int .i64 y.member, .int .i64 a, .int .i64 z] 110 W.heap.size rfl rfl
    have HPO := Lib.hid (postV_any (some ⟨W.heap.size, 0, none⟩) 2 2 (moveE x y a z) _ (hx.past hB1) hi hbl hrl (by omega) (moveE_ok hix hiy hia hiz hz0) hp (by have := hB1.size; omega))
    have HK : Hid (hmK M A bl S x y a z = hpK M A bl S (moveE x y a z) ∧ hmB M A bl S x y a z = hpB M A bl S (moveE x y a z)) := Lib.hid ⟨if_neg hz, if_neg hz⟩
    obtain ⟨K, hK⟩ : ∃ K, Hid (hpK M A bl S (moveE x y a z) = K) := ⟨_, Lib.hid rfl⟩
    rw [hK.out] at HPO HK
    have HB1 := Lib.hid hB1
    have hw1 : IntKind.i64.wrap (-z) = -z := IntWalk.i64_in _ (by unfold inI at hiz; omega)
    have s0 := (bx).cell 0
    have s1 := (bx).cell 1
    simp at s0 s1
    have t0 := (by_).cell 0
    have t1 := (by_).cell 1
    simp at t0 t1
    clear bx by_ hB0 hB1 hrl hx hi hbl
    go_enter Try.func28, Try.ntmps28
    go_upto_region 1 with fail
    rw [hW.out]
    go_wp2_with fail
    refine HPO.out.mono ?_
    rintro e w2 ⟨rfl, hv⟩
    have HV := Lib.hid hv
    clear hv
    go_wp2_with fail
    go_ret
    rw [HK.out.1, HK.out.2]
    exact VPost.after HB1.out ⟨rfl, HV.out⟩
theorem moveV_nil (x y : Acc) (a z : Int) (w : World) : Calls Try.prog 28 #[.pointer none, .agg #[.int .i64 x.kind, .int .i64 x.member], .agg #[.int .i64 y.kind, .int .i64 y.member], .int .i64 a, .int .i64 z] w fun e w' => e = .returned (.int .i64 8) ∧ Below w.heap.size w w' := by
  have hB0 := ((Below.refl w.heap.size w).alloc (Nat.le_refl _) (.cells #[.int .i64 x.kind, .int .i64 x.member] 52)).alloc (by simp) (.cells #[.int .i64 y.kind, .int .i64 y.member] 52)
  go_enter Try.func28, Try.ntmps28
  go_wp2_with fail
  go_ret
  exact ⟨rfl, hB0⟩

/-! ### Hold, Release -/
theorem isT_at {S : List HRow} {id : Int} (hr : TTbH.RisT S) (h : TTbH.isT S id = true) : ∃ r, S[TTbH.posT S id]? = some r ∧ r.id = id := TTbH.at_is hr h
set_option maxHeartbeats 4000000 in
theorem holdV_yes (id : Int) (r : HRow) (w : World) (hx : VltV w gv gb gt base M A vb bl p room vt S) (hi : TTbH.isT S id = true) (hr : S[TTbH.posT S id]? = some r) :
    Calls Try.prog 26 #[.pointer (some ⟨gv, 0, none⟩), .int .i64 id] w fun e w' => e = .returned (.tuple #[.agg #[.int .i64 r.v.k, .int .i64 r.v.m, .int .i64 r.v.a, .int .i64 r.v.z], .int .i64 0]) ∧ Below w.heap.size w w' := by
  have hB0 := (Below.refl w.heap.size w).alloc (Nat.le_refl _) (.cells #[.int .i64 0, .int .i64 0, .int .i64 0, .int .i64 0] 60)
  have bz0 := Blk.new w 60 #[.int .i64 0, .int .i64 0, .int .i64 0, .int .i64 0] w.heap.size rfl
  obtain ⟨W, hW⟩ : ∃ W, Hid (w.alloc (.cells #[.int .i64 0, .int .i64 0, .int .i64 0, .int .i64 0] 60) = W) := ⟨_, Lib.hid rfl⟩
  obtain ⟨zb, hzb⟩ : ∃ zb, Hid (w.heap.size = zb) := ⟨_, Lib.hid rfl⟩
  rw [hW.out] at hB0 bz0
  rw [hzb.out] at bz0
  have hx0 := hx.past hB0
  have HG := Lib.hid (TTbH.getT_yes gt base room vt S id W hx0.tab hi r hr)
  have p1 := hx0.blk.cell 1
  simp at p1
  have HB0 := Lib.hid hB0
  have HZ := Lib.hid bz0
  clear hx hx0 hi hr hB0 bz0
  go_enter Try.func26, Try.ntmps26
  go_upto_region 1 with fail
  rw [hW.out, hzb.out]
  go_wp2_with fail
  refine HG.out.mono ?_
  rintro e w1 ⟨rfl, hb⟩
  have HZ1 := Lib.hid (HZ.out.past hb)
  have HB1 := Lib.hid (Below.past HB0.out hb HB0.out.size)
  have z0 := HZ1.out.cell 0
  have z1 := HZ1.out.cell 1
  have z2 := HZ1.out.cell 2
  have z3 := HZ1.out.cell 3
  have f0 := HZ1.out.frozen 0
  have f1 := HZ1.out.frozen 1
  have f2 := HZ1.out.frozen 2
  have f3 := HZ1.out.frozen 3
  simp at z0 z1 z2 z3
  have hzl := HZ1.out.lt
  clear hb HG
  go_wp2_with fail
  refine bodyPost_ret (v := .tuple #[.agg #[.int .i64 r.v.k, .int .i64 r.v.m, .int .i64 r.v.a, .int .i64 r.v.z], .int .i64 0]) (by simp [results, Try.results26, go_sem, z0, z1, z2, z3, hzl]) rfl ⟨rfl, ?_⟩
  have hle : w.heap.size ≤ zb := by have := hzb.out; omega
  exact ((((HB1.out).setCell (p := ⟨zb, 0, none⟩) hle _).setCell (p := ⟨zb, 1, none⟩) hle _).setCell (p := ⟨zb, 2, none⟩) hle _).setCell (p := ⟨zb, 3, none⟩) hle _
set_option maxHeartbeats 4000000 in
theorem holdV_no (id : Int) (w : World) (hx : VltV w gv gb gt base M A vb bl p room vt S) (hi : TTbH.isT S id = false) :
    Calls Try.prog 26 #[.pointer (some ⟨gv, 0, none⟩), .int .i64 id] w fun e w' => e = .returned (.tuple #[.agg #[.int .i64 0, .int .i64 0, .int .i64 0, .int .i64 0], .int .i64 8]) ∧ Below w.heap.size w w' := by
  have hB0 := (Below.refl w.heap.size w).alloc (Nat.le_refl _) (.cells #[.int .i64 0, .int .i64 0, .int .i64 0, .int .i64 0] 60)
  have bz0 := Blk.new w 60 #[.int .i64 0, .int .i64 0, .int .i64 0, .int .i64 0] w.heap.size rfl
  obtain ⟨W, hW⟩ : ∃ W, Hid (w.alloc (.cells #[.int .i64 0, .int .i64 0, .int .i64 0, .int .i64 0] 60) = W) := ⟨_, Lib.hid rfl⟩
  obtain ⟨zb, hzb⟩ : ∃ zb, Hid (w.heap.size = zb) := ⟨_, Lib.hid rfl⟩
  rw [hW.out] at hB0 bz0
  rw [hzb.out] at bz0
  have hx0 := hx.past hB0
  have HG := Lib.hid (TTbH.getT_no gt base room vt S id W hx0.tab hi)
  have p1 := hx0.blk.cell 1
  simp at p1
  have HB0 := Lib.hid hB0
  have HZ := Lib.hid bz0
  clear hx hx0 hi hB0 bz0
  go_enter Try.func26, Try.ntmps26
  go_upto_region 1 with fail
  rw [hW.out, hzb.out]
  go_wp2_with fail
  refine HG.out.mono ?_
  rintro e w1 ⟨rfl, hb⟩
  have HZ1 := Lib.hid (HZ.out.past hb)
  have HB1 := Lib.hid (Below.past HB0.out hb HB0.out.size)
  have z0 := HZ1.out.cell 0
  have z1 := HZ1.out.cell 1
  have z2 := HZ1.out.cell 2
  have z3 := HZ1.out.cell 3
  have f0 := HZ1.out.frozen 0
  have f1 := HZ1.out.frozen 1
  have f2 := HZ1.out.frozen 2
  have f3 := HZ1.out.frozen 3
  simp at z0 z1 z2 z3
  have hzl := HZ1.out.lt
  clear hb HG
  go_wp2_with fail
  refine bodyPost_ret (v := .tuple #[.agg #[.int .i64 0, .int .i64 0, .int .i64 0, .int .i64 0], .int .i64 8]) (by simp [results, Try.results26, go_sem, z0, z1, z2, z3, hzl]) rfl ⟨rfl, ?_⟩
  have hle : w.heap.size ≤ zb := by have := hzb.out; omega
  exact ((((HB1.out).setCell (p := ⟨zb, 0, none⟩) hle _).setCell (p := ⟨zb, 1, none⟩) hle _).setCell (p := ⟨zb, 2, none⟩) hle _).setCell (p := ⟨zb, 3, none⟩) hle _
def relK (S : List HRow) (id : Int) : Int := if TTbH.isT S id = true then 0 else 8
def relS (S : List HRow) (id : Int) : List HRow := if TTbH.isT S id = true then TTbH.outT S (TTbH.posT S id) else S
set_option maxHeartbeats 4000000 in
theorem releaseV_any (id : Int) (w : World) (hx : VltV w gv gb gt base M A vb bl p room vt S) :
    Calls Try.prog 30 #[.pointer (some ⟨gv, 0, none⟩), .int .i64 id] w (VPost gv gt base M A p room vt (relK S id) bl (relS S id) w) := by
  have HX := Lib.hid hx
  have p1 := hx.blk.cell 1
  simp at p1
  cases hi : TTbH.isT S id with
  | true =>
    obtain ⟨r, hr, _⟩ := isT_at hx.tab.ris hi
    have HD := Lib.hid (TTbH.dropT_yes gt base room vt S id w hx.tab hi r hr)
    have HK : Hid (relK S id = 0 ∧ relS S id = TTbH.outT S (TTbH.posT S id)) := Lib.hid ⟨if_pos hi, if_pos hi⟩
    rw [HK.out.1, HK.out.2]
    clear hx hi hr
    go_enter Try.func30, Try.ntmps30
    go_wp2_with fail
    refine HD.out.mono ?_
    rintro e w1 ⟨rfl, vt', ht, ho, hd⟩
    have HP := Lib.hid (VPost.tab HX.out ht ho (.inl hd) 0)
    have hba := (Below.refl w1.heap.size w1).alloc (Nat.le_refl _) (.cells #[.int .i64 r.v.k, .int .i64 r.v.m, .int .i64 r.v.a, .int .i64 r.v.z] 60)
    clear ht ho hd HD
    go_wp2_with fail
    go_ret
    exact HP.out.before hba
  | false =>
    have HD := Lib.hid (TTbH.dropT_no gt base room vt S id w hx.tab hi)
    have HK : Hid (relK S id = 8 ∧ relS S id = S) := Lib.hid ⟨if_neg (by rw [hi]; simp), if_neg (by rw [hi]; simp)⟩
    rw [HK.out.1, HK.out.2]
    clear hx hi
    go_enter Try.func30, Try.ntmps30
    go_wp2_with fail
    refine HD.out.mono ?_
    rintro e w1 ⟨rfl, hb⟩
    have hba := Below.past hb ((Below.refl w1.heap.size w1).alloc (Nat.le_refl _) (.cells #[.int .i64 0, .int .i64 0, .int .i64 0, .int .i64 0] 60)) hb.size
    have HBA := Lib.hid hba
    clear hb hba
    go_wp2_with fail
    go_ret
    exact VPost.same HX.out HBA.out 8
end
end Go.Proofs.Ytelbolhckhdioaa

/-! ## from HolF -/
namespace Go.Proofs.Ytelbolhckhdioaa
open Go.RowKit

/-! ### Place -/
def plcK (M A : Nat) (bl : List Int) (S : List HRow) (room : Int) (id : Int) (h : HoldV) : Int :=
  if h.z < 0 ∨ frB h.spt = true then 1 else if okP M A h.spt = false then 8 else if TTbH.isT S id = true then 7 else if room ≤ (S.length : Nat) then 6 else if bl.getD (ixS M h.spt) 0 - heldH S h.spt < h.z then 13 else 0
def plcS (M A : Nat) (bl : List Int) (S : List HRow) (room : Int) (id : Int) (h : HoldV) : List HRow := if plcK M A bl S room id h = 0 then TTbH.insT S ⟨id, h⟩ else S
theorem plcS_no {M A : Nat} {bl : List Int} {S : List HRow} {room id K : Int} {h : HoldV} (hk : plcK M A bl S room id h = K) (h0 : K ≠ 0) : plcS M A bl S room id h = S := if_neg (by rw [hk]; exact h0)
section
variable {gv gb gt base M A : Nat} {vb : Value} {bl : List Int} {p room : Int} {vt : Value} {S : List HRow}
set_option maxHeartbeats 16000000 in
set_option maxRecDepth 100000 in
theorem placeV_any (id : Int) (h : HoldV) (w : World) (hx : VltV w gv gb gt base M A vb bl p room vt S) (hi : HInv M A bl S) (hbl : ∀ z ∈ bl, inI z) (hrm : (S.length : Int) ≤ room) (hl9 : S.length ≤ 900) (hbase : base ≤ w.heap.size) :
    Calls Try.prog 29 #[.pointer (some ⟨gv, 0, none⟩), .int .i64 id, .agg #[.int .i64 h.k, .int .i64 h.m, .int .i64 h.a, .int .i64 h.z]] w (VPost gv gt base M A p room vt (plcK M A bl S room id h) bl (plcS M A bl S room id h) w) := by
  have hB0 := (Below.refl w.heap.size w).alloc (Nat.le_refl _) (.cells #[.int .i64 h.k, .int .i64 h.m, .int .i64 h.a, .int .i64 h.z] 60)
  have bz0 := Blk.new w 60 #[.int .i64 h.k, .int .i64 h.m, .int .i64 h.a, .int .i64 h.z] w.heap.size rfl
  obtain ⟨W, hW⟩ : ∃ W, Hid (w.alloc (.cells #[.int .i64 h.k, .int .i64 h.m, .int .i64 h.a, .int .i64 h.z] 60) = W) := ⟨_, Lib.hid rfl⟩
  obtain ⟨xb, hxb⟩ : ∃ xb, Hid (w.heap.size = xb) := ⟨_, Lib.hid rfl⟩
  rw [hW.out] at hB0 bz0
  rw [hxb.out] at bz0
  have HV := Lib.hid hx
  have HV0 := Lib.hid (hx.past hB0)
  have HB0 := Lib.hid hB0
  have HX0 := Lib.hid bz0
  have HI := Lib.hid hi
  have HBL := Lib.hid hbl
  have x0 := HX0.out.cell 0
  have x1 := HX0.out.cell 1
  have x2 := HX0.out.cell 2
  have x3 := HX0.out.cell 3
  simp at x0 x1 x2 x3
  clear hx hi hbl hB0 bz0
  by_cases hz : h.z < 0
  · have HK : Hid (plcK M A bl S room id h = 1) := Lib.hid (if_pos (.inl hz))
    go_enter Try.func29, Try.ntmps29
    go_upto_region 1 with fail
    rw [hW.out, hxb.out]
    go_wp2_with fail
    go_ret
    rw [plcS_no HK.out (by decide), HK.out]
    exact VPost.same HV.out HB0.out 1
  · have HFR := Lib.hid (free_any ⟨h.k, h.m⟩ W)
    rw [show ((⟨h.k, h.m⟩ : Acc).kind == 5 || (⟨h.k, h.m⟩ : Acc).kind == 6 || (⟨h.k, h.m⟩ : Acc).kind == 7) = frB h.spt from rfl] at HFR
    cases hfr : frB h.spt with
    | true =>
      have HK : Hid (plcK M A bl S room id h = 1) := Lib.hid (if_pos (.inr hfr))
      rw [hfr] at HFR
      clear hfr
      go_enter Try.func29, Try.ntmps29
      go_upto_region 1 with fail
      rw [hW.out, hxb.out]
      go_wp2_with fail
      refine HFR.out.mono ?_
      rintro e w1 ⟨rfl, hb1⟩
      have HB1 := Lib.hid (Below.past HB0.out hb1 HB0.out.size)
      clear hb1
      go_wp2_with fail
      go_ret
      rw [plcS_no HK.out (by decide), HK.out]
      exact VPost.same HV.out HB1.out 1
    | false =>
      have HK1 : Hid (plcK M A bl S room id h = if okP M A h.spt = false then 8 else if TTbH.isT S id = true then 7 else if room ≤ (S.length : Nat) then 6 else if bl.getD (ixS M h.spt) 0 - heldH S h.spt < h.z then 13 else 0) := Lib.hid (if_neg (by rw [hfr]; simp [hz]))
      rw [hfr] at HFR
      have HUH := Lib.hid (fun w1 h1 => unheldB_any (gv := gv) (gb := gb) (gt := gt) (base := base) (vb := vb) (p := p) (room := room) (vt := vt) h.spt w1 h1 HI.out HBL.out)
      rw [show h.spt.k = h.k from rfl, show h.spt.m = h.m from rfl, show h.spt.a = h.a from rfl] at HUH
      clear hfr
      go_enter Try.func29, Try.ntmps29
      go_upto_region 1 with fail
      rw [hW.out, hxb.out]
      go_wp2_with fail
      refine HFR.out.mono ?_
      rintro e w1 ⟨rfl, hb1⟩
      have HV1 := Lib.hid (HV0.out.past hb1)
      have HX1 := Lib.hid (HX0.out.past hb1)
      have HB1 := Lib.hid (Below.past HB0.out hb1 HB0.out.size)
      clear hb1 x0 x1 x2 x3
      have x0 := HX1.out.cell 0
      have x1 := HX1.out.cell 1
      have x2 := HX1.out.cell 2
      have x3 := HX1.out.cell 3
      simp at x0 x1 x2 x3
      have HU1 := Lib.hid (HUH.out w1 HV1.out)
      clear HUH HFR
      cases hok : okP M A h.spt with
      | false =>
        have HK : Hid (plcK M A bl S room id h = 8) := Lib.hid (by rw [HK1.out, if_pos hok])
        rw [show uhK M A bl S h.spt = (0, 8) from if_neg (by rw [hok]; simp)] at HU1
        clear hok
        go_wp2_with fail
        refine HU1.out.mono ?_
        rintro e w2 ⟨rfl, hb2⟩
        have HB2 := Lib.hid (Below.past HB1.out hb2 HB1.out.size)
        clear hb2
        go_wp2_with fail
        go_ret
        rw [plcS_no HK.out (by decide), HK.out]
        exact VPost.same HV.out HB2.out 8
      | true =>
        have HK2 : Hid (plcK M A bl S room id h = if TTbH.isT S id = true then 7 else if room ≤ (S.length : Nat) then 6 else if bl.getD (ixS M h.spt) 0 - heldH S h.spt < h.z then 13 else 0) := Lib.hid (by rw [HK1.out, if_neg (by rw [hok]; simp)])
        rw [show uhK M A bl S h.spt = (bl.getD (ixS M h.spt) 0 - heldH S h.spt, 0) from if_pos hok] at HU1
        obtain ⟨fr, hfre⟩ : ∃ fr, Hid (bl.getD (ixS M h.spt) 0 - heldH S h.spt = fr) := ⟨_, Lib.hid rfl⟩
        rw [hfre.out] at HU1 HK2
        clear hok HK1
        go_wp2_with fail
        refine HU1.out.mono ?_
        rintro e w2 ⟨rfl, hb2⟩
        have HV2 := Lib.hid (HV1.out.past hb2)
        have HX2 := Lib.hid (HX1.out.past hb2)
        have HB2 := Lib.hid (Below.past HB1.out hb2 HB1.out.size)
        clear hb2 x0 x1 x2 x3
        have x0 := HX2.out.cell 0
        have x1 := HX2.out.cell 1
        have x2 := HX2.out.cell 2
        have x3 := HX2.out.cell 3
        simp at x0 x1 x2 x3
        have p1 := HV2.out.blk.cell 1
        simp at p1
        clear HU1
        cases his : TTbH.isT S id with
        | true =>
          obtain ⟨r, hr, _⟩ := isT_at HV.out.tab.ris his
          have HG := Lib.hid (TTbH.getT_yes gt base room vt S id w2 HV2.out.tab his r hr)
          have HK : Hid (plcK M A bl S room id h = 7) := Lib.hid (by rw [HK2.out, if_pos his])
          clear his hr
          go_wp2_with fail
          refine HG.out.mono ?_
          rintro e w3 ⟨rfl, hb3⟩
          have HB3 := Lib.hid ((Below.past HB2.out hb3 HB2.out.size).alloc (Nat.le_trans HB2.out.size hb3.size) (.cells #[.int .i64 r.v.k, .int .i64 r.v.m, .int .i64 r.v.a, .int .i64 r.v.z] 60))
          clear hb3
          go_wp2_with fail
          go_ret
          rw [plcS_no HK.out (by decide), HK.out]
          exact VPost.same HV.out HB3.out 7
        | false =>
          have HG := Lib.hid (TTbH.getT_no gt base room vt S id w2 HV2.out.tab his)
          have HK3 : Hid (plcK M A bl S room id h = if room ≤ (S.length : Nat) then 6 else if fr < h.z then 13 else 0) := Lib.hid (by rw [HK2.out, if_neg (by rw [his]; simp)])
          have HIS := Lib.hid his
          clear his HK2
          go_wp2_with fail
          refine HG.out.mono ?_
          rintro e w3 ⟨rfl, hb3⟩
          have hb3a := hb3.alloc hb3.size (.cells #[.int .i64 0, .int .i64 0, .int .i64 0, .int .i64 0] 60)
          obtain ⟨w4, hw4⟩ : ∃ w4, Hid (w3.alloc (.cells #[.int .i64 0, .int .i64 0, .int .i64 0, .int .i64 0] 60) = w4) := ⟨_, Lib.hid rfl⟩
          rw [hw4.out] at hb3a
          clear hb3 p1
          have HV3 := Lib.hid (HV2.out.past hb3a)
          have HX3 := Lib.hid (HX2.out.past hb3a)
          have HB3 := Lib.hid (Below.past HB2.out hb3a HB2.out.size)
          clear hb3a x0 x1 x2 x3
          have x0 := HX3.out.cell 0
          have x1 := HX3.out.cell 1
          have x2 := HX3.out.cell 2
          have x3 := HX3.out.cell 3
          simp at x0 x1 x2 x3
          have p1 := HV3.out.blk.cell 1
          simp at p1
          have HLF := Lib.hid (TTbH.leftT_any gt base room vt S w4 HV3.out.tab)
          obtain ⟨n, hn⟩ : ∃ n, Hid (S.length = n) := ⟨_, Lib.hid rfl⟩
          rw [hn.out] at HLF HK3 hrm
          clear HG
          go_upto_region 9 with fail
          rw [hw4.out]
          by_cases hfu : room ≤ (n : Int)
          · have HK : Hid (plcK M A bl S room id h = 6) := Lib.hid (by rw [HK3.out, if_pos hfu])
            have hq : room - (n : Int) = 0 := by omega
            rw [hq] at HLF
            clear hq
            go_wp2_with fail
            refine HLF.out.mono ?_
            rintro e w5 ⟨rfl, hb5⟩
            have HB5 := Lib.hid (Below.past HB3.out hb5 HB3.out.size)
            clear hb5
            go_wp2_with fail
            go_ret
            rw [plcS_no HK.out (by decide), HK.out]
            exact VPost.same HV.out HB5.out 6
          · have HK4 : Hid (plcK M A bl S room id h = if fr < h.z then 13 else 0) := Lib.hid (by rw [HK3.out, if_neg hfu])
            obtain ⟨q, hqe⟩ : ∃ q, Hid (room - (n : Int) = q) := ⟨_, Lib.hid rfl⟩
            have hq0 : (q == 0) = false := by have := hqe.out; simp; omega
            rw [hqe.out] at HLF
            clear HK3
            go_wp2_with fail
            refine HLF.out.mono ?_
            rintro e w5 ⟨rfl, hb5⟩
            clear p1
            have HV5 := Lib.hid (HV3.out.past hb5)
            have HX5 := Lib.hid (HX3.out.past hb5)
            have HB5 := Lib.hid (Below.past HB3.out hb5 HB3.out.size)
            clear hb5 x0 x1 x2 x3
            have x0 := HX5.out.cell 0
            have x1 := HX5.out.cell 1
            have x2 := HX5.out.cell 2
            have x3 := HX5.out.cell 3
            simp at x0 x1 x2 x3
            have p1 := HV5.out.blk.cell 1
            simp at p1
            by_cases hgt : fr < h.z
            · have HK : Hid (plcK M A bl S room id h = 13) := Lib.hid (by rw [HK4.out, if_pos hgt])
              go_wp2_with fail
              go_ret
              rw [plcS_no HK.out (by decide), HK.out]
              exact VPost.same HV.out HB5.out 13
            · have HK : Hid (plcK M A bl S room id h = 0) := Lib.hid (by rw [HK4.out, if_neg hgt])
              have HPK : Hid (TTbH.putTK room S id = 0) := Lib.hid (by unfold TTbH.putTK; rw [if_neg (by rw [HIS.out]; simp), hn.out, if_neg (by omega)])
              have hdr := Below.drew (Below.refl w5.heap.size w5)
              have HV6 := Lib.hid (HV5.out.past hdr)
              have HB6 := Lib.hid (Below.past HB5.out hdr HB5.out.size)
              have HPT := Lib.hid (TTbH.putT_any gt base room vt S id h w5.drew HV6.out.tab hl9 (by have := HB6.out.size; omega))
              rw [show TTbH.PutTPost gt base room vt S id h w5.drew = fun e w' => e = .returned (.int .i64 (TTbH.putTK room S id)) ∧ ∃ v', TTbH.TabV w' gt base room v' (TTbH.putTS room S id h) ∧ OnlyG gt vt w5.drew w' ∧ (v'.ownBlock = vt.ownBlock ∨ ∃ k, v'.ownBlock = some k ∧ w5.drew.heap.size ≤ k) from rfl, HPK.out, show TTbH.putTS room S id h = TTbH.insT S ⟨id, h⟩ from if_pos HPK.out] at HPT
              clear hdr HK4
              go_wp2_with fail
              go_region_with (go_at_call 79; refine HPT.out.mono ?_; rintro e w7 ⟨rfl, vt', ht, ho, hd⟩; have HP := Lib.hid (VPost.after HB6.out (VPost.tab HV6.out ht ho hd 0)); clear ht ho hd)
              all_goals
                go_wp2_with fail
                go_ret
                rw [show plcS M A bl S room id h = TTbH.insT S ⟨id, h⟩ from if_pos HK.out, HK.out]
                exact HP.out
end
end Go.Proofs.Ytelbolhckhdioaa

/-! ## from HolG -/
namespace Go.Proofs.Ytelbolhckhdioaa
open Go.RowKit

/-! ### Capture -/
theorem ids_set {S : List HRow} {i : Nat} {f : HRow} (hf : S[i]? = some f) (s : HoldV) : (S.set i ⟨f.id, s⟩).map (fun r => r.id) = S.map (fun r => r.id) := by
  rw [List.map_set]
  obtain ⟨hi, rfl⟩ := List.getElem?_eq_some_iff.1 hf
  apply List.ext_getElem
  · simp
  · intro j h1 h2
    rw [List.getElem_set]
    split
    · rename_i e; subst e; simp
    · rfl
theorem posT_ids (S : List HRow) (id : Int) : TTbH.posT S id = (S.map fun r => r.id).countP fun x => decide (x < id) := by
  unfold TTbH.posT; rw [List.countP_map]; rfl
theorem isT_ids (S : List HRow) (id : Int) : TTbH.isT S id = (S.map fun r => r.id).any fun x => decide (x = id) := by
  unfold TTbH.isT; rw [List.any_map]; rfl
theorem posT_setH {S : List HRow} {i : Nat} {f : HRow} (hf : S[i]? = some f) (s : HoldV) (id : Int) : TTbH.posT (S.set i ⟨f.id, s⟩) id = TTbH.posT S id := by rw [posT_ids, posT_ids, ids_set hf]
theorem isT_setH {S : List HRow} {i : Nat} {f : HRow} (hf : S[i]? = some f) (s : HoldV) (id : Int) : TTbH.isT (S.set i ⟨f.id, s⟩) id = TTbH.isT S id := by rw [isT_ids, isT_ids, ids_set hf]
def lessH (r : HRow) (z : Int) : HoldV := ⟨r.v.k, r.v.m, r.v.a, r.v.z - z⟩
theorem heldH_set {S : List HRow} {i : Nat} {r : HRow} (hr : S[i]? = some r) (z : Int) (s : Spt) : heldH (S.set i ⟨r.id, lessH r z⟩) s = heldH S s - if r.v.spt = s then z else 0 := by
  rw [TTbH.setT_at hr]
  conv => rhs; rw [TTbH.splitT hr]
  rw [heldH_app, heldH_app]
  have e1 : ∀ (x : HRow) (l : List HRow), heldH (x :: l) s = (if x.v.spt = s then x.v.z else 0) + heldH l s := fun x l => by
    unfold heldH
    rw [List.filter_cons]
    by_cases h : x.v.spt = s
    · simp [atH, h]
    · simp [atH, h]
  rw [e1, e1]
  have e2 : (lessH r z).spt = r.v.spt := rfl
  rw [show (({ id := r.id, v := lessH r z } : HRow)).v = lessH r z from rfl, e2]
  split
  · simp [lessH]; omega
  · omega
theorem HInv.less {M A : Nat} {bl : List Int} {S : List HRow} (h : HInv M A bl S) {i : Nat} {r : HRow} (hr : S[i]? = some r) {z : Int} (h0 : 0 ≤ z) (h1 : z ≤ r.v.z) : HInv M A bl (S.set i ⟨r.id, lessH r z⟩) := by
  refine ⟨fun x hx => ?_, fun x hx => ?_, fun s hs hf => ?_⟩
  · rcases List.mem_or_eq_of_mem_set hx with hx | rfl
    · exact h.z x hx
    · simp [lessH]; omega
  · rcases List.mem_or_eq_of_mem_set hx with hx | rfl
    · exact h.ok x hx
    · exact h.ok r (List.mem_of_getElem? hr)
  · rw [heldH_set hr]
    have := h.le s hs hf
    split <;> omega
theorem VPost.trans {gv gb gt base M A : Nat} {vb : Value} {bl bl' : List Int} {p room K : Int} {vt vt1 : Value} {S1 S' : List HRow} {w w1 w2 : World} {e : Ending} (h1 : OnlyS (vbad gv gt vt) w w1) (hd : vt1.ownBlock = vt.ownBlock ∨ ∃ k, vt1.ownBlock = some k ∧ w.heap.size ≤ k) (h : VPost gv gt base M A p room vt1 K bl' S' w1 e w2) : VPost gv gt base M A p room vt K bl' S' w e w2 := by
  obtain ⟨he, gb', vb', p', vt', h2, h3, h4, h5⟩ := h
  refine ⟨he, gb', vb', p', vt', h2, h1.trans h3 (fun k _ e => e) ?_, ?_, h5⟩
  · intro k hk e
    rcases e with e | e | e
    · exact .inl e
    · exact .inr (.inl e)
    · rcases hd with hd | ⟨j, hj, hle⟩
      · exact .inr (.inr (hd ▸ e))
      · rw [hj] at e; cases e; omega
  · rcases h4 with h4 | ⟨k, h4, hk⟩
    · rcases hd with hd | ⟨j, hj, hle⟩
      · exact .inl (h4.trans hd)
      · exact .inr ⟨j, h4.trans hj, hle⟩
    · exact .inr ⟨k, h4, Nat.le_trans h1.size hk⟩
section
variable {gv gb gt base M A : Nat} {vb : Value} {bl : List Int} {p room : Int} {vt : Value} {S : List HRow}
set_option maxHeartbeats 4000000 in
theorem capV_no (id : Int) (y : Acc) (z : Int) (w : World) (hx : VltV w gv gb gt base M A vb bl p room vt S) (hi : TTbH.isT S id = false) :
    Calls Try.prog 31 #[.pointer (some ⟨gv, 0, none⟩), .int .i64 id, .agg #[.int .i64 y.kind, .int .i64 y.member], .int .i64 z] w (VPost gv gt base M A p room vt 8 bl S w) := by
  have hB0 := (Below.refl w.heap.size w).alloc (Nat.le_refl _) (.cells #[.int .i64 y.kind, .int .i64 y.member] 52)
  have bz0 := Blk.new w 52 #[.int .i64 y.kind, .int .i64 y.member] w.heap.size rfl
  obtain ⟨W, hW⟩ : ∃ W, Hid (w.alloc (.cells #[.int .i64 y.kind, .int .i64 y.member] 52) = W) := ⟨_, Lib.hid rfl⟩
  obtain ⟨xb, hxb⟩ : ∃ xb, Hid (w.heap.size = xb) := ⟨_, Lib.hid rfl⟩
  rw [hW.out] at hB0 bz0
  rw [hxb.out] at bz0
  have HV := Lib.hid hx
  have HV0 := Lib.hid (hx.past hB0)
  have HB0 := Lib.hid hB0
  have HX0 := Lib.hid bz0
  clear hx hB0 bz0
  have HG := Lib.hid (holdV_no id W HV0.out hi)
  clear hi
  go_enter Try.func31, Try.ntmps31
  go_upto_region 1 with fail
  rw [hW.out, hxb.out]
  go_wp2_with fail
  refine HG.out.mono ?_
  rintro e w1 ⟨rfl, hb1⟩
  have HB1 := Lib.hid ((Below.past HB0.out hb1 HB0.out.size).alloc (Nat.le_trans HB0.out.size hb1.size) (.cells #[.int .i64 0, .int .i64 0, .int .i64 0, .int .i64 0] 60))
  clear hb1
  go_wp2_with fail
  go_ret
  exact VPost.same HV.out HB1.out 8
set_option maxHeartbeats 4000000 in
theorem capV_neg (id : Int) (y : Acc) (z : Int) (r : HRow) (w : World) (hx : VltV w gv gb gt base M A vb bl p room vt S) (hi : TTbH.isT S id = true) (hr : S[TTbH.posT S id]? = some r) (hz : z < 0) :
    Calls Try.prog 31 #[.pointer (some ⟨gv, 0, none⟩), .int .i64 id, .agg #[.int .i64 y.kind, .int .i64 y.member], .int .i64 z] w (VPost gv gt base M A p room vt 1 bl S w) := by
  have hB0 := (Below.refl w.heap.size w).alloc (Nat.le_refl _) (.cells #[.int .i64 y.kind, .int .i64 y.member] 52)
  have bz0 := Blk.new w 52 #[.int .i64 y.kind, .int .i64 y.member] w.heap.size rfl
  obtain ⟨W, hW⟩ : ∃ W, Hid (w.alloc (.cells #[.int .i64 y.kind, .int .i64 y.member] 52) = W) := ⟨_, Lib.hid rfl⟩
  obtain ⟨xb, hxb⟩ : ∃ xb, Hid (w.heap.size = xb) := ⟨_, Lib.hid rfl⟩
  rw [hW.out] at hB0 bz0
  rw [hxb.out] at bz0
  have HV := Lib.hid hx
  have HV0 := Lib.hid (hx.past hB0)
  have HB0 := Lib.hid hB0
  have HX0 := Lib.hid bz0
  clear hx hB0 bz0
  have HG := Lib.hid (holdV_yes id r W HV0.out hi hr)
  clear hi hr
  go_enter Try.func31, Try.ntmps31
  go_upto_region 1 with fail
  rw [hW.out, hxb.out]
  go_wp2_with fail
  refine HG.out.mono ?_
  rintro e w1 ⟨rfl, hb1⟩
  have HB1 := Lib.hid ((Below.past HB0.out hb1 HB0.out.size).alloc (Nat.le_trans HB0.out.size hb1.size) (.cells #[.int .i64 r.v.k, .int .i64 r.v.m, .int .i64 r.v.a, .int .i64 r.v.z] 60))
  clear hb1
  go_wp2_with fail
  go_ret
  exact VPost.same HV.out HB1.out 1
set_option maxHeartbeats 4000000 in
theorem capV_much (id : Int) (y : Acc) (z : Int) (r : HRow) (w : World) (hx : VltV w gv gb gt base M A vb bl p room vt S) (hi : TTbH.isT S id = true) (hr : S[TTbH.posT S id]? = some r) (hz : ¬ z < 0) (hm : r.v.z < z) :
    Calls Try.prog 31 #[.pointer (some ⟨gv, 0, none⟩), .int .i64 id, .agg #[.int .i64 y.kind, .int .i64 y.member], .int .i64 z] w (VPost gv gt base M A p room vt 12 bl S w) := by
  have hB0 := (Below.refl w.heap.size w).alloc (Nat.le_refl _) (.cells #[.int .i64 y.kind, .int .i64 y.member] 52)
  have bz0 := Blk.new w 52 #[.int .i64 y.kind, .int .i64 y.member] w.heap.size rfl
  obtain ⟨W, hW⟩ : ∃ W, Hid (w.alloc (.cells #[.int .i64 y.kind, .int .i64 y.member] 52) = W) := ⟨_, Lib.hid rfl⟩
  obtain ⟨xb, hxb⟩ : ∃ xb, Hid (w.heap.size = xb) := ⟨_, Lib.hid rfl⟩
  rw [hW.out] at hB0 bz0
  rw [hxb.out] at bz0
  have HV := Lib.hid hx
  have HV0 := Lib.hid (hx.past hB0)
  have HB0 := Lib.hid hB0
  have HX0 := Lib.hid bz0
  clear hx hB0 bz0
  have HG := Lib.hid (holdV_yes id r W HV0.out hi hr)
  clear hi hr
  go_enter Try.func31, Try.ntmps31
  go_upto_region 1 with fail
  rw [hW.out, hxb.out]
  go_wp2_with fail
  refine HG.out.mono ?_
  rintro e w1 ⟨rfl, hb1⟩
  have HB1 := Lib.hid ((Below.past HB0.out hb1 HB0.out.size).alloc (Nat.le_trans HB0.out.size hb1.size) (.cells #[.int .i64 r.v.k, .int .i64 r.v.m, .int .i64 r.v.a, .int .i64 r.v.z] 60))
  clear hb1
  go_wp2_with fail
  go_ret
  exact VPost.same HV.out HB1.out 12
set_option maxHeartbeats 16000000 in
set_option maxRecDepth 100000 in
theorem capV_go (id : Int) (y : Acc) (z : Int) (r : HRow) (w : World) (hx : VltV w gv gb gt base M A vb bl p room vt S) (hi : TTbH.isT S id = true) (hr : S[TTbH.posT S id]? = some r) (hz : ¬ z < 0) (hm : ¬ r.v.z < z) (hI : HInv M A bl S) (hbl : ∀ z ∈ bl, inI z) (hix : inI r.v.k ∧ inI r.v.m) (hiy : inI y.kind ∧ inI y.member) (hia : inI r.v.a) (hiz : inI z) (hirz : inI r.v.z) (hp : 0 ≤ p ∧ p ≤ 1000000) (hbase : base ≤ w.heap.size) :
    Calls Try.prog 31 #[.pointer (some ⟨gv, 0, none⟩), .int .i64 id, .agg #[.int .i64 y.kind, .int .i64 y.member], .int .i64 z] w (VPost gv gt base M A p room vt (hmK M A bl (S.set (TTbH.posT S id) ⟨r.id, lessH r z⟩) ⟨r.v.k, r.v.m⟩ y r.v.a z) (hmB M A bl (S.set (TTbH.posT S id) ⟨r.id, lessH r z⟩) ⟨r.v.k, r.v.m⟩ y r.v.a z) (if hmK M A bl (S.set (TTbH.posT S id) ⟨r.id, lessH r z⟩) ⟨r.v.k, r.v.m⟩ y r.v.a z = 0 then S.set (TTbH.posT S id) ⟨r.id, lessH r z⟩ else S) w) := by
  have hB0 := (Below.refl w.heap.size w).alloc (Nat.le_refl _) (.cells #[.int .i64 y.kind, .int .i64 y.member] 52)
  have bz0 := Blk.new w 52 #[.int .i64 y.kind, .int .i64 y.member] w.heap.size rfl
  obtain ⟨W, hW⟩ : ∃ W, Hid (w.alloc (.cells #[.int .i64 y.kind, .int .i64 y.member] 52) = W) := ⟨_, Lib.hid rfl⟩
  obtain ⟨xb, hxb⟩ : ∃ xb, Hid (w.heap.size = xb) := ⟨_, Lib.hid rfl⟩
  rw [hW.out] at hB0 bz0
  rw [hxb.out] at bz0
  have HV := Lib.hid hx
  have HV0 := Lib.hid (hx.past hB0)
  have HB0 := Lib.hid hB0
  have HX0 := Lib.hid bz0
  clear hx hB0 bz0
  have HG := Lib.hid (holdV_yes id r W HV0.out hi hr)
  have HIx := Lib.hid hi
  have HR := Lib.hid hr
  obtain ⟨S1, hS1⟩ : ∃ S1, Hid (S.set (TTbH.posT S id) ⟨r.id, lessH r z⟩ = S1) := ⟨_, Lib.hid rfl⟩
  have HI1 : Hid (HInv M A bl S1) := Lib.hid (by rw [← hS1.out]; exact hI.less hr (by omega) (by omega))
  have HIS1 : Hid (TTbH.isT S1 id = true) := Lib.hid (by rw [← hS1.out, isT_setH hr]; exact hi)
  have HR1 : Hid (S1[TTbH.posT S1 id]? = some ⟨r.id, lessH r z⟩) := Lib.hid (by
    rw [← hS1.out, posT_setH hr, List.getElem?_set_self (List.getElem?_eq_some_iff.1 hr).1])
  have HBACK : Hid (S1.set (TTbH.posT S1 id) ⟨r.id, r.v⟩ = S) := Lib.hid (by
    rw [← hS1.out, posT_setH hr, List.set_set]
    obtain ⟨hlt, e⟩ := List.getElem?_eq_some_iff.1 hr
    rw [show (⟨r.id, r.v⟩ : HRow) = S[TTbH.posT S id] from e.symm, List.set_getElem_self])
  have HBL := Lib.hid hbl
  have hw : IntKind.i64.wrap (r.v.z - z) = r.v.z - z := IntWalk.i64_in _ (by unfold inI at hirz; omega)
  rw [hS1.out]
  obtain ⟨K, hK⟩ : ∃ K, Hid (hmK M A bl S1 ⟨r.v.k, r.v.m⟩ y r.v.a z = K) := ⟨_, Lib.hid rfl⟩
  obtain ⟨B2, hB2⟩ : ∃ B2, Hid (hmB M A bl S1 ⟨r.v.k, r.v.m⟩ y r.v.a z = B2) := ⟨_, Lib.hid rfl⟩
  rw [hK.out, hB2.out]
  obtain ⟨S9, hS9⟩ : ∃ S9, Hid ((if K = 0 then S1 else S) = S9) := ⟨_, Lib.hid rfl⟩
  rw [hS9.out]
  clear hi hr hI hbl
  go_enter Try.func31, Try.ntmps31
  go_upto_region 1 with fail
  rw [hW.out, hxb.out]
  go_wp2_with fail
  refine HG.out.mono ?_
  rintro e w1 ⟨rfl, hb1⟩
  obtain ⟨hb, hhb⟩ : ∃ hb, Hid (w1.heap.size = hb) := ⟨_, Lib.hid rfl⟩
  have bh := (Blk.new w1 60 #[.int .i64 r.v.k, .int .i64 r.v.m, .int .i64 r.v.a, .int .i64 r.v.z] w1.heap.size rfl).alloc (.cells #[.int .i64 r.v.k, .int .i64 r.v.m, .int .i64 r.v.a, .int .i64 (r.v.z - z)] 60)
  have bl2 := Blk.new (w1.alloc (.cells #[.int .i64 r.v.k, .int .i64 r.v.m, .int .i64 r.v.a, .int .i64 r.v.z] 60)) 60 #[.int .i64 r.v.k, .int .i64 r.v.m, .int .i64 r.v.a, .int .i64 (r.v.z - z)] (w1.heap.size + 1) (by simp)
  have hbA := ((Below.refl w1.heap.size w1).alloc (Nat.le_refl _) (.cells #[.int .i64 r.v.k, .int .i64 r.v.m, .int .i64 r.v.a, .int .i64 r.v.z] 60)).alloc (by simp) (.cells #[.int .i64 r.v.k, .int .i64 r.v.m, .int .i64 r.v.a, .int .i64 (r.v.z - z)] 60)
  obtain ⟨W2, hW2⟩ : ∃ W2, Hid ((w1.alloc (.cells #[.int .i64 r.v.k, .int .i64 r.v.m, .int .i64 r.v.a, .int .i64 r.v.z] 60)).alloc (.cells #[.int .i64 r.v.k, .int .i64 r.v.m, .int .i64 r.v.a, .int .i64 (r.v.z - z)] 60) = W2) := ⟨_, Lib.hid rfl⟩
  rw [hW2.out] at bh bl2 hbA
  rw [hhb.out] at bh bl2
  have HV2 := Lib.hid ((HV0.out.past hb1).past hbA)
  have HX2 := Lib.hid ((HX0.out.past hb1).past hbA)
  have HB2 := Lib.hid (Below.past (Below.past HB0.out hb1 HB0.out.size) hbA (Nat.le_trans HB0.out.size hb1.size))
  have HH2 := Lib.hid bh
  have HL2 := Lib.hid bl2
  clear hb1 hbA bh bl2 HG
  have p1 := HV2.out.blk.cell 1
  simp at p1
  have l0 := HL2.out.cell 0
  have l1 := HL2.out.cell 1
  have l2 := HL2.out.cell 2
  have l3 := HL2.out.cell 3
  simp at l0 l1 l2 l3
  have hhl := HL2.out.lt
  have hdr := Below.drew (Below.refl W2.heap.size W2)
  have HV3 := Lib.hid (HV2.out.past hdr)
  have HX3 := Lib.hid (HX2.out.past hdr)
  have HH3 := Lib.hid (HH2.out.past hdr)
  have HB3 := Lib.hid (Below.past HB2.out hdr HB2.out.size)
  have HST := Lib.hid (TTbH.setT_yes gt base room vt S id (lessH r z) W2.drew HV3.out.tab HIx.out r HR.out)
  unfold TTbH.SetTPost at HST
  rw [hS1.out] at HST
  rw [show (lessH r z).k = r.v.k from rfl, show (lessH r z).m = r.v.m from rfl, show (lessH r z).a = r.v.a from rfl, show (lessH r z).z = r.v.z - z from rfl] at HST
  clear hdr HX2 HH2
  go_upto_region 10 with fail
  rw [hW2.out, hhb.out]
  go_region_with (go_at_call 81; refine HST.out.mono ?_; rintro e w3 ⟨rfl, ht3, ho3⟩; have HT3 := Lib.hid ht3; have HO3 := Lib.hid ho3; clear ht3 ho3)
  all_goals
    have HV4 := Lib.hid (HV3.out.tab_next HT3.out HO3.out)
    have HS4 : Hid (OnlyS (vbad gv gt vt) w w3) := Lib.hid (OnlyS.after HB3.out (OnlyS.of_onlyG HO3.out (.inr (.inl rfl)) (fun k e => .inr (.inr e))))
    have HX4 := Lib.hid (HO3.out.blkZ HX3.out (blk_neZ HX3.out HV3.out.tab.blk (by decide)) (own_blk_ne HV3.out.tab.row HX3.out (by decide)))
    have HH4 := Lib.hid (HO3.out.blkZ HH3.out (blk_neZ HH3.out HV3.out.tab.blk (by decide)) (own_blk_ne HV3.out.tab.row HH3.out (by decide)))
    have hbs : base ≤ w3.heap.size := Nat.le_trans hbase HS4.out.size
    have HMV := Lib.hid (moveV_any ⟨r.v.k, r.v.m⟩ y r.v.a z w3 HV4.out HI1.out HBL.out hix hiy hia hiz hp hbs)
    unfold VPost at HMV
    clear p1 l0 l1 l2 l3 hhl
    have x0 := HX4.out.cell 0
    have x1 := HX4.out.cell 1
    have h0 := HH4.out.cell 0
    have h1 := HH4.out.cell 1
    have h2 := HH4.out.cell 2
    simp at x0 x1 h0 h1 h2
    rw [hK.out, hB2.out] at HMV
    go_wp2_with fail
    refine HMV.out.mono ?_
    rintro e w5 ⟨rfl, gb5, vb5, p5, vt5, hv5, ho5, hd5, hp5⟩
    have HV5 := Lib.hid hv5
    have HO5 := Lib.hid ho5
    have HD5 := Lib.hid hd5
    have HP5 := Lib.hid hp5
    have HS5 : Hid (OnlyS (vbad gv gt vt) w w5) := Lib.hid (HS4.out.trans ho5 (fun _ _ e => e) (fun _ _ e => e))
    have HD5w : Hid (vt5.ownBlock = vt.ownBlock ∨ ∃ k, vt5.ownBlock = some k ∧ w.heap.size ≤ k) := Lib.hid (hd5.imp (fun e => e) fun ⟨k, e1, e2⟩ => ⟨k, e1, Nat.le_trans HS4.out.size e2⟩)
    clear hv5 ho5 hd5 hp5 x0 x1 h0 h1 h2
    by_cases hK0 : K = 0
    · subst hK0
      go_wp2_with fail
      go_ret
      rw [← hS9.out, if_pos trivial]
      exact ⟨rfl, gb5, vb5, p5, vt5, HV5.out, HS5.out, HD5w.out, HP5.out⟩
    · have hq : (K != 0) = true := by simpa using hK0
      have HK0 := Lib.hid hK0
      have hnb : ∀ {k : Nat} {arr : Array Value}, Blk w3 k 60 arr → ¬ vbad gv gt vt k := fun hb e => by
        rcases e with e | e | e
        · exact blk_neZ hb HV4.out.blk (by decide) e
        · exact blk_neZ hb HV4.out.tab.blk (by decide) e
        · exact own_blk_ne HV4.out.tab.row hb (by decide) e
      have HH5 := Lib.hid (HO5.out.blk HH4.out (hnb HH4.out))
      have p1 := HV5.out.blk.cell 1
      simp at p1
      have h0 := HH5.out.cell 0
      have h1 := HH5.out.cell 1
      have h2 := HH5.out.cell 2
      have h3 := HH5.out.cell 3
      simp at h0 h1 h2 h3
      have hhl := HH5.out.lt
      have hdr := Below.drew (Below.refl w5.heap.size w5)
      have HV6 := Lib.hid (HV5.out.past hdr)
      have HST2 := Lib.hid (TTbH.setT_yes gt base room vt5 S1 id r.v w5.drew HV6.out.tab HIS1.out ⟨r.id, lessH r z⟩ HR1.out)
      unfold TTbH.SetTPost at HST2
      rw [HBACK.out] at HST2
      clear hK0 hnb hdr
      go_wp2_with fail
      go_region_with (go_at_call 81; refine HST2.out.mono ?_; rintro e w7 ⟨rfl, ht7, ho7⟩; have HT7 := Lib.hid ht7; have HO7 := Lib.hid ho7; clear ht7 ho7)
      all_goals
        have HV8 := Lib.hid (HV6.out.tab_next HT7.out HO7.out)
        have HS8 : Hid (OnlyS (vbad gv gt vt) w w7) := Lib.hid (HS5.out.trans (OnlyS.after (w := w5) (Below.drew (Below.refl _ _)) (OnlyS.of_onlyG (bad := vbad gv gt vt5) HO7.out (.inr (.inl rfl)) (fun k e => .inr (.inr e)))) (fun _ _ e => e) (fun k hk e => by
          rcases e with e | e | e
          · exact .inl e
          · exact .inr (.inl e)
          · rcases HD5w.out with hd | ⟨j, hj, hle⟩
            · exact .inr (.inr (hd ▸ e))
            · rw [hj] at e; cases e; omega))
        go_wp2_with fail
        go_ret
        rw [← hS9.out, if_neg HK0.out]
        exact ⟨rfl, gb5, vb5, p5, vt5, HV8.out, HS8.out, HD5w.out, HP5.out⟩
end
end Go.Proofs.Ytelbolhckhdioaa

/-! ## from HolH -/
namespace Go.Proofs.Ytelbolhckhdioaa
open Go.RowKit

/-! ### New, nothing of no vault, the law's small functions -/
def NewVPost (M A : Nat) (room : Int) (w : World) (e : Ending) (w' : World) : Prop :=
  ∃ gv gb gt vb, e = .returned (.tuple #[.pointer (some ⟨gv, 0, none⟩), .int .i64 0]) ∧ VltV w' gv gb gt w.heap.size M A vb (List.replicate (A * cnt M) 0) 0 (max room 0) (.slice none 0 0) [] ∧ Below w.heap.size w w'
set_option maxHeartbeats 4000000 in
theorem newV_yes (M A : Nat) (hM : M ≤ 16) (h1 : 1 ≤ A) (hA : A ≤ 9) (room : Int) (hro : -9223372036854775808 ≤ room ∧ room ≤ 9223372036854775807) (w : World) : Calls Try.prog 22 #[.int .i64 M, .int .i64 A, .int .i64 room] w (NewVPost M A room w) := by
  have HN := Lib.hid (newK_yes M A hM h1 hA w)
  unfold NewKPost at HN
  go_enter Try.func22, Try.ntmps22
  go_wp2_with fail
  refine HN.out.mono ?_
  rintro e w1 ⟨g, v, rfl, hg, hbk, hb1⟩
  have HT := Lib.hid (TTbH.newT_any room hro w1)
  have HBK := Lib.hid hbk
  have HB1 := Lib.hid hb1
  clear hbk hb1 HN
  go_wp2_with fail
  refine HT.out.mono ?_
  rintro e w2 ⟨gt, rfl, hgt, ht, hb2⟩
  have hba := (Below.refl w2.heap.size w2).alloc (Nat.le_refl _) (.cells #[.pointer (some ⟨g, 0, none⟩), .pointer (some ⟨gt, 0, none⟩)] 121)
  have hbv := Blk.new w2 121 #[.pointer (some ⟨g, 0, none⟩), .pointer (some ⟨gt, 0, none⟩)] w2.heap.size rfl
  have hs1 := HB1.out.size
  have hs2 := hb2.size
  have HV : Hid (VltV (w2.alloc (.cells #[.pointer (some ⟨g, 0, none⟩), .pointer (some ⟨gt, 0, none⟩)] 121)) w2.heap.size g gt w.heap.size M A v (List.replicate (A * cnt M) 0) 0 (max room 0) (.slice none 0 0) []) := Lib.hid
    ⟨hbv, (HBK.out.past hb2).past hba, ⟨(ht.past hba).form, (ht.past hba).blk, own_monoZ (ht.past hba).row hs1, (ht.past hba).ris, (ht.past hba).len, (ht.past hba).rm⟩, by omega, hg, by omega⟩
  have HB3 := Lib.hid (Below.past (Below.past HB1.out hb2 hs1) hba (Nat.le_trans hs1 hs2))
  clear ht hb2 hba hbv HT
  go_wp2_with fail
  go_ret2
  exact ⟨_, _, _, _, rfl, HV.out, HB3.out⟩
theorem HInv.start {M A : Nat} : HInv M A (List.replicate (A * cnt M) 0) [] := by
  refine ⟨by simp, by simp, fun s _ _ => ?_⟩
  rw [show heldH [] s = 0 from rfl, List.getD, List.getElem?_replicate]
  split <;> simp
theorem own15 (i : Int) (w : World) : Calls Try.prog 37 #[.int .i64 i] w fun e w' => e = .returned (.agg #[.int .i64 7, .int .i64 i]) ∧ Below w.heap.size w w' := by
  have hB0 := (Below.refl w.heap.size w).alloc (Nat.le_refl _) (.cells #[.int .i64 7, .int .i64 i] 52)
  go_enter Try.func37, Try.ntmps37
  go_wp2_with fail
  refine bodyPost_ret (v := .agg #[.int .i64 7, .int .i64 i]) (by simp [results, Try.results37, go_sem]) rfl ⟨rfl, hB0⟩
theorem coll15 (i : Int) (w : World) : Calls Try.prog 64 #[.int .i64 i] w fun e w' => e = .returned (.agg #[.int .i64 8, .int .i64 i]) ∧ Below w.heap.size w w' := by
  have hB0 := (Below.refl w.heap.size w).alloc (Nat.le_refl _) (.cells #[.int .i64 8, .int .i64 i] 52)
  go_enter Try.func64, Try.ntmps64
  go_wp2_with fail
  refine bodyPost_ret (v := .agg #[.int .i64 8, .int .i64 i]) (by simp [results, Try.results64, go_sem]) rfl ⟨rfl, hB0⟩
/-- A call of the law. -/
structure ActH where
  kd : Int
  P : Option Addr
  c : Nat
  l : List Ent
  id : Int
  x : Acc
  y : Acc
  a : Int
  z : Int
def ActH.cells (f : ActH) : List Value := [.int .i64 f.kd, .slice f.P f.l.length f.c, .int .i64 f.id, .int .i64 f.x.kind, .int .i64 f.x.member, .int .i64 f.y.kind, .int .i64 f.y.member, .int .i64 f.a, .int .i64 f.z]
theorem ActH.cells_len (f : ActH) : f.cells.length = 9 := rfl
structure ActHOk (w : World) (f : ActH) : Prop where
  rd : Rd w w.heap.size 4 f.P f.l.length (f.l.flatMap Ent.cells)
  ok : ∀ e ∈ f.l, EntOk e
  x : inI f.x.kind ∧ inI f.x.member
  y : inI f.y.kind ∧ inI f.y.member
  a : inI f.a
  z : inI f.z
theorem ActHOk.past {w w' : World} {f : ActH} (h : ActHOk w f) (hb : Below w.heap.size w w') : ActHOk w' f := ⟨h.rd.past hb, h.ok, h.x, h.y, h.a, h.z⟩
def shortH (f : ActH) : Bool := decide (f.l.length ≤ 8)
def fewH (fs : List ActH) : Bool := decide (fs.length ≤ 30) && fs.all shortH
set_option maxHeartbeats 2000000 in
theorem few15_any (A : Option Addr) (n c : Nat) (fs : List ActH) (w : World) (hr : Rd w w.heap.size 9 A n (fs.flatMap ActH.cells)) :
    Calls Try.prog 20 #[.slice A n c] w fun e w' => e = .returned (.bool (fewH fs)) ∧ w = w' := by
  have HL := Lib.hid (hr.len ActH.cells_len (by omega))
  have HR := Lib.hid hr
  obtain ⟨R, hR⟩ : ∃ R, Hid (fewH fs = R) := ⟨_, Lib.hid rfl⟩
  rw [hR.out]
  clear hr
  by_cases hm : n ≤ 30
  · have q0 : ¬ (30 : Int) < (n : Int) := by omega
    go_enter Try.func20, Try.ntmps20
    go_wp2_with fail
    go_loopw [3] (fun i wr => ∃ k : Nat, k ≤ n ∧ i = .int .i64 (k : Nat) ∧ Hid ((fs.take k).all shortH = true) ∧ w = wr) (fun i _ => n - (intOf i).toNat)
    case atStart => exact ⟨0, by omega, rfl, Lib.hid rfl, rfl⟩
    case round =>
      obtain ⟨k, hk, rfl, HS, rfl⟩ := hrel
      by_cases hlt : k < n
      · have hlz : (k : Int) < (n : Int) := by omega
        have hg_f : fs[k]? = some (fs[k]'(by have := HL.out; omega)) := List.getElem?_eq_getElem _
        obtain ⟨b_f, off_f, rfl, hbb_f, hc_f⟩ := (HR.out).elem ActH.cells_len hg_f hlt
        have HT_f := Lib.hid (show fs.take (k + 1) = fs.take k ++ [(fs[k]'(by have := HL.out; omega))] from List.take_succ_eq_append_getElem (by have := HL.out; omega))
        have HM_f := Lib.hid (show (fs[k]'(by have := HL.out; omega)) ∈ fs from List.getElem_mem _)
        generalize (fs[k]'(by have := HL.out; omega)) = f at *
        have c0 := hc_f 0 _ rfl
        have c1 := hc_f 1 _ rfl
        have c2 := hc_f 2 _ rfl
        have c3 := hc_f 3 _ rfl
        have c4 := hc_f 4 _ rfl
        have c5 := hc_f 5 _ rfl
        have c6 := hc_f 6 _ rfl
        have c7 := hc_f 7 _ rfl
        have c8 := hc_f 8 _ rfl
        clear hc_f hg_f
        simp only [Nat.add_zero] at c0
        by_cases hf : f.l.length ≤ 8
        · have q1 : ¬ (8 : Int) < (f.l.length : Int) := by omega
          have HS2 : Hid ((fs.take (k + 1)).all shortH = true) := Lib.hid (by rw [HT_f.out, List.all_append, HS.out]; simp [shortH, hf])
          clear hf
          go_wp2_with fail
          go_roundw
          case rel => exact ⟨k + 1, by omega, by go_num, HS2, by simp⟩
          case measure => simp [intOf]; omega
        · have q1 : (8 : Int) < (f.l.length : Int) := by omega
          have HF : Hid (R = false) := Lib.hid (by
            rw [← hR.out]
            unfold fewH
            have : ¬ fs.all shortH = true := fun h => by
              have := List.all_eq_true.1 h f HM_f.out
              unfold shortH at this; simp at this; omega
            simp [this])
          clear hf
          go_wp2_with fail
          go_ret
          exact ⟨by rw [HF.out]; rfl, rfl⟩
      · have hlz : ¬ (k : Int) < (n : Int) := by omega
        obtain rfl : n = k := by omega
        have HF : Hid (R = true) := Lib.hid (by
          have h := HS.out
          rw [List.take_of_length_le (by rw [HL.out]; exact Nat.le_refl _)] at h
          rw [← hR.out]
          unfold fewH
          rw [h, HL.out, decide_eq_true hm]; rfl)
        go_wp2_with fail
        go_ret
        exact ⟨by rw [HF.out]; rfl, rfl⟩
  · have q0 : (30 : Int) < (n : Int) := by omega
    have HF : Hid (R = false) := Lib.hid (by
      rw [← hR.out]
      unfold fewH
      rw [HL.out, decide_eq_false hm]; rfl)
    go_enter Try.func20, Try.ntmps20
    go_wp2_with fail
    go_ret
    exact ⟨by rw [HF.out]; rfl, rfl⟩
theorem hold_neq (v : HoldV) (w : World) : (binOp .neq 60 (.agg #[.int .i64 v.k, .int .i64 v.m, .int .i64 v.a, .int .i64 v.z]) (.agg #[.int .i64 v.k, .int .i64 v.m, .int .i64 v.a, .int .i64 v.z])).run Try.prog w = .ok (.bool false) w := by
  have u3 := Try.underlying3
  have u2 := Try.underlying2
  have hS : Try.prog.underlying 60 = some (.struct (Try.prog.fieldsOf 60)) := by kernel_rfl
  have hp : Try.prog.stoodInHeld 60 = false := by kernel_rfl
  rw [run_neq_struct, show (10000 : Nat) = 9999 + 1 from rfl, run_equalIn_agg w 9999 60 _ _ hS hp]
  simp only [Program.fieldsOf, Try.underlying60]
  go_simp

/-! ### The page's example -/
def awL0 : List Int := List.replicate (1 * cnt 2) 0
def awL1 : List Int := hmB 2 1 awL0 [] ⟨7, 1⟩ ⟨8, 1⟩ 0 10
def awS1 : List HRow := [⟨5, ⟨8, 1, 0, 7⟩⟩]
def awL2 : List Int := hmB 2 1 awL1 awS1 ⟨8, 1⟩ ⟨7, 1⟩ 0 3
theorem awh1 : hmK 2 1 awL0 [] ⟨7, 1⟩ ⟨8, 1⟩ 0 10 = 0 := by decide
theorem awh2 : plcK 2 1 awL1 [] 3 5 ⟨8, 1, 0, 7⟩ = 0 := by decide
theorem awh3 : hmK 2 1 awL1 awS1 ⟨8, 1⟩ ⟨7, 1⟩ 0 4 = 13 ∧ hmB 2 1 awL1 awS1 ⟨8, 1⟩ ⟨7, 1⟩ 0 4 = awL1 := by decide
theorem awh4 : hmK 2 1 awL1 awS1 ⟨8, 1⟩ ⟨7, 1⟩ 0 3 = 0 := by decide
theorem awh5 : uhK 2 1 awL2 awS1 ⟨8, 1, 0⟩ = (0, 0) := by decide
theorem awh6 : plcS 2 1 awL1 [] 3 5 ⟨8, 1, 0, 7⟩ = awS1 := by rfl
end Go.Proofs.Ytelbolhckhdioaa
