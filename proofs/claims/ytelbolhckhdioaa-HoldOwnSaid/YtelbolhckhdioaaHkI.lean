import Derived.Test.YtelbolhckhdioaaHkH
import Derived.Test.YtelbolhckhdioaaHkC
/-! ## from HdH -/
namespace Go.Proofs.Ytelbolhckhdioaa
open Go.RowKit

/-! ### A vault beside the document's -/
structure TwoH (W : World) (gv gt h M A : Nat) (droom : Int) (k : Nat) (w : World) (gb : Nat) (vb : Value) (bl : List Int) (p : Int) (vt : Value) (S : List HRow) (L : List Ent) (v : Value) (q : Int) (u : Value) (D : List HRow) : Prop where
  st : KeepSt W gv gt M A (max droom 0) k w gb vb bl p vt S L
  doc : QvtV w h W.heap.size M A v L q droom u D
  rel : TTbH.RelT S D
  q0 : 0 ≤ q ∧ q ≤ (k : Nat)
  hh : W.heap.size ≤ h
  len : L.length ≤ 8 * k
  ln : S.length ≤ k
theorem QvtV.onlyV {w w1 : World} {gv gb gt base M A h : Nat} {vb vt v u : Value} {bl : List Int} {p room q droom : Int} {S D : List HRow} {L : List Ent} (H : QvtV w h base M A v L q droom u D) (hx : VltV w gv gb gt base M A vb bl p room vt S) (ho : OnlyS (vbad gv gt vt) w w1) : QvtV w1 h base M A v L q droom u D := by
  refine ⟨⟨H.book.form, ho.blk H.book.blk fun hb => ?_, ho.own H.book.row fun k hk hb => ?_, H.book.ok, H.book.len⟩, H.form, ho.own H.row fun k hk hb => ?_, H.len⟩
  · rcases hb with e | e | e
    · exact blk_neZ H.book.blk hx.blk (by decide) e
    · exact blk_neZ H.book.blk hx.tab.blk (by decide) e
    · exact own_blk_ne hx.tab.row H.book.blk (by decide) e
  · rcases hb with e | e | e
    · exact own_blk_ne H.book.row hx.blk (by decide) (e ▸ hk)
    · exact own_blk_ne H.book.row hx.tab.blk (by decide) (e ▸ hk)
    · exact own_neZ H.book.row hx.tab.row (by decide) k e hk
  · rcases hb with e | e | e
    · exact own_blk_ne H.row hx.blk (by decide) (e ▸ hk)
    · exact own_blk_ne H.row hx.tab.blk (by decide) (e ▸ hk)
    · exact own_neZ H.row hx.tab.row (by decide) k e hk
theorem VltV.onlyD {w w1 : World} {gv gb gt base M A h : Nat} {vb vt v u : Value} {bl : List Int} {p room q droom : Int} {S D : List HRow} {L : List Ent} (hx : VltV w gv gb gt base M A vb bl p room vt S) (H : QvtV w h base M A v L q droom u D) (ho : OnlyS (dbad h v u) w w1) : VltV w1 gv gb gt base M A vb bl p room vt S := by
  refine ⟨ho.blk hx.blk fun hb => ?_, ⟨hx.book.form, ho.blk hx.book.blk fun hb => ?_, ho.own hx.book.row fun k hk hb => ?_, hx.book.len, hx.book.hM, hx.book.hA⟩, ⟨hx.tab.form, ho.blk hx.tab.blk fun hb => ?_, ho.own hx.tab.row fun k hk hb => ?_, hx.tab.ris, hx.tab.len, hx.tab.rm⟩, hx.hv, hx.hb, hx.ht⟩
  · rcases hb with e | e | e
    · exact blk_neZ hx.blk H.book.blk (by decide) e
    · exact own_blk_ne H.book.row hx.blk (by decide) e
    · exact own_blk_ne H.row hx.blk (by decide) e
  · rcases hb with e | e | e
    · exact blk_neZ hx.book.blk H.book.blk (by decide) e
    · exact own_blk_ne H.book.row hx.book.blk (by decide) e
    · exact own_blk_ne H.row hx.book.blk (by decide) e
  · rcases hb with e | e | e
    · exact own_blk_ne hx.book.row H.book.blk (by decide) (e ▸ hk)
    · exact own_neZ hx.book.row H.book.row (by decide) k e hk
    · exact own_neZ hx.book.row H.row (by decide) k e hk
  · rcases hb with e | e | e
    · exact blk_neZ hx.tab.blk H.book.blk (by decide) e
    · exact own_blk_ne H.book.row hx.tab.blk (by decide) e
    · exact own_blk_ne H.row hx.tab.blk (by decide) e
  · rcases hb with e | e | e
    · exact own_blk_ne hx.tab.row H.book.blk (by decide) (e ▸ hk)
    · exact own_neZ hx.tab.row H.book.row (by decide) k e hk
    · exact own_neZ hx.tab.row H.row (by decide) k e hk
section
variable {W w w1 w2 : World} {gv gt h M A k gb : Nat} {droom : Int} {vb vt v u : Value} {bl bl' : List Int} {p q K : Int} {S S' D D' : List HRow} {L L' : List Ent} {e e2 : Ending}
theorem TwoH.past (H : TwoH W gv gt h M A droom k w gb vb bl p vt S L v q u D) (hb : Below w.heap.size w w1) : TwoH W gv gt h M A droom k w1 gb vb bl p vt S L v q u D :=
  ⟨H.st.past hb, H.doc.past hb, H.rel, H.q0, H.hh, H.len, H.ln⟩
theorem TwoH.mid (H : TwoH W gv gt h M A droom k w gb vb bl p vt S L v q u D) (hv : VPost gv gt W.heap.size M A p (max droom 0) vt K bl' S' w e w1) : QvtV w1 h W.heap.size M A v L q droom u D ∧ Below W.heap.size W w1 := by
  obtain ⟨_, gb', vb', p', vt', h1, h2, h3, h4⟩ := hv
  refine ⟨H.doc.onlyV H.st.v h2, Below.trans H.st.below (h2.frame H.st.below.size fun j _ hj => ?_)⟩
  rcases hj with rfl | rfl | hj
  · exact H.st.v.hv
  · exact H.st.v.ht
  · exact (H.st.v.tab.row.lt j hj).1
def NextH (W : World) (gv gt h M A : Nat) (droom : Int) (k : Nat) (w : World) : Prop := ∃ gb vb bl p vt S L v q u D, TwoH W gv gt h M A droom k w gb vb bl p vt S L v q u D
theorem TwoH.next (H : TwoH W gv gt h M A droom k w gb vb bl p vt S L v q u D) (hv : VPost gv gt W.heap.size M A p (max droom 0) vt K bl' S' w e w1) (hq : QPost h W.heap.size M A v q droom u K L' D' w1 e2 w2) (hi : KeepI M A bl' S' L') (hr : TTbH.RelT S' D') (hl : (S'.length : Int) ≤ max droom 0) (hln : S'.length ≤ S.length + 1) (hLn : L'.length ≤ L.length + 8) : NextH W gv gt h M A droom (k + 1) w2 := by
  have hm := H.mid hv
  obtain ⟨gb', vb', p', vt', L2, hst⟩ := H.st.next (Below.refl _ _) hv hi hl
  obtain ⟨_, gb1, vb1, p1, vt1, hv1, _, _, hp1⟩ := hv
  obtain ⟨_, v', q', u', h1, h2, h3, h4, h5⟩ := hq
  have hB : Below W.heap.size W w2 := Below.trans hm.2 (h2.frame hm.2.size fun j _ hj => by
    rcases hj with rfl | hj | hj
    · exact H.hh
    · exact (H.doc.book.row.lt j hj).1
    · exact (H.doc.row.lt j hj).1)
  refine ⟨gb1, vb1, bl', p1, vt1, S', L', v', q', u', D', ⟨hv1.onlyD hm.1 h2, hi, hl, ?_, hB⟩, h1, hr, ?_, H.hh, ?_, ?_⟩
  · have := H.st.p0
    rcases hp1 with rfl | rfl <;> omega
  · have := H.q0
    rcases h5 with rfl | rfl <;> omega
  · have := H.len; omega
  · have := H.ln; omega
/-- What a call of both comes to. -/
def BothH (W w : World) (gv gt h M A : Nat) (droom : Int) (p : Int) (vt : Value) (S : List HRow) (L : List Ent) (v : Value) (q : Int) (u : Value) (D : List HRow) (fv : FuncId) (av : Array Value) (fq : FuncId) (aq : Array Value) : Prop :=
  ∃ (K : Int) (bl' : List Int) (S' : List HRow) (L' : List Ent) (D' : List HRow),
    Calls Try.prog fv av w (VPost gv gt W.heap.size M A p (max droom 0) vt K bl' S' w) ∧
    (∀ w1, QvtV w1 h W.heap.size M A v L q droom u D → Below W.heap.size W w1 → Calls Try.prog fq aq w1 (QPost h W.heap.size M A v q droom u K L' D' w1)) ∧
    KeepI M A bl' S' L' ∧ TTbH.RelT S' D' ∧ S'.length ≤ S.length + 1 ∧ (S'.length : Int) ≤ max droom 0 ∧ L'.length ≤ L.length + 8
theorem hpL_len (M A : Nat) (bl : List Int) (S : List HRow) (L l : List Ent) : (hpL M A bl S L l).length ≤ L.length + l.length := by
  unfold hpL; split
  · rw [List.length_append]; exact Nat.le_refl _
  · omega
theorem both_post (f : ActH) (H : TwoH W gv gt h M A droom k w gb vb bl p vt S L v q u D) (hM : M ≤ 16) (hA : A ≤ 9) (hf : ActHOk W f) (h8 : f.l.length ≤ 8) (hk : k ≤ 100) :
    BothH W w gv gt h M A droom p vt S L v q u D 27 #[.pointer (some ⟨gv, 0, none⟩), .slice f.P f.l.length f.c] 66 #[.pointer (some ⟨h, 0, none⟩), .slice f.P f.l.length f.c] := by
  have hkp := H.st.p0
  have hkq := H.q0
  have hi := H.st.i.hinv.post (l := f.l) hM H.st.i.inv
  have hll := hpL_len M A bl S L f.l
  have hLk := H.len
  refine ⟨hpK M A bl S f.l, hpB M A bl S f.l, S, hpL M A bl S L f.l, D, postV_any f.P f.l.length f.c f.l w H.st.v H.st.i.hinv H.st.i.inv.inn (hf.past H.st.below).rd (by omega) hf.ok ⟨hkp.1, by omega⟩ H.st.below.size, fun w1 hq1 hb1 => ?_, ⟨hi.1, hi.2, H.st.i.ok⟩, H.rel, by omega, H.st.len, by omega⟩
  rw [hpK_perm H.rel.perm, hpL_perm H.rel.perm]
  refine (refPostV_any f.P f.l.length f.c f.l w1 hM hA H.st.i.inv (H.st.i.hinv.perm H.rel.perm) hq1 (hf.past hb1).rd (fun hn b off he => ?_) (by omega) (by omega) hf.ok ⟨hkq.1, by omega⟩ hb1.size).mono fun e w' hd => hd.q
  obtain ⟨b', off', he', hb', _⟩ := hf.rd.2 hn
  rw [he] at he'
  injection he' with he'
  injection he' with h1 h2
  subst h1
  refine ⟨fun e => by have := H.hh; omega, fun e => ?_⟩
  have := (hq1.book.row.lt _ e).1
  omega
theorem hmK_perm {M A : Nat} {bl : List Int} {S D : List HRow} (hp : S.Perm D) (x y : Acc) (a z : Int) : hmK M A bl S x y a z = hmK M A bl D x y a z := by
  unfold hmK; rw [hpK_perm hp]
theorem hmL_perm {M A : Nat} {bl : List Int} {S D : List HRow} (hp : S.Perm D) (L : List Ent) (x y : Acc) (a z : Int) : hmL M A bl S L x y a z = hmL M A bl D L x y a z := by
  unfold hmL; rw [hpL_perm hp]
theorem hmL_len (M A : Nat) (bl : List Int) (S : List HRow) (L : List Ent) (x y : Acc) (a z : Int) : (hmL M A bl S L x y a z).length ≤ L.length + 8 := by
  unfold hmL; split
  · omega
  · have := hpL_len M A bl S L (moveE x y a z)
    have h2 : (moveE x y a z).length = 2 := rfl
    omega
theorem both_move (f : ActH) (H : TwoH W gv gt h M A droom k w gb vb bl p vt S L v q u D) (hM : M ≤ 16) (hA : A ≤ 9) (hf : ActHOk W f) (hk : k ≤ 100) :
    BothH W w gv gt h M A droom p vt S L v q u D 28 #[.pointer (some ⟨gv, 0, none⟩), .agg #[.int .i64 f.x.kind, .int .i64 f.x.member], .agg #[.int .i64 f.y.kind, .int .i64 f.y.member], .int .i64 f.a, .int .i64 f.z] 67 #[.pointer (some ⟨h, 0, none⟩), .agg #[.int .i64 f.x.kind, .int .i64 f.x.member], .agg #[.int .i64 f.y.kind, .int .i64 f.y.member], .int .i64 f.a, .int .i64 f.z] := by
  have hkp := H.st.p0
  have hkq := H.q0
  have hi := H.st.i.hinv.move hM H.st.i.inv f.x f.y f.a f.z
  have hLk := H.len
  refine ⟨hmK M A bl S f.x f.y f.a f.z, hmB M A bl S f.x f.y f.a f.z, S, hmL M A bl S L f.x f.y f.a f.z, D, moveV_any f.x f.y f.a f.z w H.st.v H.st.i.hinv H.st.i.inv.inn hf.x hf.y hf.a hf.z ⟨hkp.1, by omega⟩ H.st.below.size, fun w1 hq1 hb1 => ?_, ⟨hi.1, hi.2, H.st.i.ok⟩, H.rel, by omega, H.st.len, hmL_len ..⟩
  rw [hmK_perm H.rel.perm, hmL_perm H.rel.perm]
  exact (refMoveV_any f.x f.y f.a f.z w1 hM hA H.st.i.inv (H.st.i.hinv.perm H.rel.perm) hq1 hf.x hf.y hf.a hf.z (by omega) ⟨hkq.1, by omega⟩ hb1.size).mono fun e w' hd => hd.q
theorem plcK_perm {M A : Nat} {bl : List Int} {S D : List HRow} (hr : TTbH.RelT S D) (droom id : Int) (f : HoldV) : plcK M A bl S (max droom 0) id f = plcK M A bl D droom id f := by
  have e : (max droom 0 ≤ ((S.length : Nat) : Int)) = (droom ≤ ((D.length : Nat) : Int)) := propext (by rw [hr.len]; omega)
  unfold plcK
  rw [hr.is, heldH_perm hr.perm]
  simp only [e]
theorem both_place (f : ActH) (H : TwoH W gv gt h M A droom k w gb vb bl p vt S L v q u D) (hM : M ≤ 16) (hf : ActHOk W f) (hk : k ≤ 100) :
    BothH W w gv gt h M A droom p vt S L v q u D 29 #[.pointer (some ⟨gv, 0, none⟩), .int .i64 f.id, .agg #[.int .i64 f.x.kind, .int .i64 f.x.member, .int .i64 f.a, .int .i64 f.z]] 68 #[.pointer (some ⟨h, 0, none⟩), .int .i64 f.id, .agg #[.int .i64 f.x.kind, .int .i64 f.x.member, .int .i64 f.a, .int .i64 f.z]] := by
  have hki := keep_place (id := f.id) (h := ⟨f.x.kind, f.x.member, f.a, f.z⟩) H.st.i H.st.len ⟨hf.x, hf.a, hf.z⟩
  have hln := H.ln
  have hpk := plcK_perm (M := M) (A := A) (bl := bl) H.rel droom f.id ⟨f.x.kind, f.x.member, f.a, f.z⟩
  refine ⟨plcK M A bl S (max droom 0) f.id ⟨f.x.kind, f.x.member, f.a, f.z⟩, bl, plcS M A bl S (max droom 0) f.id ⟨f.x.kind, f.x.member, f.a, f.z⟩, L, qplD M A bl D droom f.id ⟨f.x.kind, f.x.member, f.a, f.z⟩, placeV_any f.id ⟨f.x.kind, f.x.member, f.a, f.z⟩ w H.st.v H.st.i.hinv H.st.i.inv.inn H.st.len (by omega) H.st.below.size, fun w1 hq1 hb1 => ?_, hki.1, ?_, ?_, hki.2, by omega⟩
  · rw [hpk]
    exact refPlace_any f.id ⟨f.x.kind, f.x.member, f.a, f.z⟩ w1 hM H.st.i.inv (H.st.i.hinv.perm H.rel.perm) hq1 (by have := H.rel.len; omega) hb1.size
  · unfold plcS qplD
    rw [hpk]
    split
    · rename_i h0
      rw [← hpk] at h0
      exact H.rel.put (plcK_zero h0).2.2.2.1
    · exact H.rel
  · unfold plcS
    split
    · rw [TTbH.insT_len]; exact Nat.le_refl _
    · omega
theorem isT_ex {D : List HRow} {id : Int} (h : TTbH.isT D id = true) : ∃ (k : Nat) (r : HRow), D[k]? = some r ∧ r.id = id := by
  obtain ⟨r, hr, hid⟩ := List.any_eq_true.1 h
  obtain ⟨k, hk⟩ := List.getElem?_of_mem hr
  exact ⟨k, r, hk, by simpa using hid⟩
theorem both_release (id : Int) (H : TwoH W gv gt h M A droom k w gb vb bl p vt S L v q u D) :
    BothH W w gv gt h M A droom p vt S L v q u D 30 #[.pointer (some ⟨gv, 0, none⟩), .int .i64 id] 69 #[.pointer (some ⟨h, 0, none⟩), .int .i64 id] := by
  have hki := keep_rel (id := id) H.st.i H.st.len
  refine ⟨relK S id, bl, relS S id, L, relD D id, releaseV_any id w H.st.v, fun w1 hq1 hb1 => ?_, hki.1, ?_, ?_, hki.2, by omega⟩
  · rw [show relK S id = relK D id by unfold relK; rw [H.rel.is]]
    exact refRelease_any id w1 hq1 H.rel.dist hb1.size
  · unfold relS relD
    rw [H.rel.is]
    split
    · rename_i hi
      obtain ⟨j, r, hr, rfl⟩ := isT_ex hi
      exact H.rel.drop hr
    · exact H.rel
  · unfold relS
    split
    · simp [TTbH.outT]; omega
    · omega
theorem both_capture (f : ActH) (H : TwoH W gv gt h M A droom k w gb vb bl p vt S L v q u D) (hM : M ≤ 16) (hA : A ≤ 9) (hf : ActHOk W f) (hk : k ≤ 100) :
    BothH W w gv gt h M A droom p vt S L v q u D 31 #[.pointer (some ⟨gv, 0, none⟩), .int .i64 f.id, .agg #[.int .i64 f.y.kind, .int .i64 f.y.member], .int .i64 f.z] 70 #[.pointer (some ⟨h, 0, none⟩), .int .i64 f.id, .agg #[.int .i64 f.y.kind, .int .i64 f.y.member], .int .i64 f.z] := by
  have hkp := H.st.p0
  have hkq := H.q0
  have hLk := H.len
  cases hid : TTbH.isT D f.id with
  | false =>
    have his : TTbH.isT S f.id = false := by rw [H.rel.is]; exact hid
    exact ⟨8, bl, S, L, D, capV_no f.id f.y f.z w H.st.v his, fun w1 hq1 hb1 => refCap_no f.id f.y f.z w1 hq1 hid, H.st.i, H.rel, by omega, H.st.len, by omega⟩
  | true =>
    have his : TTbH.isT S f.id = true := by rw [H.rel.is]; exact hid
    obtain ⟨j, r, hr, hrid⟩ := isT_ex hid
    have hsr := H.rel.at_ hr
    rw [hrid] at hsr
    by_cases hz : f.z < 0
    · exact ⟨1, bl, S, L, D, capV_neg f.id f.y f.z r w H.st.v his hsr hz, fun w1 hq1 hb1 => by rw [← hrid]; exact refCap_neg f.y f.z j r w1 hq1 H.rel.dist hr hz, H.st.i, H.rel, by omega, H.st.len, by omega⟩
    · by_cases hm : r.v.z < f.z
      · exact ⟨12, bl, S, L, D, capV_much f.id f.y f.z r w H.st.v his hsr hz hm, fun w1 hq1 hb1 => by rw [← hrid]; exact refCap_much f.y f.z j r w1 hq1 H.rel.dist hr hz hm, H.st.i, H.rel, by omega, H.st.len, by omega⟩
      · have ho := H.st.i.ok r (List.mem_of_getElem? hsr)
        have hrs := H.rel.set hr (lessH r f.z)
        have h1 := H.st.i.hinv.less hsr (z := f.z) (by omega) (by omega)
        have h2 := h1.move hM H.st.i.inv ⟨r.v.k, r.v.m⟩ f.y r.v.a f.z
        rw [hrid] at hrs
        have hse : S.set (TTbH.posT S f.id) ⟨f.id, lessH r f.z⟩ = S.set (TTbH.posT S f.id) ⟨r.id, lessH r f.z⟩ := by rw [hrid]
        have hde : D.set j ⟨f.id, lessH r f.z⟩ = D.set j ⟨r.id, lessH r f.z⟩ := by rw [hrid]
        rw [hse, hde] at hrs
        refine ⟨_, _, _, hmL M A bl (S.set (TTbH.posT S f.id) ⟨r.id, lessH r f.z⟩) L ⟨r.v.k, r.v.m⟩ f.y r.v.a f.z, (if hmK M A bl (S.set (TTbH.posT S f.id) ⟨r.id, lessH r f.z⟩) ⟨r.v.k, r.v.m⟩ f.y r.v.a f.z = 0 then D.set j ⟨r.id, lessH r f.z⟩ else D), capV_go f.id f.y f.z r w H.st.v his hsr hz hm H.st.i.hinv H.st.i.inv.inn ho.1 hf.y ho.2.1 hf.z ho.2.2 ⟨hkp.1, by omega⟩ H.st.below.size, fun w1 hq1 hb1 => ?_, ?_, ?_, ?_, ?_, hmL_len ..⟩
        · rw [hmK_perm hrs.perm, hmL_perm hrs.perm, ← hrid]
          exact refCap_go f.y f.z j r w1 hM hA H.st.i.inv (H.st.i.hinv.perm H.rel.perm) hq1 H.rel.dist hr hz hm ho.1 hf.y ho.2.1 hf.z ho.2.2 (by omega) ⟨hkq.1, by omega⟩ hb1.size
        · by_cases hk0 : hmK M A bl (S.set (TTbH.posT S f.id) ⟨r.id, lessH r f.z⟩) ⟨r.v.k, r.v.m⟩ f.y r.v.a f.z = 0
          · rw [if_pos hk0]
            exact ⟨h2.1, h2.2, hok_set H.st.i.ok hsr (by omega) (by omega)⟩
          · rw [if_neg hk0]
            refine ⟨h2.1, ?_, H.st.i.ok⟩
            have hb : hmB M A bl (S.set (TTbH.posT S f.id) ⟨r.id, lessH r f.z⟩) ⟨r.v.k, r.v.m⟩ f.y r.v.a f.z = bl := by
              unfold hmB
              unfold hmK at hk0
              split
              · rfl
              · rename_i hzz
                rw [if_neg hzz] at hk0
                unfold hpB
                rw [if_neg hk0]
            rw [hb]
            exact H.st.i.hinv
        · split
          · exact hrs
          · exact H.rel
        · split
          · rw [List.length_set]; omega
          · omega
        · split
          · rw [List.length_set]; exact H.st.len
          · exact H.st.len
end
end Go.Proofs.Ytelbolhckhdioaa

/-! ## from HdI -/
namespace Go.Proofs.Ytelbolhckhdioaa
open Go.RowKit

/-! ### does: a call of both -/
def DoesHP (W : World) (gv gt h M A : Nat) (droom : Int) (k : Nat) (e : Ending) (w' : World) : Prop := e = .returned (.bool true) ∧ NextH W gv gt h M A droom k w'
theorem hstayV {w w1 : World} {gv gb gt base M A : Nat} {vb vt : Value} {bl : List Int} {p room : Int} {S : List HRow} {xb : Nat} {t : TypeId} {arr : Array Value} (hx : VltV w gv gb gt base M A vb bl p room vt S) (hb : Blk w xb t arr) (ho : OnlyS (vbad gv gt vt) w w1) (h1 : t ≠ 121) (h2 : t ≠ 180) (h3 : 132 ≠ t) : Blk w1 xb t arr :=
  ho.blk hb fun hbad => by
    rcases hbad with e | e | e
    · exact blk_neZ hb hx.blk h1 e
    · exact blk_neZ hb hx.tab.blk h2 e
    · exact own_blk_ne hx.tab.row hb h3 e
theorem hstayD {w w1 : World} {h base M A : Nat} {v u : Value} {L : List Ent} {q droom : Int} {D : List HRow} {xb : Nat} {t : TypeId} {arr : Array Value} (hx : QvtV w h base M A v L q droom u D) (hb : Blk w xb t arr) (ho : OnlyS (dbad h v u) w w1) (h1 : t ≠ 49) (h2 : 110 ≠ t) (h3 : 124 ≠ t) : Blk w1 xb t arr :=
  ho.blk hb fun hbad => by
    rcases hbad with e | e | e
    · exact blk_neZ hb hx.blk h1 e
    · exact own_blk_ne hx.book.row hb h2 e
    · exact own_blk_ne hx.row hb h3 e
section
variable {W : World} {gv gt h M A k gb : Nat} {droom : Int} {vb vt v u : Value} {bl : List Int} {p q : Int} {S D : List HRow} {L : List Ent}
set_option maxHeartbeats 8000000 in
set_option maxRecDepth 100000 in
theorem doesH_post (f : ActH) (w : World) (H : TwoH W gv gt h M A droom k w gb vb bl p vt S L v q u D) (hM : M ≤ 16) (hA : A ≤ 9) (hf : ActHOk W f) (h8 : f.l.length ≤ 8) (hk : k ≤ 100) (hkd : f.kd = 0) :
    Calls Try.prog 23 #[.pointer (some ⟨gv, 0, none⟩), .pointer (some ⟨h, 0, none⟩), .agg #[.int .i64 f.kd, .slice f.P f.l.length f.c, .int .i64 f.id, .int .i64 f.x.kind, .int .i64 f.x.member, .int .i64 f.y.kind, .int .i64 f.y.member, .int .i64 f.a, .int .i64 f.z]] w (DoesHP W gv gt h M A droom (k + 1)) := by
  have bx0 := Blk.new w 54 #[.int .i64 f.kd, .slice f.P f.l.length f.c, .int .i64 f.id, .int .i64 f.x.kind, .int .i64 f.x.member, .int .i64 f.y.kind, .int .i64 f.y.member, .int .i64 f.a, .int .i64 f.z] w.heap.size rfl
  have by0 := Blk.new (w.alloc (.cells #[.int .i64 f.kd, .slice f.P f.l.length f.c, .int .i64 f.id, .int .i64 f.x.kind, .int .i64 f.x.member, .int .i64 f.y.kind, .int .i64 f.y.member, .int .i64 f.a, .int .i64 f.z] 54)) 60 #[.int .i64 f.x.kind, .int .i64 f.x.member, .int .i64 f.a, .int .i64 f.z] (w.heap.size + 1) (by simp)
  have hB0 := ((Below.refl w.heap.size w).alloc (Nat.le_refl _) (.cells #[.int .i64 f.kd, .slice f.P f.l.length f.c, .int .i64 f.id, .int .i64 f.x.kind, .int .i64 f.x.member, .int .i64 f.y.kind, .int .i64 f.y.member, .int .i64 f.a, .int .i64 f.z] 54)).alloc (by simp) (.cells #[.int .i64 f.x.kind, .int .i64 f.x.member, .int .i64 f.a, .int .i64 f.z] 60)
  have bx := bx0.alloc (.cells #[.int .i64 f.x.kind, .int .i64 f.x.member, .int .i64 f.a, .int .i64 f.z] 60)
  obtain ⟨W0, hW0⟩ : ∃ W0, Hid ((w.alloc (.cells #[.int .i64 f.kd, .slice f.P f.l.length f.c, .int .i64 f.id, .int .i64 f.x.kind, .int .i64 f.x.member, .int .i64 f.y.kind, .int .i64 f.y.member, .int .i64 f.a, .int .i64 f.z] 54)).alloc (.cells #[.int .i64 f.x.kind, .int .i64 f.x.member, .int .i64 f.a, .int .i64 f.z] 60) = W0) := ⟨_, Lib.hid rfl⟩
  rw [hW0.out] at bx by0 hB0
  obtain ⟨xb, hxb⟩ : ∃ xb, Hid (w.heap.size = xb) := ⟨_, Lib.hid rfl⟩
  obtain ⟨yb, hyb⟩ : ∃ yb, Hid (xb + 1 = yb) := ⟨_, Lib.hid rfl⟩
  rw [hxb.out] at bx by0
  rw [hyb.out] at by0
  have HH := Lib.hid (H.past hB0)
  have HX := Lib.hid bx
  have HY := Lib.hid by0
  have hdr := Below.drew (Below.refl W0.heap.size W0)
  have HH0 := Lib.hid (HH.out.past hdr)
  have HX0 := Lib.hid (HX.out.past hdr)
  have HY0 := Lib.hid (HY.out.past hdr)
  obtain ⟨K, bl', S', L', D', hcv, hcq, hki, hre, hl1, hl2, hl3⟩ := both_post f HH0.out hM hA hf h8 hk
  have HCV := Lib.hid hcv
  have HCQ := Lib.hid hcq
  have HKI := Lib.hid hki
  have HRE := Lib.hid hre
  have hCC : (K == K) = true := by simp
  have q0 : (f.kd == 0) = true := by rw [hkd]; rfl
  have x0 := (HX.out).cell 0
  have x1 := (HX.out).cell 1
  have x2 := (HX.out).cell 2
  have x3 := (HX.out).cell 3
  have x4 := (HX.out).cell 4
  have x5 := (HX.out).cell 5
  have x6 := (HX.out).cell 6
  have x7 := (HX.out).cell 7
  have x8 := (HX.out).cell 8
  simp at x0 x1 x2 x3 x4 x5 x6 x7 x8
  have y0 := (HY.out).cell 0
  have y1 := (HY.out).cell 1
  have y2 := (HY.out).cell 2
  have y3 := (HY.out).cell 3
  simp at y0 y1 y2 y3
  clear H bx0 by0 bx hB0 hdr hcv hcq hki hre hkd
  go_enter Try.func23, Try.ntmps23
  go_upto_region 2 with fail
  rw [hW0.out, hxb.out, hyb.out]
  go_upto_region 4 with fail
  have hS0 : W0.drew.cell? ⟨xb, 1, none⟩ = some (.slice f.P f.l.length f.c) := by simpa using HX0.out.cell 1
  refine wp_region_held_drew (S := fun w' => w'.cell? ⟨xb, 1, none⟩ = some (.slice f.P f.l.length f.c)) (by kernel_rfl) hS0 (fun hHeld => ?_)
  clear hS0 x0 x1 x2 x3 x4 x5 x6 x7 x8 y0 y1 y2 y3
  refine wpAnyH_take (i := 0) (v := ?_) rfl (by kernel_rfl) (by kernel_rfl) (by kernel_rfl) (fun _ _ _ h => h) (Or.inl ⟨by rfl, ?_⟩) (by assumption) ?_
  rotate_left
  · (intro w' hSw; (try dsimp only at hSw); first | (go_simp; done) | (go_simp; with_reducible rfl))
  try simp only [Act.put, List.getElem_toArray, List.getElem_cons_zero, List.getElem_cons_succ, List.setIfInBounds_toArray, List.set_cons_zero, List.set_cons_succ]
  refine wpAnyH_take (i := 1) (v := ?_) rfl (by kernel_rfl) (by kernel_rfl) (by kernel_rfl) (fun _ _ _ h => h) (Or.inl ⟨by rfl, ?_⟩) (by assumption) ?_
  rotate_left
  · (intro w' hSw; (try dsimp only at hSw); first | (go_simp; done) | (go_simp; with_reducible rfl))
  try simp only [Act.put, List.getElem_toArray, List.getElem_cons_zero, List.getElem_cons_succ, List.setIfInBounds_toArray, List.set_cons_zero, List.set_cons_succ]
  refine wpAnyH_take (i := 2) (v := ?_) rfl (by kernel_rfl) (by kernel_rfl) (by kernel_rfl) (fun _ _ _ h => h) (Or.inl ⟨by rfl, ?_⟩) (by assumption) ?_
  rotate_left
  · (intro w' hSw; (try dsimp only at hSw); first | (go_simp; done) | (go_simp; with_reducible rfl))
  try simp only [Act.put, List.getElem_toArray, List.getElem_cons_zero, List.getElem_cons_succ, List.setIfInBounds_toArray, List.set_cons_zero, List.set_cons_succ]
  refine wpAnyH_take (i := 4) (v := ?_) rfl (by kernel_rfl) (by kernel_rfl) (by kernel_rfl) (fun _ _ _ h => h) (Or.inl ⟨by rfl, ?_⟩) (by assumption) ?_
  rotate_left
  · (intro w' hSw; (try dsimp only at hSw); first | (go_simp; done) | (go_simp; with_reducible rfl))
  try simp only [Act.put, List.getElem_toArray, List.getElem_cons_zero, List.getElem_cons_succ, List.setIfInBounds_toArray, List.set_cons_zero, List.set_cons_succ]
  refine wpAnyH_take (i := 5) (v := ?_) rfl (by kernel_rfl) (by kernel_rfl) (by kernel_rfl) (fun _ _ _ h => h) (Or.inl ⟨by rfl, ?_⟩) (by assumption) ?_
  rotate_left
  · (intro w' hSw; (try dsimp only at hSw); first | (go_simp; done) | (go_simp; with_reducible rfl))
  try simp only [Act.put, List.getElem_toArray, List.getElem_cons_zero, List.getElem_cons_succ, List.setIfInBounds_toArray, List.set_cons_zero, List.set_cons_succ]
  refine wpAnyH_take (i := 6) (v := ?_) rfl (by kernel_rfl) (by kernel_rfl) (by kernel_rfl) (fun _ _ _ h => h) (Or.inl ⟨by rfl, ?_⟩) (by assumption) ?_
  rotate_left
  · (intro w' hSw; (try dsimp only at hSw); first | (go_simp; done) | (go_simp; with_reducible rfl))
  try simp only [Act.put, List.getElem_toArray, List.getElem_cons_zero, List.getElem_cons_succ, List.setIfInBounds_toArray, List.set_cons_zero, List.set_cons_succ]
  refine wpAnyH_ready (rs := [3]) (by kernel_rfl) (by simp) ?_
  refine AllReadyH.cons rfl (fun K hK => ?_) AllReadyH.nil
  go_simp
  go_at_call 27
  refine HCV.out.mono ?_
  rintro e w2 hvp
  obtain rfl := hvp.1
  have HVP := Lib.hid hvp
  have HMD := Lib.hid (HH0.out.mid hvp)
  obtain ⟨_, gb2, vb2, p2, vt2, hv2, ho2, hd2, hp2⟩ := hvp
  have HX2 := Lib.hid (hstayV HH0.out.st.v HX0.out ho2 (by decide) (by decide) (by decide))
  have HY2 := Lib.hid (hstayV HH0.out.st.v HY0.out ho2 (by decide) (by decide) (by decide))
  have HQC := Lib.hid (HCQ.out w2 HMD.out.1 HMD.out.2)
  clear hv2 ho2 hd2 hp2 hHeld
  refine hK.out _ _ (by simpa using HX2.out.cell 1) (fun hHeld => ?_)
  try simp only [Act.put, List.getElem_toArray, List.getElem_cons_zero, List.getElem_cons_succ, List.setIfInBounds_toArray, List.set_cons_zero, List.set_cons_succ]
  refine wpAnyH_ready (rs := [7]) (by kernel_rfl) (by simp) ?_
  refine AllReadyH.cons rfl (fun K hK => ?_) AllReadyH.nil
  go_simp
  go_at_call 66
  refine HQC.out.mono ?_
  rintro e w3 hqp
  obtain rfl := hqp.1
  have HFI := Lib.hid (HH0.out.next HVP.out hqp HKI.out HRE.out hl2 hl1 hl3)
  obtain ⟨_, v3, q3, u3, hv3, ho3, _, _, _⟩ := hqp
  have HX3 := Lib.hid (hstayD HMD.out.1 HX2.out ho3 (by decide) (by decide) (by decide))
  have HY3 := Lib.hid (hstayD HMD.out.1 HY2.out ho3 (by decide) (by decide) (by decide))
  clear hv3 ho3 hHeld
  refine hK.out _ _ (by simpa using HX3.out.cell 1) (fun hHeld => ?_)
  try simp only [Act.put, List.getElem_toArray, List.getElem_cons_zero, List.getElem_cons_succ, List.setIfInBounds_toArray, List.set_cons_zero, List.set_cons_succ]
  refine wpAnyH_take (i := 8) (v := ?_) rfl (by kernel_rfl) (by kernel_rfl) (by kernel_rfl) (fun _ _ _ h => h) (Or.inl ⟨by rfl, ?_⟩) (by assumption) ?_
  rotate_left
  · (intro w' hSw; (try dsimp only at hSw); first | (go_simp; done) | (go_simp; with_reducible rfl))
  try simp only [Act.put, List.getElem_toArray, List.getElem_cons_zero, List.getElem_cons_succ, List.setIfInBounds_toArray, List.set_cons_zero, List.set_cons_succ]
  refine wpAnyH_take (i := 9) (v := ?_) rfl (by kernel_rfl) (by kernel_rfl) (by kernel_rfl) (fun _ _ _ h => h) (Or.inl ⟨by rfl, ?_⟩) (by assumption) ?_
  rotate_left
  · (intro w' hSw; (try dsimp only at hSw); first | (go_simp; done) | (go_simp; with_reducible rfl))
  try simp only [Act.put, List.getElem_toArray, List.getElem_cons_zero, List.getElem_cons_succ, List.setIfInBounds_toArray, List.set_cons_zero, List.set_cons_succ]
  refine wpAnyH_done (by kernel_rfl) ?_ _
  clear hHeld
  go_wp2_with fail
  go_ret
  exact ⟨rfl, HFI.out⟩
set_option maxHeartbeats 8000000 in
set_option maxRecDepth 100000 in
theorem doesH_move (f : ActH) (w : World) (H : TwoH W gv gt h M A droom k w gb vb bl p vt S L v q u D) (hM : M ≤ 16) (hA : A ≤ 9) (hf : ActHOk W f) (h8 : f.l.length ≤ 8) (hk : k ≤ 100) (hkd : f.kd = 1) :
    Calls Try.prog 23 #[.pointer (some ⟨gv, 0, none⟩), .pointer (some ⟨h, 0, none⟩), .agg #[.int .i64 f.kd, .slice f.P f.l.length f.c, .int .i64 f.id, .int .i64 f.x.kind, .int .i64 f.x.member, .int .i64 f.y.kind, .int .i64 f.y.member, .int .i64 f.a, .int .i64 f.z]] w (DoesHP W gv gt h M A droom (k + 1)) := by
  have bx0 := Blk.new w 54 #[.int .i64 f.kd, .slice f.P f.l.length f.c, .int .i64 f.id, .int .i64 f.x.kind, .int .i64 f.x.member, .int .i64 f.y.kind, .int .i64 f.y.member, .int .i64 f.a, .int .i64 f.z] w.heap.size rfl
  have by0 := Blk.new (w.alloc (.cells #[.int .i64 f.kd, .slice f.P f.l.length f.c, .int .i64 f.id, .int .i64 f.x.kind, .int .i64 f.x.member, .int .i64 f.y.kind, .int .i64 f.y.member, .int .i64 f.a, .int .i64 f.z] 54)) 60 #[.int .i64 f.x.kind, .int .i64 f.x.member, .int .i64 f.a, .int .i64 f.z] (w.heap.size + 1) (by simp)
  have hB0 := ((Below.refl w.heap.size w).alloc (Nat.le_refl _) (.cells #[.int .i64 f.kd, .slice f.P f.l.length f.c, .int .i64 f.id, .int .i64 f.x.kind, .int .i64 f.x.member, .int .i64 f.y.kind, .int .i64 f.y.member, .int .i64 f.a, .int .i64 f.z] 54)).alloc (by simp) (.cells #[.int .i64 f.x.kind, .int .i64 f.x.member, .int .i64 f.a, .int .i64 f.z] 60)
  have bx := bx0.alloc (.cells #[.int .i64 f.x.kind, .int .i64 f.x.member, .int .i64 f.a, .int .i64 f.z] 60)
  obtain ⟨W0, hW0⟩ : ∃ W0, Hid ((w.alloc (.cells #[.int .i64 f.kd, .slice f.P f.l.length f.c, .int .i64 f.id, .int .i64 f.x.kind, .int .i64 f.x.member, .int .i64 f.y.kind, .int .i64 f.y.member, .int .i64 f.a, .int .i64 f.z] 54)).alloc (.cells #[.int .i64 f.x.kind, .int .i64 f.x.member, .int .i64 f.a, .int .i64 f.z] 60) = W0) := ⟨_, Lib.hid rfl⟩
  rw [hW0.out] at bx by0 hB0
  obtain ⟨xb, hxb⟩ : ∃ xb, Hid (w.heap.size = xb) := ⟨_, Lib.hid rfl⟩
  obtain ⟨yb, hyb⟩ : ∃ yb, Hid (xb + 1 = yb) := ⟨_, Lib.hid rfl⟩
  rw [hxb.out] at bx by0
  rw [hyb.out] at by0
  have HH := Lib.hid (H.past hB0)
  have HX := Lib.hid bx
  have HY := Lib.hid by0
  have hdr := Below.drew (Below.refl W0.heap.size W0)
  have HH0 := Lib.hid (HH.out.past hdr)
  have HX0 := Lib.hid (HX.out.past hdr)
  have HY0 := Lib.hid (HY.out.past hdr)
  obtain ⟨K, bl', S', L', D', hcv, hcq, hki, hre, hl1, hl2, hl3⟩ := both_move f HH0.out hM hA hf hk
  have HCV := Lib.hid hcv
  have HCQ := Lib.hid hcq
  have HKI := Lib.hid hki
  have HRE := Lib.hid hre
  have hCC : (K == K) = true := by simp
  have q0 : (f.kd == 0) = false := by rw [hkd]; rfl
  have q1 : (f.kd == 1) = true := by rw [hkd]; rfl
  have x0 := (HX.out).cell 0
  have x1 := (HX.out).cell 1
  have x2 := (HX.out).cell 2
  have x3 := (HX.out).cell 3
  have x4 := (HX.out).cell 4
  have x5 := (HX.out).cell 5
  have x6 := (HX.out).cell 6
  have x7 := (HX.out).cell 7
  have x8 := (HX.out).cell 8
  simp at x0 x1 x2 x3 x4 x5 x6 x7 x8
  have y0 := (HY.out).cell 0
  have y1 := (HY.out).cell 1
  have y2 := (HY.out).cell 2
  have y3 := (HY.out).cell 3
  simp at y0 y1 y2 y3
  clear H bx0 by0 bx hB0 hdr hcv hcq hki hre hkd
  go_enter Try.func23, Try.ntmps23
  go_upto_region 2 with fail
  rw [hW0.out, hxb.out, hyb.out]
  go_upto_region 6 with fail
  have hS0 : W0.drew.cell? ⟨xb, 3, none⟩ = some (.int .i64 f.x.kind) ∧ W0.drew.cell? ⟨xb, 4, none⟩ = some (.int .i64 f.x.member) ∧ W0.drew.cell? ⟨xb, 5, none⟩ = some (.int .i64 f.y.kind) ∧ W0.drew.cell? ⟨xb, 6, none⟩ = some (.int .i64 f.y.member) ∧ W0.drew.cell? ⟨xb, 7, none⟩ = some (.int .i64 f.a) ∧ W0.drew.cell? ⟨xb, 8, none⟩ = some (.int .i64 f.z) := ⟨by simpa using HX0.out.cell 3, by simpa using HX0.out.cell 4, by simpa using HX0.out.cell 5, by simpa using HX0.out.cell 6, by simpa using HX0.out.cell 7, by simpa using HX0.out.cell 8⟩
  refine wp_region_held_drew (S := fun w' => w'.cell? ⟨xb, 3, none⟩ = some (.int .i64 f.x.kind) ∧ w'.cell? ⟨xb, 4, none⟩ = some (.int .i64 f.x.member) ∧ w'.cell? ⟨xb, 5, none⟩ = some (.int .i64 f.y.kind) ∧ w'.cell? ⟨xb, 6, none⟩ = some (.int .i64 f.y.member) ∧ w'.cell? ⟨xb, 7, none⟩ = some (.int .i64 f.a) ∧ w'.cell? ⟨xb, 8, none⟩ = some (.int .i64 f.z)) (by kernel_rfl) hS0 (fun hHeld => ?_)
  clear hS0 x0 x1 x2 x3 x4 x5 x6 x7 x8 y0 y1 y2 y3
  refine wpAnyH_take (i := 0) (v := ?_) rfl (by kernel_rfl) (by kernel_rfl) (by kernel_rfl) (fun _ _ _ h => h) (Or.inl ⟨by rfl, ?_⟩) (by assumption) ?_
  rotate_left
  · (intro w' hSw; (try dsimp only at hSw); first | (go_simp; done) | (go_simp; with_reducible rfl))
  try simp only [Act.put, List.getElem_toArray, List.getElem_cons_zero, List.getElem_cons_succ, List.setIfInBounds_toArray, List.set_cons_zero, List.set_cons_succ]
  refine wpAnyH_take (i := 1) (v := ?_) rfl (by kernel_rfl) (by kernel_rfl) (by kernel_rfl) (fun _ _ _ h => h) (Or.inl ⟨by rfl, ?_⟩) (by assumption) ?_
  rotate_left
  · (intro w' hSw; (try dsimp only at hSw); first | (go_simp; done) | (go_simp; with_reducible rfl))
  try simp only [Act.put, List.getElem_toArray, List.getElem_cons_zero, List.getElem_cons_succ, List.setIfInBounds_toArray, List.set_cons_zero, List.set_cons_succ]
  refine wpAnyH_take (i := 2) (v := ?_) rfl (by kernel_rfl) (by kernel_rfl) (by kernel_rfl) (fun _ _ _ h => h) (Or.inl ⟨by rfl, ?_⟩) (by assumption) ?_
  rotate_left
  · (intro w' hSw; (try dsimp only at hSw); first | (go_simp; done) | (go_simp; with_reducible rfl))
  try simp only [Act.put, List.getElem_toArray, List.getElem_cons_zero, List.getElem_cons_succ, List.setIfInBounds_toArray, List.set_cons_zero, List.set_cons_succ]
  refine wpAnyH_take (i := 3) (v := ?_) rfl (by kernel_rfl) (by kernel_rfl) (by kernel_rfl) (fun _ _ _ h => h) (Or.inl ⟨by rfl, ?_⟩) (by assumption) ?_
  rotate_left
  · (intro w' hSw; (try dsimp only at hSw); first | (go_simp; done) | (go_simp; with_reducible rfl))
  try simp only [Act.put, List.getElem_toArray, List.getElem_cons_zero, List.getElem_cons_succ, List.setIfInBounds_toArray, List.set_cons_zero, List.set_cons_succ]
  refine wpAnyH_take (i := 4) (v := ?_) rfl (by kernel_rfl) (by kernel_rfl) (by kernel_rfl) (fun _ _ _ h => h) (Or.inl ⟨by rfl, ?_⟩) (by assumption) ?_
  rotate_left
  · (intro w' hSw; (try dsimp only at hSw); first | (go_simp; done) | (go_simp; with_reducible rfl))
  try simp only [Act.put, List.getElem_toArray, List.getElem_cons_zero, List.getElem_cons_succ, List.setIfInBounds_toArray, List.set_cons_zero, List.set_cons_succ]
  refine wpAnyH_take (i := 5) (v := ?_) rfl (by kernel_rfl) (by kernel_rfl) (by kernel_rfl) (fun _ _ _ h => h) (Or.inl ⟨by rfl, ?_⟩) (by assumption) ?_
  rotate_left
  · (intro w' hSw; (try dsimp only at hSw); first | (go_simp; done) | (go_simp; with_reducible rfl))
  try simp only [Act.put, List.getElem_toArray, List.getElem_cons_zero, List.getElem_cons_succ, List.setIfInBounds_toArray, List.set_cons_zero, List.set_cons_succ]
  refine wpAnyH_take (i := 6) (v := ?_) rfl (by kernel_rfl) (by kernel_rfl) (by kernel_rfl) (fun _ _ _ h => h) (Or.inl ⟨by rfl, ?_⟩) (by assumption) ?_
  rotate_left
  · (intro w' hSw; (try dsimp only at hSw); first | (go_simp; done) | (go_simp; with_reducible rfl))
  try simp only [Act.put, List.getElem_toArray, List.getElem_cons_zero, List.getElem_cons_succ, List.setIfInBounds_toArray, List.set_cons_zero, List.set_cons_succ]
  refine wpAnyH_take (i := 7) (v := ?_) rfl (by kernel_rfl) (by kernel_rfl) (by kernel_rfl) (fun _ _ _ h => h) (Or.inl ⟨by rfl, ?_⟩) (by assumption) ?_
  rotate_left
  · (intro w' hSw; (try dsimp only at hSw); first | (go_simp; done) | (go_simp; with_reducible rfl))
  try simp only [Act.put, List.getElem_toArray, List.getElem_cons_zero, List.getElem_cons_succ, List.setIfInBounds_toArray, List.set_cons_zero, List.set_cons_succ]
  refine wpAnyH_take (i := 8) (v := ?_) rfl (by kernel_rfl) (by kernel_rfl) (by kernel_rfl) (fun _ _ _ h => h) (Or.inl ⟨by rfl, ?_⟩) (by assumption) ?_
  rotate_left
  · (intro w' hSw; (try dsimp only at hSw); first | (go_simp; done) | (go_simp; with_reducible rfl))
  try simp only [Act.put, List.getElem_toArray, List.getElem_cons_zero, List.getElem_cons_succ, List.setIfInBounds_toArray, List.set_cons_zero, List.set_cons_succ]
  refine wpAnyH_take (i := 10) (v := ?_) rfl (by kernel_rfl) (by kernel_rfl) (by kernel_rfl) (fun _ _ _ h => h) (Or.inl ⟨by rfl, ?_⟩) (by assumption) ?_
  rotate_left
  · (intro w' hSw; (try dsimp only at hSw); first | (go_simp; done) | (go_simp; with_reducible rfl))
  try simp only [Act.put, List.getElem_toArray, List.getElem_cons_zero, List.getElem_cons_succ, List.setIfInBounds_toArray, List.set_cons_zero, List.set_cons_succ]
  refine wpAnyH_take (i := 11) (v := ?_) rfl (by kernel_rfl) (by kernel_rfl) (by kernel_rfl) (fun _ _ _ h => h) (Or.inl ⟨by rfl, ?_⟩) (by assumption) ?_
  rotate_left
  · (intro w' hSw; (try dsimp only at hSw); first | (go_simp; done) | (go_simp; with_reducible rfl))
  try simp only [Act.put, List.getElem_toArray, List.getElem_cons_zero, List.getElem_cons_succ, List.setIfInBounds_toArray, List.set_cons_zero, List.set_cons_succ]
  refine wpAnyH_take (i := 12) (v := ?_) rfl (by kernel_rfl) (by kernel_rfl) (by kernel_rfl) (fun _ _ _ h => h) (Or.inl ⟨by rfl, ?_⟩) (by assumption) ?_
  rotate_left
  · (intro w' hSw; (try dsimp only at hSw); first | (go_simp; done) | (go_simp; with_reducible rfl))
  try simp only [Act.put, List.getElem_toArray, List.getElem_cons_zero, List.getElem_cons_succ, List.setIfInBounds_toArray, List.set_cons_zero, List.set_cons_succ]
  refine wpAnyH_take (i := 13) (v := ?_) rfl (by kernel_rfl) (by kernel_rfl) (by kernel_rfl) (fun _ _ _ h => h) (Or.inl ⟨by rfl, ?_⟩) (by assumption) ?_
  rotate_left
  · (intro w' hSw; (try dsimp only at hSw); first | (go_simp; done) | (go_simp; with_reducible rfl))
  try simp only [Act.put, List.getElem_toArray, List.getElem_cons_zero, List.getElem_cons_succ, List.setIfInBounds_toArray, List.set_cons_zero, List.set_cons_succ]
  refine wpAnyH_take (i := 14) (v := ?_) rfl (by kernel_rfl) (by kernel_rfl) (by kernel_rfl) (fun _ _ _ h => h) (Or.inl ⟨by rfl, ?_⟩) (by assumption) ?_
  rotate_left
  · (intro w' hSw; (try dsimp only at hSw); first | (go_simp; done) | (go_simp; with_reducible rfl))
  try simp only [Act.put, List.getElem_toArray, List.getElem_cons_zero, List.getElem_cons_succ, List.setIfInBounds_toArray, List.set_cons_zero, List.set_cons_succ]
  refine wpAnyH_take (i := 15) (v := ?_) rfl (by kernel_rfl) (by kernel_rfl) (by kernel_rfl) (fun _ _ _ h => h) (Or.inl ⟨by rfl, ?_⟩) (by assumption) ?_
  rotate_left
  · (intro w' hSw; (try dsimp only at hSw); first | (go_simp; done) | (go_simp; with_reducible rfl))
  try simp only [Act.put, List.getElem_toArray, List.getElem_cons_zero, List.getElem_cons_succ, List.setIfInBounds_toArray, List.set_cons_zero, List.set_cons_succ]
  refine wpAnyH_take (i := 16) (v := ?_) rfl (by kernel_rfl) (by kernel_rfl) (by kernel_rfl) (fun _ _ _ h => h) (Or.inl ⟨by rfl, ?_⟩) (by assumption) ?_
  rotate_left
  · (intro w' hSw; (try dsimp only at hSw); first | (go_simp; done) | (go_simp; with_reducible rfl))
  try simp only [Act.put, List.getElem_toArray, List.getElem_cons_zero, List.getElem_cons_succ, List.setIfInBounds_toArray, List.set_cons_zero, List.set_cons_succ]
  refine wpAnyH_take (i := 17) (v := ?_) rfl (by kernel_rfl) (by kernel_rfl) (by kernel_rfl) (fun _ _ _ h => h) (Or.inl ⟨by rfl, ?_⟩) (by assumption) ?_
  rotate_left
  · (intro w' hSw; (try dsimp only at hSw); first | (go_simp; done) | (go_simp; with_reducible rfl))
  try simp only [Act.put, List.getElem_toArray, List.getElem_cons_zero, List.getElem_cons_succ, List.setIfInBounds_toArray, List.set_cons_zero, List.set_cons_succ]
  refine wpAnyH_take (i := 18) (v := ?_) rfl (by kernel_rfl) (by kernel_rfl) (by kernel_rfl) (fun _ _ _ h => h) (Or.inl ⟨by rfl, ?_⟩) (by assumption) ?_
  rotate_left
  · (intro w' hSw; (try dsimp only at hSw); first | (go_simp; done) | (go_simp; with_reducible rfl))
  try simp only [Act.put, List.getElem_toArray, List.getElem_cons_zero, List.getElem_cons_succ, List.setIfInBounds_toArray, List.set_cons_zero, List.set_cons_succ]
  refine wpAnyH_ready (rs := [9]) (by kernel_rfl) (by simp) ?_
  refine AllReadyH.cons rfl (fun K hK => ?_) AllReadyH.nil
  go_simp
  go_at_call 28
  refine HCV.out.mono ?_
  rintro e w2 hvp
  obtain rfl := hvp.1
  have HVP := Lib.hid hvp
  have HMD := Lib.hid (HH0.out.mid hvp)
  obtain ⟨_, gb2, vb2, p2, vt2, hv2, ho2, hd2, hp2⟩ := hvp
  have HX2 := Lib.hid (hstayV HH0.out.st.v HX0.out ho2 (by decide) (by decide) (by decide))
  have HY2 := Lib.hid (hstayV HH0.out.st.v HY0.out ho2 (by decide) (by decide) (by decide))
  have HQC := Lib.hid (HCQ.out w2 HMD.out.1 HMD.out.2)
  clear hv2 ho2 hd2 hp2 hHeld
  refine hK.out _ _ (⟨by simpa using HX2.out.cell 3, by simpa using HX2.out.cell 4, by simpa using HX2.out.cell 5, by simpa using HX2.out.cell 6, by simpa using HX2.out.cell 7, by simpa using HX2.out.cell 8⟩) (fun hHeld => ?_)
  try simp only [Act.put, List.getElem_toArray, List.getElem_cons_zero, List.getElem_cons_succ, List.setIfInBounds_toArray, List.set_cons_zero, List.set_cons_succ]
  refine wpAnyH_ready (rs := [19]) (by kernel_rfl) (by simp) ?_
  refine AllReadyH.cons rfl (fun K hK => ?_) AllReadyH.nil
  go_simp
  go_at_call 67
  refine HQC.out.mono ?_
  rintro e w3 hqp
  obtain rfl := hqp.1
  have HFI := Lib.hid (HH0.out.next HVP.out hqp HKI.out HRE.out hl2 hl1 hl3)
  obtain ⟨_, v3, q3, u3, hv3, ho3, _, _, _⟩ := hqp
  have HX3 := Lib.hid (hstayD HMD.out.1 HX2.out ho3 (by decide) (by decide) (by decide))
  have HY3 := Lib.hid (hstayD HMD.out.1 HY2.out ho3 (by decide) (by decide) (by decide))
  clear hv3 ho3 hHeld
  refine hK.out _ _ (⟨by simpa using HX3.out.cell 3, by simpa using HX3.out.cell 4, by simpa using HX3.out.cell 5, by simpa using HX3.out.cell 6, by simpa using HX3.out.cell 7, by simpa using HX3.out.cell 8⟩) (fun hHeld => ?_)
  try simp only [Act.put, List.getElem_toArray, List.getElem_cons_zero, List.getElem_cons_succ, List.setIfInBounds_toArray, List.set_cons_zero, List.set_cons_succ]
  refine wpAnyH_take (i := 20) (v := ?_) rfl (by kernel_rfl) (by kernel_rfl) (by kernel_rfl) (fun _ _ _ h => h) (Or.inl ⟨by rfl, ?_⟩) (by assumption) ?_
  rotate_left
  · (intro w' hSw; (try dsimp only at hSw); first | (go_simp; done) | (go_simp; with_reducible rfl))
  try simp only [Act.put, List.getElem_toArray, List.getElem_cons_zero, List.getElem_cons_succ, List.setIfInBounds_toArray, List.set_cons_zero, List.set_cons_succ]
  refine wpAnyH_take (i := 21) (v := ?_) rfl (by kernel_rfl) (by kernel_rfl) (by kernel_rfl) (fun _ _ _ h => h) (Or.inl ⟨by rfl, ?_⟩) (by assumption) ?_
  rotate_left
  · (intro w' hSw; (try dsimp only at hSw); first | (go_simp; done) | (go_simp; with_reducible rfl))
  try simp only [Act.put, List.getElem_toArray, List.getElem_cons_zero, List.getElem_cons_succ, List.setIfInBounds_toArray, List.set_cons_zero, List.set_cons_succ]
  refine wpAnyH_done (by kernel_rfl) ?_ _
  clear hHeld
  go_wp2_with fail
  go_ret
  exact ⟨rfl, HFI.out⟩
set_option maxHeartbeats 8000000 in
set_option maxRecDepth 100000 in
theorem doesH_place (f : ActH) (w : World) (H : TwoH W gv gt h M A droom k w gb vb bl p vt S L v q u D) (hM : M ≤ 16) (hA : A ≤ 9) (hf : ActHOk W f) (h8 : f.l.length ≤ 8) (hk : k ≤ 100) (hkd : f.kd = 2) :
    Calls Try.prog 23 #[.pointer (some ⟨gv, 0, none⟩), .pointer (some ⟨h, 0, none⟩), .agg #[.int .i64 f.kd, .slice f.P f.l.length f.c, .int .i64 f.id, .int .i64 f.x.kind, .int .i64 f.x.member, .int .i64 f.y.kind, .int .i64 f.y.member, .int .i64 f.a, .int .i64 f.z]] w (DoesHP W gv gt h M A droom (k + 1)) := by
  have bx0 := Blk.new w 54 #[.int .i64 f.kd, .slice f.P f.l.length f.c, .int .i64 f.id, .int .i64 f.x.kind, .int .i64 f.x.member, .int .i64 f.y.kind, .int .i64 f.y.member, .int .i64 f.a, .int .i64 f.z] w.heap.size rfl
  have by0 := Blk.new (w.alloc (.cells #[.int .i64 f.kd, .slice f.P f.l.length f.c, .int .i64 f.id, .int .i64 f.x.kind, .int .i64 f.x.member, .int .i64 f.y.kind, .int .i64 f.y.member, .int .i64 f.a, .int .i64 f.z] 54)) 60 #[.int .i64 f.x.kind, .int .i64 f.x.member, .int .i64 f.a, .int .i64 f.z] (w.heap.size + 1) (by simp)
  have hB0 := ((Below.refl w.heap.size w).alloc (Nat.le_refl _) (.cells #[.int .i64 f.kd, .slice f.P f.l.length f.c, .int .i64 f.id, .int .i64 f.x.kind, .int .i64 f.x.member, .int .i64 f.y.kind, .int .i64 f.y.member, .int .i64 f.a, .int .i64 f.z] 54)).alloc (by simp) (.cells #[.int .i64 f.x.kind, .int .i64 f.x.member, .int .i64 f.a, .int .i64 f.z] 60)
  have bx := bx0.alloc (.cells #[.int .i64 f.x.kind, .int .i64 f.x.member, .int .i64 f.a, .int .i64 f.z] 60)
  obtain ⟨W0, hW0⟩ : ∃ W0, Hid ((w.alloc (.cells #[.int .i64 f.kd, .slice f.P f.l.length f.c, .int .i64 f.id, .int .i64 f.x.kind, .int .i64 f.x.member, .int .i64 f.y.kind, .int .i64 f.y.member, .int .i64 f.a, .int .i64 f.z] 54)).alloc (.cells #[.int .i64 f.x.kind, .int .i64 f.x.member, .int .i64 f.a, .int .i64 f.z] 60) = W0) := ⟨_, Lib.hid rfl⟩
  rw [hW0.out] at bx by0 hB0
  obtain ⟨xb, hxb⟩ : ∃ xb, Hid (w.heap.size = xb) := ⟨_, Lib.hid rfl⟩
  obtain ⟨yb, hyb⟩ : ∃ yb, Hid (xb + 1 = yb) := ⟨_, Lib.hid rfl⟩
  rw [hxb.out] at bx by0
  rw [hyb.out] at by0
  have HH := Lib.hid (H.past hB0)
  have HX := Lib.hid bx
  have HY := Lib.hid by0
  have hdr := Below.drew (Below.refl W0.heap.size W0)
  have HH0 := Lib.hid (HH.out.past hdr)
  have HX0 := Lib.hid (HX.out.past hdr)
  have HY0 := Lib.hid (HY.out.past hdr)
  obtain ⟨K, bl', S', L', D', hcv, hcq, hki, hre, hl1, hl2, hl3⟩ := both_place f HH0.out hM hf hk
  have HCV := Lib.hid hcv
  have HCQ := Lib.hid hcq
  have HKI := Lib.hid hki
  have HRE := Lib.hid hre
  have hCC : (K == K) = true := by simp
  have q0 : (f.kd == 0) = false := by rw [hkd]; rfl
  have q1 : (f.kd == 1) = false := by rw [hkd]; rfl
  have q2 : (f.kd == 2) = true := by rw [hkd]; rfl
  have x0 := (HX.out).cell 0
  have x1 := (HX.out).cell 1
  have x2 := (HX.out).cell 2
  have x3 := (HX.out).cell 3
  have x4 := (HX.out).cell 4
  have x5 := (HX.out).cell 5
  have x6 := (HX.out).cell 6
  have x7 := (HX.out).cell 7
  have x8 := (HX.out).cell 8
  simp at x0 x1 x2 x3 x4 x5 x6 x7 x8
  have y0 := (HY.out).cell 0
  have y1 := (HY.out).cell 1
  have y2 := (HY.out).cell 2
  have y3 := (HY.out).cell 3
  simp at y0 y1 y2 y3
  clear H bx0 by0 bx hB0 hdr hcv hcq hki hre hkd
  go_enter Try.func23, Try.ntmps23
  go_upto_region 2 with fail
  rw [hW0.out, hxb.out, hyb.out]
  go_upto_region 8 with fail
  have hS0 : W0.drew.cell? ⟨xb, 2, none⟩ = some (.int .i64 f.id) ∧ W0.drew.cell? ⟨yb, 0, none⟩ = some (.int .i64 f.x.kind) ∧ W0.drew.cell? ⟨yb, 1, none⟩ = some (.int .i64 f.x.member) ∧ W0.drew.cell? ⟨yb, 2, none⟩ = some (.int .i64 f.a) ∧ W0.drew.cell? ⟨yb, 3, none⟩ = some (.int .i64 f.z) := ⟨by simpa using HX0.out.cell 2, by simpa using HY0.out.cell 0, by simpa using HY0.out.cell 1, by simpa using HY0.out.cell 2, by simpa using HY0.out.cell 3⟩
  refine wp_region_held_drew (S := fun w' => w'.cell? ⟨xb, 2, none⟩ = some (.int .i64 f.id) ∧ w'.cell? ⟨yb, 0, none⟩ = some (.int .i64 f.x.kind) ∧ w'.cell? ⟨yb, 1, none⟩ = some (.int .i64 f.x.member) ∧ w'.cell? ⟨yb, 2, none⟩ = some (.int .i64 f.a) ∧ w'.cell? ⟨yb, 3, none⟩ = some (.int .i64 f.z)) (by kernel_rfl) hS0 (fun hHeld => ?_)
  clear hS0 x0 x1 x2 x3 x4 x5 x6 x7 x8 y0 y1 y2 y3
  refine wpAnyH_take (i := 0) (v := ?_) rfl (by kernel_rfl) (by kernel_rfl) (by kernel_rfl) (fun _ _ _ h => h) (Or.inl ⟨by rfl, ?_⟩) (by assumption) ?_
  rotate_left
  · (intro w' hSw; (try dsimp only at hSw); first | (go_simp; done) | (go_simp; with_reducible rfl))
  try simp only [Act.put, List.getElem_toArray, List.getElem_cons_zero, List.getElem_cons_succ, List.setIfInBounds_toArray, List.set_cons_zero, List.set_cons_succ]
  refine wpAnyH_take (i := 1) (v := ?_) rfl (by kernel_rfl) (by kernel_rfl) (by kernel_rfl) (fun _ _ _ h => h) (Or.inl ⟨by rfl, ?_⟩) (by assumption) ?_
  rotate_left
  · (intro w' hSw; (try dsimp only at hSw); first | (go_simp; done) | (go_simp; with_reducible rfl))
  try simp only [Act.put, List.getElem_toArray, List.getElem_cons_zero, List.getElem_cons_succ, List.setIfInBounds_toArray, List.set_cons_zero, List.set_cons_succ]
  refine wpAnyH_take (i := 2) (v := ?_) rfl (by kernel_rfl) (by kernel_rfl) (by kernel_rfl) (fun _ _ _ h => h) (Or.inl ⟨by rfl, ?_⟩) (by assumption) ?_
  rotate_left
  · (intro w' hSw; (try dsimp only at hSw); first | (go_simp; done) | (go_simp; with_reducible rfl))
  try simp only [Act.put, List.getElem_toArray, List.getElem_cons_zero, List.getElem_cons_succ, List.setIfInBounds_toArray, List.set_cons_zero, List.set_cons_succ]
  refine wpAnyH_take (i := 3) (v := ?_) rfl (by kernel_rfl) (by kernel_rfl) (by kernel_rfl) (fun _ _ _ h => h) (Or.inl ⟨by rfl, ?_⟩) (by assumption) ?_
  rotate_left
  · (intro w' hSw; (try dsimp only at hSw); first | (go_simp; done) | (go_simp; with_reducible rfl))
  try simp only [Act.put, List.getElem_toArray, List.getElem_cons_zero, List.getElem_cons_succ, List.setIfInBounds_toArray, List.set_cons_zero, List.set_cons_succ]
  refine wpAnyH_take (i := 5) (v := ?_) rfl (by kernel_rfl) (by kernel_rfl) (by kernel_rfl) (fun _ _ _ h => h) (Or.inl ⟨by rfl, ?_⟩) (by assumption) ?_
  rotate_left
  · (intro w' hSw; (try dsimp only at hSw); first | (go_simp; done) | (go_simp; with_reducible rfl))
  try simp only [Act.put, List.getElem_toArray, List.getElem_cons_zero, List.getElem_cons_succ, List.setIfInBounds_toArray, List.set_cons_zero, List.set_cons_succ]
  refine wpAnyH_take (i := 6) (v := ?_) rfl (by kernel_rfl) (by kernel_rfl) (by kernel_rfl) (fun _ _ _ h => h) (Or.inl ⟨by rfl, ?_⟩) (by assumption) ?_
  rotate_left
  · (intro w' hSw; (try dsimp only at hSw); first | (go_simp; done) | (go_simp; with_reducible rfl))
  try simp only [Act.put, List.getElem_toArray, List.getElem_cons_zero, List.getElem_cons_succ, List.setIfInBounds_toArray, List.set_cons_zero, List.set_cons_succ]
  refine wpAnyH_take (i := 7) (v := ?_) rfl (by kernel_rfl) (by kernel_rfl) (by kernel_rfl) (fun _ _ _ h => h) (Or.inl ⟨by rfl, ?_⟩) (by assumption) ?_
  rotate_left
  · (intro w' hSw; (try dsimp only at hSw); first | (go_simp; done) | (go_simp; with_reducible rfl))
  try simp only [Act.put, List.getElem_toArray, List.getElem_cons_zero, List.getElem_cons_succ, List.setIfInBounds_toArray, List.set_cons_zero, List.set_cons_succ]
  refine wpAnyH_take (i := 8) (v := ?_) rfl (by kernel_rfl) (by kernel_rfl) (by kernel_rfl) (fun _ _ _ h => h) (Or.inl ⟨by rfl, ?_⟩) (by assumption) ?_
  rotate_left
  · (intro w' hSw; (try dsimp only at hSw); first | (go_simp; done) | (go_simp; with_reducible rfl))
  try simp only [Act.put, List.getElem_toArray, List.getElem_cons_zero, List.getElem_cons_succ, List.setIfInBounds_toArray, List.set_cons_zero, List.set_cons_succ]
  refine wpAnyH_ready (rs := [4]) (by kernel_rfl) (by simp) ?_
  refine AllReadyH.cons rfl (fun K hK => ?_) AllReadyH.nil
  go_simp
  go_at_call 29
  refine HCV.out.mono ?_
  rintro e w2 hvp
  obtain rfl := hvp.1
  have HVP := Lib.hid hvp
  have HMD := Lib.hid (HH0.out.mid hvp)
  obtain ⟨_, gb2, vb2, p2, vt2, hv2, ho2, hd2, hp2⟩ := hvp
  have HX2 := Lib.hid (hstayV HH0.out.st.v HX0.out ho2 (by decide) (by decide) (by decide))
  have HY2 := Lib.hid (hstayV HH0.out.st.v HY0.out ho2 (by decide) (by decide) (by decide))
  have HQC := Lib.hid (HCQ.out w2 HMD.out.1 HMD.out.2)
  clear hv2 ho2 hd2 hp2 hHeld
  refine hK.out _ _ (⟨by simpa using HX2.out.cell 2, by simpa using HY2.out.cell 0, by simpa using HY2.out.cell 1, by simpa using HY2.out.cell 2, by simpa using HY2.out.cell 3⟩) (fun hHeld => ?_)
  try simp only [Act.put, List.getElem_toArray, List.getElem_cons_zero, List.getElem_cons_succ, List.setIfInBounds_toArray, List.set_cons_zero, List.set_cons_succ]
  refine wpAnyH_ready (rs := [9]) (by kernel_rfl) (by simp) ?_
  refine AllReadyH.cons rfl (fun K hK => ?_) AllReadyH.nil
  go_simp
  go_at_call 68
  refine HQC.out.mono ?_
  rintro e w3 hqp
  obtain rfl := hqp.1
  have HFI := Lib.hid (HH0.out.next HVP.out hqp HKI.out HRE.out hl2 hl1 hl3)
  obtain ⟨_, v3, q3, u3, hv3, ho3, _, _, _⟩ := hqp
  have HX3 := Lib.hid (hstayD HMD.out.1 HX2.out ho3 (by decide) (by decide) (by decide))
  have HY3 := Lib.hid (hstayD HMD.out.1 HY2.out ho3 (by decide) (by decide) (by decide))
  clear hv3 ho3 hHeld
  refine hK.out _ _ (⟨by simpa using HX3.out.cell 2, by simpa using HY3.out.cell 0, by simpa using HY3.out.cell 1, by simpa using HY3.out.cell 2, by simpa using HY3.out.cell 3⟩) (fun hHeld => ?_)
  try simp only [Act.put, List.getElem_toArray, List.getElem_cons_zero, List.getElem_cons_succ, List.setIfInBounds_toArray, List.set_cons_zero, List.set_cons_succ]
  refine wpAnyH_take (i := 10) (v := ?_) rfl (by kernel_rfl) (by kernel_rfl) (by kernel_rfl) (fun _ _ _ h => h) (Or.inl ⟨by rfl, ?_⟩) (by assumption) ?_
  rotate_left
  · (intro w' hSw; (try dsimp only at hSw); first | (go_simp; done) | (go_simp; with_reducible rfl))
  try simp only [Act.put, List.getElem_toArray, List.getElem_cons_zero, List.getElem_cons_succ, List.setIfInBounds_toArray, List.set_cons_zero, List.set_cons_succ]
  refine wpAnyH_take (i := 11) (v := ?_) rfl (by kernel_rfl) (by kernel_rfl) (by kernel_rfl) (fun _ _ _ h => h) (Or.inl ⟨by rfl, ?_⟩) (by assumption) ?_
  rotate_left
  · (intro w' hSw; (try dsimp only at hSw); first | (go_simp; done) | (go_simp; with_reducible rfl))
  try simp only [Act.put, List.getElem_toArray, List.getElem_cons_zero, List.getElem_cons_succ, List.setIfInBounds_toArray, List.set_cons_zero, List.set_cons_succ]
  refine wpAnyH_done (by kernel_rfl) ?_ _
  clear hHeld
  go_wp2_with fail
  go_ret
  exact ⟨rfl, HFI.out⟩
set_option maxHeartbeats 8000000 in
set_option maxRecDepth 100000 in
theorem doesH_release (f : ActH) (w : World) (H : TwoH W gv gt h M A droom k w gb vb bl p vt S L v q u D) (hM : M ≤ 16) (hA : A ≤ 9) (hf : ActHOk W f) (h8 : f.l.length ≤ 8) (hk : k ≤ 100) (hkd : f.kd = 3) :
    Calls Try.prog 23 #[.pointer (some ⟨gv, 0, none⟩), .pointer (some ⟨h, 0, none⟩), .agg #[.int .i64 f.kd, .slice f.P f.l.length f.c, .int .i64 f.id, .int .i64 f.x.kind, .int .i64 f.x.member, .int .i64 f.y.kind, .int .i64 f.y.member, .int .i64 f.a, .int .i64 f.z]] w (DoesHP W gv gt h M A droom (k + 1)) := by
  have bx0 := Blk.new w 54 #[.int .i64 f.kd, .slice f.P f.l.length f.c, .int .i64 f.id, .int .i64 f.x.kind, .int .i64 f.x.member, .int .i64 f.y.kind, .int .i64 f.y.member, .int .i64 f.a, .int .i64 f.z] w.heap.size rfl
  have by0 := Blk.new (w.alloc (.cells #[.int .i64 f.kd, .slice f.P f.l.length f.c, .int .i64 f.id, .int .i64 f.x.kind, .int .i64 f.x.member, .int .i64 f.y.kind, .int .i64 f.y.member, .int .i64 f.a, .int .i64 f.z] 54)) 60 #[.int .i64 f.x.kind, .int .i64 f.x.member, .int .i64 f.a, .int .i64 f.z] (w.heap.size + 1) (by simp)
  have hB0 := ((Below.refl w.heap.size w).alloc (Nat.le_refl _) (.cells #[.int .i64 f.kd, .slice f.P f.l.length f.c, .int .i64 f.id, .int .i64 f.x.kind, .int .i64 f.x.member, .int .i64 f.y.kind, .int .i64 f.y.member, .int .i64 f.a, .int .i64 f.z] 54)).alloc (by simp) (.cells #[.int .i64 f.x.kind, .int .i64 f.x.member, .int .i64 f.a, .int .i64 f.z] 60)
  have bx := bx0.alloc (.cells #[.int .i64 f.x.kind, .int .i64 f.x.member, .int .i64 f.a, .int .i64 f.z] 60)
  obtain ⟨W0, hW0⟩ : ∃ W0, Hid ((w.alloc (.cells #[.int .i64 f.kd, .slice f.P f.l.length f.c, .int .i64 f.id, .int .i64 f.x.kind, .int .i64 f.x.member, .int .i64 f.y.kind, .int .i64 f.y.member, .int .i64 f.a, .int .i64 f.z] 54)).alloc (.cells #[.int .i64 f.x.kind, .int .i64 f.x.member, .int .i64 f.a, .int .i64 f.z] 60) = W0) := ⟨_, Lib.hid rfl⟩
  rw [hW0.out] at bx by0 hB0
  obtain ⟨xb, hxb⟩ : ∃ xb, Hid (w.heap.size = xb) := ⟨_, Lib.hid rfl⟩
  obtain ⟨yb, hyb⟩ : ∃ yb, Hid (xb + 1 = yb) := ⟨_, Lib.hid rfl⟩
  rw [hxb.out] at bx by0
  rw [hyb.out] at by0
  have HH := Lib.hid (H.past hB0)
  have HX := Lib.hid bx
  have HY := Lib.hid by0
  have hdr := Below.drew (Below.refl W0.heap.size W0)
  have HH0 := Lib.hid (HH.out.past hdr)
  have HX0 := Lib.hid (HX.out.past hdr)
  have HY0 := Lib.hid (HY.out.past hdr)
  obtain ⟨K, bl', S', L', D', hcv, hcq, hki, hre, hl1, hl2, hl3⟩ := both_release f.id HH0.out
  have HCV := Lib.hid hcv
  have HCQ := Lib.hid hcq
  have HKI := Lib.hid hki
  have HRE := Lib.hid hre
  have hCC : (K == K) = true := by simp
  have q0 : (f.kd == 0) = false := by rw [hkd]; rfl
  have q1 : (f.kd == 1) = false := by rw [hkd]; rfl
  have q2 : (f.kd == 2) = false := by rw [hkd]; rfl
  have q3 : (f.kd == 3) = true := by rw [hkd]; rfl
  have x0 := (HX.out).cell 0
  have x1 := (HX.out).cell 1
  have x2 := (HX.out).cell 2
  have x3 := (HX.out).cell 3
  have x4 := (HX.out).cell 4
  have x5 := (HX.out).cell 5
  have x6 := (HX.out).cell 6
  have x7 := (HX.out).cell 7
  have x8 := (HX.out).cell 8
  simp at x0 x1 x2 x3 x4 x5 x6 x7 x8
  have y0 := (HY.out).cell 0
  have y1 := (HY.out).cell 1
  have y2 := (HY.out).cell 2
  have y3 := (HY.out).cell 3
  simp at y0 y1 y2 y3
  clear H bx0 by0 bx hB0 hdr hcv hcq hki hre hkd
  go_enter Try.func23, Try.ntmps23
  go_upto_region 2 with fail
  rw [hW0.out, hxb.out, hyb.out]
  go_upto_region 10 with fail
  have hS0 : W0.drew.cell? ⟨xb, 2, none⟩ = some (.int .i64 f.id) := by simpa using HX0.out.cell 2
  refine wp_region_held_drew (S := fun w' => w'.cell? ⟨xb, 2, none⟩ = some (.int .i64 f.id)) (by kernel_rfl) hS0 (fun hHeld => ?_)
  clear hS0 x0 x1 x2 x3 x4 x5 x6 x7 x8 y0 y1 y2 y3
  refine wpAnyH_take (i := 0) (v := ?_) rfl (by kernel_rfl) (by kernel_rfl) (by kernel_rfl) (fun _ _ _ h => h) (Or.inl ⟨by rfl, ?_⟩) (by assumption) ?_
  rotate_left
  · (intro w' hSw; (try dsimp only at hSw); first | (go_simp; done) | (go_simp; with_reducible rfl))
  try simp only [Act.put, List.getElem_toArray, List.getElem_cons_zero, List.getElem_cons_succ, List.setIfInBounds_toArray, List.set_cons_zero, List.set_cons_succ]
  refine wpAnyH_take (i := 1) (v := ?_) rfl (by kernel_rfl) (by kernel_rfl) (by kernel_rfl) (fun _ _ _ h => h) (Or.inl ⟨by rfl, ?_⟩) (by assumption) ?_
  rotate_left
  · (intro w' hSw; (try dsimp only at hSw); first | (go_simp; done) | (go_simp; with_reducible rfl))
  try simp only [Act.put, List.getElem_toArray, List.getElem_cons_zero, List.getElem_cons_succ, List.setIfInBounds_toArray, List.set_cons_zero, List.set_cons_succ]
  refine wpAnyH_take (i := 2) (v := ?_) rfl (by kernel_rfl) (by kernel_rfl) (by kernel_rfl) (fun _ _ _ h => h) (Or.inl ⟨by rfl, ?_⟩) (by assumption) ?_
  rotate_left
  · (intro w' hSw; (try dsimp only at hSw); first | (go_simp; done) | (go_simp; with_reducible rfl))
  try simp only [Act.put, List.getElem_toArray, List.getElem_cons_zero, List.getElem_cons_succ, List.setIfInBounds_toArray, List.set_cons_zero, List.set_cons_succ]
  refine wpAnyH_take (i := 4) (v := ?_) rfl (by kernel_rfl) (by kernel_rfl) (by kernel_rfl) (fun _ _ _ h => h) (Or.inl ⟨by rfl, ?_⟩) (by assumption) ?_
  rotate_left
  · (intro w' hSw; (try dsimp only at hSw); first | (go_simp; done) | (go_simp; with_reducible rfl))
  try simp only [Act.put, List.getElem_toArray, List.getElem_cons_zero, List.getElem_cons_succ, List.setIfInBounds_toArray, List.set_cons_zero, List.set_cons_succ]
  refine wpAnyH_take (i := 5) (v := ?_) rfl (by kernel_rfl) (by kernel_rfl) (by kernel_rfl) (fun _ _ _ h => h) (Or.inl ⟨by rfl, ?_⟩) (by assumption) ?_
  rotate_left
  · (intro w' hSw; (try dsimp only at hSw); first | (go_simp; done) | (go_simp; with_reducible rfl))
  try simp only [Act.put, List.getElem_toArray, List.getElem_cons_zero, List.getElem_cons_succ, List.setIfInBounds_toArray, List.set_cons_zero, List.set_cons_succ]
  refine wpAnyH_take (i := 6) (v := ?_) rfl (by kernel_rfl) (by kernel_rfl) (by kernel_rfl) (fun _ _ _ h => h) (Or.inl ⟨by rfl, ?_⟩) (by assumption) ?_
  rotate_left
  · (intro w' hSw; (try dsimp only at hSw); first | (go_simp; done) | (go_simp; with_reducible rfl))
  try simp only [Act.put, List.getElem_toArray, List.getElem_cons_zero, List.getElem_cons_succ, List.setIfInBounds_toArray, List.set_cons_zero, List.set_cons_succ]
  refine wpAnyH_ready (rs := [3]) (by kernel_rfl) (by simp) ?_
  refine AllReadyH.cons rfl (fun K hK => ?_) AllReadyH.nil
  go_simp
  go_at_call 30
  refine HCV.out.mono ?_
  rintro e w2 hvp
  obtain rfl := hvp.1
  have HVP := Lib.hid hvp
  have HMD := Lib.hid (HH0.out.mid hvp)
  obtain ⟨_, gb2, vb2, p2, vt2, hv2, ho2, hd2, hp2⟩ := hvp
  have HX2 := Lib.hid (hstayV HH0.out.st.v HX0.out ho2 (by decide) (by decide) (by decide))
  have HY2 := Lib.hid (hstayV HH0.out.st.v HY0.out ho2 (by decide) (by decide) (by decide))
  have HQC := Lib.hid (HCQ.out w2 HMD.out.1 HMD.out.2)
  clear hv2 ho2 hd2 hp2 hHeld
  refine hK.out _ _ (by simpa using HX2.out.cell 2) (fun hHeld => ?_)
  try simp only [Act.put, List.getElem_toArray, List.getElem_cons_zero, List.getElem_cons_succ, List.setIfInBounds_toArray, List.set_cons_zero, List.set_cons_succ]
  refine wpAnyH_ready (rs := [7]) (by kernel_rfl) (by simp) ?_
  refine AllReadyH.cons rfl (fun K hK => ?_) AllReadyH.nil
  go_simp
  go_at_call 69
  refine HQC.out.mono ?_
  rintro e w3 hqp
  obtain rfl := hqp.1
  have HFI := Lib.hid (HH0.out.next HVP.out hqp HKI.out HRE.out hl2 hl1 hl3)
  obtain ⟨_, v3, q3, u3, hv3, ho3, _, _, _⟩ := hqp
  have HX3 := Lib.hid (hstayD HMD.out.1 HX2.out ho3 (by decide) (by decide) (by decide))
  have HY3 := Lib.hid (hstayD HMD.out.1 HY2.out ho3 (by decide) (by decide) (by decide))
  clear hv3 ho3 hHeld
  refine hK.out _ _ (by simpa using HX3.out.cell 2) (fun hHeld => ?_)
  try simp only [Act.put, List.getElem_toArray, List.getElem_cons_zero, List.getElem_cons_succ, List.setIfInBounds_toArray, List.set_cons_zero, List.set_cons_succ]
  refine wpAnyH_take (i := 8) (v := ?_) rfl (by kernel_rfl) (by kernel_rfl) (by kernel_rfl) (fun _ _ _ h => h) (Or.inl ⟨by rfl, ?_⟩) (by assumption) ?_
  rotate_left
  · (intro w' hSw; (try dsimp only at hSw); first | (go_simp; done) | (go_simp; with_reducible rfl))
  try simp only [Act.put, List.getElem_toArray, List.getElem_cons_zero, List.getElem_cons_succ, List.setIfInBounds_toArray, List.set_cons_zero, List.set_cons_succ]
  refine wpAnyH_take (i := 9) (v := ?_) rfl (by kernel_rfl) (by kernel_rfl) (by kernel_rfl) (fun _ _ _ h => h) (Or.inl ⟨by rfl, ?_⟩) (by assumption) ?_
  rotate_left
  · (intro w' hSw; (try dsimp only at hSw); first | (go_simp; done) | (go_simp; with_reducible rfl))
  try simp only [Act.put, List.getElem_toArray, List.getElem_cons_zero, List.getElem_cons_succ, List.setIfInBounds_toArray, List.set_cons_zero, List.set_cons_succ]
  refine wpAnyH_done (by kernel_rfl) ?_ _
  clear hHeld
  go_wp2_with fail
  go_ret
  exact ⟨rfl, HFI.out⟩
set_option maxHeartbeats 8000000 in
set_option maxRecDepth 100000 in
theorem doesH_capture (f : ActH) (w : World) (H : TwoH W gv gt h M A droom k w gb vb bl p vt S L v q u D) (hM : M ≤ 16) (hA : A ≤ 9) (hf : ActHOk W f) (h8 : f.l.length ≤ 8) (hk : k ≤ 100) (q0 : (f.kd == 0) = false) (q1 : (f.kd == 1) = false) (q2 : (f.kd == 2) = false) (q3 : (f.kd == 3) = false) :
    Calls Try.prog 23 #[.pointer (some ⟨gv, 0, none⟩), .pointer (some ⟨h, 0, none⟩), .agg #[.int .i64 f.kd, .slice f.P f.l.length f.c, .int .i64 f.id, .int .i64 f.x.kind, .int .i64 f.x.member, .int .i64 f.y.kind, .int .i64 f.y.member, .int .i64 f.a, .int .i64 f.z]] w (DoesHP W gv gt h M A droom (k + 1)) := by
  have bx0 := Blk.new w 54 #[.int .i64 f.kd, .slice f.P f.l.length f.c, .int .i64 f.id, .int .i64 f.x.kind, .int .i64 f.x.member, .int .i64 f.y.kind, .int .i64 f.y.member, .int .i64 f.a, .int .i64 f.z] w.heap.size rfl
  have by0 := Blk.new (w.alloc (.cells #[.int .i64 f.kd, .slice f.P f.l.length f.c, .int .i64 f.id, .int .i64 f.x.kind, .int .i64 f.x.member, .int .i64 f.y.kind, .int .i64 f.y.member, .int .i64 f.a, .int .i64 f.z] 54)) 60 #[.int .i64 f.x.kind, .int .i64 f.x.member, .int .i64 f.a, .int .i64 f.z] (w.heap.size + 1) (by simp)
  have hB0 := ((Below.refl w.heap.size w).alloc (Nat.le_refl _) (.cells #[.int .i64 f.kd, .slice f.P f.l.length f.c, .int .i64 f.id, .int .i64 f.x.kind, .int .i64 f.x.member, .int .i64 f.y.kind, .int .i64 f.y.member, .int .i64 f.a, .int .i64 f.z] 54)).alloc (by simp) (.cells #[.int .i64 f.x.kind, .int .i64 f.x.member, .int .i64 f.a, .int .i64 f.z] 60)
  have bx := bx0.alloc (.cells #[.int .i64 f.x.kind, .int .i64 f.x.member, .int .i64 f.a, .int .i64 f.z] 60)
  obtain ⟨W0, hW0⟩ : ∃ W0, Hid ((w.alloc (.cells #[.int .i64 f.kd, .slice f.P f.l.length f.c, .int .i64 f.id, .int .i64 f.x.kind, .int .i64 f.x.member, .int .i64 f.y.kind, .int .i64 f.y.member, .int .i64 f.a, .int .i64 f.z] 54)).alloc (.cells #[.int .i64 f.x.kind, .int .i64 f.x.member, .int .i64 f.a, .int .i64 f.z] 60) = W0) := ⟨_, Lib.hid rfl⟩
  rw [hW0.out] at bx by0 hB0
  obtain ⟨xb, hxb⟩ : ∃ xb, Hid (w.heap.size = xb) := ⟨_, Lib.hid rfl⟩
  obtain ⟨yb, hyb⟩ : ∃ yb, Hid (xb + 1 = yb) := ⟨_, Lib.hid rfl⟩
  rw [hxb.out] at bx by0
  rw [hyb.out] at by0
  have HH := Lib.hid (H.past hB0)
  have HX := Lib.hid bx
  have HY := Lib.hid by0
  have hdr := Below.drew (Below.refl W0.heap.size W0)
  have HH0 := Lib.hid (HH.out.past hdr)
  have HX0 := Lib.hid (HX.out.past hdr)
  have HY0 := Lib.hid (HY.out.past hdr)
  obtain ⟨K, bl', S', L', D', hcv, hcq, hki, hre, hl1, hl2, hl3⟩ := both_capture f HH0.out hM hA hf hk
  have HCV := Lib.hid hcv
  have HCQ := Lib.hid hcq
  have HKI := Lib.hid hki
  have HRE := Lib.hid hre
  have hCC : (K == K) = true := by simp
  have x0 := (HX.out).cell 0
  have x1 := (HX.out).cell 1
  have x2 := (HX.out).cell 2
  have x3 := (HX.out).cell 3
  have x4 := (HX.out).cell 4
  have x5 := (HX.out).cell 5
  have x6 := (HX.out).cell 6
  have x7 := (HX.out).cell 7
  have x8 := (HX.out).cell 8
  simp at x0 x1 x2 x3 x4 x5 x6 x7 x8
  have y0 := (HY.out).cell 0
  have y1 := (HY.out).cell 1
  have y2 := (HY.out).cell 2
  have y3 := (HY.out).cell 3
  simp at y0 y1 y2 y3
  clear H bx0 by0 bx hB0 hdr hcv hcq hki hre
  go_enter Try.func23, Try.ntmps23
  go_upto_region 2 with fail
  rw [hW0.out, hxb.out, hyb.out]
  go_upto_region 11 with fail
  have hS0 : W0.drew.cell? ⟨xb, 2, none⟩ = some (.int .i64 f.id) ∧ W0.drew.cell? ⟨xb, 5, none⟩ = some (.int .i64 f.y.kind) ∧ W0.drew.cell? ⟨xb, 6, none⟩ = some (.int .i64 f.y.member) ∧ W0.drew.cell? ⟨xb, 8, none⟩ = some (.int .i64 f.z) := ⟨by simpa using HX0.out.cell 2, by simpa using HX0.out.cell 5, by simpa using HX0.out.cell 6, by simpa using HX0.out.cell 8⟩
  refine wp_region_held_drew (S := fun w' => w'.cell? ⟨xb, 2, none⟩ = some (.int .i64 f.id) ∧ w'.cell? ⟨xb, 5, none⟩ = some (.int .i64 f.y.kind) ∧ w'.cell? ⟨xb, 6, none⟩ = some (.int .i64 f.y.member) ∧ w'.cell? ⟨xb, 8, none⟩ = some (.int .i64 f.z)) (by kernel_rfl) hS0 (fun hHeld => ?_)
  clear hS0 x0 x1 x2 x3 x4 x5 x6 x7 x8 y0 y1 y2 y3
  refine wpAnyH_take (i := 0) (v := ?_) rfl (by kernel_rfl) (by kernel_rfl) (by kernel_rfl) (fun _ _ _ h => h) (Or.inl ⟨by rfl, ?_⟩) (by assumption) ?_
  rotate_left
  · (intro w' hSw; (try dsimp only at hSw); first | (go_simp; done) | (go_simp; with_reducible rfl))
  try simp only [Act.put, List.getElem_toArray, List.getElem_cons_zero, List.getElem_cons_succ, List.setIfInBounds_toArray, List.set_cons_zero, List.set_cons_succ]
  refine wpAnyH_take (i := 1) (v := ?_) rfl (by kernel_rfl) (by kernel_rfl) (by kernel_rfl) (fun _ _ _ h => h) (Or.inl ⟨by rfl, ?_⟩) (by assumption) ?_
  rotate_left
  · (intro w' hSw; (try dsimp only at hSw); first | (go_simp; done) | (go_simp; with_reducible rfl))
  try simp only [Act.put, List.getElem_toArray, List.getElem_cons_zero, List.getElem_cons_succ, List.setIfInBounds_toArray, List.set_cons_zero, List.set_cons_succ]
  refine wpAnyH_take (i := 2) (v := ?_) rfl (by kernel_rfl) (by kernel_rfl) (by kernel_rfl) (fun _ _ _ h => h) (Or.inl ⟨by rfl, ?_⟩) (by assumption) ?_
  rotate_left
  · (intro w' hSw; (try dsimp only at hSw); first | (go_simp; done) | (go_simp; with_reducible rfl))
  try simp only [Act.put, List.getElem_toArray, List.getElem_cons_zero, List.getElem_cons_succ, List.setIfInBounds_toArray, List.set_cons_zero, List.set_cons_succ]
  refine wpAnyH_take (i := 3) (v := ?_) rfl (by kernel_rfl) (by kernel_rfl) (by kernel_rfl) (fun _ _ _ h => h) (Or.inl ⟨by rfl, ?_⟩) (by assumption) ?_
  rotate_left
  · (intro w' hSw; (try dsimp only at hSw); first | (go_simp; done) | (go_simp; with_reducible rfl))
  try simp only [Act.put, List.getElem_toArray, List.getElem_cons_zero, List.getElem_cons_succ, List.setIfInBounds_toArray, List.set_cons_zero, List.set_cons_succ]
  refine wpAnyH_take (i := 4) (v := ?_) rfl (by kernel_rfl) (by kernel_rfl) (by kernel_rfl) (fun _ _ _ h => h) (Or.inl ⟨by rfl, ?_⟩) (by assumption) ?_
  rotate_left
  · (intro w' hSw; (try dsimp only at hSw); first | (go_simp; done) | (go_simp; with_reducible rfl))
  try simp only [Act.put, List.getElem_toArray, List.getElem_cons_zero, List.getElem_cons_succ, List.setIfInBounds_toArray, List.set_cons_zero, List.set_cons_succ]
  refine wpAnyH_take (i := 5) (v := ?_) rfl (by kernel_rfl) (by kernel_rfl) (by kernel_rfl) (fun _ _ _ h => h) (Or.inl ⟨by rfl, ?_⟩) (by assumption) ?_
  rotate_left
  · (intro w' hSw; (try dsimp only at hSw); first | (go_simp; done) | (go_simp; with_reducible rfl))
  try simp only [Act.put, List.getElem_toArray, List.getElem_cons_zero, List.getElem_cons_succ, List.setIfInBounds_toArray, List.set_cons_zero, List.set_cons_succ]
  refine wpAnyH_take (i := 6) (v := ?_) rfl (by kernel_rfl) (by kernel_rfl) (by kernel_rfl) (fun _ _ _ h => h) (Or.inl ⟨by rfl, ?_⟩) (by assumption) ?_
  rotate_left
  · (intro w' hSw; (try dsimp only at hSw); first | (go_simp; done) | (go_simp; with_reducible rfl))
  try simp only [Act.put, List.getElem_toArray, List.getElem_cons_zero, List.getElem_cons_succ, List.setIfInBounds_toArray, List.set_cons_zero, List.set_cons_succ]
  refine wpAnyH_take (i := 8) (v := ?_) rfl (by kernel_rfl) (by kernel_rfl) (by kernel_rfl) (fun _ _ _ h => h) (Or.inl ⟨by rfl, ?_⟩) (by assumption) ?_
  rotate_left
  · (intro w' hSw; (try dsimp only at hSw); first | (go_simp; done) | (go_simp; with_reducible rfl))
  try simp only [Act.put, List.getElem_toArray, List.getElem_cons_zero, List.getElem_cons_succ, List.setIfInBounds_toArray, List.set_cons_zero, List.set_cons_succ]
  refine wpAnyH_take (i := 9) (v := ?_) rfl (by kernel_rfl) (by kernel_rfl) (by kernel_rfl) (fun _ _ _ h => h) (Or.inl ⟨by rfl, ?_⟩) (by assumption) ?_
  rotate_left
  · (intro w' hSw; (try dsimp only at hSw); first | (go_simp; done) | (go_simp; with_reducible rfl))
  try simp only [Act.put, List.getElem_toArray, List.getElem_cons_zero, List.getElem_cons_succ, List.setIfInBounds_toArray, List.set_cons_zero, List.set_cons_succ]
  refine wpAnyH_take (i := 10) (v := ?_) rfl (by kernel_rfl) (by kernel_rfl) (by kernel_rfl) (fun _ _ _ h => h) (Or.inl ⟨by rfl, ?_⟩) (by assumption) ?_
  rotate_left
  · (intro w' hSw; (try dsimp only at hSw); first | (go_simp; done) | (go_simp; with_reducible rfl))
  try simp only [Act.put, List.getElem_toArray, List.getElem_cons_zero, List.getElem_cons_succ, List.setIfInBounds_toArray, List.set_cons_zero, List.set_cons_succ]
  refine wpAnyH_take (i := 11) (v := ?_) rfl (by kernel_rfl) (by kernel_rfl) (by kernel_rfl) (fun _ _ _ h => h) (Or.inl ⟨by rfl, ?_⟩) (by assumption) ?_
  rotate_left
  · (intro w' hSw; (try dsimp only at hSw); first | (go_simp; done) | (go_simp; with_reducible rfl))
  try simp only [Act.put, List.getElem_toArray, List.getElem_cons_zero, List.getElem_cons_succ, List.setIfInBounds_toArray, List.set_cons_zero, List.set_cons_succ]
  refine wpAnyH_take (i := 12) (v := ?_) rfl (by kernel_rfl) (by kernel_rfl) (by kernel_rfl) (fun _ _ _ h => h) (Or.inl ⟨by rfl, ?_⟩) (by assumption) ?_
  rotate_left
  · (intro w' hSw; (try dsimp only at hSw); first | (go_simp; done) | (go_simp; with_reducible rfl))
  try simp only [Act.put, List.getElem_toArray, List.getElem_cons_zero, List.getElem_cons_succ, List.setIfInBounds_toArray, List.set_cons_zero, List.set_cons_succ]
  refine wpAnyH_take (i := 13) (v := ?_) rfl (by kernel_rfl) (by kernel_rfl) (by kernel_rfl) (fun _ _ _ h => h) (Or.inl ⟨by rfl, ?_⟩) (by assumption) ?_
  rotate_left
  · (intro w' hSw; (try dsimp only at hSw); first | (go_simp; done) | (go_simp; with_reducible rfl))
  try simp only [Act.put, List.getElem_toArray, List.getElem_cons_zero, List.getElem_cons_succ, List.setIfInBounds_toArray, List.set_cons_zero, List.set_cons_succ]
  refine wpAnyH_take (i := 14) (v := ?_) rfl (by kernel_rfl) (by kernel_rfl) (by kernel_rfl) (fun _ _ _ h => h) (Or.inl ⟨by rfl, ?_⟩) (by assumption) ?_
  rotate_left
  · (intro w' hSw; (try dsimp only at hSw); first | (go_simp; done) | (go_simp; with_reducible rfl))
  try simp only [Act.put, List.getElem_toArray, List.getElem_cons_zero, List.getElem_cons_succ, List.setIfInBounds_toArray, List.set_cons_zero, List.set_cons_succ]
  refine wpAnyH_ready (rs := [7]) (by kernel_rfl) (by simp) ?_
  refine AllReadyH.cons rfl (fun K hK => ?_) AllReadyH.nil
  go_simp
  go_at_call 31
  refine HCV.out.mono ?_
  rintro e w2 hvp
  obtain rfl := hvp.1
  have HVP := Lib.hid hvp
  have HMD := Lib.hid (HH0.out.mid hvp)
  obtain ⟨_, gb2, vb2, p2, vt2, hv2, ho2, hd2, hp2⟩ := hvp
  have HX2 := Lib.hid (hstayV HH0.out.st.v HX0.out ho2 (by decide) (by decide) (by decide))
  have HY2 := Lib.hid (hstayV HH0.out.st.v HY0.out ho2 (by decide) (by decide) (by decide))
  have HQC := Lib.hid (HCQ.out w2 HMD.out.1 HMD.out.2)
  clear hv2 ho2 hd2 hp2 hHeld
  refine hK.out _ _ (⟨by simpa using HX2.out.cell 2, by simpa using HX2.out.cell 5, by simpa using HX2.out.cell 6, by simpa using HX2.out.cell 8⟩) (fun hHeld => ?_)
  try simp only [Act.put, List.getElem_toArray, List.getElem_cons_zero, List.getElem_cons_succ, List.setIfInBounds_toArray, List.set_cons_zero, List.set_cons_succ]
  refine wpAnyH_ready (rs := [15]) (by kernel_rfl) (by simp) ?_
  refine AllReadyH.cons rfl (fun K hK => ?_) AllReadyH.nil
  go_simp
  go_at_call 70
  refine HQC.out.mono ?_
  rintro e w3 hqp
  obtain rfl := hqp.1
  have HFI := Lib.hid (HH0.out.next HVP.out hqp HKI.out HRE.out hl2 hl1 hl3)
  obtain ⟨_, v3, q3, u3, hv3, ho3, _, _, _⟩ := hqp
  have HX3 := Lib.hid (hstayD HMD.out.1 HX2.out ho3 (by decide) (by decide) (by decide))
  have HY3 := Lib.hid (hstayD HMD.out.1 HY2.out ho3 (by decide) (by decide) (by decide))
  clear hv3 ho3 hHeld
  refine hK.out _ _ (⟨by simpa using HX3.out.cell 2, by simpa using HX3.out.cell 5, by simpa using HX3.out.cell 6, by simpa using HX3.out.cell 8⟩) (fun hHeld => ?_)
  try simp only [Act.put, List.getElem_toArray, List.getElem_cons_zero, List.getElem_cons_succ, List.setIfInBounds_toArray, List.set_cons_zero, List.set_cons_succ]
  refine wpAnyH_take (i := 16) (v := ?_) rfl (by kernel_rfl) (by kernel_rfl) (by kernel_rfl) (fun _ _ _ h => h) (Or.inl ⟨by rfl, ?_⟩) (by assumption) ?_
  rotate_left
  · (intro w' hSw; (try dsimp only at hSw); first | (go_simp; done) | (go_simp; with_reducible rfl))
  try simp only [Act.put, List.getElem_toArray, List.getElem_cons_zero, List.getElem_cons_succ, List.setIfInBounds_toArray, List.set_cons_zero, List.set_cons_succ]
  refine wpAnyH_take (i := 17) (v := ?_) rfl (by kernel_rfl) (by kernel_rfl) (by kernel_rfl) (fun _ _ _ h => h) (Or.inl ⟨by rfl, ?_⟩) (by assumption) ?_
  rotate_left
  · (intro w' hSw; (try dsimp only at hSw); first | (go_simp; done) | (go_simp; with_reducible rfl))
  try simp only [Act.put, List.getElem_toArray, List.getElem_cons_zero, List.getElem_cons_succ, List.setIfInBounds_toArray, List.set_cons_zero, List.set_cons_succ]
  refine wpAnyH_done (by kernel_rfl) ?_ _
  clear hHeld
  go_wp2_with fail
  go_ret
  exact ⟨rfl, HFI.out⟩
theorem doesH_any (f : ActH) (w : World) (H : TwoH W gv gt h M A droom k w gb vb bl p vt S L v q u D) (hM : M ≤ 16) (hA : A ≤ 9) (hf : ActHOk W f) (h8 : f.l.length ≤ 8) (hk : k ≤ 100) :
    Calls Try.prog 23 #[.pointer (some ⟨gv, 0, none⟩), .pointer (some ⟨h, 0, none⟩), .agg #[.int .i64 f.kd, .slice f.P f.l.length f.c, .int .i64 f.id, .int .i64 f.x.kind, .int .i64 f.x.member, .int .i64 f.y.kind, .int .i64 f.y.member, .int .i64 f.a, .int .i64 f.z]] w (DoesHP W gv gt h M A droom (k + 1)) := by
  by_cases h0 : f.kd = 0
  · exact doesH_post f w H hM hA hf h8 hk h0
  · by_cases h1 : f.kd = 1
    · exact doesH_move f w H hM hA hf h8 hk h1
    · by_cases h2 : f.kd = 2
      · exact doesH_place f w H hM hA hf h8 hk h2
      · by_cases h3 : f.kd = 3
        · exact doesH_release f w H hM hA hf h8 hk h3
        · exact doesH_capture f w H hM hA hf h8 hk (by simpa using h0) (by simpa using h1) (by simpa using h2) (by simpa using h3)
end
end Go.Proofs.Ytelbolhckhdioaa
