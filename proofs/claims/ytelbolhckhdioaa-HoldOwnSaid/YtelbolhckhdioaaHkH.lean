import Derived.Test.YtelbolhckhdioaaHkG
/-! ## from HdD -/
namespace Go.Proofs.Ytelbolhckhdioaa
open Go.RowKit

/-! ### The document's Release -/
theorem eraseIdx_next_ne {α : Type} {D : List α} {j at_ : Nat} {f : α} (hT : D.take (j + 1) = D.take j ++ [f]) (hj : (D.take j).length = j) (hne : j ≠ at_) : (D.take (j + 1)).eraseIdx at_ = (D.take j).eraseIdx at_ ++ [f] := by
  rw [hT]
  by_cases h : at_ < j
  · exact List.eraseIdx_append_of_lt_length (by rw [hj]; exact h) _
  · have e1 : (D.take j).eraseIdx at_ = D.take j := List.eraseIdx_of_length_le (by rw [hj]; omega)
    have e2 : [f].eraseIdx (at_ - j) = [f] := List.eraseIdx_of_length_le (by simp; omega)
    rw [List.eraseIdx_append_of_length_le (by rw [hj]; omega), hj, e1, e2]
theorem eraseIdx_next_eq {α : Type} {D : List α} {j : Nat} {f : α} (hT : D.take (j + 1) = D.take j ++ [f]) (hj : (D.take j).length = j) : (D.take (j + 1)).eraseIdx j = (D.take j).eraseIdx j := by
  have e1 : (D.take j).eraseIdx j = D.take j := List.eraseIdx_of_length_le (by rw [hj]; exact Nat.le_refl _)
  rw [hT, List.eraseIdx_append_of_length_le (by rw [hj]; exact Nat.le_refl _), hj, Nat.sub_self, e1]
  simp
def relD (D : List HRow) (id : Int) : List HRow := if TTbH.isT D id = true then TTbH.dropTL D id else D
section
variable {h base M A : Nat} {v : Value} {L : List Ent} {p room : Int} {u : Value} {D : List HRow}
set_option maxHeartbeats 8000000 in
set_option maxRecDepth 100000 in
theorem refRelease_any (id : Int) (w : World) (hx : QvtV w h base M A v L p room u D) (hdis : TTbH.DistT D) (hbase : base ≤ w.heap.size) :
    Calls Try.prog 69 #[.pointer (some ⟨h, 0, none⟩), .int .i64 id] w (QPost h base M A v p room u (relK D id) L (relD D id) w) := by
  have HX := Lib.hid hx
  have HFD := Lib.hid (refFindV_any id w hx)
  obtain ⟨i0, hi0, hz0, hz1, hz2⟩ := info_parts row15Info
  clear hx
  go_enter Try.func69, Try.ntmps69
  go_wp2_with fail
  refine HFD.out.mono ?_
  rintro e w1 ⟨⟨i, rfl, hfd⟩, rfl⟩
  rcases hfd with ⟨rfl, his⟩ | ⟨a, r, rfl, hr, hid⟩
  · have HK : Hid (relK D id = 8 ∧ relD D id = D) := Lib.hid ⟨if_neg (by rw [his]; simp), if_neg (by rw [his]; simp)⟩
    clear his
    go_wp2_with fail
    go_ret
    rw [HK.out.1, HK.out.2]
    exact QPost.same HX.out (Below.refl _ _) 8
  · have his : TTbH.isT D id = true := List.any_eq_true.2 ⟨r, List.mem_of_getElem? hr, by simpa using hid⟩
    have HK : Hid (relK D id = 0 ∧ relD D id = D.eraseIdx a) := Lib.hid ⟨if_pos his, by
      rw [relD, if_pos his, ← hid, TTbH.dropT_at hdis hr, List.eraseIdx_eq_take_drop_succ]⟩
    have hal : a < D.length := (List.getElem?_eq_some_iff.1 hr).1
    have ha0 : ¬ (a : Int) < 0 := by omega
    obtain ⟨X, c, hu⟩ := HX.out.form
    subst hu
    obtain ⟨n, hn⟩ : ∃ n, Hid (D.length = n) := ⟨_, Lib.hid rfl⟩
    have HBK := Lib.hid HX.out.blk
    have HR := Lib.hid (Rd.of_own HX.out.row)
    have hl := HX.out.len
    rw [hn.out] at HBK HR hl hal
    clear his hr hid HFD
    rw [hn.out]
    go_wp2_with fail
    go_loopw [6, 7] (fun q i wr => ∃ k : Nat, k ≤ n ∧ i = .int .i64 k ∧ Hid (wr.ownsRow w.heap.size 124 5 q ((D.take k).eraseIdx a).length (((D.take k).eraseIdx a).flatMap TTbH.RowT.cells)) ∧ Hid (Below w.heap.size w wr)) (fun _ i _ => n - (intOf i).toNat)
    case atStart => exact ⟨0, Nat.zero_le _, rfl, Lib.hid (World.ownsRow_nil _ _ _ _), Lib.hid (Below.refl _ _)⟩
    case round =>
      obtain ⟨k, hk, rfl, HO, HB⟩ := hrel
      have hbs := HB.out.size
      have p1 := (HBK.out.past HB.out).cell 5
      simp at p1
      by_cases hlt : k < n
      · have hlz : (k : Int) < (n : Int) := by omega
        have hg_f : D[k]? = some (D[k]'(by have := hn.out; omega)) := List.getElem?_eq_getElem _
        obtain ⟨b_f, off_f, rfl, hbb_f, hc_f⟩ := (HR.out.past HB.out).elem TTbH.RowT.cells_len hg_f hlt
        have HT_f := Lib.hid (show D.take (k + 1) = D.take k ++ [(D[k]'(by have := hn.out; omega))] from List.take_succ_eq_append_getElem (by have := hn.out; omega))
        have HM_f := Lib.hid (show (D[k]'(by have := hn.out; omega)) ∈ D from List.getElem_mem _)
        generalize (D[k]'(by have := hn.out; omega)) = f at *
        have c0 := hc_f 0 _ rfl
        have c1 := hc_f 1 _ rfl
        have c2 := hc_f 2 _ rfl
        have c3 := hc_f 3 _ rfl
        have c4 := hc_f 4 _ rfl
        clear hc_f hg_f
        simp only [Nat.add_zero] at c0
        obtain ⟨m, hm⟩ : ∃ m, Hid (((D.take k).eraseIdx a).length = m) := ⟨_, Lib.hid rfl⟩
        have hkl : (D.take k).length = k := by rw [List.length_take]; have := hn.out; omega
        have hmk : m ≤ 1000 := by
          rw [← hm.out]
          exact Nat.le_trans (List.length_eraseIdx_le _ _) (by omega)
        rw [hm.out] at HO
        by_cases he : k = a
        · have HT : Hid ((D.take (k + 1)).eraseIdx a = (D.take k).eraseIdx a) := Lib.hid (by rw [← he]; exact eraseIdx_next_eq HT_f.out hkl)
          have hq : ((k : Int) != (a : Int)) = false := by rw [he]; simp
          clear hkl
          go_wp2_with fail
          go_roundw
          case rel => exact ⟨k + 1, by omega, by go_num, by rw [HT.out, hm.out]; exact HO, HB⟩
          case measure => simp [intOf]; omega
        · have HT : Hid ((D.take (k + 1)).eraseIdx a = (D.take k).eraseIdx a ++ [f]) := Lib.hid (eraseIdx_next_ne HT_f.out hkl he)
          have hq : ((k : Int) != (a : Int)) = true := by simp; omega
          clear hkl he
          go_wp2_with (at_builtin; refine wpList_append_lit_atN _ _ rfl (.tmp 25) (.tmp 33) 47 rfl w.heap.size 124 i0 _ 5 40 Try.underlying47 hi0 hz0 hz1 hz2 rfl (by decide) _ _ _ rfl HO.out _ 1 1 rfl (by first | rfl | simp) rfl (by simp [Value.oneCell']) (by omega) (by omega) (by omega) ?_; intro u' w' hown' hg' hdd; have HOWN := Lib.hid hown'; have HBW := Lib.hid (below_own (HB.out.alloc hbs _) hg' HO.out (by simp; omega) (Nat.le_refl _)); clear hown' hg' hdd)
          have HO2 : Hid (w'.ownsRow w.heap.size 124 5 u' ((D.take (k + 1)).eraseIdx a).length (((D.take (k + 1)).eraseIdx a).flatMap TTbH.RowT.cells)) := Lib.hid (by
            rw [HT.out, List.length_append, hm.out, List.flatMap_append]
            simpa [TTbH.RowT.cells] using HOWN.out)
          clear HOWN
          go_wp2_with fail
          go_roundw
          case rel => exact ⟨k + 1, by omega, by go_num, HO2, HBW⟩
          case measure => simp [intOf]; omega
      · have hlz : ¬ (k : Int) < (n : Int) := by omega
        obtain rfl : n = k := by omega
        have hT : D.take n = D := List.take_of_length_le (by rw [hn.out]; exact Nat.le_refl _)
        rw [hT] at HO
        clear hT
        have hlen : (D.eraseIdx a).length ≤ 1000 := Nat.le_trans (List.length_eraseIdx_le _ _) HX.out.len
        obtain ⟨m, hm⟩ : ∃ m, Hid ((D.eraseIdx a).length = m) := ⟨_, Lib.hid rfl⟩
        rw [hm.out] at HO hlen
        obtain ⟨A', c', hv'⟩ := own_form HO.out
        subst hv'
        have bz := HBK.out.past HB.out
        have z1 := bz.frozen 5
        have HFIN : Hid (QPost h base M A v p room (.slice X D.length c) (relK D id) L (relD D id) w (.returned (.int .i64 0)) (wr.setCell ⟨h, 5, none⟩ (.slice A' m c'))) := Lib.hid (by
          have hx1 := HX.out.past HB.out
          rw [HK.out.1, HK.out.2, hn.out]
          refine ⟨rfl, v, p, .slice A' m c', ⟨⟨hx1.book.form, bz.put 5 _, own_far (p := ⟨h, 5, none⟩) hx1.book.row (own_blk_ne hx1.book.row bz (by decide)) _, hx1.book.ok, hx1.book.len⟩, ⟨A', c', by rw [hm.out]⟩, ?_, by rw [hm.out]; exact hlen⟩, OnlyS.of_onlyG (g := h) (v := .slice X n c) ((OnlyG.of_below HB.out).setCell ⟨h, 5, none⟩ rfl _) (.inl rfl) (fun k e => .inr (.inr e)), fun k e => .inl e, fun k e => .inr (HO.out.lt k e).1, .inl rfl⟩
          · rw [hm.out]
            exact own_monoZ (own_far (p := ⟨h, 5, none⟩) HO.out (own_blk_ne HO.out bz (by decide)) _) hbase)
        clear bz
        go_wp2_with fail
        go_ret
        exact HFIN.out
end
end Go.Proofs.Ytelbolhckhdioaa

/-! ## from HdE -/
namespace Go.Proofs.Ytelbolhckhdioaa
open Go.RowKit

/-! ### The document's Capture -/
theorem set_amt : ∀ (l : List HRow) (i : Nat) (f : HRow), l[i]? = some f → ∀ z : Int, (l.flatMap TTbH.RowT.cells).set (i * 5 + 4) (.int .i64 (f.v.z - z)) = (l.set i ⟨f.id, lessH f z⟩).flatMap TTbH.RowT.cells
  | [], i, f, h, z => by simp at h
  | x :: l, 0, f, h, z => by
    simp at h; subst h
    simp [TTbH.RowT.cells, lessH]
  | x :: l, i + 1, f, h, z => by
    have ih := set_amt l i f (by simpa using h) z
    rw [List.set_cons_succ, List.flatMap_cons, List.flatMap_cons, ← ih]
    simp only [TTbH.RowT.cells, List.cons_append, List.nil_append, show (i + 1) * 5 + 4 = i * 5 + 4 + 5 from by omega, List.set_cons_succ]
theorem set_backH {D : List HRow} {k : Nat} {r : HRow} (hr : D[k]? = some r) (x : HRow) : (D.set k x).set k ⟨r.id, r.v⟩ = D := by
  rw [List.set_set]
  obtain ⟨hlt, e⟩ := List.getElem?_eq_some_iff.1 hr
  have : (⟨r.id, r.v⟩ : HRow) = D[k] := by rw [e]
  rw [this, List.set_getElem_self]
section
variable {h base M A : Nat} {v : Value} {bl : List Int} {L : List Ent} {p room : Int} {u : Value} {D : List HRow}
set_option maxHeartbeats 4000000 in
theorem refCap_no (id : Int) (y : Acc) (z : Int) (w : World) (hx : QvtV w h base M A v L p room u D) (hi : TTbH.isT D id = false) :
    Calls Try.prog 70 #[.pointer (some ⟨h, 0, none⟩), .int .i64 id, .agg #[.int .i64 y.kind, .int .i64 y.member], .int .i64 z] w (QPost h base M A v p room u 8 L D w) := by
  have hB0 := (Below.refl w.heap.size w).alloc (Nat.le_refl _) (.cells #[.int .i64 y.kind, .int .i64 y.member] 52)
  obtain ⟨W, hW⟩ : ∃ W, Hid (w.alloc (.cells #[.int .i64 y.kind, .int .i64 y.member] 52) = W) := ⟨_, Lib.hid rfl⟩
  rw [hW.out] at hB0
  have HX := Lib.hid hx
  have HB0 := Lib.hid hB0
  have HFD := Lib.hid (refFindV_any id W (hx.past hB0))
  have HI := Lib.hid hi
  clear hx hB0 hi
  go_enter Try.func70, Try.ntmps70
  go_upto_region 1 with fail
  rw [hW.out]
  go_wp2_with fail
  refine HFD.out.mono ?_
  rintro e w1 ⟨⟨i, rfl, hfd⟩, rfl⟩
  have hin : i < 0 := by
    rcases hfd with ⟨rfl, _⟩ | ⟨k, r, rfl, hk, hid⟩
    · omega
    · have h1 := HI.out
      have : TTbH.isT D id = true := List.any_eq_true.2 ⟨r, List.mem_of_getElem? hk, by simpa using hid⟩
      rw [this] at h1; cases h1
  clear hfd
  go_wp2_with fail
  go_ret
  exact QPost.same HX.out HB0.out 8
/-- Where it is found: ahead of the walk. -/
theorem FindH.at_ {D : List HRow} {k : Nat} {r : HRow} {i : Int} (hd : TTbH.DistT D) (hr : D[k]? = some r) (h : FindH D r.id i) : i = (k : Nat) := by
  rcases h with ⟨rfl, h⟩ | ⟨j, q, rfl, hj, hid⟩
  · have : TTbH.isT D r.id = true := List.any_eq_true.2 ⟨r, List.mem_of_getElem? hr, by simp⟩
    rw [this] at h; cases h
  · by_cases e : j = k
    · rw [e]
    · exfalso
      have hp := List.pairwise_iff_getElem.1 hd
      obtain ⟨h1, e1⟩ := List.getElem?_eq_some_iff.1 hj
      obtain ⟨h2, e2⟩ := List.getElem?_eq_some_iff.1 hr
      rcases Nat.lt_or_ge j k with hlt | hge
      · exact hp j k h1 h2 hlt (by rw [e1, e2]; exact hid)
      · exact hp k j h2 h1 (by omega) (by rw [e1, e2]; exact hid.symm)
set_option maxHeartbeats 4000000 in
theorem refCap_neg (y : Acc) (z : Int) (k : Nat) (r : HRow) (w : World) (hx : QvtV w h base M A v L p room u D) (hd : TTbH.DistT D) (hr : D[k]? = some r) (hz : z < 0) :
    Calls Try.prog 70 #[.pointer (some ⟨h, 0, none⟩), .int .i64 r.id, .agg #[.int .i64 y.kind, .int .i64 y.member], .int .i64 z] w (QPost h base M A v p room u 1 L D w) := by
  have hB0 := (Below.refl w.heap.size w).alloc (Nat.le_refl _) (.cells #[.int .i64 y.kind, .int .i64 y.member] 52)
  obtain ⟨W, hW⟩ : ∃ W, Hid (w.alloc (.cells #[.int .i64 y.kind, .int .i64 y.member] 52) = W) := ⟨_, Lib.hid rfl⟩
  rw [hW.out] at hB0
  have HX := Lib.hid hx
  have HB0 := Lib.hid hB0
  have HFD := Lib.hid (refFindV_any r.id W (hx.past hB0))
  have HAT := Lib.hid (fun i (hf : FindH D r.id i) => hf.at_ hd hr)
  clear hx hB0 hd hr
  go_enter Try.func70, Try.ntmps70
  go_upto_region 1 with fail
  rw [hW.out]
  go_wp2_with fail
  refine HFD.out.mono ?_
  rintro e w1 ⟨⟨i, rfl, hfd⟩, rfl⟩
  obtain rfl := HAT.out i hfd
  have hin : ¬ (k : Int) < 0 := by omega
  clear hfd
  go_wp2_with fail
  go_ret
  exact QPost.same HX.out HB0.out 1
set_option maxHeartbeats 4000000 in
theorem refCap_much (y : Acc) (z : Int) (k : Nat) (r : HRow) (w : World) (hx : QvtV w h base M A v L p room u D) (hd : TTbH.DistT D) (hr : D[k]? = some r) (hz : ¬ z < 0) (hm : r.v.z < z) :
    Calls Try.prog 70 #[.pointer (some ⟨h, 0, none⟩), .int .i64 r.id, .agg #[.int .i64 y.kind, .int .i64 y.member], .int .i64 z] w (QPost h base M A v p room u 12 L D w) := by
  have hB0 := (Below.refl w.heap.size w).alloc (Nat.le_refl _) (.cells #[.int .i64 y.kind, .int .i64 y.member] 52)
  obtain ⟨W, hW⟩ : ∃ W, Hid (w.alloc (.cells #[.int .i64 y.kind, .int .i64 y.member] 52) = W) := ⟨_, Lib.hid rfl⟩
  rw [hW.out] at hB0
  have HX := Lib.hid hx
  have hx0 := hx.past hB0
  have HB0 := Lib.hid hB0
  have HFD := Lib.hid (refFindV_any r.id W hx0)
  have HAT := Lib.hid (fun i (hf : FindH D r.id i) => hf.at_ hd hr)
  have hkl : k < D.length := (List.getElem?_eq_some_iff.1 hr).1
  obtain ⟨X, c, hu⟩ := hx0.form
  subst hu
  have p5 := hx0.blk.cell 5
  simp at p5
  obtain ⟨b, off, rfl, _, hc⟩ := (Rd.of_own hx0.row).elem TTbH.RowT.cells_len hr hkl
  have c1 := hc 1 _ rfl
  have c2 := hc 2 _ rfl
  have c3 := hc 3 _ rfl
  have c4 := hc 4 _ rfl
  have hkz : (k : Int) < (D.length : Int) := by omega
  have hba := hB0.alloc hB0.size (.cells #[.int .i64 r.v.k, .int .i64 r.v.m, .int .i64 r.v.a, .int .i64 r.v.z] 60)
  have HBA := Lib.hid hba
  clear hx hx0 hB0 hd hr hc hba
  go_enter Try.func70, Try.ntmps70
  go_upto_region 1 with fail
  rw [hW.out]
  go_wp2_with fail
  refine HFD.out.mono ?_
  rintro e w1 ⟨⟨i, rfl, hfd⟩, rfl⟩
  obtain rfl := HAT.out i hfd
  have hin : ¬ (k : Int) < 0 := by omega
  clear hfd
  go_wp2_with fail
  go_ret
  exact QPost.same HX.out HBA.out 12
end
end Go.Proofs.Ytelbolhckhdioaa

/-! ## from HdF -/
namespace Go.Proofs.Ytelbolhckhdioaa
open Go.RowKit

section
variable {h base M A : Nat} {v : Value} {bl : List Int} {L : List Ent} {p room : Int} {u : Value} {D : List HRow}
/-- One amount of a row is written. -/
theorem QvtV.setAmt {w : World} {gu c k : Nat} {r : HRow} (hx : QvtV w h base M A v L p room (.slice (some ⟨gu, 0, none⟩) D.length c) D) (hr : D[k]? = some r) (z : Int) :
    QvtV (w.setCell ⟨gu, k * 5 + 4, none⟩ (.int .i64 (r.v.z - z))) h base M A v L p room (.slice (some ⟨gu, 0, none⟩) D.length c) (D.set k ⟨r.id, lessH r z⟩) ∧ OnlyG h (.slice (some ⟨gu, 0, none⟩) D.length c) w (w.setCell ⟨gu, k * 5 + 4, none⟩ (.int .i64 (r.v.z - z))) := by
  have hkl : k < D.length := (List.getElem?_eq_some_iff.1 hr).1
  have hll : (D.set k ⟨r.id, lessH r z⟩).length = D.length := by simp
  have hne : gu ≠ h := fun e => own_blk_ne hx.row hx.blk (by decide) (by rw [e]; rfl)
  refine ⟨⟨⟨hx.book.form, hx.book.blk.far (p := ⟨gu, k * 5 + 4, none⟩) (fun e => hne e.symm) _, own_far (p := ⟨gu, k * 5 + 4, none⟩) hx.book.row (own_neZ hx.book.row hx.row (by decide) gu rfl) _, hx.book.ok, hx.book.len⟩, ⟨_, c, by rw [hll]⟩, ?_, by rw [hll]; exact hx.len⟩, (OnlyG.of_below (Below.refl _ _)).setOwnZ ⟨gu, k * 5 + 4, none⟩ rfl _⟩
  rw [hll, ← set_amt D k r hr z]
  exact own_setZ hx.row (by omega) _
/-- A row's hold is written. -/
theorem QvtV.setHold {w : World} {gu c k : Nat} {r : HRow} (hx : QvtV w h base M A v L p room (.slice (some ⟨gu, 0, none⟩) D.length c) D) (hr : D[k]? = some r) (s : HoldV) :
    QvtV ((((w.setCell ⟨gu, k * 5 + 1, none⟩ (.int .i64 s.k)).setCell ⟨gu, k * 5 + 2, none⟩ (.int .i64 s.m)).setCell ⟨gu, k * 5 + 3, none⟩ (.int .i64 s.a)).setCell ⟨gu, k * 5 + 4, none⟩ (.int .i64 s.z)) h base M A v L p room (.slice (some ⟨gu, 0, none⟩) D.length c) (D.set k ⟨r.id, s⟩) ∧ OnlyG h (.slice (some ⟨gu, 0, none⟩) D.length c) w ((((w.setCell ⟨gu, k * 5 + 1, none⟩ (.int .i64 s.k)).setCell ⟨gu, k * 5 + 2, none⟩ (.int .i64 s.m)).setCell ⟨gu, k * 5 + 3, none⟩ (.int .i64 s.a)).setCell ⟨gu, k * 5 + 4, none⟩ (.int .i64 s.z)) := by
  have hkl : k < D.length := (List.getElem?_eq_some_iff.1 hr).1
  have hll : (D.set k ⟨r.id, s⟩).length = D.length := by simp
  have hne : h ≠ gu := fun e => own_blk_ne hx.row hx.blk (by decide) (by rw [e]; rfl)
  have hvn : v.ownBlock ≠ some gu := own_neZ hx.book.row hx.row (by decide) gu rfl
  refine ⟨⟨⟨hx.book.form, (((hx.book.blk.far (p := ⟨gu, k * 5 + 1, none⟩) hne _).far (p := ⟨gu, k * 5 + 2, none⟩) hne _).far (p := ⟨gu, k * 5 + 3, none⟩) hne _).far (p := ⟨gu, k * 5 + 4, none⟩) hne _, own_far (p := ⟨gu, k * 5 + 4, none⟩) (own_far (p := ⟨gu, k * 5 + 3, none⟩) (own_far (p := ⟨gu, k * 5 + 2, none⟩) (own_far (p := ⟨gu, k * 5 + 1, none⟩) hx.book.row hvn _) hvn _) hvn _) hvn _, hx.book.ok, hx.book.len⟩, ⟨_, c, by rw [hll]⟩, ?_, by rw [hll]; exact hx.len⟩, ((((OnlyG.of_below (Below.refl _ _)).setOwnZ ⟨gu, k * 5 + 1, none⟩ rfl _).setOwnZ ⟨gu, k * 5 + 2, none⟩ rfl _).setOwnZ ⟨gu, k * 5 + 3, none⟩ rfl _).setOwnZ ⟨gu, k * 5 + 4, none⟩ rfl _⟩
  rw [hll, ← TTbH.set_row D k r hr s]
  exact own_setZ (own_setZ (own_setZ (own_setZ hx.row (by omega) _) (by omega) _) (by omega) _) (by omega) _
set_option maxHeartbeats 16000000 in
set_option maxRecDepth 100000 in
theorem refCap_go (y : Acc) (z : Int) (k : Nat) (r : HRow) (w : World) (hM : M ≤ 16) (hA : A ≤ 9) (hinv : Inv M A bl L) (hi : HInv M A bl D) (hx : QvtV w h base M A v L p room u D) (hd : TTbH.DistT D) (hr : D[k]? = some r) (hz : ¬ z < 0) (hm : ¬ r.v.z < z) (hix : inI r.v.k ∧ inI r.v.m) (hiy : inI y.kind ∧ inI y.member) (hia : inI r.v.a) (hiz : inI z) (hirz : inI r.v.z) (hLn : L.length ≤ 900) (hp : 0 ≤ p ∧ p ≤ 1000000) (hbase : base ≤ w.heap.size) :
    Calls Try.prog 70 #[.pointer (some ⟨h, 0, none⟩), .int .i64 r.id, .agg #[.int .i64 y.kind, .int .i64 y.member], .int .i64 z] w (QPost h base M A v p room u (hmK M A bl (D.set k ⟨r.id, lessH r z⟩) ⟨r.v.k, r.v.m⟩ y r.v.a z) (hmL M A bl (D.set k ⟨r.id, lessH r z⟩) L ⟨r.v.k, r.v.m⟩ y r.v.a z) (if hmK M A bl (D.set k ⟨r.id, lessH r z⟩) ⟨r.v.k, r.v.m⟩ y r.v.a z = 0 then D.set k ⟨r.id, lessH r z⟩ else D) w) := by
  have hB0 := (Below.refl w.heap.size w).alloc (Nat.le_refl _) (.cells #[.int .i64 y.kind, .int .i64 y.member] 52)
  have by_ := Blk.new w 52 #[.int .i64 y.kind, .int .i64 y.member] w.heap.size rfl
  obtain ⟨W, hW⟩ : ∃ W, Hid (w.alloc (.cells #[.int .i64 y.kind, .int .i64 y.member] 52) = W) := ⟨_, Lib.hid rfl⟩
  obtain ⟨yb, hyb⟩ : ∃ yb, Hid (w.heap.size = yb) := ⟨_, Lib.hid rfl⟩
  rw [hW.out] at hB0 by_
  rw [hyb.out] at by_
  have hx0 := hx.past hB0
  have HFD := Lib.hid (refFindV_any r.id W hx0)
  have HAT := Lib.hid (fun i (hf : FindH D r.id i) => hf.at_ hd hr)
  have hkl : k < D.length := (List.getElem?_eq_some_iff.1 hr).1
  obtain ⟨X, c, hu⟩ := hx0.form
  subst hu
  obtain ⟨gu, cs0, rfl, hbg, hbk0⟩ := own_someZ hx0.row (by omega)
  have p5 := hx0.blk.cell 5
  simp at p5
  obtain ⟨b, off, he, _, hc⟩ := (Rd.of_own hx0.row).elem TTbH.RowT.cells_len hr hkl
  cases he
  have c1 := hc 1 _ rfl
  have c2 := hc 2 _ rfl
  have c3 := hc 3 _ rfl
  have c4 := hc 4 _ rfl
  simp only [Nat.zero_add] at c1 c2 c3 c4
  have hkz : (k : Int) < (D.length : Int) := by omega
  have hba := (Below.refl W.heap.size W).alloc (Nat.le_refl _) (.cells #[.int .i64 r.v.k, .int .i64 r.v.m, .int .i64 r.v.a, .int .i64 r.v.z] 60)
  have hxb := Blk.new W 60 #[.int .i64 r.v.k, .int .i64 r.v.m, .int .i64 r.v.a, .int .i64 r.v.z] W.heap.size rfl
  obtain ⟨W1, hW1⟩ : ∃ W1, Hid (W.alloc (.cells #[.int .i64 r.v.k, .int .i64 r.v.m, .int .i64 r.v.a, .int .i64 r.v.z] 60) = W1) := ⟨_, Lib.hid rfl⟩
  obtain ⟨xb, hxbe⟩ : ∃ xb, Hid (W.heap.size = xb) := ⟨_, Lib.hid rfl⟩
  have hx1 := hx0.past hba
  have hby1 := by_.past hba
  have hB1 := Below.past hB0 hba hB0.size
  rw [hW1.out] at hx1 hby1 hB1 hxb
  rw [hxbe.out] at hxb
  obtain ⟨gu2, cs1, hgu2, hbg1, hbk1⟩ := own_someZ hx1.row (by omega)
  cases hgu2
  have HY1 := Lib.hid hby1
  have HXB1 := Lib.hid hxb
  have HSA := Lib.hid (hx1.setAmt hr z)
  have hxg : xb ≠ gu := fun e => own_blk_ne hx1.row hxb (by decide) (by rw [e]; rfl)
  have hyg : yb ≠ gu := fun e => own_blk_ne hx1.row hby1 (by decide) (by rw [e]; rfl)
  have HY2 := Lib.hid ((hby1.far (p := ⟨gu, k * 5 + 4, none⟩) hyg (.int .i64 (r.v.z - z))).drewN 1)
  have HXB2 := Lib.hid ((hxb.far (p := ⟨gu, k * 5 + 4, none⟩) hxg (.int .i64 (r.v.z - z))).drewN 1)
  have hdr := Below.drew (Below.refl (W1.setCell ⟨gu, k * 5 + 4, none⟩ (.int .i64 (r.v.z - z))).heap.size (W1.setCell ⟨gu, k * 5 + 4, none⟩ (.int .i64 (r.v.z - z))))
  have HX2 := Lib.hid (HSA.out.1.past hdr)
  have HO2 := Lib.hid ((HSA.out.2.drewZ).afterZ hB1)
  obtain ⟨W2, hW2⟩ : ∃ W2, Hid ((W1.setCell ⟨gu, k * 5 + 4, none⟩ (.int .i64 (r.v.z - z))).drew = W2) := ⟨_, Lib.hid rfl⟩
  have hY2 := HY2.out
  have hX2 := HXB2.out
  rw [show (W1.setCell ⟨gu, k * 5 + 4, none⟩ (.int .i64 (r.v.z - z))).drewN 1 = W2 from hW2.out] at hY2 hX2
  clear HY2 HXB2
  have HY2 := Lib.hid hY2
  have HXB2 := Lib.hid hX2
  rw [hW2.out] at HX2 HO2
  have hll : (D.set k ⟨r.id, lessH r z⟩).length = D.length := by simp
  have HMV := Lib.hid (refMoveV_any ⟨r.v.k, r.v.m⟩ y r.v.a z W2 hM hA hinv (hi.less hr (by omega) (by omega)) HX2.out hix hiy hia hiz hLn hp (Nat.le_trans hbase HO2.out.size))
  unfold DPost at HMV
  obtain ⟨K, hK⟩ : ∃ K, Hid (hmK M A bl (D.set k ⟨r.id, lessH r z⟩) ⟨r.v.k, r.v.m⟩ y r.v.a z = K) := ⟨_, Lib.hid rfl⟩
  rw [hK.out] at HMV ⊢
  obtain ⟨DE, hDE⟩ : ∃ DE, Hid ((if K = 0 then D.set k ⟨r.id, lessH r z⟩ else D) = DE) := ⟨_, Lib.hid rfl⟩
  rw [hDE.out]
  have p5' := hx1.blk.cell 5
  simp at p5'
  have d4 : W1.cell? ⟨gu, k * 5 + 4, none⟩ = some (.int .i64 r.v.z) := by
    obtain ⟨b', off', he', _, hc'⟩ := (Rd.of_own hx1.row).elem TTbH.RowT.cells_len hr hkl
    cases he'
    have := hc' 4 _ rfl
    simpa only [Nat.zero_add] using this
  have z4 := hbk1.frozen (k * 5 + 4)
  have hw1 : IntKind.i64.wrap (r.v.z - z) = r.v.z - z := IntWalk.i64_in _ (by unfold inI at hirz; omega)
  have xx3 := HXB1.out.cell 3
  simp at xx3
  have hRR := Lib.hid hr
  have HV := Lib.hid hx
  have HB1 := Lib.hid hB1
  have HBASE := Lib.hid hbase
  clear hx hx0 hx1 hB0 hB1 hd hr hc hba hxb by_ hby1 hbk0 hbk1 hdr hY2 hX2 hi hinv hxg hyg hbase
  go_enter Try.func70, Try.ntmps70
  go_upto_region 1 with fail
  rw [hW.out, hyb.out]
  go_wp2_with fail
  refine HFD.out.mono ?_
  rintro e w1 ⟨⟨i, rfl, hfd⟩, rfl⟩
  obtain rfl := HAT.out i hfd
  have hin : ¬ (k : Int) < 0 := by omega
  clear hfd HFD HAT
  go_upto_region 7 with fail
  rw [hW1.out, hxbe.out]
  clear c1 c2 c3 c4 p5
  go_upto_region 9 with fail
  go_region
  rw [hW2.out]
  clear p5' d4 z4 xx3
  have x0 := HXB2.out.cell 0
  have x1 := HXB2.out.cell 1
  have x2 := HXB2.out.cell 2
  have y0 := HY2.out.cell 0
  have y1 := HY2.out.cell 1
  simp at x0 x1 x2 y0 y1
  go_wp2_with fail
  refine HMV.out.mono ?_
  rintro e w3 ⟨rfl, v', p', hq, ho, hdv, hpp⟩
  have HQ := Lib.hid hq
  have HO3 := Lib.hid ho
  have hxv : v.ownBlock ≠ some xb := own_blk_ne HX2.out.book.row HXB2.out (by decide)
  have hxh : xb ≠ h := blk_neZ HXB2.out HX2.out.blk (by decide)
  have HXB3 := Lib.hid (ho.blkZ HXB2.out hxh hxv)
  have HDV := Lib.hid hdv
  have hs2 := HO2.out.size
  have HOS : Hid (OnlyS (dbad h v (.slice (some ⟨gu, 0, none⟩) D.length c)) w w3) := Lib.hid ((OnlyS.of_onlyG HO2.out (.inl rfl) (fun k e => .inr (.inr e))).trans (OnlyS.of_onlyG (bad := dbad h v (.slice (some ⟨gu, 0, none⟩) D.length c)) HO3.out (.inl rfl) (fun k e => .inr (.inl e))) (fun _ _ e => e) (fun _ _ e => e))
  have HVO : Hid (∀ k, v'.ownBlock = some k → v.ownBlock = some k ∨ w.heap.size ≤ k) := Lib.hid fun k e => by
    rcases HDV.out with e1 | ⟨k', e1, e2⟩
    · exact .inl (e1 ▸ e)
    · rw [e1] at e; cases e; exact .inr (Nat.le_trans hs2 e2)
  clear hq ho hdv x0 x1 x2 y0 y1 hxv hxh HMV
  by_cases hk0 : K = 0
  · subst hk0
    have HFIN : Hid (QPost h base M A v p room (.slice (some ⟨gu, 0, none⟩) D.length c) 0 (hmL M A bl (D.set k ⟨r.id, lessH r z⟩) L ⟨r.v.k, r.v.m⟩ y r.v.a z) DE w (.returned (.int .i64 0)) w3) := Lib.hid (by
      rw [← hDE.out, if_pos rfl]
      exact ⟨rfl, v', p', _, HQ.out, HOS.out, HVO.out, fun k e => .inl e, hpp⟩)
    go_wp2_with fail
    go_ret
    exact HFIN.out
  · have hq1 : (K != 0) = true := by simpa using hk0
    have hq := HQ.out
    rw [← hll] at hq
    have hr2 : (D.set k ⟨r.id, lessH r z⟩)[k]? = some ⟨r.id, lessH r z⟩ := by rw [List.getElem?_set_self hkl]
    have hsh := hq.setHold hr2 r.v
    simp only at hsh
    rw [set_backH hRR.out, hll] at hsh
    obtain ⟨gu3, cs3, hgu3, hbg3, hbk3⟩ := own_someZ hq.row (by rw [hll]; omega)
    cases hgu3
    have HSH := Lib.hid hsh
    have HFIN : Hid (∀ W4, W4 = ((((w3.setCell ⟨gu, k * 5 + 1, none⟩ (.int .i64 r.v.k)).setCell ⟨gu, k * 5 + 2, none⟩ (.int .i64 r.v.m)).setCell ⟨gu, k * 5 + 3, none⟩ (.int .i64 r.v.a)).setCell ⟨gu, k * 5 + 4, none⟩ (.int .i64 r.v.z)) → QPost h base M A v p room (.slice (some ⟨gu, 0, none⟩) D.length c) K (hmL M A bl (D.set k ⟨r.id, lessH r z⟩) L ⟨r.v.k, r.v.m⟩ y r.v.a z) DE w (.returned (.int .i64 K)) W4.drew) := Lib.hid (by
      rintro W4 rfl
      rw [← hDE.out, if_neg hk0]
      have hdr4 := Below.drew (Below.refl ((((w3.setCell ⟨gu, k * 5 + 1, none⟩ (.int .i64 r.v.k)).setCell ⟨gu, k * 5 + 2, none⟩ (.int .i64 r.v.m)).setCell ⟨gu, k * 5 + 3, none⟩ (.int .i64 r.v.a)).setCell ⟨gu, k * 5 + 4, none⟩ (.int .i64 r.v.z)).heap.size ((((w3.setCell ⟨gu, k * 5 + 1, none⟩ (.int .i64 r.v.k)).setCell ⟨gu, k * 5 + 2, none⟩ (.int .i64 r.v.m)).setCell ⟨gu, k * 5 + 3, none⟩ (.int .i64 r.v.a)).setCell ⟨gu, k * 5 + 4, none⟩ (.int .i64 r.v.z)))
      exact ⟨rfl, v', p', _, HSH.out.1.past hdr4, (HOS.out.trans (OnlyS.of_onlyG (bad := dbad h v (.slice (some ⟨gu, 0, none⟩) D.length c)) HSH.out.2 (.inl rfl) (fun k e => .inr (.inr e))) (fun _ _ e => e) (fun _ _ e => e)).below hdr4, HVO.out, fun k e => .inl e, hpp⟩)
    have q5 := HQ.out.blk.cell 5
    have x0 := HXB3.out.cell 0
    have x1 := HXB3.out.cell 1
    have x2 := HXB3.out.cell 2
    have x3 := HXB3.out.cell 3
    simp at q5 x0 x1 x2 x3
    obtain ⟨b', off', he', _, hc'⟩ := (Rd.of_own hq.row).elem TTbH.RowT.cells_len hr2 (by rw [hll]; exact hkl)
    cases he'
    have d1 := hc' 1 _ rfl
    have d2 := hc' 2 _ rfl
    have d3 := hc' 3 _ rfl
    have d4 := hc' 4 _ rfl
    simp only [Nat.zero_add] at d1 d2 d3 d4
    have z1 := hbk3.frozen (k * 5 + 1)
    have z2 := hbk3.frozen (k * 5 + 2)
    have z3 := hbk3.frozen (k * 5 + 3)
    have z4 := hbk3.frozen (k * 5 + 4)
    clear hq hsh hr2 hc' hbk3 hk0 hll
    go_wp2_with fail
    go_region
    obtain ⟨W4, hW4⟩ : ∃ W4, Hid (((((w3.setCell ⟨gu, k * 5 + 1, none⟩ (.int .i64 r.v.k)).setCell ⟨gu, k * 5 + 2, none⟩ (.int .i64 r.v.m)).setCell ⟨gu, k * 5 + 3, none⟩ (.int .i64 r.v.a)).setCell ⟨gu, k * 5 + 4, none⟩ (.int .i64 r.v.z)) = W4) := ⟨_, Lib.hid rfl⟩
    rw [hW4.out]
    have HF4 := Lib.hid (HFIN.out W4 hW4.out.symm)
    clear q5 x0 x1 x2 x3 d1 d2 d3 d4 z1 z2 z3 z4
    go_wp2_with fail
    go_ret
    exact HF4.out
end
end Go.Proofs.Ytelbolhckhdioaa

/-! ## from HdG -/
namespace Go.Proofs.Ytelbolhckhdioaa
open Go.RowKit

/-! ### The numbers of all holds, of both -/
def idsH (S : List HRow) : List Int := S.map fun r => r.id
theorem idsH_set (l : List HRow) (i : Nat) (f : HRow) : ((idsH l).flatMap i64Cells).set i (.int .i64 f.id) = (idsH (l.set i f)).flatMap i64Cells := by
  rw [set_flat]
  unfold idsH
  rw [List.map_set]
theorem idsH_len (l : List HRow) : (idsH l).length = l.length := List.length_map ..
theorem swapH_at {l : List HRow} {f y : HRow} {k : Nat} (hk : 0 < k) (hy : l[k - 1]? = some y) : ((l.take k ++ f :: l.drop k).set (k - 1) f).set k y = l.take (k - 1) ++ f :: l.drop (k - 1) := by
  obtain ⟨hlt, e⟩ := List.getElem?_eq_some_iff.1 hy
  obtain ⟨j, rfl⟩ : ∃ j, k = j + 1 := ⟨k - 1, by omega⟩
  simp only [Nat.add_sub_cancel] at hy hlt e ⊢
  have h1 : l.take (j + 1) = l.take j ++ [y] := by rw [List.take_add_one, hy]; rfl
  have h2 : l.drop j = y :: l.drop (j + 1) := by rw [← e]; exact List.drop_eq_getElem_cons hlt
  have hj : (l.take j).length = j := by rw [List.length_take]; omega
  rw [h1, h2, List.append_assoc, List.set_append, if_neg (by rw [hj]; omega), hj, Nat.sub_self, List.set_append, if_neg (by rw [hj]; omega), hj, show j + 1 - j = 1 from by omega]
  rfl
theorem own_swapH {V : World} {B gg off m c j : Nat} {e : TypeId} {l l' : List HRow} {f y : HRow} (h0 : off = 0) (h : V.ownsRow B e 1 (.slice (some ⟨gg, off, none⟩) (m + 1) c) (m + 1) ((idsH l).flatMap i64Cells)) (h1 : j - 1 < m + 1) (h2 : j < m + 1) (hs : (l.set (j - 1) f).set j y = l') :
    ((V.setCell ⟨gg, off + (j - 1), none⟩ (.int .i64 f.id)).setCell ⟨gg, off + j, none⟩ (.int .i64 y.id)).ownsRow B e 1 (.slice (some ⟨gg, off, none⟩) (m + 1) c) (m + 1) ((idsH l').flatMap i64Cells) := by
  subst h0
  subst hs
  simp only [Nat.zero_add]
  rw [← idsH_set, ← idsH_set]
  exact own_setZ (own_setZ h (by omega) _) (by omega) _
theorem rowsD_nextH {L : List HRow} {k : Nat} {f : HRow} (hT : L.take (k + 1) = L.take k ++ [f]) : TTbH.rowsD (L.take (k + 1)) = TTbH.putD (TTbH.rowsD (L.take k)) f := by
  rw [hT, TTbH.rowsD, List.foldl_append]; rfl
section
variable {h base M A : Nat} {v : Value} {L : List Ent} {p room : Int} {u : Value} {D : List HRow}
set_option maxHeartbeats 8000000 in
set_option maxRecDepth 100000 in
theorem refHolds_any (w : World) (hx : QvtV w h base M A v L p room u D) :
    Calls Try.prog 73 #[.pointer (some ⟨h, 0, none⟩)] w fun e w' => ∃ v, e = .returned v ∧ w'.ownsRow w.heap.size 2 1 v D.length ((idsH (TTbH.rowsD D)).flatMap i64Cells) ∧ Below w.heap.size w w' := by
  obtain ⟨A, c, hv⟩ := hx.form
  subst hv
  have hl := hx.len
  have hrd := Rd.of_own hx.row
  have bg := hx.blk
  obtain ⟨n, hn⟩ : ∃ n, Hid (D.length = n) := ⟨_, Lib.hid rfl⟩
  rw [hn.out] at bg hrd hl ⊢
  have HL := hn
  have HBG := Lib.hid bg
  obtain ⟨j0, hj0, jz0, jz1, jz2⟩ := info_parts int64Info
  have p1 := bg.cell 5
  simp at p1
  clear bg hx
  go_enter Try.func73, Try.ntmps73
  go_wp2_with fail
  clear p1
  go_loopw [3, 4, 5] (fun v i _ wr => ∃ k : Nat, k ≤ n ∧ i = .int .i64 k ∧ Hid ((TTbH.rowsD (D.take k)).length = k) ∧ wr.ownsRow w.heap.size 2 1 v k ((idsH (TTbH.rowsD (D.take k))).flatMap i64Cells) ∧ Below w.heap.size w wr) (fun _ i _ _ => n - (intOf i).toNat)
  case atStart => exact ⟨0, Nat.zero_le _, rfl, Lib.hid rfl, World.ownsRow_nil _ _ _ _, Below.refl _ _⟩
  case round =>
    obtain ⟨m, hk, rfl, HM, hown, hb⟩ := hrel
    have bg1 := HBG.out.past hb
    have p1 := bg1.cell 5
    simp at p1
    by_cases hlt : m < n
    · have hlz : (m : Int) < (n : Int) := by omega
      have hg_f : D[m]? = some (D[m]'(by have := HL.out; omega)) := List.getElem?_eq_getElem _
      obtain ⟨b_f, off_f, rfl, hbb_f, hc_f⟩ := (hrd.below hb).elem TTbH.RowT.cells_len hg_f hlt
      have HT_f := Lib.hid (show D.take (m + 1) = D.take m ++ [(D[m]'(by have := HL.out; omega))] from List.take_succ_eq_append_getElem (by have := HL.out; omega))
      have HM_f := Lib.hid (show (D[m]'(by have := HL.out; omega)) ∈ D from List.getElem_mem _)
      generalize (D[m]'(by have := HL.out; omega)) = f at *
      have c0 := hc_f 0 _ rfl
      have c1 := hc_f 1 _ rfl
      have c2 := hc_f 2 _ rfl
      have c3 := hc_f 3 _ rfl
      have c4 := hc_f 4 _ rfl
      clear hc_f hg_f
      simp only [Nat.add_zero] at c0
      have HF := Lib.hid (rowsD_nextH HT_f.out)
      have HSO := Lib.hid (TTbH.rowsD_sorted (D.take m))
      have hs := hb.size
      clear bg1
      obtain ⟨cur, hcur⟩ : ∃ cur, Hid (TTbH.rowsD (D.take m) = cur) := ⟨_, Lib.hid rfl⟩
      rw [hcur.out] at HF HSO HM hown
      obtain ⟨A5, c5, rfl⟩ := own_form hown
      go_wp2_with (at_builtin; refine wpList_append_lit _ _ rfl (.tmp 17) (.tmp 26) 71 rfl w.heap.size 2 j0 _ 1 8 Try.underlying71 hj0 jz0 jz1 jz2 rfl (by decide) _ _ _ rfl hown _ 1 1 rfl (by first | rfl | simp) rfl (by simp [Value.oneCell']) (by omega) (by omega) (by omega) ?_; intro v' w' hown' hg'; have hbw := below_own (hb.alloc hs _) hg' hown (by simp; omega) (Nat.le_refl _); obtain ⟨A6, c6, rfl⟩ := own_form hown')
      have HO0 : Hid (w'.ownsRow w.heap.size 2 1 (.slice A6 (m + 1) c6) (m + 1) ((idsH (cur.take m ++ f :: cur.drop m)).flatMap i64Cells)) := Lib.hid (by
        rw [List.take_of_length_le (by rw [HM.out]; exact Nat.le_refl _), List.drop_of_length_le (by rw [HM.out]; exact Nat.le_refl _)]
        unfold idsH
        rw [List.map_append, List.flatMap_append]
        exact hown')
      clear p1 c0 c1 c2 c3 c4 hown' hg' hown
      go_loopw [5] (fun kk wz => ∃ j : Nat, j ≤ m ∧ kk = .int .i64 j ∧ Hid (wz.ownsRow w.heap.size 2 1 (.slice A6 (m + 1) c6) (m + 1) ((idsH (cur.take j ++ f :: cur.drop j)).flatMap i64Cells)) ∧ Hid (∀ x ∈ cur.drop j, f.id < x.id) ∧ Below w.heap.size w wz) (fun kk _ => (intOf kk).toNat)
      case atStart => exact ⟨m, Nat.le_refl _, rfl, HO0, Lib.hid (by rw [List.drop_of_length_le (by rw [HM.out]; exact Nat.le_refl _)]; simp), hbw⟩
      case round =>
        clear HO0 hbw
        obtain ⟨j, hj, rfl, HO, HD, hbz⟩ := hrel
        by_cases hj0' : j = 0
        · subst hj0'
          have HP : Hid (TTbH.putD cur f = cur.take 0 ++ f :: cur.drop 0) := Lib.hid (by rw [TTbH.putD_top HD.out]; rfl)
          have qz : decide ((0 : Int) < 0) = false := rfl
          go_wp2_with fail
          go_quiet (fail)
          go_wp2_with fail
          go_roundw
          case rel => exact ⟨m + 1, by omega, by go_num, Lib.hid (by rw [HF.out, (TTbH.putD_perm cur f).length_eq, List.length_cons, HM.out]), by rw [HF.out, HP.out]; exact own_drewN HO.out nq, below_drewN hbz nq⟩
          case measure => simp [intOf]; omega
        · have q2 : (0 : Int) < (j : Int) := by omega
          have q3 : (1 : Int) ≤ (j : Int) := by omega
          have q4 : 0 < j := by omega
          obtain ⟨y, hy⟩ : ∃ y, cur[j - 1]? = some y := ⟨_, List.getElem?_eq_getElem (by have := HM.out; omega)⟩
          have hlen : (cur.take j).length = j := by rw [List.length_take]; have := HM.out; omega
          have hgf : (idsH (cur.take j ++ f :: cur.drop j))[j]? = some f.id := by unfold idsH; rw [List.getElem?_map, List.getElem?_append_right (by omega), hlen, Nat.sub_self]; rfl
          have hgy : (idsH (cur.take j ++ f :: cur.drop j))[j - 1]? = some y.id := by unfold idsH; rw [List.getElem?_map, List.getElem?_append_left (by omega), List.getElem?_take, if_pos (by omega), hy]; rfl
          have HY := Lib.hid hy
          obtain ⟨gg, off, hA, hoff, hg1, hBk⟩ : ∃ gg off, A6 = some ⟨gg, off, none⟩ ∧ Hid (off = 0) ∧ w.heap.size ≤ gg ∧ ∃ cs, Blk wr gg 2 cs := by
            rcases HO.out.2 with ⟨_, h0⟩ | ⟨gg, cap, cs, e, h1, h2, _⟩
            · omega
            · injection e with e1 e2 e3
              exact ⟨gg, 0, e1, Lib.hid rfl, h1, cs, h2⟩
          subst hA
          obtain ⟨cs, hBk⟩ := hBk
          obtain ⟨b1, o1, e1, hb1, hc1⟩ := (Rd.of_own HO.out).elem (f := i64Cells) (fun _ => rfl) hgf (by omega)
          cases e1
          obtain ⟨b2, o2, e2, hb2, hc2⟩ := (Rd.of_own HO.out).elem (f := i64Cells) (fun _ => rfl) hgy (by omega)
          cases e2
          have c0 := hc1 0 _ rfl
          have d0 := hc2 0 _ rfl
          simp only [Nat.add_zero, Nat.mul_one] at c0 d0
          have y0 := hBk.frozen (off + j)
          have z0 := hBk.frozen (off + (j - 1))
          have HJ : Hid (((j - 1 : Nat) : Int) = (j : Int) - 1) := Lib.hid (by omega)
          have s5 : j - 1 < m + 1 := by omega
          have s6 : j < m + 1 := by omega
          have s7 : j - 1 ≤ m := by omega
          have s1 : IntKind.i64.wrap ((j : Int) - 1) = (j : Int) - 1 := IntWalk.i64_in _ (by omega)
          have s2 : (j : Int) - 1 < (m : Int) + 1 := by omega
          have s3 : (j : Int) < (m : Int) + 1 := by omega
          have s4 : ((j : Int) - 1).toNat = j - 1 := by omega
          have hggl := hBk.lt
          clear hc1 hc2 hgf hgy hy hBk hlen
          by_cases hp : f.id < y.id
          · have r1 := decide_eq_true hp
            have HD2 : Hid (∀ x ∈ cur.drop (j - 1), f.id < x.id) := Lib.hid (by
              obtain ⟨hlt', e⟩ := List.getElem?_eq_some_iff.1 HY.out
              have h2 : cur.drop (j - 1) = y :: cur.drop j := by
                rw [List.drop_eq_getElem_cons hlt', e, show j - 1 + 1 = j by omega]
              intro x hx
              rw [h2] at hx
              rcases List.mem_cons.1 hx with rfl | hx
              · exact hp
              · exact HD.out x hx)
            have HSW := Lib.hid (swapH_at (f := f) (by omega) HY.out)
            clear hp
            go_wp2_with fail
            go_quiet (fail)
            have HO2 := Lib.hid (own_drewN HO.out nq)
            have hbV := below_drewN hbz nq
            have C0 : (wr.drewN nq).cell? _ = _ := c0
            have D0 : (wr.drewN nq).cell? _ = _ := d0
            have Y0 : (wr.drewN nq).frozen? _ = _ := y0
            have Z0 : (wr.drewN nq).frozen? _ = _ := z0
            clear c0 d0 y0 z0
            generalize wr.drewN nq = V at HO2 hbV C0 D0 Y0 Z0 ⊢
            go_wp2_with fail
            go_region
            have HSR : Hid (((V.setCell ⟨gg, off + (j - 1), none⟩ (.int .i64 f.id)).setCell ⟨gg, off + j, none⟩ (.int .i64 y.id)).ownsRow w.heap.size 2 1 (.slice (some ⟨gg, off, none⟩) (m + 1) c6) (m + 1) ((idsH (cur.take (j - 1) ++ f :: cur.drop (j - 1))).flatMap i64Cells)) := Lib.hid (own_swapH hoff.out HO2.out s5 s6 HSW.out)
            have HBR : Below w.heap.size w ((V.setCell ⟨gg, off + (j - 1), none⟩ (.int .i64 f.id)).setCell ⟨gg, off + j, none⟩ (.int .i64 y.id)) := (hbV.setCell (p := ⟨gg, off + (j - 1), none⟩) hg1 _).setCell (p := ⟨gg, off + j, none⟩) hg1 _
            obtain ⟨V2, hV2⟩ : ∃ V2, Hid (((V.setCell ⟨gg, off + (j - 1), none⟩ (.int .i64 f.id)).setCell ⟨gg, off + j, none⟩ (.int .i64 y.id)) = V2) := ⟨_, Lib.hid rfl⟩
            rw [hV2.out] at HSR HBR
            rw [hV2.out]
            clear C0 D0 Y0 Z0 s4
            go_wp2_with fail
            clear s1
            go_roundw
            case rel =>
              exact ⟨j - 1, s7, by rw [HJ.out], Lib.hid (own_drewN HSR.out 1), HD2, HBR.drew⟩
            case measure => simp [intOf]; omega
          · have r1 := decide_eq_false hp
            have HP := Lib.hid (TTbH.putD_stop HSO.out (by omega) HY.out hp HD.out)
            clear hp
            go_wp2_with fail
            go_quiet (fail)
            clear s1 s4
            go_wp2_with fail
            go_roundw
            case rel => exact ⟨m + 1, by omega, by go_num, Lib.hid (by rw [HF.out, (TTbH.putD_perm cur f).length_eq, List.length_cons, HM.out]), by rw [HF.out, HP.out]; exact own_drewN HO.out nq, below_drewN hbz nq⟩
            case measure => simp [intOf]; omega
    · have hlz : ¬ (m : Int) < (n : Int) := by omega
      obtain rfl : n = m := by omega
      have hT : D.take n = D := List.take_of_length_le (by rw [hn.out]; exact Nat.le_refl _)
      rw [hT] at hown
      clear hT
      go_wp2_with fail
      go_ret
      exact ⟨_, rfl, hown, hb⟩
end
section
variable {gv gb gt base M A : Nat} {vb : Value} {bl : List Int} {p room : Int} {vt : Value} {S : List HRow}
set_option maxHeartbeats 4000000 in
theorem holdsV_any (w : World) (hx : VltV w gv gb gt base M A vb bl p room vt S) :
    Calls Try.prog 38 #[.pointer (some ⟨gv, 0, none⟩)] w fun e w' => ∃ v, e = .returned v ∧ w'.ownsRow w.heap.size 2 1 v S.length ((idsH S).flatMap i64Cells) ∧ Below w.heap.size w w' := by
  have HRW := Lib.hid (TTbH.rowsT_any gt base room vt S w hx.tab)
  have hln := hx.tab.len
  obtain ⟨n, hn⟩ : ∃ n, Hid (S.length = n) := ⟨_, Lib.hid rfl⟩
  rw [hn.out] at HRW hln ⊢
  obtain ⟨j0, hj0, jz0, jz1, jz2⟩ := info_parts int64Info
  have p1 := hx.blk.cell 1
  simp at p1
  clear hx
  go_enter Try.func38, Try.ntmps38
  go_wp2_with fail
  refine HRW.out.mono ?_
  rintro e w1 ⟨v1, rfl, hov, hb1⟩
  obtain ⟨A1, c1, rfl⟩ := own_form hov
  have HR := Lib.hid (Rd.of_own hov)
  have HB1 := Lib.hid hb1
  have hs1 := hb1.size
  clear hov hb1 HRW p1
  go_wp2_with fail
  go_loopw [3, 14] (fun v i wr => ∃ k : Nat, k ≤ n ∧ i = .int .i64 k ∧ Hid (wr.ownsRow w1.heap.size 2 1 v k ((idsH (S.take k)).flatMap i64Cells)) ∧ Hid (Below w1.heap.size w1 wr)) (fun _ i _ => n - (intOf i).toNat)
  case atStart => exact ⟨0, Nat.zero_le _, rfl, Lib.hid (World.ownsRow_nil _ _ _ _), Lib.hid (Below.refl _ _)⟩
  case round =>
    obtain ⟨k, hk, rfl, HO, HB⟩ := hrel
    by_cases hlt : k < n
    · have hlz : (k : Int) < (n : Int) := by omega
      have hg_f : S[k]? = some (S[k]'(by have := hn.out; omega)) := List.getElem?_eq_getElem _
      obtain ⟨b_f, off_f, rfl, hbb_f, hc_f⟩ := (HR.out.past HB.out).elem TTbH.RowT.cells_len hg_f hlt
      have HT_f := Lib.hid (show S.take (k + 1) = S.take k ++ [(S[k]'(by have := hn.out; omega))] from List.take_succ_eq_append_getElem (by have := hn.out; omega))
      have HM_f := Lib.hid (show (S[k]'(by have := hn.out; omega)) ∈ S from List.getElem_mem _)
      generalize (S[k]'(by have := hn.out; omega)) = f at *
      have c0 := hc_f 0 _ rfl
      have c1 := hc_f 1 _ rfl
      have c2 := hc_f 2 _ rfl
      have c3 := hc_f 3 _ rfl
      have c4 := hc_f 4 _ rfl
      clear hc_f hg_f
      simp only [Nat.add_zero] at c0
      have HT : Hid (idsH (S.take (k + 1)) = idsH (S.take k) ++ [f.id]) := Lib.hid (by rw [HT_f.out]; unfold idsH; rw [List.map_append]; rfl)
      have hba := (Below.refl wr.heap.size wr).alloc (Nat.le_refl _) (.cells #[.int .i64 f.id, .int .i64 f.v.k, .int .i64 f.v.m, .int .i64 f.v.a, .int .i64 f.v.z] 132)
      have HB2 := Lib.hid (Below.past HB.out hba HB.out.size)
      have HO2 := Lib.hid (own_pastZ HO.out hba)
      obtain ⟨W2, hW2⟩ : ∃ W2, Hid (wr.alloc (.cells #[.int .i64 f.id, .int .i64 f.v.k, .int .i64 f.v.m, .int .i64 f.v.a, .int .i64 f.v.z] 132) = W2) := ⟨_, Lib.hid rfl⟩
      have bx := Blk.new wr 132 #[.int .i64 f.id, .int .i64 f.v.k, .int .i64 f.v.m, .int .i64 f.v.a, .int .i64 f.v.z] wr.heap.size rfl
      obtain ⟨xb, hxb⟩ : ∃ xb, Hid (wr.heap.size = xb) := ⟨_, Lib.hid rfl⟩
      rw [hW2.out] at HB2 HO2 bx
      rw [hxb.out] at bx
      have x0 := bx.cell 0
      simp at x0
      have hs2 : w1.heap.size ≤ W2.heap.size := HB2.out.size
      clear hba bx
      go_upto_region 7 with fail
      rw [hW2.out, hxb.out]
      clear c0 c1 c2 c3 c4
      go_wp2_with (at_builtin; refine wpList_append_lit _ _ rfl (.tmp 18) (.tmp 21) 71 rfl w1.heap.size 2 j0 _ 1 8 Try.underlying71 hj0 jz0 jz1 jz2 rfl (by decide) _ _ _ rfl HO2.out _ 1 1 rfl (by first | rfl | simp) rfl (by simp [Value.oneCell']) (by omega) (by omega) (by omega) ?_; intro v' w' hown' hg'; have HOWN := Lib.hid hown'; have HBW := Lib.hid (below_own (HB2.out.alloc HB2.out.size _) hg' HO2.out (by have := HB2.out.size; simp; omega) (Nat.le_refl _)); clear hown' hg')
      go_wp2_with fail
      go_roundw
      case rel => exact ⟨k + 1, by omega, by go_num, Lib.hid (by rw [HT.out, List.flatMap_append]; exact HOWN.out), HBW⟩
      case measure => simp [intOf]; omega
    · have hlz : ¬ (k : Int) < (n : Int) := by omega
      obtain rfl : n = k := by omega
      have hT : S.take n = S := List.take_of_length_le (by rw [hn.out]; exact Nat.le_refl _)
      rw [hT] at HO
      clear hT
      go_wp2_with fail
      go_ret
      exact ⟨_, rfl, own_monoZ HO.out hs1, Below.past HB1.out HB.out hs1⟩
end
end Go.Proofs.Ytelbolhckhdioaa
