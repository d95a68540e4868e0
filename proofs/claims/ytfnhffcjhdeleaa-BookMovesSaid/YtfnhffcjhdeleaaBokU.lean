import Derived.Test.YtfnhffcjhdeleaaBokT
import Derived.Test.YtfnhffcjhdeleaaBokS
namespace Go.Proofs.Ytfnhffcjhdeleaa
open Go.RowKit

/-! ### BookMoves -/
def Ent.acc (e : Ent) : Acc := ⟨e.k, e.m⟩
set_option maxHeartbeats 4000000 in
set_option maxRecDepth 100000 in
theorem bookMoves_long (x y : Ent) (A : Option Addr) (n c : Nat) (vs : List PosV) (w : World) (hr : Rd w w.heap.size 1 A n (vs.flatMap PosV.cells)) (hf : fewP 20 vs = false) :
    Calls Try.prog 5 #[.slice A n c, .agg #[.int .i64 x.k, .int .i64 x.m, .int .i64 x.a, .int .i64 x.z], .agg #[.int .i64 y.k, .int .i64 y.m, .int .i64 y.a, .int .i64 y.z]] w fun e w' => e = .returned (.bool true) ∧ Below w.heap.size w w' := by
  have hB0 := ((Below.refl w.heap.size w).alloc (Nat.le_refl _) (.cells #[.int .i64 x.k, .int .i64 x.m, .int .i64 x.a, .int .i64 x.z] 51)).alloc (by simp) (.cells #[.int .i64 y.k, .int .i64 y.m, .int .i64 y.a, .int .i64 y.z] 51)
  have HF := Lib.hid (few14_any A n c vs 20 (by omega) _ (hr.past hB0))
  obtain ⟨W, hW⟩ : ∃ W, Hid ((w.alloc (.cells #[.int .i64 x.k, .int .i64 x.m, .int .i64 x.a, .int .i64 x.z] 51)).alloc (.cells #[.int .i64 y.k, .int .i64 y.m, .int .i64 y.a, .int .i64 y.z] 51) = W) := ⟨_, Lib.hid rfl⟩
  rw [hf] at HF
  rw [hW.out] at HF hB0
  clear hr hf
  go_enter Try.func5, Try.ntmps5
  go_upto_region 1 with fail
  rw [hW.out]
  go_wp2_with fail
  refine HF.out.mono ?_
  rintro e w1 ⟨rfl, rfl⟩
  go_wp2_with fail
  refine (awake14 _).mono ?_
  rintro e w2 ⟨rfl, hb2⟩
  have hbe := Below.past hB0 hb2 hB0.size
  go_wp2_with fail
  go_ret
  exact ⟨rfl, hbe⟩

set_option maxHeartbeats 16000000 in
set_option maxRecDepth 100000 in
theorem bookMoves_few (x y : Ent) (hxo : EntOk x) (hyo : EntOk y) (A : Option Addr) (n c : Nat) (vs : List PosV) (w : World) (hr : Rd w w.heap.size 1 A n (vs.flatMap PosV.cells)) (hps : ∀ v ∈ vs, PosRd w v) (hf : fewP 20 vs = true) :
    Calls Try.prog 5 #[.slice A n c, .agg #[.int .i64 x.k, .int .i64 x.m, .int .i64 x.a, .int .i64 x.z], .agg #[.int .i64 y.k, .int .i64 y.m, .int .i64 y.a, .int .i64 y.z]] w fun e w' => e = .returned (.bool true) ∧ Below w.heap.size w w' := by
  have HL := Lib.hid (hr.len PosV.cells_len (by omega))
  have hB0 := ((Below.refl w.heap.size w).alloc (Nat.le_refl _) (.cells #[.int .i64 x.k, .int .i64 x.m, .int .i64 x.a, .int .i64 x.z] 51)).alloc (by simp) (.cells #[.int .i64 y.k, .int .i64 y.m, .int .i64 y.a, .int .i64 y.z] 51)
  have bx := (Blk.new w 51 #[.int .i64 x.k, .int .i64 x.m, .int .i64 x.a, .int .i64 x.z] w.heap.size rfl).alloc (.cells #[.int .i64 y.k, .int .i64 y.m, .int .i64 y.a, .int .i64 y.z] 51)
  have by_ := Blk.new (w.alloc (.cells #[.int .i64 x.k, .int .i64 x.m, .int .i64 x.a, .int .i64 x.z] 51)) 51 #[.int .i64 y.k, .int .i64 y.m, .int .i64 y.a, .int .i64 y.z] (w.heap.size + 1) (by simp)
  have HF := Lib.hid (few14_any A n c vs 20 (by omega) _ (hr.past hB0))
  obtain ⟨W, hW⟩ : ∃ W, Hid ((w.alloc (.cells #[.int .i64 x.k, .int .i64 x.m, .int .i64 x.a, .int .i64 x.z] 51)).alloc (.cells #[.int .i64 y.k, .int .i64 y.m, .int .i64 y.a, .int .i64 y.z] 51) = W) := ⟨_, Lib.hid rfl⟩
  rw [hf] at HF
  rw [hW.out] at HF hB0 bx by_
  have HR := Lib.hid (hr.past hB0)
  have HPS : Hid (∀ v ∈ vs, PosRd W v) := Lib.hid fun v hv => (hps v hv).past hB0
  obtain ⟨hf1, hf2⟩ : vs.length ≤ 20 ∧ vs.all shortP = true := by simpa [fewP] using hf
  have HSH : Hid (∀ v ∈ vs, v.l.length ≤ 12) := Lib.hid fun v hv => by
    have := List.all_eq_true.1 hf2 v hv
    simpa [shortP] using this
  rw [HL.out] at hf1
  have HB0 := Lib.hid hB0
  have hs0 := hB0.size
  have HBX := Lib.hid bx
  have HBY := Lib.hid by_
  have HXO := Lib.hid hxo
  have HYO := Lib.hid hyo
  have HN := Lib.hid (newK_yes 8 3 (by omega) (by omega) (by omega) W)
  unfold NewKPost at HN
  clear hr hps hf hf2 hB0 bx by_ hxo hyo
  go_enter Try.func5, Try.ntmps5
  go_upto_region 1 with fail
  rw [hW.out]
  go_wp2_with fail
  refine HF.out.mono ?_
  rintro e w0 ⟨rfl, rfl⟩
  go_wp2_with fail
  refine HN.out.mono ?_
  rintro e w1 ⟨g, v, rfl, hg, hbk, hb1⟩
  have hq := (Below.refl w1.heap.size w1).alloc (Nat.le_refl _) (.cells #[.int .i64 8, .int .i64 3, .slice none 0 0, .int .i64 0] 45)
  have hqb := Blk.new w1 45 #[.int .i64 8, .int .i64 3, .slice none 0 0, .int .i64 0] w1.heap.size rfl
  obtain ⟨h, hhe⟩ : ∃ h, Hid (w1.heap.size = h) := ⟨_, Lib.hid rfl⟩
  obtain ⟨W2, hW2⟩ : ∃ W2, Hid (w1.alloc (.cells #[.int .i64 8, .int .i64 3, .slice none 0 0, .int .i64 0] 45) = W2) := ⟨_, Lib.hid rfl⟩
  have hs1 := hb1.size
  have hbX := hbk.past hq
  have hbB := Below.past hb1 hq hs1
  rw [hW2.out] at hqb hbX hbB
  rw [hhe.out] at hqb
  have HST2 : Hid (TwoK W g h 8 3 v (.slice none 0 0) (List.replicate (3 * cnt 8) 0) [] 0 W2) := Lib.hid ⟨hbX, Inv.start (by omega), ⟨⟨none, 0, rfl⟩, hqb, World.ownsRow_nil _ _ _ _, (fun e he => by cases he), by simp⟩, hbB, hg, by have := hhe.out; omega⟩
  clear hbk hb1 hq hqb hbX hbB HN HF
  go_upto_region 7 with fail
  rw [hhe.out, hW2.out]
  go_wp2_with fail
  go_loopw [10] (fun i wr => ∃ (k : Nat) (u : Value) (bl : List Int) (L : List Ent) (p : Int), k ≤ n ∧ i = .int .i64 (k : Nat) ∧ (0 ≤ p ∧ p ≤ (k : Nat)) ∧ L.length ≤ 12 * k ∧ Hid (TwoK W g h 8 3 v u bl L p wr)) (fun i _ => n - (intOf i).toNat)
  case atStart => exact ⟨0, _, _, _, _, by omega, rfl, by omega, by simp, HST2⟩
  case round =>
    clear HST2
    obtain ⟨k, u, bl, L, p, hk, rfl, hp, hLk, HS⟩ := hrel
    by_cases hlt : k < n
    · have hlz : (k : Int) < (n : Int) := by omega
      have hg_f : vs[k]? = some (vs[k]'(by have := HL.out; omega)) := List.getElem?_eq_getElem _
      obtain ⟨b_f, off_f, rfl, hbb_f, hc_f⟩ := (HR.out.below HS.out.below).elem PosV.cells_len hg_f hlt
      have HT_f := Lib.hid (show vs.take (k + 1) = vs.take k ++ [(vs[k]'(by have := HL.out; omega))] from List.take_succ_eq_append_getElem (by have := HL.out; omega))
      have HM_f := Lib.hid (show (vs[k]'(by have := HL.out; omega)) ∈ vs from List.getElem_mem _)
      have HG_f := Lib.hid hg_f
      generalize (vs[k]'(by have := HL.out; omega)) = f at *
      have c0 := hc_f 0 _ rfl
      clear hc_f hg_f
      simp only [Nat.add_zero, Nat.mul_one] at c0
      have hf12 := HSH.out f HM_f.out
      have hpf := (HPS.out f HM_f.out).past HS.out.below
      have HPO := Lib.hid (postK_any g W.heap.size 8 3 v bl p f.P f.l.length f.c f.l wr HS.out.book hpf.rd (by omega) hpf.ok HS.out.inv.inn (by omega))
      unfold PostPost at HPO
      have hp2 := postP_le (M := 8) (A := 3) (bl := bl) (l := f.l) hp
      have hL2 := postLL_len (M := 8) (A := 3) (bl := bl) hLk hf12
      have HI2 : Hid (Inv 8 3 (postB 8 3 bl f.l) (postLL 8 3 bl L f.l)) := Lib.hid (HS.out.inv.post (by omega))
      have HR2 : Hid (∀ w1', OnlyG g v wr w1' → Calls Try.prog 27 #[.pointer (some ⟨h, 0, none⟩), .slice f.P f.l.length f.c] w1' (PostRPost h W.heap.size 8 3 u bl L p f.l w1')) := Lib.hid fun w1' ho => by
        obtain ⟨hr, hbl⟩ := HS.out.mid ho
        exact refPost_any h W.heap.size 8 3 u bl L p f.P f.l.length f.c f.l w1' (by omega) (by omega) HS.out.inv hr ((HPS.out f HM_f.out).past hbl).rd ((HPS.out f HM_f.out).beside HS.out.hh fun k e => (HS.out.doc.row.lt k e).1) (by omega) (by omega) hpf.ok (by omega) hbl.size
      unfold PostRPost at HR2
      obtain ⟨K, hK⟩ : ∃ K, Hid (postK 8 3 bl f.l = K) := ⟨_, Lib.hid rfl⟩
      rw [hK.out] at HPO HR2
      generalize postB 8 3 bl f.l = bl2 at HPO HI2
      generalize postP 8 3 bl f.l p = p2 at HPO HR2 hp2
      generalize postLL 8 3 bl L f.l = L2 at HR2 HI2 hL2
      obtain ⟨fm, hfm⟩ : ∃ fm, Hid (f.l.length = fm) := ⟨_, Lib.hid rfl⟩
      rw [hfm.out] at HPO HR2 c0
      clear hpf hf12
      go_wp2_with fail
      refine HPO.out.mono ?_
      rintro e w3 ⟨rfl, hb3, ho3⟩
      have HB3 := Lib.hid hb3
      have HO3 := Lib.hid ho3
      have HRP := Lib.hid (HR2.out w3 ho3)
      obtain ⟨b4, o4, he4, _, hc4⟩ := (HR.out.below (HS.out.mid ho3).2).elem PosV.cells_len HG_f.out hlt
      cases he4
      have d0 := hc4 0 _ rfl
      simp only [Nat.add_zero, Nat.mul_one, hfm.out] at d0
      clear hb3 ho3 hc4 c0 HPO HR2
      go_wp2_with fail
      refine HRP.out.mono ?_
      rintro e w4 ⟨rfl, u', hd4, ho4, _⟩
      have HS4 := Lib.hid (HS.out.next HB3.out HO3.out HI2.out hd4 ho4)
      clear hd4 ho4 HRP HB3 HO3 HI2 HS d0
      go_wp2_with fail
      go_roundw
      case rel => exact ⟨k + 1, u', bl2, L2, p2, by omega, by go_num, hp2, hL2, HS4⟩
      case measure => simp [intOf]; omega
    · have hlz : ¬ (k : Int) < (n : Int) := by omega
      obtain ⟨T1, T2, hT⟩ : ∃ N F, Hid (blK 8 3 bl ⟨x.k, x.m, x.a⟩ = (N, F)) := ⟨_, _, Lib.hid rfl⟩
      have HBL := Lib.hid (balK_any g W.heap.size 8 3 v bl p ⟨x.k, x.m, x.a⟩ wr HS.out.book)
      rw [hT.out] at HBL
      have x0 := ((HBX.out.past HS.out.below)).cell 0
      have x1 := ((HBX.out.past HS.out.below)).cell 1
      have x2 := ((HBX.out.past HS.out.below)).cell 2
      have x3 := ((HBX.out.past HS.out.below)).cell 3
      simp at x0 x1 x2 x3
      go_wp2_with fail
      refine HBL.out.mono ?_
      rintro e w3 ⟨rfl, hb3⟩
      have HS3 := Lib.hid (HS.out.past hb3)
      clear hb3 HBL HS x0 x1 x2 x3
      have x0 := ((HBX.out.past HS3.out.below)).cell 0
      have x1 := ((HBX.out.past HS3.out.below)).cell 1
      have x2 := ((HBX.out.past HS3.out.below)).cell 2
      have x3 := ((HBX.out.past HS3.out.below)).cell 3
      simp at x0 x1 x2 x3
      go_upto_region 13 with fail
      go_cut [91] from 55 to 91 (fun v w' => v = .bool false ∧ Hid (Below w3.heap.size w3 w'))
      case first =>
        have HHA := Lib.hid (fun w' hb => refHas_any14 h W.heap.size 8 3 u L p ⟨x.k, x.m, x.a⟩ w' (by omega) (HS3.out.past (w1 := w') hb).doc)
        obtain ⟨B, hB⟩ : ∃ B, Hid (okP 8 3 ⟨x.k, x.m, x.a⟩ = B) := ⟨_, Lib.hid rfl⟩
        rw [hB.out] at HHA
        have HH3 := Lib.hid (HHA.out w3 (Below.refl _ _))
        cases B with
        | true =>
          have HNF : Hid ((atB L ⟨x.k, x.m, x.a⟩).sum = T1 ∧ (0 : Int) = T2) := Lib.hid (by
            have := hT.out
            rw [blK_t hB.out, List.getD_eq_getElem?_getD, HS3.out.inv.bal _ hB.out] at this
            exact ⟨congrArg Prod.fst this, congrArg Prod.snd this⟩)
          have hin : inI T1 := by rw [← HNF.out.1]; exact HS3.out.inv.inn _ (List.mem_of_getElem? (HS3.out.inv.bal _ hB.out))
          have hT2 : (T2 != 0) = false := by rw [← HNF.out.2]; rfl
          have hT1 : (T1 != T1) = false := by simp
          have HRB : Hid (∀ w', Below w3.heap.size w3 w' → Calls Try.prog 30 #[.pointer (some ⟨h, 0, none⟩), .agg #[.int .i64 x.k, .int .i64 x.m], .int .i64 x.a] w' fun e w'' => e = .returned (.int .i64 T1) ∧ Below w'.heap.size w' w'') := Lib.hid fun w' hw => by
            have := refBal_any h W.heap.size 8 3 u L p ⟨x.k, x.m, x.a⟩ w' (HS3.out.past hw).doc
            rw [HNF.out.1, amount_of hin] at this
            exact this
          clear hin
          go_wp2_with fail
          refine HH3.out.mono ?_
          rintro e w4 ⟨rfl, hb4⟩
          have HB4 := Lib.hid hb4
          have HR4 := Lib.hid (HRB.out w4 hb4)
          clear x0 x1 x2 x3 hb4
          have x0 := (((HBX.out.past HS3.out.below).past HB4.out)).cell 0
          have x1 := (((HBX.out.past HS3.out.below).past HB4.out)).cell 1
          have x2 := (((HBX.out.past HS3.out.below).past HB4.out)).cell 2
          have x3 := (((HBX.out.past HS3.out.below).past HB4.out)).cell 3
          simp at x0 x1 x2 x3
          go_wp2_with fail
          refine HR4.out.mono ?_
          rintro e w5 ⟨rfl, hb5⟩
          have HB5 := Lib.hid (Below.past HB4.out hb5 HB4.out.size)
          have HH5 := Lib.hid (HHA.out w5 HB5.out)
          clear x0 x1 x2 x3 hb5
          have x0 := (((HBX.out.past HS3.out.below).past HB5.out)).cell 0
          have x1 := (((HBX.out.past HS3.out.below).past HB5.out)).cell 1
          have x2 := (((HBX.out.past HS3.out.below).past HB5.out)).cell 2
          have x3 := (((HBX.out.past HS3.out.below).past HB5.out)).cell 3
          simp at x0 x1 x2 x3
          go_wp2_with fail
          refine HH5.out.mono ?_
          rintro e w6 ⟨rfl, hb6⟩
          have HB6 := Lib.hid (Below.past HB5.out hb6 HB5.out.size)
          clear x0 x1 x2 x3 hb6
          go_wp2_with fail
          go_meet
          exact ⟨rfl, HB6⟩
        | false =>
          have HNF : Hid ((0 : Int) = T1 ∧ (8 : Int) = T2) := Lib.hid (by
            have := hT.out
            rw [blK_f hB.out] at this
            exact ⟨congrArg Prod.fst this, congrArg Prod.snd this⟩)
          have hT2 : (T2 != 8) = false := by rw [← HNF.out.2]; rfl
          have hT1 : (T1 != 0) = false := by rw [← HNF.out.1]; rfl
          go_wp2_with fail
          refine HH3.out.mono ?_
          rintro e w4 ⟨rfl, hb4⟩
          have HB4 := Lib.hid hb4
          have HH5 := Lib.hid (HHA.out w4 HB4.out)
          clear x0 x1 x2 x3 hb4
          have x0 := (((HBX.out.past HS3.out.below).past HB4.out)).cell 0
          have x1 := (((HBX.out.past HS3.out.below).past HB4.out)).cell 1
          have x2 := (((HBX.out.past HS3.out.below).past HB4.out)).cell 2
          have x3 := (((HBX.out.past HS3.out.below).past HB4.out)).cell 3
          simp at x0 x1 x2 x3
          go_wp2_with fail
          refine HH5.out.mono ?_
          rintro e w6 ⟨rfl, hb6⟩
          have HB6 := Lib.hid (Below.past HB4.out hb6 HB4.out.size)
          clear x0 x1 x2 x3 hb6
          go_wp2_with fail
          go_meet
          exact ⟨rfl, HB6⟩
      case rest =>
      obtain ⟨rfl, HBc⟩ := hcut
      have HS5 := Lib.hid (HS3.out.past HBc.out)
      have HCO := Lib.hid (copyK_any g W.heap.size 8 3 v bl p wc HS5.out.book)
      unfold CopyKPost at HCO
      clear HBc HS3 x0 x1 x2 x3
      go_wp2_with fail
      refine HCO.out.mono ?_
      rintro e w6 ⟨gc, vc, rfl, hgc, hbc, hb6⟩
      have HS6 := Lib.hid (HS5.out.past hb6)
      have HC6 := Lib.hid hbc
      have HFAR : Hid (g < wc.heap.size ∧ h < wc.heap.size ∧ (∀ k, v.ownBlock = some k → k < wc.heap.size) ∧ (∀ k, u.ownBlock = some k → k < wc.heap.size) ∧ (∀ k, vc.ownBlock = some k → wc.heap.size ≤ k)) := Lib.hid ⟨HS5.out.book.blk.lt, HS5.out.doc.blk.lt, fun k e => (HS5.out.book.row.lt k e).2, fun k e => (HS5.out.doc.row.lt k e).2, fun k e => (hbc.row.lt k e).1⟩
      have HGC : Hid (wc.heap.size ≤ gc) := Lib.hid hgc
      clear hbc hb6 HCO HS5 hgc
      go_upto_region 16 with fail
      have hdr := Below.drew (Below.refl w6.heap.size w6)
      have hcells : ∀ w', Below W.heap.size W w' → w'.cell? ⟨w.heap.size, 0, none⟩ = some (.int .i64 x.k) ∧ w'.cell? ⟨w.heap.size, 1, none⟩ = some (.int .i64 x.m) ∧ w'.cell? ⟨w.heap.size, 2, none⟩ = some (.int .i64 x.a) ∧ w'.cell? ⟨w.heap.size + 1, 0, none⟩ = some (.int .i64 y.k) ∧ w'.cell? ⟨w.heap.size + 1, 1, none⟩ = some (.int .i64 y.m) ∧ w'.cell? ⟨w.heap.size + 1, 3, none⟩ = some (.int .i64 y.z) := fun w' hb =>
        ⟨(HBX.out.past hb).cell 0, (HBX.out.past hb).cell 1, (HBX.out.past hb).cell 2, (HBY.out.past hb).cell 0, (HBY.out.past hb).cell 1, (HBY.out.past hb).cell 3⟩
      have HCE := Lib.hid hcells
      clear hcells
      have hS0 := HCE.out w6.drew (Below.past HS6.out.below hdr HS6.out.below.size)
      refine wp_region_held_drew (S := fun w' => w'.cell? ⟨w.heap.size, 0, none⟩ = some (.int .i64 x.k) ∧ w'.cell? ⟨w.heap.size, 1, none⟩ = some (.int .i64 x.m) ∧ w'.cell? ⟨w.heap.size, 2, none⟩ = some (.int .i64 x.a) ∧ w'.cell? ⟨w.heap.size + 1, 0, none⟩ = some (.int .i64 y.k) ∧ w'.cell? ⟨w.heap.size + 1, 1, none⟩ = some (.int .i64 y.m) ∧ w'.cell? ⟨w.heap.size + 1, 3, none⟩ = some (.int .i64 y.z)) (by kernel_rfl) hS0 (fun hHeld => ?_)
      clear hS0
      obtain ⟨K, hMK⟩ : ∃ K, Hid (mvK 8 3 bl ⟨x.k, x.m⟩ ⟨y.k, y.m⟩ x.a y.z = K) := ⟨_, Lib.hid rfl⟩
      have hKK : (K != K) = false := by simp
      refine wpAnyH_take (i := 0) (v := ?_) rfl (by kernel_rfl) (by kernel_rfl) (by kernel_rfl) (fun _ _ _ h => h) (Or.inl ⟨by rfl, ?_⟩) (by assumption) ?_
      rotate_left
      · (intro w' hSw; (try dsimp only at hSw); first | (go_simp; done) | (go_simp; with_reducible rfl))
      try simp only [Act.put, List.getElem_toArray, List.getElem_cons_zero, List.getElem_cons_succ, List.setIfInBounds_toArray, List.set_cons_zero, List.set_cons_succ]
      refine wpAnyH_take (i := 1) (v := ?_) rfl (by kernel_rfl) (by kernel_rfl) (by kernel_rfl) (fun _ _ _ h => h) (Or.inl ⟨by rfl, ?_⟩) (by assumption) ?_
      rotate_left
      · (intro w' hSw; (try dsimp only at hSw); first | (go_simp; done) | (go_simp; with_reducible rfl))
      try simp only [Act.put, List.getElem_toArray, List.getElem_cons_zero, List.getElem_cons_succ, List.setIfInBounds_toArray, List.set_cons_zero, List.set_cons_succ]
      refine wpAnyH_take (i := 2) (v := ?_) rfl (by kernel_rfl) (by kernel_rfl) (by kernel_rfl) (fun _ _ _ h => h) (Or.inl ⟨by rfl, ?_⟩) (by assumption) ?_
      rotate_left
      · (intro w' hSw; (try dsimp only at hSw); first | (go_simp; done) | (go_simp; with_reducible rfl))
      try simp only [Act.put, List.getElem_toArray, List.getElem_cons_zero, List.getElem_cons_succ, List.setIfInBounds_toArray, List.set_cons_zero, List.set_cons_succ]
      refine wpAnyH_take (i := 3) (v := ?_) rfl (by kernel_rfl) (by kernel_rfl) (by kernel_rfl) (fun _ _ _ h => h) (Or.inl ⟨by rfl, ?_⟩) (by assumption) ?_
      rotate_left
      · (intro w' hSw; (try dsimp only at hSw); first | (go_simp; done) | (go_simp; with_reducible rfl))
      try simp only [Act.put, List.getElem_toArray, List.getElem_cons_zero, List.getElem_cons_succ, List.setIfInBounds_toArray, List.set_cons_zero, List.set_cons_succ]
      refine wpAnyH_take (i := 4) (v := ?_) rfl (by kernel_rfl) (by kernel_rfl) (by kernel_rfl) (fun _ _ _ h => h) (Or.inl ⟨by rfl, ?_⟩) (by assumption) ?_
      rotate_left
      · (intro w' hSw; (try dsimp only at hSw); first | (go_simp; done) | (go_simp; with_reducible rfl))
      try simp only [Act.put, List.getElem_toArray, List.getElem_cons_zero, List.getElem_cons_succ, List.setIfInBounds_toArray, List.set_cons_zero, List.set_cons_succ]
      refine wpAnyH_take (i := 5) (v := ?_) rfl (by kernel_rfl) (by kernel_rfl) (by kernel_rfl) (fun _ _ _ h => h) (Or.inl ⟨by rfl, ?_⟩) (by assumption) ?_
      rotate_left
      · (intro w' hSw; (try dsimp only at hSw); first | (go_simp; done) | (go_simp; with_reducible rfl))
      try simp only [Act.put, List.getElem_toArray, List.getElem_cons_zero, List.getElem_cons_succ, List.setIfInBounds_toArray, List.set_cons_zero, List.set_cons_succ]
      refine wpAnyH_take (i := 6) (v := ?_) rfl (by kernel_rfl) (by kernel_rfl) (by kernel_rfl) (fun _ _ _ h => h) (Or.inl ⟨by rfl, ?_⟩) (by assumption) ?_
      rotate_left
      · (intro w' hSw; (try dsimp only at hSw); first | (go_simp; done) | (go_simp; with_reducible rfl))
      try simp only [Act.put, List.getElem_toArray, List.getElem_cons_zero, List.getElem_cons_succ, List.setIfInBounds_toArray, List.set_cons_zero, List.set_cons_succ]
      refine wpAnyH_take (i := 7) (v := ?_) rfl (by kernel_rfl) (by kernel_rfl) (by kernel_rfl) (fun _ _ _ h => h) (Or.inl ⟨by rfl, ?_⟩) (by assumption) ?_
      rotate_left
      · (intro w' hSw; (try dsimp only at hSw); first | (go_simp; done) | (go_simp; with_reducible rfl))
      try simp only [Act.put, List.getElem_toArray, List.getElem_cons_zero, List.getElem_cons_succ, List.setIfInBounds_toArray, List.set_cons_zero, List.set_cons_succ]
      refine wpAnyH_take (i := 8) (v := ?_) rfl (by kernel_rfl) (by kernel_rfl) (by kernel_rfl) (fun _ _ _ h => h) (Or.inl ⟨by rfl, ?_⟩) (by assumption) ?_
      rotate_left
      · (intro w' hSw; (try dsimp only at hSw); first | (go_simp; done) | (go_simp; with_reducible rfl))
      try simp only [Act.put, List.getElem_toArray, List.getElem_cons_zero, List.getElem_cons_succ, List.setIfInBounds_toArray, List.set_cons_zero, List.set_cons_succ]
      refine wpAnyH_take (i := 10) (v := ?_) rfl (by kernel_rfl) (by kernel_rfl) (by kernel_rfl) (fun _ _ _ h => h) (Or.inl ⟨by rfl, ?_⟩) (by assumption) ?_
      rotate_left
      · (intro w' hSw; (try dsimp only at hSw); first | (go_simp; done) | (go_simp; with_reducible rfl))
      try simp only [Act.put, List.getElem_toArray, List.getElem_cons_zero, List.getElem_cons_succ, List.setIfInBounds_toArray, List.set_cons_zero, List.set_cons_succ]
      refine wpAnyH_take (i := 11) (v := ?_) rfl (by kernel_rfl) (by kernel_rfl) (by kernel_rfl) (fun _ _ _ h => h) (Or.inl ⟨by rfl, ?_⟩) (by assumption) ?_
      rotate_left
      · (intro w' hSw; (try dsimp only at hSw); first | (go_simp; done) | (go_simp; with_reducible rfl))
      try simp only [Act.put, List.getElem_toArray, List.getElem_cons_zero, List.getElem_cons_succ, List.setIfInBounds_toArray, List.set_cons_zero, List.set_cons_succ]
      refine wpAnyH_take (i := 12) (v := ?_) rfl (by kernel_rfl) (by kernel_rfl) (by kernel_rfl) (fun _ _ _ h => h) (Or.inl ⟨by rfl, ?_⟩) (by assumption) ?_
      rotate_left
      · (intro w' hSw; (try dsimp only at hSw); first | (go_simp; done) | (go_simp; with_reducible rfl))
      try simp only [Act.put, List.getElem_toArray, List.getElem_cons_zero, List.getElem_cons_succ, List.setIfInBounds_toArray, List.set_cons_zero, List.set_cons_succ]
      refine wpAnyH_take (i := 13) (v := ?_) rfl (by kernel_rfl) (by kernel_rfl) (by kernel_rfl) (fun _ _ _ h => h) (Or.inl ⟨by rfl, ?_⟩) (by assumption) ?_
      rotate_left
      · (intro w' hSw; (try dsimp only at hSw); first | (go_simp; done) | (go_simp; with_reducible rfl))
      try simp only [Act.put, List.getElem_toArray, List.getElem_cons_zero, List.getElem_cons_succ, List.setIfInBounds_toArray, List.set_cons_zero, List.set_cons_succ]
      refine wpAnyH_take (i := 14) (v := ?_) rfl (by kernel_rfl) (by kernel_rfl) (by kernel_rfl) (fun _ _ _ h => h) (Or.inl ⟨by rfl, ?_⟩) (by assumption) ?_
      rotate_left
      · (intro w' hSw; (try dsimp only at hSw); first | (go_simp; done) | (go_simp; with_reducible rfl))
      try simp only [Act.put, List.getElem_toArray, List.getElem_cons_zero, List.getElem_cons_succ, List.setIfInBounds_toArray, List.set_cons_zero, List.set_cons_succ]
      refine wpAnyH_take (i := 15) (v := ?_) rfl (by kernel_rfl) (by kernel_rfl) (by kernel_rfl) (fun _ _ _ h => h) (Or.inl ⟨by rfl, ?_⟩) (by assumption) ?_
      rotate_left
      · (intro w' hSw; (try dsimp only at hSw); first | (go_simp; done) | (go_simp; with_reducible rfl))
      try simp only [Act.put, List.getElem_toArray, List.getElem_cons_zero, List.getElem_cons_succ, List.setIfInBounds_toArray, List.set_cons_zero, List.set_cons_succ]
      refine wpAnyH_take (i := 16) (v := ?_) rfl (by kernel_rfl) (by kernel_rfl) (by kernel_rfl) (fun _ _ _ h => h) (Or.inl ⟨by rfl, ?_⟩) (by assumption) ?_
      rotate_left
      · (intro w' hSw; (try dsimp only at hSw); first | (go_simp; done) | (go_simp; with_reducible rfl))
      try simp only [Act.put, List.getElem_toArray, List.getElem_cons_zero, List.getElem_cons_succ, List.setIfInBounds_toArray, List.set_cons_zero, List.set_cons_succ]
      refine wpAnyH_take (i := 17) (v := ?_) rfl (by kernel_rfl) (by kernel_rfl) (by kernel_rfl) (fun _ _ _ h => h) (Or.inl ⟨by rfl, ?_⟩) (by assumption) ?_
      rotate_left
      · (intro w' hSw; (try dsimp only at hSw); first | (go_simp; done) | (go_simp; with_reducible rfl))
      try simp only [Act.put, List.getElem_toArray, List.getElem_cons_zero, List.getElem_cons_succ, List.setIfInBounds_toArray, List.set_cons_zero, List.set_cons_succ]
      refine wpAnyH_take (i := 18) (v := ?_) rfl (by kernel_rfl) (by kernel_rfl) (by kernel_rfl) (fun _ _ _ h => h) (Or.inl ⟨by rfl, ?_⟩) (by assumption) ?_
      rotate_left
      · (intro w' hSw; (try dsimp only at hSw); first | (go_simp; done) | (go_simp; with_reducible rfl))
      try simp only [Act.put, List.getElem_toArray, List.getElem_cons_zero, List.getElem_cons_succ, List.setIfInBounds_toArray, List.set_cons_zero, List.set_cons_succ]
      refine wpAnyH_ready (rs := [9]) (by kernel_rfl) (by simp) ?_
      refine AllReadyH.cons rfl (fun K hK => ?_) AllReadyH.nil
      go_simp
      go_at_call 32
      have HM := Lib.hid (moveK_all g W.heap.size 8 3 v bl p ⟨x.k, x.m⟩ ⟨y.k, y.m⟩ x.a y.z w6.drew (HS6.out.past hdr).book ⟨HXO.out.k, HXO.out.m⟩ ⟨HYO.out.k, HYO.out.m⟩ HXO.out.a HYO.out.z HS6.out.inv.inn (by omega))
      unfold MoveKPost at HM
      rw [hMK.out] at HM
      refine HM.out.mono ?_
      rintro e w7 ⟨rfl, hb7, ho7'⟩
      have ho7 := OnlyG.after hdr ho7'
      have HB7 := Lib.hid hb7
      have HO7 := Lib.hid ho7
      have HD7 := Lib.hid (HS6.out.mid ho7)
      clear hb7 ho7 ho7' HM hHeld
      refine hK.out _ _ (HCE.out w7 HD7.out.2) (fun hHeld => ?_)
      try simp only [Act.put, List.getElem_toArray, List.getElem_cons_zero, List.getElem_cons_succ, List.setIfInBounds_toArray, List.set_cons_zero, List.set_cons_succ]
      refine wpAnyH_ready (rs := [19]) (by kernel_rfl) (by simp) ?_
      refine AllReadyH.cons rfl (fun K hK => ?_) AllReadyH.nil
      go_simp
      go_at_call 33
      have HM := Lib.hid (refMove_all h W.heap.size 8 3 u bl L p ⟨x.k, x.m⟩ ⟨y.k, y.m⟩ x.a y.z w7 (by omega) (by omega) HS6.out.inv HD7.out.1 ⟨HXO.out.k, HXO.out.m⟩ ⟨HYO.out.k, HYO.out.m⟩ HXO.out.a HYO.out.z (by omega) (by omega) HD7.out.2.size)
      unfold MoveRPost at HM
      rw [hMK.out] at HM
      refine HM.out.mono ?_
      rintro e w8 ⟨rfl, u', hd8, ho8, _⟩
      have HS8 := Lib.hid (HS6.out.next HB7.out HO7.out (mv_inv (by omega) HS6.out.inv ⟨x.k, x.m⟩ ⟨y.k, y.m⟩ x.a y.z) hd8 ho8)
      have HC8 : Hid (BookV w8 gc wc.heap.size 8 3 vc bl p) := Lib.hid (by
        obtain ⟨f1, f2, f3, f4, f5⟩ := HFAR.out
        have f6 := HGC.out
        refine (HC6.out.only HO7.out (by omega) (fun e => by have := f3 _ e; omega) (fun e => by have := f5 _ e; omega) (fun k e e' => by have := f3 _ e; have := f5 _ e'; omega)).only ho8 (by omega) (fun e => by have := f4 _ e; omega) (fun e => by have := f5 _ e; omega) (fun k e e' => by have := f4 _ e; have := f5 _ e'; omega))
      clear hd8 ho8 HM hHeld HD7 HB7 HO7
      refine hK.out _ _ (HCE.out w8 HS8.out.below) (fun hHeld => ?_)
      try simp only [Act.put, List.getElem_toArray, List.getElem_cons_zero, List.getElem_cons_succ, List.setIfInBounds_toArray, List.set_cons_zero, List.set_cons_succ]
      refine wpAnyH_take (i := 20) (v := ?_) rfl (by kernel_rfl) (by kernel_rfl) (by kernel_rfl) (fun _ _ _ h => h) (Or.inl ⟨by rfl, ?_⟩) (by assumption) ?_
      rotate_left
      · (intro w' hSw; (try dsimp only at hSw); first | (go_simp; done) | (go_simp; with_reducible rfl))
      try simp only [Act.put, List.getElem_toArray, List.getElem_cons_zero, List.getElem_cons_succ, List.setIfInBounds_toArray, List.set_cons_zero, List.set_cons_succ]
      refine wpAnyH_take (i := 21) (v := ?_) rfl (by kernel_rfl) (by kernel_rfl) (by kernel_rfl) (fun _ _ _ h => h) (Or.inl ⟨by rfl, ?_⟩) (by assumption) ?_
      rotate_left
      · (intro w' hSw; (try dsimp only at hSw); first | (go_simp; done) | (go_simp; with_reducible rfl))
      try simp only [Act.put, List.getElem_toArray, List.getElem_cons_zero, List.getElem_cons_succ, List.setIfInBounds_toArray, List.set_cons_zero, List.set_cons_succ]
      refine wpAnyH_take (i := 22) (v := ?_) rfl (by kernel_rfl) (by kernel_rfl) (by kernel_rfl) (fun _ _ _ h => h) (Or.inl ⟨by rfl, ?_⟩) (by assumption) ?_
      rotate_left
      · (intro w' hSw; (try dsimp only at hSw); first | (go_simp; done) | (go_simp; with_reducible rfl))
      try simp only [Act.put, List.getElem_toArray, List.getElem_cons_zero, List.getElem_cons_succ, List.setIfInBounds_toArray, List.set_cons_zero, List.set_cons_succ]
      refine wpAnyH_take (i := 23) (v := ?_) rfl (by kernel_rfl) (by kernel_rfl) (by kernel_rfl) (fun _ _ _ h => h) (Or.inl ⟨by rfl, ?_⟩) (by assumption) ?_
      rotate_left
      · (intro w' hSw; (try dsimp only at hSw); first | (go_simp; done) | (go_simp; with_reducible rfl))
      try simp only [Act.put, List.getElem_toArray, List.getElem_cons_zero, List.getElem_cons_succ, List.setIfInBounds_toArray, List.set_cons_zero, List.set_cons_succ]
      refine wpAnyH_ready (rs := [24]) (by kernel_rfl) (by simp) ?_
      refine AllReadyH.cons rfl (fun K hK => ?_) AllReadyH.nil
      go_simp
      go_at_call 28
      refine (same14_any g h W.heap.size 8 3 v u' _ _ _ w8 HS8.out.book HS8.out.inv HS8.out.doc).mono ?_
      rintro e w9 ⟨rfl, hb9⟩
      have HC9 := Lib.hid (HC8.out.past hb9)
      have HB9 := Lib.hid (Below.past HS8.out.below hb9 HS8.out.below.size)
      clear hb9 hHeld
      refine hK.out _ _ (HCE.out w9 HB9.out) (fun hHeld => ?_)
      try simp only [Act.put, List.getElem_toArray, List.getElem_cons_zero, List.getElem_cons_succ, List.setIfInBounds_toArray, List.set_cons_zero, List.set_cons_succ]
      refine wpAnyH_take (i := 25) (v := ?_) rfl (by kernel_rfl) (by kernel_rfl) (by kernel_rfl) (fun _ _ _ h => h) (Or.inl ⟨by rfl, ?_⟩) (by assumption) ?_
      rotate_left
      · (intro w' hSw; (try dsimp only at hSw); first | (go_simp; done) | (go_simp; with_reducible rfl))
      try simp only [Act.put, List.getElem_toArray, List.getElem_cons_zero, List.getElem_cons_succ, List.setIfInBounds_toArray, List.set_cons_zero, List.set_cons_succ]
      refine wpAnyH_take (i := 26) (v := ?_) rfl (by kernel_rfl) (by kernel_rfl) (by kernel_rfl) (fun _ _ _ h => h) (Or.inl ⟨by rfl, ?_⟩) (by assumption) ?_
      rotate_left
      · (intro w' hSw; (try dsimp only at hSw); first | (go_simp; done) | (go_simp; with_reducible rfl))
      try simp only [Act.put, List.getElem_toArray, List.getElem_cons_zero, List.getElem_cons_succ, List.setIfInBounds_toArray, List.set_cons_zero, List.set_cons_succ]
      refine wpAnyH_done (by kernel_rfl) ?_ _
      clear hHeld
      have HBL := Lib.hid (balK_any gc wc.heap.size 8 3 vc bl p ⟨x.k, x.m, x.a⟩ w9 HC9.out)
      rw [hT.out] at HBL
      have x0 := ((HBX.out.past HB9.out)).cell 0
      have x1 := ((HBX.out.past HB9.out)).cell 1
      have x2 := ((HBX.out.past HB9.out)).cell 2
      have x3 := ((HBX.out.past HB9.out)).cell 3
      simp at x0 x1 x2 x3
      go_wp2_with fail
      refine HBL.out.mono ?_
      rintro e w10 ⟨rfl, hb10⟩
      have HB10 := Lib.hid (Below.past HB9.out hb10 HB9.out.size)
      clear hb10 HBL x0 x1 x2 x3
      go_wp2_with fail
      refine (awake14 _).mono ?_
      rintro e w11 ⟨rfl, hb11⟩
      have HB11 := Lib.hid (Below.past HB0.out (Below.past HB10.out hb11 HB10.out.size) hs0)
      clear hb11
      have hT1 : (T1 == T1) = true := by simp
      have hT2 : (T2 == T2) = true := by simp
      go_wp2_with fail
      go_ret
      exact ⟨rfl, HB11.out⟩
end Go.Proofs.Ytfnhffcjhdeleaa
