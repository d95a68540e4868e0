import Derived.Test.YtfnhffcjhdeleaaBokT
import Derived.Test.YtfnhffcjhdeleaaBokY
namespace Go.Proofs.Ytfnhffcjhdeleaa
open Go.RowKit

/-! ### BookTurns -/
set_option maxHeartbeats 4000000 in
set_option maxRecDepth 100000 in
theorem bookTurns_long (A : Option Addr) (n c : Nat) (vs : List PosV) (P : Option Addr) (n2 c2 : Nat) (w : World) (hr : Rd w w.heap.size 1 A n (vs.flatMap PosV.cells)) (hf : fewP 12 vs = false ∨ 12 < n2) :
    Calls Try.prog 6 #[.slice A n c, .slice P n2 c2] w fun e w' => e = .returned (.bool true) ∧ Below w.heap.size w w' := by
  have HF := Lib.hid (few14_any A n c vs 12 (by omega) w hr)
  clear hr
  cases hfe : fewP 12 vs with
  | false =>
    rw [hfe] at HF
    clear hf hfe
    go_enter Try.func6, Try.ntmps6
    go_wp2_with fail
    refine HF.out.mono ?_
    rintro e w1 ⟨rfl, rfl⟩
    go_wp2_with fail
    refine (awake14 _).mono ?_
    rintro e w2 ⟨rfl, hb2⟩
    go_wp2_with fail
    go_ret
    exact ⟨rfl, hb2⟩
  | true =>
    rw [hfe] at HF hf
    have h12 : 12 < (n2 : Int) := by rcases hf with h | h; cases h; omega
    clear hf hfe
    go_enter Try.func6, Try.ntmps6
    go_wp2_with fail
    refine HF.out.mono ?_
    rintro e w1 ⟨rfl, rfl⟩
    go_wp2_with fail
    refine (awake14 _).mono ?_
    rintro e w2 ⟨rfl, hb2⟩
    go_wp2_with fail
    go_ret
    exact ⟨rfl, hb2⟩

theorem RbkV.add {w : World} {g base M A : Nat} {v : Value} {L : List Ent} {p : Int} (h : RbkV w g base M A v L p) (q : Int) : RbkV (w.setCell ⟨g, 3, none⟩ (.int .i64 q)) g base M A v L q :=
  ⟨h.form, h.blk.put 3 _, own_far (p := ⟨g, 3, none⟩) h.row (own_blk_ne h.row h.blk (by decide)) _, h.ok, h.len⟩
theorem BookV.setFar {w : World} {g base M A : Nat} {v : Value} {bl : List Int} {p : Int} (h : BookV w g base M A v bl p) {b : Nat} (j : Nat) (hb : b ≠ g) (hv : v.ownBlock ≠ some b) (u : Value) : BookV (w.setCell ⟨b, j, none⟩ u) g base M A v bl p :=
  ⟨h.form, h.blk.far (p := ⟨b, j, none⟩) (by first | exact hb | exact Ne.symm hb) _, own_far (p := ⟨b, j, none⟩) h.row hv _, h.len, h.hM, h.hA⟩
/-- The document's book after two postings more. -/
theorem TwoK.twice {W w w1 : World} {g h M A : Nat} {v u : Value} {bl bl3 : List Int} {L : List Ent} {p : Int} (H : TwoK W g h M A v u bl L p w) (hb : BookV w1 g W.heap.size M A v bl3 (p + 2)) (ho : OnlyG g v w w1) (hi : Inv M A bl3 L) : TwoK W g h M A v u bl3 L (p + 2) (w1.setCell ⟨h, 3, none⟩ (.int .i64 (p + 2))) := by
  obtain ⟨hr, hbl⟩ := H.mid ho
  exact ⟨hb.setFar 3 (Ne.symm (blk_neK hb.blk hr.blk (by decide))) (own_blk_ne hb.row hr.blk (by decide)) _, hi, hr.add _, hbl.setCell (p := ⟨h, 3, none⟩) H.hh _, H.hg, H.hh⟩
theorem OnlyG.trans {g : Nat} {v : Value} {a w w' : World} (h1 : OnlyG g v a w) (h2 : OnlyG g v w w') : OnlyG g v a w' :=
  ⟨h2.os.trans h1.os, h2.tape.trans h1.tape, h2.output.trans h1.output, Nat.le_trans h1.size h2.size, fun k hk e1 e2 => (h2.block k (Nat.lt_of_lt_of_le hk h1.size) e1 e2).trans (h1.block k hk e1 e2)⟩

set_option maxHeartbeats 16000000 in
set_option maxRecDepth 100000 in
theorem bookTurns_few (A : Option Addr) (n c : Nat) (vs : List PosV) (P : Option Addr) (n2 c2 : Nat) (xl : List Ent) (w : World) (hr : Rd w w.heap.size 1 A n (vs.flatMap PosV.cells)) (hps : ∀ v ∈ vs, PosRd w v) (hrx : Rd w w.heap.size 4 P n2 (xl.flatMap Ent.cells)) (hxo : ∀ e ∈ xl, EntOk e) (hf : fewP 12 vs = true) (hn2 : n2 ≤ 12) :
    Calls Try.prog 6 #[.slice A n c, .slice P n2 c2] w fun e w' => e = .returned (.bool true) ∧ Below w.heap.size w w' := by
  have HL := Lib.hid (hr.len PosV.cells_len (by omega))
  have HLX := Lib.hid (hrx.len Ent.cells_len (by omega))
  have HF := Lib.hid (few14_any A n c vs 12 (by omega) w hr)
  rw [hf] at HF
  have HR := Lib.hid hr
  have HRX := Lib.hid hrx
  have HXO := Lib.hid hxo
  have HPS := Lib.hid hps
  obtain ⟨hf1, hf2⟩ : vs.length ≤ 12 ∧ vs.all shortP = true := by simpa [fewP] using hf
  have HSH : Hid (∀ v ∈ vs, v.l.length ≤ 12) := Lib.hid fun v hv => by
    have := List.all_eq_true.1 hf2 v hv
    simpa [shortP] using this
  rw [HL.out] at hf1
  have HN := Lib.hid (newK_yes 4 2 (by omega) (by omega) (by omega) w)
  unfold NewKPost at HN
  have h12 : ¬ 12 < (n2 : Int) := by omega
  clear hr hps hf hf2 hrx hxo
  go_enter Try.func6, Try.ntmps6
  go_wp2_with fail
  refine HF.out.mono ?_
  rintro e w0 ⟨rfl, rfl⟩
  go_wp2_with fail
  refine HN.out.mono ?_
  rintro e w1 ⟨g, v, rfl, hg, hbk, hb1⟩
  have hq := (Below.refl w1.heap.size w1).alloc (Nat.le_refl _) (.cells #[.int .i64 4, .int .i64 2, .slice none 0 0, .int .i64 0] 45)
  have hqb := Blk.new w1 45 #[.int .i64 4, .int .i64 2, .slice none 0 0, .int .i64 0] w1.heap.size rfl
  obtain ⟨h, hhe⟩ : ∃ h, Hid (w1.heap.size = h) := ⟨_, Lib.hid rfl⟩
  obtain ⟨W2, hW2⟩ : ∃ W2, Hid (w1.alloc (.cells #[.int .i64 4, .int .i64 2, .slice none 0 0, .int .i64 0] 45) = W2) := ⟨_, Lib.hid rfl⟩
  have hs1 := hb1.size
  have hbX := hbk.past hq
  have hbB := Below.past hb1 hq hs1
  rw [hW2.out] at hqb hbX hbB
  rw [hhe.out] at hqb
  have HST2 : Hid (TwoK w g h 4 2 v (.slice none 0 0) (List.replicate (2 * cnt 4) 0) [] 0 W2) := Lib.hid ⟨hbX, Inv.start (by omega), ⟨⟨none, 0, rfl⟩, hqb, World.ownsRow_nil _ _ _ _, (fun e he => by cases he), by simp⟩, hbB, hg, by have := hhe.out; omega⟩
  clear hbk hb1 hq hqb hbX hbB HN HF
  go_upto_region 7 with fail
  rw [hhe.out, hW2.out]
  go_wp2_with fail
  go_loopw [8] (fun i wr => ∃ (k : Nat) (u : Value) (bl : List Int) (L : List Ent) (p : Int), k ≤ n ∧ i = .int .i64 (k : Nat) ∧ (0 ≤ p ∧ p ≤ (k : Nat)) ∧ L.length ≤ 12 * k ∧ Hid (TwoK w g h 4 2 v u bl L p wr)) (fun i _ => n - (intOf i).toNat)
  case atStart => exact ⟨0, _, _, _, _, by omega, rfl, by omega, by simp, HST2⟩
  case round =>
    clear HST2
    obtain ⟨k, u, bl, L, p, hk, rfl, hp, hLk, HS⟩ := hrel
    by_cases hlt : k < n
    · have hlz : (k : Int) < (n : Int) := by omega
      have hg_f : vs[k]? = some (vs[k]'(by have := HL.out; omega)) := List.getElem?_eq_getElem _
      obtain ⟨b_f, off_f, rfl, hbb_f, hc_f⟩ := (HR.out.below HS.out.below).elem PosV.cells_len hg_f hlt
      have HT_f := Lib.hid (show vs.take (k + 1) = vs.take k ++ [(vs[k]'(by have := HL.out; omega))] from List.take_succ_eq_append_getElem (by have := HL.out; omega))
      have HM_f := Lib.hid (show (vs[k]'(by have := HL.out; omega)) ∈ vs from List.getElem_mem _)
      have HG_f := Lib.hid hg_f
      generalize (vs[k]'(by have := HL.out; omega)) = f at *
      have c0 := hc_f 0 _ rfl
      clear hc_f hg_f
      simp only [Nat.add_zero, Nat.mul_one] at c0
      have hf12 := HSH.out f HM_f.out
      have hpf := (HPS.out f HM_f.out).past HS.out.below
      have HPO := Lib.hid (postK_any g w.heap.size 4 2 v bl p f.P f.l.length f.c f.l wr HS.out.book hpf.rd (by omega) hpf.ok HS.out.inv.inn (by omega))
      unfold PostPost at HPO
      have hp2 := postP_le (M := 4) (A := 2) (bl := bl) (l := f.l) hp
      have hL2 := postLL_len (M := 4) (A := 2) (bl := bl) hLk hf12
      have HI2 : Hid (Inv 4 2 (postB 4 2 bl f.l) (postLL 4 2 bl L f.l)) := Lib.hid (HS.out.inv.post (by omega))
      have HR2 : Hid (∀ w1', OnlyG g v wr w1' → Calls Try.prog 27 #[.pointer (some ⟨h, 0, none⟩), .slice f.P f.l.length f.c] w1' (PostRPost h w.heap.size 4 2 u bl L p f.l w1')) := Lib.hid fun w1' ho => by
        obtain ⟨hr, hbl⟩ := HS.out.mid ho
        exact refPost_any h w.heap.size 4 2 u bl L p f.P f.l.length f.c f.l w1' (by omega) (by omega) HS.out.inv hr ((HPS.out f HM_f.out).past hbl).rd ((HPS.out f HM_f.out).beside HS.out.hh fun k e => (HS.out.doc.row.lt k e).1) (by omega) (by omega) hpf.ok (by omega) hbl.size
      unfold PostRPost at HR2
      obtain ⟨K, hMK⟩ : ∃ K, Hid (postK 4 2 bl f.l = K) := ⟨_, Lib.hid rfl⟩
      rw [hMK.out] at HPO HR2
      generalize postB 4 2 bl f.l = bl2 at HPO HI2
      generalize postP 4 2 bl f.l p = p2 at HPO HR2 hp2
      generalize postLL 4 2 bl L f.l = L2 at HR2 HI2 hL2
      obtain ⟨fm, hfm⟩ : ∃ fm, Hid (f.l.length = fm) := ⟨_, Lib.hid rfl⟩
      rw [hfm.out] at HPO HR2 c0
      clear hpf hf12
      go_wp2_with fail
      refine HPO.out.mono ?_
      rintro e w3 ⟨rfl, hb3, ho3⟩
      have HB3 := Lib.hid hb3
      have HO3 := Lib.hid ho3
      have HRP := Lib.hid (HR2.out w3 ho3)
      obtain ⟨b4, o4, he4, _, hc4⟩ := (HR.out.below (HS.out.mid ho3).2).elem PosV.cells_len HG_f.out hlt
      cases he4
      have d0 := hc4 0 _ rfl
      simp only [Nat.add_zero, Nat.mul_one, hfm.out] at d0
      clear hb3 ho3 hc4 c0 HPO HR2
      go_wp2_with fail
      refine HRP.out.mono ?_
      rintro e w4 ⟨rfl, u', hd4, ho4, _⟩
      have HS4 := Lib.hid (HS.out.next HB3.out HO3.out HI2.out hd4 ho4)
      clear hd4 ho4 HRP HB3 HO3 HI2 HS d0
      go_wp2_with fail
      go_roundw
      case rel => exact ⟨k + 1, u', bl2, L2, p2, by omega, by go_num, hp2, hL2, HS4⟩
      case measure => simp [intOf]; omega
    · have hlz : ¬ (k : Int) < (n : Int) := by omega
      have HTU := Lib.hid (turned_any P n2 c2 xl wr (HRX.out.past HS.out.below) (by omega) HXO.out)
      unfold TurnPost at HTU
      go_wp2_with fail
      refine HTU.out.mono ?_
      rintro e w3 ⟨hb3, hor⟩
      have HS3 := Lib.hid (HS.out.past hb3)
      clear HTU
      rcases hor with ⟨hmin, rfl⟩ | ⟨hmin, vt, rfl, hvt⟩
      · have HMI := Lib.hid hmin
        clear hmin hb3 HS
        go_wp2_with fail
        go_loopw [11, 12] (fun b i wz => ∃ q : Nat, q ≤ n2 ∧ b = .bool ((xl.take q).any minZ) ∧ i = .int .i64 (q : Nat) ∧ w3 = wz) (fun _ i _ => n2 - (intOf i).toNat)
        case atStart => exact ⟨0, by omega, rfl, rfl, rfl⟩
        case round =>
          obtain ⟨q, hq, rfl, rfl, rfl⟩ := hrel
          by_cases hqn : q < n2
          · have hqz : (q : Int) < (n2 : Int) := by omega
            have hg_x : xl[q]? = some (xl[q]'(by have := HLX.out; omega)) := List.getElem?_eq_getElem _
            obtain ⟨b_x, off_x, rfl, hbb_x, hc_x⟩ := (HRX.out.below HS3.out.below).elem Ent.cells_len hg_x hqn
            have HT_x := Lib.hid (show xl.take (q + 1) = xl.take q ++ [(xl[q]'(by have := HLX.out; omega))] from List.take_succ_eq_append_getElem (by have := HLX.out; omega))
            have HM_x := Lib.hid (show (xl[q]'(by have := HLX.out; omega)) ∈ xl from List.getElem_mem _)
            generalize (xl[q]'(by have := HLX.out; omega)) = x at *
            have c0 := hc_x 0 _ rfl
            have c1 := hc_x 1 _ rfl
            have c2 := hc_x 2 _ rfl
            have c3 := hc_x 3 _ rfl
            clear hc_x hg_x
            simp only [Nat.add_zero] at c0
            have HB : Hid ((xl.take (q + 1)).any minZ = ((xl.take q).any minZ || minZ x)) := Lib.hid (by rw [HT_x.out, List.any_append]; simp)
            obtain ⟨B, hB⟩ : ∃ B, Hid ((xl.take q).any minZ = B) := ⟨_, Lib.hid rfl⟩
            rw [hB.out] at HB ⊢
            cases B with
            | true =>
              go_wp2_with fail
              go_roundw
              case rel => exact ⟨q + 1, by omega, by rw [HB.out]; rfl, by go_num, (by first | rfl | trivial)⟩
              case measure => simp [intOf]; omega
            | false =>
              by_cases hz : x.z = -9223372036854775808
              · have HZ : Hid (minZ x = true) := Lib.hid (by simp [minZ, hz])
                rw [hz] at c3
                clear hz
                go_wp2_with fail
                go_roundw
                case rel => exact ⟨q + 1, by omega, by rw [HB.out, HZ.out]; rfl, by go_num, (by first | rfl | trivial)⟩
                case measure => simp [intOf]; omega
              · have HZ : Hid (minZ x = false) := Lib.hid (by simp [minZ, hz])
                have hz2 : (x.z == -9223372036854775808) = false := by simpa using hz
                go_wp2_with fail
                go_roundw
                case rel => exact ⟨q + 1, by omega, by rw [HB.out, HZ.out]; rfl, by go_num, (by first | rfl | trivial)⟩
                case measure => simp [intOf]; omega
          · have hqz : ¬ (q : Int) < (n2 : Int) := by omega
            obtain rfl : n2 = q := by omega
            have hT : xl.take n2 = xl := List.take_of_length_le (by rw [HLX.out]; exact Nat.le_refl _)
            rw [hT, HMI.out]
            clear hT
            go_wp2_with fail
            refine (awake14 _).mono ?_
            rintro e w4 ⟨rfl, hb4⟩
            have HB4 := Lib.hid (Below.past HS3.out.below hb4 HS3.out.below.size)
            clear hb4
            go_wp2_with fail
            go_ret
            exact ⟨rfl, HB4.out⟩
      · obtain ⟨At, ct, rfl⟩ := own_form hvt
        rw [HLX.out] at hvt ⊢
        have HVT := Lib.hid hvt
        have HRT := Lib.hid (Rd.of_own hvt)
        have HLT : Hid ((xl.map turnE).length = n2) := Lib.hid (by rw [List.length_map, HLX.out])
        have hsz : w.heap.size ≤ wr.heap.size := HS.out.below.size
        have hnn : ((n2 : Int) != (n2 : Int)) = false := by simp
        have HMI := Lib.hid hmin
        clear hmin hb3 hvt HS
        go_wp2_with fail
        clear hnn
        go_loopw [13] (fun i wz => ∃ q : Nat, q ≤ n2 ∧ i = .int .i64 (q : Nat) ∧ Hid (Below w3.heap.size w3 wz)) (fun i _ => n2 - (intOf i).toNat)
        case atStart => exact ⟨0, by omega, rfl, Lib.hid (Below.refl _ _)⟩
        case round =>
          obtain ⟨q, hq, rfl, HBq⟩ := hrel
          by_cases hqn : q < n2
          · have hqz : (q : Int) < (n2 : Int) := by omega
            obtain ⟨x, hx⟩ : ∃ x, xl[q]? = some x := ⟨_, List.getElem?_eq_getElem (by rw [HLX.out]; exact hqn)⟩
            have hxm : x ∈ xl := List.mem_of_getElem? hx
            have hxz := (HXO.out x hxm).z
            have hxn : x.z ≠ -9223372036854775808 := fun e => by
              have h := HMI.out
              rw [List.any_eq_true.2 ⟨x, hxm, by simp [minZ, e]⟩] at h
              cases h
            have hw1 : IntKind.i64.wrap (-x.z) = -x.z := IntWalk.i64_in _ (by unfold inI at hxz; omega)
            obtain ⟨b1, o1, he1, _, hc1⟩ := ((HRX.out.past HS3.out.below).past HBq.out).elem Ent.cells_len hx hqn
            obtain ⟨b2, o2, he2, _, hc2⟩ := (HRT.out.past HBq.out).elem Ent.cells_len (show (xl.map turnE)[q]? = some (turnE x) by rw [List.getElem?_map, hx]; rfl) hqn
            have c0 := hc1 0 _ rfl
            have c1 := hc1 1 _ rfl
            have c2' := hc1 2 _ rfl
            have c3 := hc1 3 _ rfl
            have d0 := hc2 0 _ rfl
            have d1 := hc2 1 _ rfl
            have d2 := hc2 2 _ rfl
            have d3 := hc2 3 _ rfl
            simp only [Nat.add_zero] at c0 d0
            simp only [turnE] at d0 d1 d2 d3
            cases he1
            cases he2
            have hq1 : (-x.z != -x.z) = false := by simp
            have hq2 : (x.a != x.a) = false := by simp
            have hq3 : (x.k != x.k) = false := by simp
            have hq4 : (x.m != x.m) = false := by simp
            clear hc1 hc2 hx hxm hxz hxn
            go_upto_region 25 with fail
            go_region
            all_goals
              go_wp2_with fail
              go_roundw
              case rel => exact ⟨q + 1, by omega, by go_num, Lib.hid (by first | exact HBq.out | exact HBq.out.drew)⟩
              case measure => simp [intOf]; omega
          · have hqz : ¬ (q : Int) < (n2 : Int) := by omega
            have HS4 := Lib.hid (HS3.out.past HBq.out)
            have HVT4 := Lib.hid (own_pastK HVT.out HBq.out)
            have HPO := Lib.hid (postK_any g w.heap.size 4 2 v bl p P n2 c2 xl wr HS4.out.book (HRX.out.past HS4.out.below) (by omega) HXO.out HS4.out.inv.inn (by omega))
            unfold PostPost at HPO
            obtain ⟨K, hMK⟩ : ∃ K, Hid (postK 4 2 bl xl = K) := ⟨_, Lib.hid rfl⟩
            rw [hMK.out] at HPO
            clear HRT HVT HBq
            go_wp2_with fail
            refine HPO.out.mono ?_
            rintro e w5 ⟨rfl, hb5, ho5⟩
            have HB5 := Lib.hid hb5
            have HO5 := Lib.hid ho5
            clear hb5 ho5 HPO
            by_cases hK0 : K = 0
            · subst hK0
              have HI2 : Hid (Inv 4 2 (postB 4 2 bl xl) (L ++ xl)) := Lib.hid (by
                have h := HS4.out.inv.post (by omega) (l := xl)
                rwa [if_pos hMK.out] at h)
              have HP2 : Hid (postP 4 2 bl xl p = p + 1) := Lib.hid (by rw [postP, if_pos hMK.out])
              rw [HP2.out] at HB5
              have HBK := Lib.hid (turn_back (bl2 := postB 4 2 bl xl) hMK.out)
              generalize postB 4 2 bl xl = bl2 at HB5 HI2 HBK
              have HVT5 := Lib.hid (own_onlyK HO5.out HVT4.out (own_blk_ne HVT4.out HS4.out.book.blk (by decide)) (own_neK HVT4.out HS4.out.book.row (by decide)))
              have hTO : ∀ e ∈ xl.map turnE, EntOk e := fun e he => by
                obtain ⟨f, hf, rfl⟩ := List.mem_map.1 he
                have h1 := HXO.out f hf
                have h2 : f.z ≠ -9223372036854775808 := fun e => by
                  have h := HMI.out
                  rw [List.any_eq_true.2 ⟨f, hf, by simp [minZ, e]⟩] at h
                  cases h
                have h3 := h1.z
                exact ⟨h1.k, h1.m, h1.a, by unfold inI at h3 ⊢; show _ ≤ -f.z ∧ -f.z ≤ _; omega⟩
              have HPO2 := Lib.hid (postK_any g w.heap.size 4 2 v bl2 (p + 1) At n2 ct (xl.map turnE) w5 HB5.out (Rd.of_own HVT5.out) (by omega) hTO HI2.out.inn (by omega))
              unfold PostPost at HPO2
              obtain ⟨K2, hMK2⟩ : ∃ K, Hid (postK 4 2 bl2 (xl.map turnE) = K) := ⟨_, Lib.hid rfl⟩
              rw [hMK2.out] at HPO2 HBK
              clear hTO HVT4 HVT5
              go_wp2_with fail
              refine HPO2.out.mono ?_
              rintro e w6 ⟨rfl, hb6, ho6⟩
              have HB6 := Lib.hid hb6
              have HO6 := Lib.hid (HO5.out.trans ho6)
              have HBW := Lib.hid (HS4.out.mid HO6.out).2
              clear hb6 ho6 HPO2
              by_cases hK2 : K2 = 0
              · subst hK2
                have HI3 : Hid (Inv 4 2 (postB 4 2 bl2 (xl.map turnE)) L) := Lib.hid (by
                  have h := HI2.out.post (by omega) (l := xl.map turnE)
                  rw [if_pos hMK2.out] at h
                  exact HS4.out.inv.turned h)
                have HP3 : Hid (postP 4 2 bl2 (xl.map turnE) (p + 1) = p + 2) := Lib.hid (by rw [postP, if_pos hMK2.out]; omega)
                rw [HP3.out] at HB6
                have HT := Lib.hid (HS4.out.twice HB6.out HO6.out HI3.out)
                have p3 := (HS4.out.mid HO6.out).1.blk.cell 3
                have z3 := (HS4.out.mid HO6.out).1.blk.frozen 3
                simp at p3
                have hwp : IntKind.i64.wrap (p + 2) = p + 2 := IntWalk.i64_in _ (by omega)
                go_wp2_with fail
                refine (awake14 _).mono ?_
                rintro e w7 ⟨rfl, hb7⟩
                have HT7 := Lib.hid (HT.out.past hb7)
                clear hb7
                have HSA := Lib.hid (same14_any g h w.heap.size 4 2 v u _ L (p + 2) w7 HT7.out.book HT7.out.inv HT7.out.doc)
                go_wp2_with fail
                refine HSA.out.mono ?_
                rintro e w8 ⟨rfl, hb8⟩
                have HB8 := Lib.hid (Below.past HT7.out.below hb8 HT7.out.below.size)
                clear hb8
                go_wp2_with fail
                go_ret
                exact ⟨rfl, HB8.out⟩
              · have q1 : (K2 != 0) = true := by simpa using hK2
                rcases HBK.out with h0 | rfl | rfl
                · exact absurd h0 hK2
                · go_wp2_with fail
                  refine (awake14 _).mono ?_
                  rintro e w7 ⟨rfl, hb7⟩
                  have HB7 := Lib.hid (Below.past HBW.out hb7 HBW.out.size)
                  clear hb7
                  go_wp2_with fail
                  go_ret
                  exact ⟨rfl, HB7.out⟩
                · go_wp2_with fail
                  refine (awake14 _).mono ?_
                  rintro e w7 ⟨rfl, hb7⟩
                  have HB7 := Lib.hid (Below.past HBW.out hb7 HBW.out.size)
                  clear hb7
                  go_wp2_with fail
                  go_ret
                  exact ⟨rfl, HB7.out⟩
            · have q1 : (K != 0) = true := by simpa using hK0
              have HPB : Hid (postB 4 2 bl xl = bl ∧ postP 4 2 bl xl p = p) := Lib.hid (by
                have h0 : ¬ postK 4 2 bl xl = 0 := by rw [hMK.out]; exact hK0
                exact ⟨by rw [postB, if_neg h0], by rw [postP, if_neg h0]⟩)
              rw [HPB.out.1, HPB.out.2] at HB5
              have HT : Hid (TwoK w g h 4 2 v u bl L p w5) := Lib.hid ⟨HB5.out, HS4.out.inv, (HS4.out.mid HO5.out).1, (HS4.out.mid HO5.out).2, HS4.out.hg, HS4.out.hh⟩
              go_wp2_with fail
              refine (awake14 _).mono ?_
              rintro e w7 ⟨rfl, hb7⟩
              have HT7 := Lib.hid (HT.out.past hb7)
              clear hb7
              have HSA := Lib.hid (same14_any g h w.heap.size 4 2 v u bl L p w7 HT7.out.book HT7.out.inv HT7.out.doc)
              go_wp2_with fail
              refine HSA.out.mono ?_
              rintro e w8 ⟨rfl, hb8⟩
              have HB8 := Lib.hid (Below.past HT7.out.below hb8 HT7.out.below.size)
              clear hb8
              go_wp2_with fail
              go_ret
              exact ⟨rfl, HB8.out⟩
end Go.Proofs.Ytfnhffcjhdeleaa
