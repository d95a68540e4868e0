import Derived.Test.YtelbolhckhdioaaHkC
import Derived.Deep.CutBlock
/-! ## from HolL -/
namespace Go.Proofs.Ytelbolhckhdioaa
open Go.RowKit

/-! ### HoldKeeps -/
theorem act_cells {w : World} {B n k : Nat} {A : Option Addr} {fs : List ActH} {f : ActH} (h : Rd w B 9 A n (fs.flatMap ActH.cells)) (hf : fs[k]? = some f) (hk : k < n) : ∃ b off, A = some ⟨b, off, none⟩ ∧ ∀ w', Below B w w' → w'.cell? ⟨b, off + k * 9, none⟩ = some (.int .i64 f.kd) ∧ w'.cell? ⟨b, off + k * 9 + 1, none⟩ = some (.slice f.P f.l.length f.c) ∧ w'.cell? ⟨b, off + k * 9 + 2, none⟩ = some (.int .i64 f.id) ∧ w'.cell? ⟨b, off + k * 9 + 3, none⟩ = some (.int .i64 f.x.kind) ∧ w'.cell? ⟨b, off + k * 9 + 4, none⟩ = some (.int .i64 f.x.member) ∧ w'.cell? ⟨b, off + k * 9 + 5, none⟩ = some (.int .i64 f.y.kind) ∧ w'.cell? ⟨b, off + k * 9 + 6, none⟩ = some (.int .i64 f.y.member) ∧ w'.cell? ⟨b, off + k * 9 + 7, none⟩ = some (.int .i64 f.a) ∧ w'.cell? ⟨b, off + k * 9 + 8, none⟩ = some (.int .i64 f.z) := by
  obtain ⟨b, off, he, hb, hc⟩ := h.elem ActH.cells_len hf hk
  refine ⟨b, off, he, fun w' hbw => ?_⟩
  have hcell : ∀ j u, f.cells[j]? = some u → w'.cell? ⟨b, off + k * 9 + j, none⟩ = some u := fun j u hu => (hbw.cell (p := ⟨b, off + k * 9 + j, none⟩) hb).trans (hc j u hu)
  exact ⟨hcell 0 _ rfl, hcell 1 _ rfl, hcell 2 _ rfl, hcell 3 _ rfl, hcell 4 _ rfl, hcell 5 _ rfl, hcell 6 _ rfl, hcell 7 _ rfl, hcell 8 _ rfl⟩
set_option maxHeartbeats 1000000 in
set_option maxRecDepth 100000 in
theorem holdKeeps_long (A : Option Addr) (n c : Nat) (fs : List ActH) (w : World) (hr : Rd w w.heap.size 9 A n (fs.flatMap ActH.cells)) (hf : fewH fs = false) :
    Calls Try.prog 5 #[.slice A n c] w fun e w' => e = .returned (.bool true) ∧ Below w.heap.size w w' := by
  have HF := Lib.hid (few15_any A n c fs w hr)
  rw [hf] at HF
  clear hr hf
  go_enter Try.func5, Try.ntmps5
  go_wp2_with fail
  refine HF.out.mono ?_
  rintro e w1 ⟨rfl, rfl⟩
  go_wp2_with fail
  refine (awake15 _).mono ?_
  rintro e w2 ⟨rfl, hb2⟩
  go_wp2_with fail
  go_ret
  exact ⟨rfl, hb2⟩
set_option maxHeartbeats 32000000 in
set_option maxRecDepth 100000 in
theorem holdKeeps_few (A : Option Addr) (n c : Nat) (fs : List ActH) (w : World) (hr : Rd w w.heap.size 9 A n (fs.flatMap ActH.cells)) (hok : ∀ f ∈ fs, ActHOk w f) (hf : fewH fs = true) :
    Calls Try.prog 5 #[.slice A n c] w fun e w' => e = .returned (.bool true) ∧ Below w.heap.size w w' := by
  have HL := Lib.hid (hr.len ActH.cells_len (by omega))
  have HF := Lib.hid (few15_any A n c fs w hr)
  rw [hf] at HF
  have HR := Lib.hid hr
  have HOK := Lib.hid hok
  obtain ⟨hf1, hf2⟩ : fs.length ≤ 30 ∧ fs.all shortH = true := by simpa [fewH] using hf
  have HSH : Hid (∀ f ∈ fs, f.l.length ≤ 8) := Lib.hid fun f hm => by
    have := List.all_eq_true.1 hf2 f hm
    simpa [shortH] using this
  rw [HL.out] at hf1
  have HN := Lib.hid (newV_yes 3 2 (by omega) (by omega) (by omega) 10 (by omega) w)
  unfold NewVPost at HN
  rw [show max (10 : Int) 0 = 10 from rfl] at HN
  clear hr hok hf hf2
  go_enter Try.func5, Try.ntmps5
  go_wp2_with fail
  refine HF.out.mono ?_
  rintro e w0 ⟨rfl, rfl⟩
  go_wp2_with fail
  refine HN.out.mono ?_
  rintro e w1 ⟨gv, gb, gt, vb, rfl, hv, hb⟩
  have HS1 : Hid (KeepSt w gv gt 3 2 10 0 w1 gb vb (List.replicate (2 * cnt 3) 0) 0 (.slice none 0 0) [] []) := Lib.hid ⟨hv, ⟨Inv.start (by omega), HInv.start, fun r hr => by simp at hr⟩, by simp, by omega, hb⟩
  have HAL := Lib.hid (all_yes 3 (by omega) w1)
  clear hv hb HN HF
  go_wp2_with fail
  refine HAL.out.mono ?_
  rintro e w2 ⟨va, rfl, hov, hb2⟩
  have HO2 := Lib.hid hov
  have HS2 := Lib.hid (HS1.out.past hb2)
  obtain ⟨Aa, ca, rfl⟩ := own_form hov
  clear hov hb2 HAL HS1
  go_wp2_with fail
  go_loopw [6] (fun i wr => ∃ (k gb : Nat) (vb : Value) (bl : List Int) (p : Int) (vt : Value) (S : List HRow) (L : List Ent), k ≤ n ∧ i = .int .i64 (k : Nat) ∧ Hid (KeepSt w gv gt 3 2 10 k wr gb vb bl p vt S L) ∧ Hid (wr.ownsRow w1.heap.size 52 2 (.slice Aa 15 ca) 15 ((accs 3).flatMap Acc.cells))) (fun i _ => n - (intOf i).toNat)
  case atStart => exact ⟨0, _, _, _, _, _, _, _, by omega, rfl, HS2, HO2⟩
  case round =>
    clear HS2 HO2
    obtain ⟨k, gb, vb, bl, p, vt, S, L, hk, rfl, HS, HO⟩ := hrel
    by_cases hlt : k < n
    · have hlz : (k : Int) < (n : Int) := by omega
      have hkl : k < fs.length := by have := HL.out; omega
      obtain ⟨f, hfk⟩ : ∃ f, fs[k]? = some f := ⟨_, List.getElem?_eq_getElem hkl⟩
      have hfm := List.mem_of_getElem? hfk
      have HFO := Lib.hid (HOK.out f hfm)
      have hf8 := HSH.out f hfm
      obtain ⟨b_f, off_f, rfl, hcs⟩ := act_cells HR.out hfk hlt
      have HCS := Lib.hid hcs
      obtain ⟨c0, c1, c2, c3, c4, c5, c6, c7, c8⟩ := HCS.out wr HS.out.below
      have hp0 := HS.out.p0
      -- Hold
      obtain ⟨hv, he, HHL, HHS⟩ : ∃ (hv : HoldV) (he : Int), Hid (Calls Try.prog 26 #[.pointer (some ⟨gv, 0, none⟩), .int .i64 f.id] wr fun e w' => e = .returned (.tuple #[.agg #[.int .i64 hv.k, .int .i64 hv.m, .int .i64 hv.a, .int .i64 hv.z], .int .i64 he]) ∧ Below wr.heap.size wr w') ∧ Hid ((he = 0 ∧ TTbH.isT S f.id = true ∧ ∃ r, S[TTbH.posT S f.id]? = some r ∧ r.v = hv) ∨ he = 8) := by
        cases his : TTbH.isT S f.id with
        | true =>
          obtain ⟨r, hr, _⟩ := isT_at HS.out.v.tab.ris his
          exact ⟨r.v, 0, Lib.hid (holdV_yes f.id r wr HS.out.v his hr), Lib.hid (.inl ⟨rfl, rfl, r, hr, rfl⟩)⟩
        | false => exact ⟨⟨0, 0, 0, 0⟩, 8, Lib.hid (holdV_no f.id wr HS.out.v his), Lib.hid (.inr rfl)⟩
      clear hcs hfk hfm hkl
      go_wp2_with fail
      refine HHL.out.mono ?_
      rintro e w3 ⟨rfl, hb3⟩
      have hba := hb3.alloc hb3.size (.cells #[.int .i64 hv.k, .int .i64 hv.m, .int .i64 hv.a, .int .i64 hv.z] 60)
      have bx := Blk.new w3 60 #[.int .i64 hv.k, .int .i64 hv.m, .int .i64 hv.a, .int .i64 hv.z] w3.heap.size rfl
      obtain ⟨xb, hxb⟩ : ∃ xb, Hid (w3.heap.size = xb) := ⟨_, Lib.hid rfl⟩
      obtain ⟨W4, hW4⟩ : ∃ W4, Hid (w3.alloc (.cells #[.int .i64 hv.k, .int .i64 hv.m, .int .i64 hv.a, .int .i64 hv.z] 60) = W4) := ⟨_, Lib.hid rfl⟩
      rw [hW4.out] at hba bx
      rw [hxb.out] at bx
      have HS4 := Lib.hid (HS.out.past hba)
      have HO4 := Lib.hid (own_pastZ HO.out hba)
      have HX4 := Lib.hid bx
      clear hb3 hba bx HHL c0 c1 c2 c3 c4 c5 c6 c7 c8
      obtain ⟨c0, c1, c2, c3, c4, c5, c6, c7, c8⟩ := HCS.out W4 HS4.out.below
      go_upto_region 11 with fail
      rw [hxb.out, hW4.out]
      go_upto_block 2 with fail
      go_cut [134] from 51 to 134 (fun _ w' => Hid (RoundP w gv gt k S f.id f.kd w1.heap.size (.slice Aa 15 ca) ((accs 3).flatMap Acc.cells) xb #[.int .i64 hv.k, .int .i64 hv.m, .int .i64 hv.a, .int .i64 hv.z] w'))
      case first =>
        have hp1 : 0 ≤ p ∧ p ≤ 1000000 := by omega
        have hbs := HS4.out.below.size
        have hdr := Below.drew (Below.refl W4.heap.size W4)
        have HS4d := Lib.hid (HS4.out.past hdr)
        have hbd := HS4d.out.below.size
        by_cases h0 : f.kd = 0
        · as_aux_lemma =>
            have HPO := Lib.hid (postV_any f.P f.l.length f.c f.l W4 HS4.out.v HS4.out.i.hinv HS4.out.i.inv.inn (HFO.out.past HS4.out.below).rd (by omega) HFO.out.ok hp1 hbs)
            have HKI := Lib.hid (HS4.out.i.hinv.post (l := f.l) (by omega) HS4.out.i.inv)
            have q0 : (f.kd == 0) = true := by simpa using h0
            clear h0 hdr
            go_wp2_with fail
            refine HPO.out.mono ?_
            rintro e w5 hvp
            obtain rfl := hvp.1
            have HRP := Lib.hid (roundP HS4.out (Below.refl _ _) hvp ⟨HKI.out.1, HKI.out.2, HS4.out.i.ok⟩ HS4.out.len (id := f.id) (kd := f.kd) (fun _ _ _ => rfl) HO4.out HX4.out)
            clear hvp
            go_wp2_with fail
            go_meet
            exact HRP
        · have q0 : (f.kd == 0) = false := by simpa using h0
          by_cases h1 : f.kd = 1
          · have q1 : (f.kd == 1) = true := by simpa using h1
            as_aux_lemma =>
              have HMV := Lib.hid (moveV_any f.x f.y f.a f.z W4.drew HS4d.out.v HS4d.out.i.hinv HS4d.out.i.inv.inn HFO.out.x HFO.out.y HFO.out.a HFO.out.z hp1 hbd)
              have HKI := Lib.hid (HS4.out.i.hinv.move (by omega) HS4.out.i.inv f.x f.y f.a f.z)
              have HDR := Lib.hid hdr
              clear h0 h1 hdr
              go_wp2_with fail
              go_still_tail 21, (by kernel_rfl)
              change wpList _ _ _ _ _ W4.drew
              go_wp2_with fail
              refine HMV.out.mono ?_
              rintro e w5 hvp
              obtain rfl := hvp.1
              have HRP := Lib.hid (roundP HS4.out HDR.out hvp ⟨HKI.out.1, HKI.out.2, HS4.out.i.ok⟩ HS4.out.len (id := f.id) (kd := f.kd) (fun _ _ _ => rfl) HO4.out HX4.out)
              clear hvp
              go_wp2_with fail
              go_meet
              exact HRP
          · have q1 : (f.kd == 1) = false := by simpa using h1
            by_cases h2 : f.kd = 2
            · have q2 : (f.kd == 2) = true := by simpa using h2
              as_aux_lemma =>
                have HPL := Lib.hid (placeV_any f.id ⟨f.x.kind, f.x.member, f.a, f.z⟩ W4.drew HS4d.out.v HS4d.out.i.hinv HS4d.out.i.inv.inn HS4.out.len (by have := HS4.out.len; omega) hbd)
                have HKI := Lib.hid (keep_place (id := f.id) (h := ⟨f.x.kind, f.x.member, f.a, f.z⟩) HS4.out.i HS4.out.len ⟨HFO.out.x, HFO.out.a, HFO.out.z⟩)
                have HDR := Lib.hid hdr
                clear h0 h1 h2 hdr
                go_wp2_with fail
                go_still_tail 22, (by kernel_rfl)
                change wpList _ _ _ _ _ W4.drew
                go_wp2_with fail
                refine HPL.out.mono ?_
                rintro e w5 hvp
                obtain rfl := hvp.1
                have HRP := Lib.hid (roundP HS4.out HDR.out hvp HKI.out.1 HKI.out.2 (id := f.id) (kd := f.kd) (fun h _ _ => same_hp h) HO4.out HX4.out)
                clear hvp
                go_wp2_with fail
                go_meet
                exact HRP
            · have q2 : (f.kd == 2) = false := by simpa using h2
              have HN3 : Hid (0 ≤ f.kd → f.kd < 3 → False) := Lib.hid (by omega)
              by_cases h3 : f.kd = 3
              · have q3 : (f.kd == 3) = true := by simpa using h3
                as_aux_lemma =>
                  have HRE := Lib.hid (releaseV_any f.id W4 HS4.out.v)
                  have HKI := Lib.hid (keep_rel (id := f.id) HS4.out.i HS4.out.len)
                  clear h0 h1 h2 h3 hdr
                  go_wp2_with fail
                  refine HRE.out.mono ?_
                  rintro e w5 hvp
                  obtain rfl := hvp.1
                  have HRP := Lib.hid (roundP HS4.out (Below.refl _ _) hvp HKI.out.1 HKI.out.2 (id := f.id) (kd := f.kd) (fun _ a b => (HN3.out a b).elim) HO4.out HX4.out)
                  clear hvp
                  go_wp2_with fail
                  go_meet
                  exact HRP
              · have q3 : (f.kd == 3) = false := by simpa using h3
                as_aux_lemma =>
                  have HCX := Lib.hid (capX_any (by omega) f.id f.y f.z W4.drew HS4d.out.v HS4d.out.i HFO.out.y HFO.out.z hp1 hbd)
                  unfold CapX at HCX
                  have HDR := Lib.hid hdr
                  have HLN := Lib.hid HS4.out.len
                  clear h0 h1 h2 h3 hdr
                  go_wp2_with fail
                  go_still_tail 16, (by kernel_rfl)
                  change wpList _ _ _ _ _ W4.drew
                  go_wp2_with fail
                  refine HCX.out.mono ?_
                  rintro e w5 ⟨K, bl', S', L', hvp, hki, hsl⟩
                  obtain rfl := hvp.1
                  have HRP := Lib.hid (roundP HS4.out HDR.out hvp hki (by have := HLN.out; omega) (id := f.id) (kd := f.kd) (fun _ a b => (HN3.out a b).elim) HO4.out HX4.out)
                  clear hvp hki hsl
                  go_wp2_with fail
                  go_meet
                  exact HRP
      case rest =>
        as_aux_lemma =>
          obtain ⟨bl5, S5, ⟨gb5, vb5, p5, vt5, L5, hst5⟩, hsame, hown5, hbx5⟩ := hcut.out
          have HS5 := Lib.hid hst5
          have HO5 := Lib.hid hown5
          have HX5 := Lib.hid hbx5
          have HSM := Lib.hid hsame
          clear hst5 hown5 hbx5 hsame hcut c0 c1 c2 c3 c4 c5 c6 c7 c8 HO4 HX4 HS HO
          obtain ⟨h2, ge, HH2, HQ⟩ : ∃ (h2 : HoldV) (ge : Int), Hid (Calls Try.prog 26 #[.pointer (some ⟨gv, 0, none⟩), .int .i64 f.id] wc fun e w' => e = .returned (.tuple #[.agg #[.int .i64 h2.k, .int .i64 h2.m, .int .i64 h2.a, .int .i64 h2.z], .int .i64 ge]) ∧ Below wc.heap.size wc w') ∧ Hid (he = 0 → 0 ≤ f.kd → f.kd < 3 → ge = 0 ∧ h2 = hv) := by
            cases his2 : TTbH.isT S5 f.id with
            | true =>
              obtain ⟨r2, hr2, _⟩ := isT_at HS5.out.v.tab.ris his2
              refine ⟨r2.v, 0, Lib.hid (holdV_yes f.id r2 wc HS5.out.v his2 hr2), Lib.hid fun h0 hk0 hk3 => ⟨rfl, ?_⟩⟩
              rcases HHS.out with ⟨_, his, r, hr, hrv⟩ | h8
              · have hS := HSM.out his hk0 hk3
                rw [hS] at hr2
                rw [← hrv]
                exact congrArg (·.v) (Option.some.inj (hr2.symm.trans hr))
              · omega
            | false =>
              refine ⟨⟨0, 0, 0, 0⟩, 8, Lib.hid (holdV_no f.id wc HS5.out.v his2), Lib.hid fun h0 hk0 hk3 => ?_⟩
              rcases HHS.out with ⟨_, his, r, hr, hrv⟩ | h8
              · have hS := HSM.out his hk0 hk3
                rw [hS, his] at his2
                cases his2
              · omega
          have HE : Hid (he = 0 ∨ he = 8) := Lib.hid (by rcases HHS.out with ⟨h, _⟩ | h <;> simp [h])
          obtain ⟨c0, c1, c2, c3, c4, c5, c6, c7, c8⟩ := HCS.out wc HS5.out.below
          clear HSM HHS
          go_wp2_with fail
          refine HH2.out.mono ?_
          rintro e w7 ⟨rfl, hb7⟩
          have hba := hb7.alloc hb7.size (.cells #[.int .i64 h2.k, .int .i64 h2.m, .int .i64 h2.a, .int .i64 h2.z] 60)
          have by_ := Blk.new w7 60 #[.int .i64 h2.k, .int .i64 h2.m, .int .i64 h2.a, .int .i64 h2.z] w7.heap.size rfl
          obtain ⟨yb, hyb⟩ : ∃ yb, Hid (w7.heap.size = yb) := ⟨_, Lib.hid rfl⟩
          obtain ⟨W8, hW8⟩ : ∃ W8, Hid (w7.alloc (.cells #[.int .i64 h2.k, .int .i64 h2.m, .int .i64 h2.a, .int .i64 h2.z] 60) = W8) := ⟨_, Lib.hid rfl⟩
          rw [hW8.out] at hba by_
          rw [hyb.out] at by_
          have HS8 := Lib.hid (HS5.out.past hba)
          have HO8 := Lib.hid (own_pastZ HO5.out hba)
          have HX8 := Lib.hid (HX5.out.past hba)
          have HY8 := Lib.hid by_
          clear hb7 hba by_ HH2 c0 c1 c2 c3 c4 c5 c6 c7 c8
          obtain ⟨c0, c1, c2, c3, c4, c5, c6, c7, c8⟩ := HCS.out W8 HS8.out.below
          have x0 := HX8.out.cell 0
          have x1 := HX8.out.cell 1
          have x2 := HX8.out.cell 2
          have x3 := HX8.out.cell 3
          have y0 := HY8.out.cell 0
          have y1 := HY8.out.cell 1
          have y2 := HY8.out.cell 2
          have y3 := HY8.out.cell 3
          simp at x0 x1 x2 x3 y0 y1 y2 y3
          go_upto_region 22 with fail
          rw [hyb.out, hW8.out]
          go_cut [171] from 145 to 171 (fun v w' => v = .bool false ∧ w' = W8)
          case first =>
            rcases HE.out with h0 | h8
            · by_cases k0 : 0 ≤ f.kd
              · by_cases k3 : f.kd < 3
                · obtain ⟨g0, rfl⟩ := HQ.out h0 k0 k3
                  subst h0
                  subst g0
                  have hq := fun w => hold_neq h2 w
                  go_wp2_with fail
                  go_meet
                  exact ⟨rfl, rfl⟩
                · have k3' : 3 ≤ f.kd := by omega
                  subst h0
                  clear k3
                  go_wp2_with fail
                  go_meet
                  exact ⟨rfl, rfl⟩
              · have k0' : f.kd < 0 := by omega
                subst h0
                clear k0
                go_wp2_with fail
                go_meet
                exact ⟨rfl, rfl⟩
            · subst h8
              go_wp2_with fail
              go_meet
              exact ⟨rfl, rfl⟩
          case rest =>
            obtain ⟨rfl, hwc⟩ := hcut
            rw [hwc]
            clear hwc
            clear x0 x1 x2 x3 y0 y1 y2 y3 c0 c1 c2 c3 c4 c5 c6 c7 c8
            go_wp2_with fail
            go_loopw [11] (fun j wz => ∃ aj : Nat, aj ≤ 2 ∧ j = .int .i64 (aj : Nat) ∧ Hid (Below W8.heap.size W8 wz)) (fun j _ => 2 - (intOf j).toNat)
            case atStart => exact ⟨0, by omega, rfl, Lib.hid (Below.refl _ _)⟩
            case round =>
              obtain ⟨aj, haj, rfl, HBa⟩ := hrel
              by_cases hja : aj < 2
              · have hjz : (aj : Int) < 2 := by omega
                have HSa := Lib.hid (HS8.out.past HBa.out)
                have HT := Lib.hid (totH_yes aj hja wr HSa.out.v HSa.out.i.inv.inn)
                rw [HSa.out.i.inv.total (by omega) (by omega) hja, show amount 0 = 0 from by decide, show over 0 = 0 from by decide] at HT
                go_wp2_with fail
                refine HT.out.mono ?_
                rintro e w9 ⟨rfl, hb9⟩
                have HBb := Lib.hid (Below.past HBa.out hb9 HBa.out.size)
                clear hb9 HT HSa
                go_wp2_with fail
                go_loopw [14] (fun q wz => ∃ t : Nat, t ≤ 15 ∧ q = .int .i64 (t : Nat) ∧ Hid (Below W8.heap.size W8 wz)) (fun q _ => 15 - (intOf q).toNat)
                case atStart => exact ⟨0, by omega, rfl, HBb⟩
                case round =>
                  clear HBb
                  obtain ⟨t, ht, rfl, HBt⟩ := hrel
                  have HSt := Lib.hid (HS8.out.past HBt.out)
                  by_cases hjt : t < 15
                  · have htz : (t : Int) < 15 := by omega
                    have hLA : Hid ((accs 3).length = 15) := Lib.hid (by decide)
                    have hg_g : (accs 3)[t]? = some ((accs 3)[t]'(by have := hLA.out; omega)) := List.getElem?_eq_getElem _
                    obtain ⟨b_g, off_g, rfl, hbb_g, hc_g⟩ := (Rd.of_own (own_pastZ HO8.out HBt.out)).elem Acc.cells_len hg_g hjt
                    have HT_g := Lib.hid (show (accs 3).take (t + 1) = (accs 3).take t ++ [((accs 3)[t]'(by have := hLA.out; omega))] from List.take_succ_eq_append_getElem (by have := hLA.out; omega))
                    have HM_g := Lib.hid (show ((accs 3)[t]'(by have := hLA.out; omega)) ∈ (accs 3) from List.getElem_mem _)
                    have HG_g := Lib.hid hg_g
                    generalize ((accs 3)[t]'(by have := hLA.out; omega)) = g at *
                    have a0 := hc_g 0 _ rfl
                    have a1 := hc_g 1 _ rfl
                    clear hc_g hg_g
                    simp only [Nat.add_zero] at a0
                    have hokS := okP_acc HM_g.out hja
                    have HBL := Lib.hid (balH_any ⟨g.kind, g.member, (aj : Int)⟩ wr HSt.out.v)
                    rw [blK_t hokS] at HBL
                    obtain ⟨k1, k2, k3⟩ := keep_acc HSt.out.i hokS
                    obtain ⟨bz, hbz⟩ : ∃ bz, Hid (List.getD bl5 (ixS 3 ⟨g.kind, g.member, (aj : Int)⟩) 0 = bz) := ⟨_, Lib.hid rfl⟩
                    obtain ⟨hz, hhz⟩ : ∃ hz, Hid (heldH S5 ⟨g.kind, g.member, (aj : Int)⟩ = hz) := ⟨_, Lib.hid rfl⟩
                    rw [hbz.out] at HBL k2
                    rw [hhz.out] at k1 k2 k3
                    have hfr : frB ⟨g.kind, g.member, (aj : Int)⟩ = (decide (5 ≤ g.kind) && decide (g.kind ≤ 7)) := by
                      unfold frB
                      rw [Bool.eq_iff_iff]
                      simp
                      omega
                    rw [hfr] at k2 k3
                    go_wp2_with fail
                    refine HBL.out.mono ?_
                    rintro e w10 ⟨rfl, hb10⟩
                    have HSu := Lib.hid (HSt.out.past hb10)
                    have HBu := Lib.hid (Below.past HBt.out hb10 HBt.out.size)
                    have HH3 := Lib.hid (heldB_any ⟨g.kind, g.member, (aj : Int)⟩ w10 HSu.out.v HSt.out.i.hinv HSt.out.i.inv.inn)
                    rw [show hlK 3 2 S5 (⟨g.kind, g.member, (aj : Int)⟩ : Spt) = (heldH S5 ⟨g.kind, g.member, (aj : Int)⟩, 0) from if_pos hokS, hhz.out] at HH3
                    have hrda := Rd.of_own (own_pastZ HO8.out HBu.out)
                    clear hb10 a0 a1 HBL
                    obtain ⟨b3, o3, he3, _, hc3⟩ := hrda.elem Acc.cells_len HG_g.out hjt
                    cases he3
                    have a0 := hc3 0 _ rfl
                    have a1 := hc3 1 _ rfl
                    simp only [Nat.add_zero] at a0
                    clear hrda hc3
                    go_wp2_with fail
                    refine HH3.out.mono ?_
                    rintro e w11 ⟨rfl, hb11⟩
                    have HBv := Lib.hid (Below.past HBu.out hb11 HBu.out.size)
                    have hrda := Rd.of_own (own_pastZ HO8.out HBv.out)
                    clear hb11 a0 a1 HH3
                    obtain ⟨b3, o3, he3, _, hc3⟩ := hrda.elem Acc.cells_len HG_g.out hjt
                    cases he3
                    have a0 := hc3 0 _ rfl
                    simp only [Nat.add_zero] at a0
                    clear hrda hc3
                    have q1 : ¬ hz < 0 := by omega
                    by_cases g5 : 5 ≤ g.kind
                    · by_cases g7 : g.kind ≤ 7
                      · obtain rfl : hz = 0 := k3 (by simp [g5, g7])
                        have r1 : ¬ g.kind < 5 := by omega
                        have r2 : ¬ 7 < g.kind := by omega
                        go_wp2_with fail
                        go_roundw
                        case rel => exact ⟨t + 1, by omega, by go_num, HBv⟩
                        case measure => simp [intOf]; omega
                      · have r1 : ¬ g.kind < 5 := by omega
                        have r2 : 7 < g.kind := by omega
                        have r3 : ¬ bz < hz := by have := k2 (by simp [g7]); omega
                        go_wp2_with fail
                        go_roundw
                        case rel => exact ⟨t + 1, by omega, by go_num, HBv⟩
                        case measure => simp [intOf]; omega
                    · have r1 : g.kind < 5 := by omega
                      have r3 : ¬ bz < hz := by have := k2 (by simp [g5]); omega
                      go_wp2_with fail
                      go_roundw
                      case rel => exact ⟨t + 1, by omega, by go_num, HBv⟩
                      case measure => simp [intOf]; omega
                  · have htz : ¬ (t : Int) < 15 := by omega
                    go_wp2_with fail
                    go_roundw
                    case rel => exact ⟨aj + 1, by omega, by go_num, HBt⟩
                    case measure => simp [intOf]; omega
              · have hjz : ¬ (aj : Int) < 2 := by omega
                have HS9 := Lib.hid (HS8.out.past HBa.out)
                have HO9 := Lib.hid (own_pastZ HO8.out HBa.out)
                go_wp2_with fail
                go_roundw
                case rel => exact ⟨k + 1, _, _, _, _, _, _, _, by omega, by go_num, HS9, HO9⟩
                case measure => simp [intOf]; omega
    · have hlz : ¬ (k : Int) < (n : Int) := by omega
      go_wp2_with fail
      refine (awake15 _).mono ?_
      rintro e w3 ⟨rfl, hb3⟩
      have HB := Lib.hid (HS.out.past hb3).below
      clear hb3
      go_wp2_with fail
      go_ret
      exact ⟨rfl, HB.out⟩
end Go.Proofs.Ytelbolhckhdioaa
