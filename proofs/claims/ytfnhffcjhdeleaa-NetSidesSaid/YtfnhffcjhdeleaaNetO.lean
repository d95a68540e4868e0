import Derived.Test.YtfnhffcjhdeleaaNetN
namespace Go.Proofs.Ytfnhffcjhdeleaa
open Go.RowKit Go.ChangeShapes

def owedD (l : List Leg) (a : Int) : Int := (totL ((l.filter (ofB a)).filter posB) a).sum
def owedC (l : List Leg) (a : Int) : Int := (totL (claimL (l.filter (ofB a))) a).sum
def sidesOk (l : List Leg) (a : Int) : Bool := decide (inI (owedD l a)) && (!(l.filter (ofB a)).any leastB && decide (inI (owedC l a)))
/-- What Sides tells. -/
def SidesPost (l : List Leg) (a : Int) (w : World) (e : Ending) (w' : World) : Prop :=
  (if sidesOk l a = true then e = .returned (.tuple #[.int .i64 (owedD l a), .int .i64 (owedC l a), .int .i64 0]) else e = .returned (.tuple #[.int .i64 0, .int .i64 0, .int .i64 2])) ∧ Below w.heap.size w w'
theorem sides_bad {l : List Leg} {a : Int} {w w' : World} (h : sidesOk l a = false) (hb : Below w.heap.size w w') : SidesPost l a w (.returned (.tuple #[.int .i64 0, .int .i64 0, .int .i64 2])) w' := by
  unfold SidesPost; rw [h, if_neg (by simp)]; exact ⟨rfl, hb⟩
theorem sides_good {l : List Leg} {a : Int} {w w' : World} {d c : Int} (h : sidesOk l a = true) (hd : owedD l a = d) (hc : owedC l a = c) (hb : Below w.heap.size w w') : SidesPost l a w (.returned (.tuple #[.int .i64 d, .int .i64 c, .int .i64 0])) w' := by
  unfold SidesPost; rw [h, if_pos rfl, hd, hc]; exact ⟨rfl, hb⟩
theorem filt_in {l : List Leg} {p : Leg → Bool} (h : ∀ x ∈ l, inI x.amount) : ∀ x ∈ l.filter p, inI x.amount := fun x hx => h x (List.mem_filter.1 hx).1
theorem claim_in {l : List Leg} (h : ∀ x ∈ l, inI x.amount) (h0 : l.any leastB = false) : ∀ x ∈ claimL l, inI x.amount := fun x hx => by
  unfold claimL at hx
  obtain ⟨y, hy, rfl⟩ := List.mem_map.1 hx
  have hm := (List.mem_filter.1 hy).1
  have h1 := h y hm
  have h2 : ¬ y.amount = -9223372036854775808 := fun e => by
    have : l.any leastB = true := List.any_eq_true.2 ⟨y, hm, decide_eq_true e⟩
    rw [h0] at this; cases this
  unfold inI at h1 ⊢
  simp only [negL]
  omega

set_option maxHeartbeats 4000000 in
set_option maxRecDepth 100000 in
theorem netSides_any (A : Option Addr) (n c : Nat) (l : List Leg) (a : Int) (w : World) (hr : Rd w w.heap.size 3 A n (l.flatMap Leg.cells)) (hn : n ≤ 1000) (hg : ∀ x ∈ l, inI x.amount) :
    Calls Try.prog 59 #[.slice A n c, .int .i64 a] w (SidesPost l a w) := by
  have HL := Lib.hid (hr.len Leg.cells_len (by omega))
  obtain ⟨j0, hj0, jz0, jz1, jz2⟩ := info_parts legInfoN
  have HG := Lib.hid hg
  clear hg
  go_enter Try.func59, Try.ntmps59
  go_wp2_with fail
  go_loopw [7, 13] (fun v i wr => ∃ k : Nat, k ≤ n ∧ i = .int .i64 k ∧ Hid (wr.ownsRow w.heap.size 97 3 v ((l.take k).filter (ofB a)).length (((l.take k).filter (ofB a)).flatMap Leg.cells)) ∧ Hid (Below w.heap.size w wr)) (fun _ i _ => n - (intOf i).toNat)
  case atStart => exact ⟨0, Nat.zero_le _, rfl, Lib.hid (World.ownsRow_nil _ _ _ _), Lib.hid (Below.refl _ _)⟩
  case round =>
    obtain ⟨k, hk, rfl, HR, HB⟩ := hrel
    have hs := HB.out.size
    by_cases hlt : k < n
    · have hlz : (k : Int) < (n : Int) := by omega
      have hg_f : l[k]? = some (l[k]'(by have := HL.out; omega)) := List.getElem?_eq_getElem _
      obtain ⟨b_f, off_f, rfl, hbb_f, hc_f⟩ := (hr.below HB.out).elem Leg.cells_len hg_f hlt
      have HT_f := Lib.hid (show l.take (k + 1) = l.take k ++ [(l[k]'(by have := HL.out; omega))] from List.take_succ_eq_append_getElem (by have := HL.out; omega))
      have HM_f := Lib.hid (show (l[k]'(by have := HL.out; omega)) ∈ l from List.getElem_mem _)
      generalize (l[k]'(by have := HL.out; omega)) = f at *
      have c0 := hc_f 0 _ rfl
      have c1 := hc_f 1 _ rfl
      have c2 := hc_f 2 _ rfl
      clear hc_f hg_f
      simp only [Nat.add_zero] at c0
      have hbo := (Below.refl wr.heap.size wr).alloc (Nat.le_refl _) (.cells #[.int .i64 f.member, .int .i64 f.asset, .int .i64 f.amount] 97)
      have HB1 := Lib.hid (Below.past HB.out hbo hs)
      have HR1 := Lib.hid (own_past' HR.out hbo)
      have hfl := filt_len l (ofB a) k 1000 (by omega)
      obtain ⟨m, hm⟩ : ∃ m, Hid (((l.take k).filter (ofB a)).length = m) := ⟨_, Lib.hid rfl⟩
      rw [hm.out] at HR1 hfl
      by_cases h1 : f.asset = a
      · have q1 : (f.asset == a) = true := by simpa using h1
        have HF := Lib.hid (filt_yes (p := ofB a) HT_f.out (show ofB a f = true from decide_eq_true h1))
        have bX := Blk.new wr 97 #[.int .i64 f.member, .int .i64 f.asset, .int .i64 f.amount] wr.heap.size rfl
        obtain ⟨W1, hW1⟩ : ∃ W, Hid (wr.alloc (.cells #[.int .i64 f.member, .int .i64 f.asset, .int .i64 f.amount] 97) = W) := ⟨_, Lib.hid rfl⟩
        rw [hW1.out] at HB1 HR1 bX
        have hs1 := HB1.out.size
        clear h1
        go_upto_region 5 with fail
        rw [hW1.out]
        have x0 := (bX).cell 0
        have x1 := (bX).cell 1
        have x2 := (bX).cell 2
        simp at x0 x1 x2
        clear bX hbo HR
        go_wp2_with (at_builtin; refine wpList_append_lit _ _ rfl (.tmp 21) (.tmp 23) 90 rfl w.heap.size 97 j0 _ 3 24 Try.underlying90 hj0 jz0 jz1 jz2 rfl (by decide) _ _ _ rfl HR1.out _ 1 1 rfl (by first | rfl | simp) rfl (by simp [Value.oneCell']) (by omega) (by omega) (by omega) ?_; intro v' w' hown' hg'; have HOWN := Lib.hid hown'; have HBW := Lib.hid (below_own (HB1.out.alloc hs1 _) hg' HR1.out (by simp; omega) (Nat.le_refl _)); clear hown' hg')
        go_roundw
        case rel => exact ⟨k + 1, by omega, by go_num, Lib.hid (by rw [HF.out, List.length_append, hm.out, List.flatMap_append]; exact HOWN.out), HBW⟩
        case measure => simp [intOf]; omega
      · have q1 : (f.asset == a) = false := by simpa using h1
        have HF := Lib.hid (filt_no (p := ofB a) HT_f.out (show ofB a f = false from decide_eq_false h1))
        clear hbo HR h1
        go_wp2_with fail
        go_roundw
        case rel => exact ⟨k + 1, by omega, by go_num, Lib.hid (by rw [HF.out, hm.out]; exact HR1.out), HB1⟩
        case measure => simp [intOf]; omega
    · have hlz : ¬ (k : Int) < (n : Int) := by omega
      obtain rfl : n = k := by omega
      have hT : l.take n = l := List.take_of_length_le (by rw [HL.out]; exact Nat.le_refl _)
      have hro := HR.out
      rw [hT] at hro
      obtain ⟨Am, cm, rfl⟩ := own_form hro
      obtain ⟨mine, hmine⟩ : ∃ mine, Hid (l.filter (ofB a) = mine) := ⟨_, Lib.hid rfl⟩
      have hml : (l.filter (ofB a)).length ≤ 1000 := Nat.le_trans (List.length_filter_le _ _) (by rw [HL.out]; exact hn)
      have HGM : Hid (∀ x ∈ mine, inI x.amount) := Lib.hid (by rw [← hmine.out]; exact filt_in HG.out)
      rw [hmine.out] at hro hml ⊢
      have HRM := Lib.hid (Rd.of_own hro)
      obtain ⟨m, hm⟩ : ∃ m, Hid (mine.length = m) := ⟨_, Lib.hid rfl⟩
      have HDB := Lib.hid (netDebts_any Am mine.length cm mine wr HRM.out hml)
      rw [hm.out] at HDB HRM hml ⊢
      clear HR hT hro
      go_wp2_with fail
      refine HDB.out.mono ?_
      rintro e w2 ⟨v2, rfl, ho2, hb2⟩
      obtain ⟨A2, c2, rfl⟩ := own_form ho2
      have HB2 := Lib.hid (Below.past HB.out hb2 hs)
      have HRM2 := Lib.hid (HRM.out.past hb2)
      have hdl : (mine.filter posB).length ≤ 1000 := Nat.le_trans (List.length_filter_le _ _) (by rw [hm.out]; exact hml)
      have HT2 := Lib.hid (netTotal_any A2 (mine.filter posB).length c2 (mine.filter posB) a w2 (Rd.of_own ho2) hdl (filt_in HGM.out))
      obtain ⟨S, hS⟩ : ∃ S, Hid ((totL (mine.filter posB) a).sum = S) := ⟨_, Lib.hid rfl⟩
      have HSD : Hid (owedD l a = S) := Lib.hid (by unfold owedD; rw [hmine.out]; exact hS.out)
      obtain ⟨q, hq⟩ : ∃ q, Hid ((mine.filter posB).length = q) := ⟨_, Lib.hid rfl⟩
      rw [hS.out, hq.out] at HT2
      rw [hq.out]
      clear ho2 hb2 hdl
      go_wp2_with fail
      by_cases hin : inI S
      · have HAM := Lib.hid (amount_in hin)
        rw [HAM.out.1, HAM.out.2] at HT2
        have HI := Lib.hid hin
        clear hin
        refine HT2.out.mono ?_
        rintro e w3 ⟨rfl, hb3⟩
        have HB3 := Lib.hid (Below.past HB2.out hb3 HB2.out.size)
        have HCL := Lib.hid (netClaims_any Am m cm mine w3 (HRM2.out.past hb3) hml HGM.out)
        clear hb3
        cases hle : mine.any leastB with
        | true =>
          have HE : Hid (clmE mine = 2 ∧ clmL mine = []) := Lib.hid (by unfold clmE clmL; rw [hle]; exact ⟨rfl, rfl⟩)
          have HBAD : Hid (sidesOk l a = false) := Lib.hid (by unfold sidesOk; rw [hmine.out, hle]; simp)
          rw [HE.out.1, HE.out.2] at HCL
          clear hle
          go_wp2_with fail
          refine HCL.out.mono ?_
          rintro e w4 ⟨v4, rfl, ho4, hb4⟩
          have HB4 := Lib.hid (Below.past HB3.out hb4 HB3.out.size)
          clear ho4 hb4
          go_wp2_with fail
          refine bodyPost_ret (v := .tuple #[.int .i64 0, .int .i64 0, .int .i64 2]) (by simp [results, Try.results59, go_sem]) rfl (sides_bad HBAD.out HB4.out)
        | false =>
          have HE : Hid (clmE mine = 0 ∧ clmL mine = claimL mine) := Lib.hid (by unfold clmE clmL; rw [hle]; exact ⟨rfl, rfl⟩)
          have HLE := Lib.hid hle
          rw [HE.out.1, HE.out.2] at HCL
          clear hle
          go_wp2_with fail
          refine HCL.out.mono ?_
          rintro e w4 ⟨v4, rfl, ho4, hb4⟩
          obtain ⟨A4, c4, rfl⟩ := own_form ho4
          have HB4 := Lib.hid (Below.past HB3.out hb4 HB3.out.size)
          have hcl : (claimL mine).length ≤ 1000 := Nat.le_trans (claimL_len _) (by rw [hm.out]; exact hml)
          have HT4 := Lib.hid (netTotal_any A4 (claimL mine).length c4 (claimL mine) a w4 (Rd.of_own ho4) hcl (claim_in HGM.out HLE.out))
          obtain ⟨C, hC⟩ : ∃ C, Hid ((totL (claimL mine) a).sum = C) := ⟨_, Lib.hid rfl⟩
          have HSC : Hid (owedC l a = C) := Lib.hid (by unfold owedC; rw [hmine.out]; exact hC.out)
          obtain ⟨p, hp⟩ : ∃ p, Hid ((claimL mine).length = p) := ⟨_, Lib.hid rfl⟩
          rw [hC.out, hp.out] at HT4
          rw [hp.out]
          clear ho4 hb4 hcl
          go_wp2_with fail
          by_cases hic : inI C
          · have HAM4 := Lib.hid (amount_in hic)
            rw [HAM4.out.1, HAM4.out.2] at HT4
            have HOK : Hid (sidesOk l a = true) := Lib.hid (by unfold sidesOk; rw [hmine.out, HLE.out, HSD.out, HSC.out, decide_eq_true HI.out, decide_eq_true hic]; rfl)
            clear hic
            refine HT4.out.mono ?_
            rintro e w5 ⟨rfl, hb5⟩
            have HB5 := Lib.hid (Below.past HB4.out hb5 HB4.out.size)
            clear hb5
            go_wp2_with fail
            refine bodyPost_ret (v := .tuple #[.int .i64 S, .int .i64 C, .int .i64 0]) (by simp [results, Try.results59, go_sem]) rfl (sides_good HOK.out HSD.out HSC.out HB5.out)
          · have HAM4 := Lib.hid (amount_outN hic)
            rw [HAM4.out.1, HAM4.out.2] at HT4
            have HBAD : Hid (sidesOk l a = false) := Lib.hid (by unfold sidesOk; rw [HSC.out, decide_eq_false hic]; simp)
            clear hic
            refine HT4.out.mono ?_
            rintro e w5 ⟨rfl, hb5⟩
            have HB5 := Lib.hid (Below.past HB4.out hb5 HB4.out.size)
            clear hb5
            go_wp2_with fail
            refine bodyPost_ret (v := .tuple #[.int .i64 0, .int .i64 0, .int .i64 2]) (by simp [results, Try.results59, go_sem]) rfl (sides_bad HBAD.out HB5.out)
      · have HAM := Lib.hid (amount_outN hin)
        rw [HAM.out.1, HAM.out.2] at HT2
        have HBAD : Hid (sidesOk l a = false) := Lib.hid (by unfold sidesOk; rw [HSD.out, decide_eq_false hin]; rfl)
        clear hin
        refine HT2.out.mono ?_
        rintro e w3 ⟨rfl, hb3⟩
        have HB3 := Lib.hid (Below.past HB2.out hb3 HB2.out.size)
        clear hb3
        go_wp2_with fail
        refine bodyPost_ret (v := .tuple #[.int .i64 0, .int .i64 0, .int .i64 2]) (by simp [results, Try.results59, go_sem]) rfl (sides_bad HBAD.out HB3.out)
end Go.Proofs.Ytfnhffcjhdeleaa
