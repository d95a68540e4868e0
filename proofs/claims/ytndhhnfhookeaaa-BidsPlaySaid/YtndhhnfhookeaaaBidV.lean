import Derived.Test.YtndhhnfhookeaaaBidU
namespace Go.Proofs.Ytndhhnfhookeaaa
open Go.RowKit

def PlayRel (W : World) (g gq base : Nat) (B1 : Option Addr) (d1 : Nat) (B2 : Option Addr) (d2 : Nat) (B3 : Option Addr) (d3 : Nat) (A1 A2 A3 : Option Addr) (n1 n2 n3 cp1 cp2 cp3 : Nat) (cf : Conf) (j : Nat) (wr : World) : Prop :=
  ∃ v vq lst, TwoB wr g gq base B1 d1 B2 d2 B3 d3 A1 A2 A3 n1 n2 n3 cp1 cp2 cp3 cf v vq lst lst ∧ NumsB lst ∧ lst.length ≤ j ∧ Below W.heap.size W wr ∧ base ≤ wr.heap.size
theorem RefV.cell8 {w : World} {gq base : Nat} {A1 A2 A3 : Option Addr} {n1 n2 n3 cp1 cp2 cp3 : Nat} {cf : Conf} {v : Value} {l : List BidV} (h : RefV w gq base A1 n1 cp1 A2 n2 cp2 A3 n3 cp3 cf v l) : w.cell? ⟨gq, 8, none⟩ = some v := by
  have := h.blk.cell 8
  simpa using this
/-- The list of a part. -/
theorem part_of {W : World} {b B : Nat} {t : TypeId} {a0 a1 : Option Addr} {m0 k0 m1 k1 : Nat} {l0 l1 : List BidV} (h : Blk W b t #[.slice a0 m0 k0, .slice a1 m1 k1]) (h0 : Rd W B 5 a0 m0 (l0.flatMap BidV.cells)) (h1 : Rd W B 5 a1 m1 (l1.flatMap BidV.cells)) (hm0 : m0 ≤ 50) (hm1 : m1 ≤ 50) (k : Nat) (hk : k < 2) :
    ∃ (a : Option Addr) (m c : Nat) (l : List BidV), (∀ w', Below W.heap.size W w' → w'.cell? ⟨b, k, none⟩ = some (.slice a m c)) ∧ Rd W B 5 a m (l.flatMap BidV.cells) ∧ m ≤ 50 := by
  rcases (by omega : k = 0 ∨ k = 1) with rfl | rfl
  · exact ⟨a0, m0, k0, l0, fun w' hw => (h.past hw).cell 0, h0, hm0⟩
  · exact ⟨a1, m1, k1, l1, fun w' hw => (h.past hw).cell 1, h1, hm1⟩

set_option maxHeartbeats 8000000 in
set_option maxRecDepth 100000 in
theorem bidsPlay_few (A1 A2 A3 : Option Addr) (n1 n2 n3 cp1 cp2 cp3 : Nat) (cf : Conf) (a0 : Option Addr) (m0 k0 : Nat) (a1 : Option Addr) (m1 k1 : Nat) (l0 l1 : List BidV) (sec : Int) (w : World) (hr : CfRd w A1 n1 A2 n2 A3 n3 cf) (hr0 : Rd w w.heap.size 5 a0 m0 (l0.flatMap BidV.cells)) (hr1 : Rd w w.heap.size 5 a1 m1 (l1.flatMap BidV.cells)) (hf : fewB n1 n2 n3 = true) (hm0 : m0 ≤ 50) (hm1 : m1 ≤ 50) (hc : checkC cf = 0) :
    Calls Try.prog 12 #[.agg #[.slice A1 n1 cp1, .slice A2 n2 cp2, .slice A3 n3 cp3, .int .i64 cf.line, .int .i64 cf.capital, .int .i64 cf.lead, .int .i64 cf.trades, .int .i64 cf.bids], .agg #[.slice a0 m0 k0, .slice a1 m1 k1], .int .i64 sec] w fun e w' => e = .returned (.bool true) ∧ Below w.heap.size w w' := by
  have HK : wrongK cf = 8 := by unfold checkC at hc; split at hc <;> simp_all
  have HHK := Lib.hid HK
  have HCC := Lib.hid hc
  have HF := Lib.hid hf
  clear hc hf HK
  obtain ⟨W, hW⟩ : ∃ W, Hid ((w.alloc (.cells #[.slice A1 n1 cp1, .slice A2 n2 cp2, .slice A3 n3 cp3, .int .i64 cf.line, .int .i64 cf.capital, .int .i64 cf.lead, .int .i64 cf.trades, .int .i64 cf.bids] 51)).alloc (.cells #[.slice a0 m0 k0, .slice a1 m1 k1] 104) = W) := ⟨_, Lib.hid rfl⟩
  have hB0 : Below w.heap.size w W := by rw [← hW.out]; exact ((Below.refl _ _).alloc (Nat.le_refl _) _).alloc (by simp) _
  have hWs : W.heap.size = w.heap.size + 2 := by rw [← hW.out]; simp
  have bc0 : Blk W w.heap.size 51 #[.slice A1 n1 cp1, .slice A2 n2 cp2, .slice A3 n3 cp3, .int .i64 cf.line, .int .i64 cf.capital, .int .i64 cf.lead, .int .i64 cf.trades, .int .i64 cf.bids] := by
    rw [← hW.out]; exact (Blk.new w _ _ _ rfl).alloc _
  have bl0 : Blk W (w.heap.size + 1) 104 #[.slice a0 m0 k0, .slice a1 m1 k1] := by
    rw [← hW.out]; exact Blk.new (w.alloc (.cells #[.slice A1 n1 cp1, .slice A2 n2 cp2, .slice A3 n3 cp3, .int .i64 cf.line, .int .i64 cf.capital, .int .i64 cf.lead, .int .i64 cf.trades, .int .i64 cf.bids] 51)) _ _ _ (by simp)
  have HR0 := Lib.hid (hr.past hB0)
  have HPT := Lib.hid (part_of bl0 (hr0.past hB0) (hr1.past hB0) hm0 hm1)
  have HL := Lib.hid bl0
  have HCB := Lib.hid bc0
  have q0 : ¬ (50 : Int) < (m0 : Int) := by omega
  have q1 : ¬ (50 : Int) < (m1 : Int) := by omega
  have e0 := (bc0).cell 0
  have e1 := (bc0).cell 1
  have e2 := (bc0).cell 2
  have e3 := (bc0).cell 3
  have e4 := (bc0).cell 4
  have e5 := (bc0).cell 5
  have e6 := (bc0).cell 6
  have e7 := (bc0).cell 7
  simp at e0 e1 e2 e3 e4 e5 e6 e7
  clear bc0 bl0 hr hr0 hr1 hm0 hm1
  go_enter Try.func12, Try.ntmps12
  go_upto_region 1 with fail
  rw [hW.out]
  go_wp2_with fail
  refine (few_any A1 A2 A3 n1 n2 n3 cp1 cp2 cp3 cf _).mono ?_
  rw [HF.out]
  rintro e w1 ⟨rfl, hb1⟩
  have hWb : W.heap.size ≤ w1.heap.size := hb1.size
  have bl1 := HL.out.past hb1
  have bc1 := HCB.out.past hb1
  have HN := Lib.hid (newB_yes A1 A2 A3 n1 n2 n3 cp1 cp2 cp3 cf w1 (HR0.out.past hb1) HCC.out)
  have l0 := bl1.cell 0
  have l1 := bl1.cell 1
  simp at l0 l1
  clear e0 e1 e2 e3 e4 e5 e6 e7
  have e0 := (bc1).cell 0
  have e1 := (bc1).cell 1
  have e2 := (bc1).cell 2
  have e3 := (bc1).cell 3
  have e4 := (bc1).cell 4
  have e5 := (bc1).cell 5
  have e6 := (bc1).cell 6
  have e7 := (bc1).cell 7
  simp at e0 e1 e2 e3 e4 e5 e6 e7
  have HD1 := Lib.hid hb1
  clear bc1 bl1 hb1
  go_wp2_with fail
  refine HN.out.mono ?_
  rintro e w3 ⟨g, B1, d1, B2, d2, B3, d3, rfl, hg, hbx, hb3⟩
  have HX3 := Lib.hid hbx
  have HD3 := Lib.hid (Below.next HD1.out hb3)
  have bc3 := HCB.out.past HD3.out
  have HWr := Lib.hid (refWrong_any A1 A2 A3 n1 n2 n3 cp1 cp2 cp3 cf w3 (HR0.out.past HD3.out))
  rw [HHK.out] at HWr
  clear e0 e1 e2 e3 e4 e5 e6 e7 l0 l1 q0 q1
  have e0 := (bc3).cell 0
  have e1 := (bc3).cell 1
  have e2 := (bc3).cell 2
  have e3 := (bc3).cell 3
  have e4 := (bc3).cell 4
  have e5 := (bc3).cell 5
  have e6 := (bc3).cell 6
  have e7 := (bc3).cell 7
  simp at e0 e1 e2 e3 e4 e5 e6 e7
  have hb3s := hb3.size
  clear bc3 hb3 hbx
  go_wp2_with fail
  refine HWr.out.mono ?_
  rintro e w5 ⟨rfl, hb5⟩
  have HX5 := Lib.hid (HX3.out.past hb5)
  have HD5 := Lib.hid (Below.next HD3.out hb5)
  have hb5s := hb5.size
  have hw1 : (word 8).toList = [] := by have h := word_empty 8; simpa using h
  have hw2 : (word 8) = ⟨#[]⟩ := rfl
  clear e0 e1 e2 e3 e4 e5 e6 e7 hb5
  obtain ⟨base, hbase⟩ : ∃ base, Hid (w1.heap.size = base) := ⟨_, Lib.hid rfl⟩
  rw [hbase.out] at HX5 HX3 hg hb3s hWb
  go_wp2_with fail
  go_loopw [11] (fun p wr => ∃ k : Nat, k ≤ 2 ∧ p = .int .i64 k ∧ Hid (BoxV wr g base B1 n1 d1 B2 n2 d2 B3 n3 d3 cf (.slice none 0 0) []) ∧ Hid (Below W.heap.size W wr) ∧ base ≤ wr.heap.size) (fun p _ => 2 - (intOf p).toNat)
  case atStart => exact ⟨0, by omega, rfl, HX5, HD5, by omega⟩
  case round =>
    obtain ⟨k, hk, rfl, HX, HD, hbr⟩ := hrel
    by_cases hlt : k < 2
    · have hlz : (k : Int) < 2 := by omega
      have hk2 : k < 2 := hlt
      obtain ⟨a, m, c, l, hcell, hrl, hm⟩ := HPT.out k hlt
      have HCE := Lib.hid hcell
      have HRL := Lib.hid hrl
      have bcr := HCB.out.past HD.out
      have e0 := (bcr).cell 0
      have e1 := (bcr).cell 1
      have e2 := (bcr).cell 2
      have e3 := (bcr).cell 3
      have e4 := (bcr).cell 4
      have e5 := (bcr).cell 5
      have e6 := (bcr).cell 6
      have e7 := (bcr).cell 7
      simp at e0 e1 e2 e3 e4 e5 e6 e7
      have bq := Blk.new wr 109 #[.slice A1 n1 cp1, .slice A2 n2 cp2, .slice A3 n3 cp3, .int .i64 cf.line, .int .i64 cf.capital, .int .i64 cf.lead, .int .i64 cf.trades, .int .i64 cf.bids, .slice none 0 0] wr.heap.size rfl
      have hbq := (Below.refl wr.heap.size wr).alloc (Nat.le_refl _) (.cells #[.slice A1 n1 cp1, .slice A2 n2 cp2, .slice A3 n3 cp3, .int .i64 cf.line, .int .i64 cf.capital, .int .i64 cf.lead, .int .i64 cf.trades, .int .i64 cf.bids, .slice none 0 0] 109)
      have HT0 : Hid (PlayRel W g wr.heap.size base B1 d1 B2 d2 B3 d3 A1 A2 A3 n1 n2 n3 cp1 cp2 cp3 cf 0 (wr.alloc (.cells #[.slice A1 n1 cp1, .slice A2 n2 cp2, .slice A3 n3 cp3, .int .i64 cf.line, .int .i64 cf.capital, .int .i64 cf.lead, .int .i64 cf.trades, .int .i64 cf.bids, .slice none 0 0] 109))) :=
        Lib.hid ⟨.slice none 0 0, .slice none 0 0, [], ⟨HX.out.past hbq, ⟨⟨none, 0, rfl⟩, bq, World.ownsRow_nil _ _ _ _⟩, fun k e => by simp [Value.ownBlock] at e⟩, numsB_nil, by simp, Below.next HD.out hbq, Nat.le_trans hbr hbq.size⟩
      have hgq : base ≤ wr.heap.size := hbr
      clear hcell hrl bcr bq hbq
      obtain ⟨gq, hgqe⟩ : ∃ gq, Hid (wr.heap.size = gq) := ⟨_, Lib.hid rfl⟩
      go_wp2_with fail
      rw [hgqe.out] at HT0 hgq ⊢
      go_loopw [13] (fun i w2 => ∃ j : Nat, j ≤ m ∧ i = .int .i64 j ∧ Hid (PlayRel W g gq base B1 d1 B2 d2 B3 d3 A1 A2 A3 n1 n2 n3 cp1 cp2 cp3 cf j w2)) (fun i _ => m - (intOf i).toNat)
      case atStart => exact ⟨0, by omega, rfl, HT0⟩
      case round =>
        obtain ⟨j, hj, rfl, HP⟩ := hrel
        obtain ⟨v, vq, lst, ht, hnum, hlen, hd, hbs⟩ := HP.out
        have hcl := HCE.out _ hd
        have HTB := Lib.hid ht
        have HNU := Lib.hid hnum
        have HD2 := Lib.hid hd
        have hds := hd.size
        clear hnum HP e0 e1 e2 e3 e4 e5 e6 e7
        by_cases hjl : j < m
        · have hjz : (j : Int) < (m : Int) := by omega
          have HLn := Lib.hid (HRL.out.len BidV.cells_len (by omega))
          obtain ⟨f, hgf⟩ : ∃ f, l[j]? = some f := ⟨_, List.getElem?_eq_getElem (by have := HLn.out; omega)⟩
          obtain ⟨b1, o1, rfl, hb1, hc1⟩ := (HRL.out.below hd).elem BidV.cells_len hgf hjl
          have HGF := Lib.hid hgf
          have c0 := hc1 0 _ rfl
          have c1 := hc1 1 _ rfl
          have c2 := hc1 2 _ rfl
          have c3 := hc1 3 _ rfl
          have c4 := hc1 4 _ rfl
          simp only [Nat.add_zero] at c0
          have HA := Lib.hid (addX_any g base B1 n1 d1 B2 n2 d2 B3 n3 d3 cf v lst f _ ht.x (by omega) hbs)
          obtain ⟨na, ea, hN⟩ : ∃ na ea, Hid (addN cf n1 n2 lst f = (na, ea)) := ⟨_, _, Lib.hid rfl⟩
          obtain ⟨lst', hL'⟩ : ∃ lst', Hid (addL cf n1 n2 lst f = lst') := ⟨_, Lib.hid rfl⟩
          have hll := addL_len cf n1 n2 lst f
          unfold AddXPost at HA
          rw [hN.out, hL'.out] at HA
          rw [hL'.out] at hll
          dsimp only at HA
          clear hgf hc1 ht hd hb1
          go_wp2_with fail
          refine HA.out.mono ?_
          rintro e w4 ⟨rfl, v', hx', ho, hdv⟩
          have ht4 := HTB.out.addX hx' ho hdv
          have hd4 := Below.trans HD2.out (HTB.out.frameX ho (by omega) hWb (by omega))
          have hcl4 := HCE.out _ hd4
          obtain ⟨b2, o2, hA2, hb2, hc2⟩ := (HRL.out.below hd4).elem BidV.cells_len HGF.out hjl
          cases hA2
          have hs4 := ho.size
          have HQ := Lib.hid (addQ_any gq base A1 n1 cp1 A2 n2 cp2 A3 n3 cp3 cf vq lst f _ ht4.q (HR0.out.past hd4) (by omega) (by omega))
          unfold AddQPost at HQ
          rw [hN.out, hL'.out] at HQ
          dsimp only at HQ
          clear c0 c1 c2 c3 c4 hcl
          have c0 := hc2 0 _ rfl
          have c1 := hc2 1 _ rfl
          have c2 := hc2 2 _ rfl
          have c3 := hc2 3 _ rfl
          have c4 := hc2 4 _ rfl
          simp only [Nat.add_zero] at c0
          have HT4 := Lib.hid ht4
          have HD4 := Lib.hid hd4
          clear hc2 hx' ho hdv ht4 hd4 hb2 HA
          go_wp2_with fail
          refine HQ.out.mono ?_
          rintro e w5 ⟨rfl, vq', hq', hoq, hdq⟩
          have HT5 := Lib.hid (HT4.out.addQ hq' hoq hdq)
          have HD6 := Lib.hid (Below.trans HD4.out (HT4.out.frameQ hoq (by omega) hWb (by omega)))
          have hs5 := hoq.size
          have HN5 := Lib.hid (addL_nums (cf := cf) (n1 := n1) (n2 := n2) (b := f) HNU.out)
          rw [hL'.out] at HN5
          clear hq' hoq hdq HQ c0 c1 c2 c3 c4 hcl4
          go_wp2_with fail
          go_roundw
          case rel => exact ⟨j + 1, by omega, by go_num, Lib.hid ⟨v', vq', lst', HT5.out, HN5.out, by omega, HD6.out, by omega⟩⟩
          case measure => simp [intOf]; omega
        · have hjz : ¬ (j : Int) < (m : Int) := by omega
          have HCp := Lib.hid (copyB_any g base B1 n1 d1 B2 n2 d2 B3 n3 d3 cf v lst _ ht.x (by omega) hbs)
          go_wp2_with fail
          clear hcl
          refine HCp.out.mono ?_
          rintro e w6 ⟨gy, vy, rfl, hgy, hby, hvy, hb6⟩
          have hl50 : lst.length ≤ 1000 := by omega
          have hgy2 : gy ≠ g := fun e => by have := ht.x.blk.lt; omega
          have hT6 := ht.past hb6
          have hD6 := Below.past hd hb6 hds
          have hs6 := hb6.size
          clear HCp HTB HD2 hb6 hvy ht hd
          obtain ⟨Aq, cq, rfl⟩ := hT6.q.form
          obtain ⟨n, hn⟩ : ∃ n, Hid (lst.length = n) := ⟨_, Lib.hid rfl⟩
          rw [hn.out] at hT6 hl50
          have HL5 : Hid (lst.length ≤ 1000) := Lib.hid (by rw [hn.out]; exact hl50)
          have HY6 := Lib.hid hby
          have HT6 := Lib.hid hT6
          have HD6 := Lib.hid hD6
          have hD6s := hD6.size
          have hT6s : g < w6.heap.size := hT6.x.blk.lt
          clear hby hT6 hD6
          go_upto_region 21 with fail
          have hdr := Below.drew (Below.refl w6.heap.size w6)
          refine wp_region_held_drew (S := fun w' => w'.cell? ⟨gq, 8, none⟩ = some (.slice Aq n cq)) (by kernel_rfl) (HT6.out.past hdr).q.cell8 (fun hHeld => ?_)
          refine wpAnyH_take (i := 0) (v := ?_) rfl (by kernel_rfl) (by kernel_rfl) (by kernel_rfl) (fun _ _ _ h => h) (Or.inl ⟨by rfl, ?_⟩) (by assumption) ?_
          rotate_left
          · (intro w' hSw; (try dsimp only at hSw); first | (go_simp; done) | (go_simp; with_reducible rfl))
          try simp only [Act.put, List.getElem_toArray, List.getElem_cons_zero, List.getElem_cons_succ, List.setIfInBounds_toArray, List.set_cons_zero, List.set_cons_succ]
          refine wpAnyH_take (i := 2) (v := ?_) rfl (by kernel_rfl) (by kernel_rfl) (by kernel_rfl) (fun _ _ _ h => h) (Or.inl ⟨by rfl, ?_⟩) (by assumption) ?_
          rotate_left
          · (intro w' hSw; (try dsimp only at hSw); first | (go_simp; done) | (go_simp; with_reducible rfl))
          try simp only [Act.put, List.getElem_toArray, List.getElem_cons_zero, List.getElem_cons_succ, List.setIfInBounds_toArray, List.set_cons_zero, List.set_cons_succ]
          refine wpAnyH_take (i := 3) (v := ?_) rfl (by kernel_rfl) (by kernel_rfl) (by kernel_rfl) (fun _ _ _ h => h) (Or.inl ⟨by rfl, ?_⟩) (by assumption) ?_
          rotate_left
          · (intro w' hSw; (try dsimp only at hSw); first | (go_simp; done) | (go_simp; with_reducible rfl))
          try simp only [Act.put, List.getElem_toArray, List.getElem_cons_zero, List.getElem_cons_succ, List.setIfInBounds_toArray, List.set_cons_zero, List.set_cons_succ]
          refine wpAnyH_take (i := 4) (v := ?_) rfl (by kernel_rfl) (by kernel_rfl) (by kernel_rfl) (fun _ _ _ h => h) (Or.inl ⟨by rfl, ?_⟩) (by assumption) ?_
          rotate_left
          · (intro w' hSw; (try dsimp only at hSw); first | (go_simp; done) | (go_simp; with_reducible rfl))
          try simp only [Act.put, List.getElem_toArray, List.getElem_cons_zero, List.getElem_cons_succ, List.setIfInBounds_toArray, List.set_cons_zero, List.set_cons_succ]
          refine wpAnyH_take (i := 5) (v := ?_) rfl (by kernel_rfl) (by kernel_rfl) (by kernel_rfl) (fun _ _ _ h => h) (Or.inl ⟨by rfl, ?_⟩) (by assumption) ?_
          rotate_left
          · (intro w' hSw; (try dsimp only at hSw); first | (go_simp; done) | (go_simp; with_reducible rfl))
          try simp only [Act.put, List.getElem_toArray, List.getElem_cons_zero, List.getElem_cons_succ, List.setIfInBounds_toArray, List.set_cons_zero, List.set_cons_succ]
          refine wpAnyH_ready (rs := [1]) (by kernel_rfl) (by simp) ?_
          refine AllReadyH.cons rfl (fun K hK => ?_) AllReadyH.nil
          go_simp
          go_at_call 53
          have HA7 := Lib.hid (allB_any g base B1 n1 d1 B2 n2 d2 B3 n3 d3 cf v lst _ (HT6.out.past hdr).x HL5.out)
          rw [hn.out] at HA7
          refine HA7.out.mono ?_
          rintro e w7 ⟨va7, rfl, hva7, hb7'⟩
          have hb7 : Below w6.heap.size w6 w7 := undrew hb7'
          obtain ⟨A7, c7, rfl⟩ := own_form hva7
          have HT7 := Lib.hid (HT6.out.past hb7)
          have HY7 := Lib.hid (HY6.out.past hb7)
          have HD7 := Lib.hid (Below.past HD6.out hb7 hD6s)
          have hs7 := hb7.size
          have HS8 := Lib.hid (refSameB_yes A7 n c7 Aq cq lst w7 (Rd.of_own hva7) (Rd.of_own (by have := HT7.out.q.row; rw [hn.out] at this; exact this)) (by omega))
          clear hb7' hb7 hva7 HA7 hHeld
          refine hK.out _ _ (HT7.out.q.cell8) (fun hHeld => ?_)
          try simp only [Act.put, List.getElem_toArray, List.getElem_cons_zero, List.getElem_cons_succ, List.setIfInBounds_toArray, List.set_cons_zero, List.set_cons_succ]
          refine wpAnyH_ready (rs := [6]) (by kernel_rfl) (by simp) ?_
          refine AllReadyH.cons rfl (fun K hK => ?_) AllReadyH.nil
          go_simp
          go_at_call 57
          refine HS8.out.mono ?_
          rintro e w8 ⟨rfl, hb8⟩
          have HT8 := Lib.hid (HT7.out.past hb8)
          have HY8 := Lib.hid (HY7.out.past hb8)
          have HD8 := Lib.hid (Below.past HD7.out hb8 (by omega))
          have hs8 := hb8.size
          clear hb8 HS8 hHeld
          refine hK.out _ _ (HT8.out.q.cell8) (fun hHeld => ?_)
          try simp only [Act.put, List.getElem_toArray, List.getElem_cons_zero, List.getElem_cons_succ, List.setIfInBounds_toArray, List.set_cons_zero, List.set_cons_succ]
          refine wpAnyH_take (i := 7) (v := ?_) rfl (by kernel_rfl) (by kernel_rfl) (by kernel_rfl) (fun _ _ _ h => h) (Or.inl ⟨by rfl, ?_⟩) (by assumption) ?_
          rotate_left
          · (intro w' hSw; (try dsimp only at hSw); first | (go_simp; done) | (go_simp; with_reducible rfl))
          try simp only [Act.put, List.getElem_toArray, List.getElem_cons_zero, List.getElem_cons_succ, List.setIfInBounds_toArray, List.set_cons_zero, List.set_cons_succ]
          refine wpAnyH_take (i := 8) (v := ?_) rfl (by kernel_rfl) (by kernel_rfl) (by kernel_rfl) (fun _ _ _ h => h) (Or.inl ⟨by rfl, ?_⟩) (by assumption) ?_
          rotate_left
          · (intro w' hSw; (try dsimp only at hSw); first | (go_simp; done) | (go_simp; with_reducible rfl))
          try simp only [Act.put, List.getElem_toArray, List.getElem_cons_zero, List.getElem_cons_succ, List.setIfInBounds_toArray, List.set_cons_zero, List.set_cons_succ]
          refine wpAnyH_take (i := 9) (v := ?_) rfl (by kernel_rfl) (by kernel_rfl) (by kernel_rfl) (fun _ _ _ h => h) (Or.inl ⟨by rfl, ?_⟩) (by assumption) ?_
          rotate_left
          · (intro w' hSw; (try dsimp only at hSw); first | (go_simp; done) | (go_simp; with_reducible rfl))
          try simp only [Act.put, List.getElem_toArray, List.getElem_cons_zero, List.getElem_cons_succ, List.setIfInBounds_toArray, List.set_cons_zero, List.set_cons_succ]
          refine wpAnyH_take (i := 10) (v := ?_) rfl (by kernel_rfl) (by kernel_rfl) (by kernel_rfl) (fun _ _ _ h => h) (Or.inl ⟨by rfl, ?_⟩) (by assumption) ?_
          rotate_left
          · (intro w' hSw; (try dsimp only at hSw); first | (go_simp; done) | (go_simp; with_reducible rfl))
          try simp only [Act.put, List.getElem_toArray, List.getElem_cons_zero, List.getElem_cons_succ, List.setIfInBounds_toArray, List.set_cons_zero, List.set_cons_succ]
          refine wpAnyH_take (i := 12) (v := ?_) rfl (by kernel_rfl) (by kernel_rfl) (by kernel_rfl) (fun _ _ _ h => h) (Or.inl ⟨by rfl, ?_⟩) (by assumption) ?_
          rotate_left
          · (intro w' hSw; (try dsimp only at hSw); first | (go_simp; done) | (go_simp; with_reducible rfl))
          try simp only [Act.put, List.getElem_toArray, List.getElem_cons_zero, List.getElem_cons_succ, List.setIfInBounds_toArray, List.set_cons_zero, List.set_cons_succ]
          refine wpAnyH_take (i := 13) (v := ?_) rfl (by kernel_rfl) (by kernel_rfl) (by kernel_rfl) (fun _ _ _ h => h) (Or.inl ⟨by rfl, ?_⟩) (by assumption) ?_
          rotate_left
          · (intro w' hSw; (try dsimp only at hSw); first | (go_simp; done) | (go_simp; with_reducible rfl))
          try simp only [Act.put, List.getElem_toArray, List.getElem_cons_zero, List.getElem_cons_succ, List.setIfInBounds_toArray, List.set_cons_zero, List.set_cons_succ]
          refine wpAnyH_ready (rs := [11]) (by kernel_rfl) (by simp) ?_
          refine AllReadyH.cons rfl (fun K hK => ?_) AllReadyH.nil
          go_simp
          go_at_call 49
          have HA9 := Lib.hid (secB_any g base B1 n1 d1 B2 n2 d2 B3 n3 d3 cf v lst sec _ HT8.out.x HL5.out)
          obtain ⟨ms, hms⟩ : ∃ n, Hid ((lst.filter (secF sec)).length = n) := ⟨_, Lib.hid rfl⟩
          have hmsl : (lst.filter (secF sec)).length ≤ lst.length := List.length_filter_le _ _
          rw [hms.out, hn.out] at hmsl
          rw [hms.out] at HA9
          refine HA9.out.mono ?_
          rintro e w9 ⟨va9, rfl, hva9, hb9⟩
          obtain ⟨A9, c9, rfl⟩ := own_form hva9
          have HT9 := Lib.hid (HT8.out.past hb9)
          have HY9 := Lib.hid (HY8.out.past hb9)
          have HD9 := Lib.hid (Below.past HD8.out hb9 (by omega))
          have hs9 := hb9.size
          have HR9 := Lib.hid (Rd.of_own hva9)
          clear hb9 hva9 HA9 hHeld
          refine hK.out _ _ (HT9.out.q.cell8) (fun hHeld => ?_)
          try simp only [Act.put, List.getElem_toArray, List.getElem_cons_zero, List.getElem_cons_succ, List.setIfInBounds_toArray, List.set_cons_zero, List.set_cons_succ]
          refine wpAnyH_ready (rs := [14]) (by kernel_rfl) (by simp) ?_
          refine AllReadyH.cons rfl (fun K hK => ?_) AllReadyH.nil
          go_simp
          go_at_call 58
          have HA10 := Lib.hid (refSecB_any gq base A1 n1 cp1 A2 n2 cp2 A3 n3 cp3 cf _ lst sec _ HT9.out.q HL5.out (numsB_rise HNU.out))
          rw [hms.out] at HA10
          refine HA10.out.mono ?_
          rintro e w10 ⟨va10, rfl, hva10, hb10⟩
          obtain ⟨A10, c10, rfl⟩ := own_form hva10
          have HT10 := Lib.hid (HT9.out.past hb10)
          have HY10 := Lib.hid (HY9.out.past hb10)
          have HD10 := Lib.hid (Below.past HD9.out hb10 (by omega))
          have hs10 := hb10.size
          have HS11 := Lib.hid (refSameB_yes A9 ms c9 A10 c10 _ w10 (HR9.out.past hb10) (Rd.of_own hva10) (by omega))
          clear hb10 hva10 HA10 hHeld
          refine hK.out _ _ (HT10.out.q.cell8) (fun hHeld => ?_)
          try simp only [Act.put, List.getElem_toArray, List.getElem_cons_zero, List.getElem_cons_succ, List.setIfInBounds_toArray, List.set_cons_zero, List.set_cons_succ]
          refine wpAnyH_ready (rs := [15]) (by kernel_rfl) (by simp) ?_
          refine AllReadyH.cons rfl (fun K hK => ?_) AllReadyH.nil
          go_simp
          go_at_call 57
          refine HS11.out.mono ?_
          rintro e w11 ⟨rfl, hb11⟩
          have HT11 := Lib.hid (HT10.out.past hb11)
          have HY11 := Lib.hid (HY10.out.past hb11)
          have HD11 := Lib.hid (Below.past HD10.out hb11 (by omega))
          have hs11 := hb11.size
          clear hb11 HS11 hHeld
          refine hK.out _ _ (HT11.out.q.cell8) (fun hHeld => ?_)
          try simp only [Act.put, List.getElem_toArray, List.getElem_cons_zero, List.getElem_cons_succ, List.setIfInBounds_toArray, List.set_cons_zero, List.set_cons_succ]
          refine wpAnyH_take (i := 16) (v := ?_) rfl (by kernel_rfl) (by kernel_rfl) (by kernel_rfl) (fun _ _ _ h => h) (Or.inl ⟨by rfl, ?_⟩) (by assumption) ?_
          rotate_left
          · (intro w' hSw; (try dsimp only at hSw); first | (go_simp; done) | (go_simp; with_reducible rfl))
          try simp only [Act.put, List.getElem_toArray, List.getElem_cons_zero, List.getElem_cons_succ, List.setIfInBounds_toArray, List.set_cons_zero, List.set_cons_succ]
          refine wpAnyH_take (i := 17) (v := ?_) rfl (by kernel_rfl) (by kernel_rfl) (by kernel_rfl) (fun _ _ _ h => h) (Or.inl ⟨by rfl, ?_⟩) (by assumption) ?_
          rotate_left
          · (intro w' hSw; (try dsimp only at hSw); first | (go_simp; done) | (go_simp; with_reducible rfl))
          try simp only [Act.put, List.getElem_toArray, List.getElem_cons_zero, List.getElem_cons_succ, List.setIfInBounds_toArray, List.set_cons_zero, List.set_cons_succ]
          refine wpAnyH_take (i := 18) (v := ?_) rfl (by kernel_rfl) (by kernel_rfl) (by kernel_rfl) (fun _ _ _ h => h) (Or.inl ⟨by rfl, ?_⟩) (by assumption) ?_
          rotate_left
          · (intro w' hSw; (try dsimp only at hSw); first | (go_simp; done) | (go_simp; with_reducible rfl))
          try simp only [Act.put, List.getElem_toArray, List.getElem_cons_zero, List.getElem_cons_succ, List.setIfInBounds_toArray, List.set_cons_zero, List.set_cons_succ]
          refine wpAnyH_take (i := 19) (v := ?_) rfl (by kernel_rfl) (by kernel_rfl) (by kernel_rfl) (fun _ _ _ h => h) (Or.inl ⟨by rfl, ?_⟩) (by assumption) ?_
          rotate_left
          · (intro w' hSw; (try dsimp only at hSw); first | (go_simp; done) | (go_simp; with_reducible rfl))
          try simp only [Act.put, List.getElem_toArray, List.getElem_cons_zero, List.getElem_cons_succ, List.setIfInBounds_toArray, List.set_cons_zero, List.set_cons_succ]
          refine wpAnyH_take (i := 21) (v := ?_) rfl (by kernel_rfl) (by kernel_rfl) (by kernel_rfl) (fun _ _ _ h => h) (Or.inl ⟨by rfl, ?_⟩) (by assumption) ?_
          rotate_left
          · (intro w' hSw; (try dsimp only at hSw); first | (go_simp; done) | (go_simp; with_reducible rfl))
          try simp only [Act.put, List.getElem_toArray, List.getElem_cons_zero, List.getElem_cons_succ, List.setIfInBounds_toArray, List.set_cons_zero, List.set_cons_succ]
          refine wpAnyH_take (i := 22) (v := ?_) rfl (by kernel_rfl) (by kernel_rfl) (by kernel_rfl) (fun _ _ _ h => h) (Or.inl ⟨by rfl, ?_⟩) (by assumption) ?_
          rotate_left
          · (intro w' hSw; (try dsimp only at hSw); first | (go_simp; done) | (go_simp; with_reducible rfl))
          try simp only [Act.put, List.getElem_toArray, List.getElem_cons_zero, List.getElem_cons_succ, List.setIfInBounds_toArray, List.set_cons_zero, List.set_cons_succ]
          refine wpAnyH_take (i := 23) (v := ?_) rfl (by kernel_rfl) (by kernel_rfl) (by kernel_rfl) (fun _ _ _ h => h) (Or.inl ⟨by rfl, ?_⟩) (by assumption) ?_
          rotate_left
          · (intro w' hSw; (try dsimp only at hSw); first | (go_simp; done) | (go_simp; with_reducible rfl))
          try simp only [Act.put, List.getElem_toArray, List.getElem_cons_zero, List.getElem_cons_succ, List.setIfInBounds_toArray, List.set_cons_zero, List.set_cons_succ]
          refine wpAnyH_take (i := 24) (v := ?_) rfl (by kernel_rfl) (by kernel_rfl) (by kernel_rfl) (fun _ _ _ h => h) (Or.inl ⟨by rfl, ?_⟩) (by assumption) ?_
          rotate_left
          · (intro w' hSw; (try dsimp only at hSw); first | (go_simp; done) | (go_simp; with_reducible rfl))
          try simp only [Act.put, List.getElem_toArray, List.getElem_cons_zero, List.getElem_cons_succ, List.setIfInBounds_toArray, List.set_cons_zero, List.set_cons_succ]
          refine wpAnyH_take (i := 25) (v := ?_) rfl (by kernel_rfl) (by kernel_rfl) (by kernel_rfl) (fun _ _ _ h => h) (Or.inl ⟨by rfl, ?_⟩) (by assumption) ?_
          rotate_left
          · (intro w' hSw; (try dsimp only at hSw); first | (go_simp; done) | (go_simp; with_reducible rfl))
          try simp only [Act.put, List.getElem_toArray, List.getElem_cons_zero, List.getElem_cons_succ, List.setIfInBounds_toArray, List.set_cons_zero, List.set_cons_succ]
          refine wpAnyH_ready (rs := [20]) (by kernel_rfl) (by simp) ?_
          refine AllReadyH.cons rfl (fun K hK => ?_) AllReadyH.nil
          go_simp
          go_at_call 54
          have HA12 := Lib.hid (clearB_any g base B1 n1 d1 B2 n2 d2 B3 n3 d3 cf v lst _ HT11.out.x)
          rw [hn.out] at HA12
          refine HA12.out.mono ?_
          rintro e w12 ⟨rfl, hx12, ho12⟩
          have HX12 := Lib.hid hx12
          have HQ12 := Lib.hid (HT11.out.q.only ho12 HT11.out.x.blk (World.ownsRow_nil _ base _ _) (fun k e => by simp [Value.ownBlock] at e))
          have HY12 := Lib.hid (HY11.out.only ho12 HT11.out.x.blk (.inl rfl) (World.ownsRow_nil _ base _ _) hgy2 (fun k e => by simp [Value.ownBlock] at e))
          have HD12 := Lib.hid (Below.trans HD11.out (ho12.frame (by omega) (by omega) (fun k e => by simp [Value.ownBlock] at e)))
          have hs12 := ho12.size
          clear hx12 ho12 HA12 hHeld HT11 HY11
          refine hK.out _ _ (HQ12.out.cell8) (fun hHeld => ?_)
          try simp only [Act.put, List.getElem_toArray, List.getElem_cons_zero, List.getElem_cons_succ, List.setIfInBounds_toArray, List.set_cons_zero, List.set_cons_succ]
          refine wpAnyH_take (i := 26) (v := ?_) rfl (by kernel_rfl) (by kernel_rfl) (by kernel_rfl) (fun _ _ _ h => h) (Or.inl ⟨by rfl, ?_⟩) (by assumption) ?_
          rotate_left
          · (intro w' hSw; (try dsimp only at hSw); first | (go_simp; done) | (go_simp; with_reducible rfl))
          try simp only [Act.put, List.getElem_toArray, List.getElem_cons_zero, List.getElem_cons_succ, List.setIfInBounds_toArray, List.set_cons_zero, List.set_cons_succ]
          refine wpAnyH_take (i := 27) (v := ?_) rfl (by kernel_rfl) (by kernel_rfl) (by kernel_rfl) (fun _ _ _ h => h) (Or.inl ⟨by rfl, ?_⟩) (by assumption) ?_
          rotate_left
          · (intro w' hSw; (try dsimp only at hSw); first | (go_simp; done) | (go_simp; with_reducible rfl))
          try simp only [Act.put, List.getElem_toArray, List.getElem_cons_zero, List.getElem_cons_succ, List.setIfInBounds_toArray, List.set_cons_zero, List.set_cons_succ]
          refine wpAnyH_take (i := 28) (v := ?_) rfl (by kernel_rfl) (by kernel_rfl) (by kernel_rfl) (fun _ _ _ h => h) (Or.inl ⟨by rfl, ?_⟩) (by assumption) ?_
          rotate_left
          · (intro w' hSw; (try dsimp only at hSw); first | (go_simp; done) | (go_simp; with_reducible rfl))
          try simp only [Act.put, List.getElem_toArray, List.getElem_cons_zero, List.getElem_cons_succ, List.setIfInBounds_toArray, List.set_cons_zero, List.set_cons_succ]
          refine wpAnyH_take (i := 29) (v := ?_) rfl (by kernel_rfl) (by kernel_rfl) (by kernel_rfl) (fun _ _ _ h => h) (Or.inl ⟨by rfl, ?_⟩) (by assumption) ?_
          rotate_left
          · (intro w' hSw; (try dsimp only at hSw); first | (go_simp; done) | (go_simp; with_reducible rfl))
          try simp only [Act.put, List.getElem_toArray, List.getElem_cons_zero, List.getElem_cons_succ, List.setIfInBounds_toArray, List.set_cons_zero, List.set_cons_succ]
          refine wpAnyH_take (i := 31) (v := ?_) rfl (by kernel_rfl) (by kernel_rfl) (by kernel_rfl) (fun _ _ _ h => h) (Or.inl ⟨by rfl, ?_⟩) (by assumption) ?_
          rotate_left
          · (intro w' hSw; (try dsimp only at hSw); first | (go_simp; done) | (go_simp; with_reducible rfl))
          try simp only [Act.put, List.getElem_toArray, List.getElem_cons_zero, List.getElem_cons_succ, List.setIfInBounds_toArray, List.set_cons_zero, List.set_cons_succ]
          refine wpAnyH_take (i := 32) (v := ?_) rfl (by kernel_rfl) (by kernel_rfl) (by kernel_rfl) (fun _ _ _ h => h) (Or.inl ⟨by rfl, ?_⟩) (by assumption) ?_
          rotate_left
          · (intro w' hSw; (try dsimp only at hSw); first | (go_simp; done) | (go_simp; with_reducible rfl))
          try simp only [Act.put, List.getElem_toArray, List.getElem_cons_zero, List.getElem_cons_succ, List.setIfInBounds_toArray, List.set_cons_zero, List.set_cons_succ]
          refine wpAnyH_take (i := 33) (v := ?_) rfl (by kernel_rfl) (by kernel_rfl) (by kernel_rfl) (fun _ _ _ h => h) (Or.inl ⟨by rfl, ?_⟩) (by assumption) ?_
          rotate_left
          · (intro w' hSw; (try dsimp only at hSw); first | (go_simp; done) | (go_simp; with_reducible rfl))
          try simp only [Act.put, List.getElem_toArray, List.getElem_cons_zero, List.getElem_cons_succ, List.setIfInBounds_toArray, List.set_cons_zero, List.set_cons_succ]
          refine wpAnyH_take (i := 34) (v := ?_) rfl (by kernel_rfl) (by kernel_rfl) (by kernel_rfl) (fun _ _ _ h => h) (Or.inl ⟨by rfl, ?_⟩) (by assumption) ?_
          rotate_left
          · (intro w' hSw; (try dsimp only at hSw); first | (go_simp; done) | (go_simp; with_reducible rfl))
          try simp only [Act.put, List.getElem_toArray, List.getElem_cons_zero, List.getElem_cons_succ, List.setIfInBounds_toArray, List.set_cons_zero, List.set_cons_succ]
          refine wpAnyH_ready (rs := [30]) (by kernel_rfl) (by simp) ?_
          refine AllReadyH.cons rfl (fun K hK => ?_) AllReadyH.nil
          go_simp
          go_at_call 53
          have HA13 := Lib.hid (allB_any gy base B1 n1 d1 B2 n2 d2 B3 n3 d3 cf vy lst _ HY12.out HL5.out)
          rw [hn.out] at HA13
          refine HA13.out.mono ?_
          rintro e w13 ⟨va13, rfl, hva13, hb13⟩
          obtain ⟨A13, c13, rfl⟩ := own_form hva13
          have HQ13 := Lib.hid (HQ12.out.past hb13)
          have HX13 := Lib.hid (HX12.out.past hb13)
          have HD13 := Lib.hid (Below.past HD12.out hb13 (by omega))
          have hs13 := hb13.size
          have HS14 := Lib.hid (refSameB_yes A13 n c13 Aq cq lst w13 (Rd.of_own hva13) (Rd.of_own (by have := HQ13.out.row; rw [hn.out] at this; exact this)) (by omega))
          clear hb13 hva13 HA13 hHeld
          refine hK.out _ _ (HQ13.out.cell8) (fun hHeld => ?_)
          try simp only [Act.put, List.getElem_toArray, List.getElem_cons_zero, List.getElem_cons_succ, List.setIfInBounds_toArray, List.set_cons_zero, List.set_cons_succ]
          refine wpAnyH_ready (rs := [35]) (by kernel_rfl) (by simp) ?_
          refine AllReadyH.cons rfl (fun K hK => ?_) AllReadyH.nil
          go_simp
          go_at_call 57
          refine HS14.out.mono ?_
          rintro e w14 ⟨rfl, hb14⟩
          have HQ14 := Lib.hid (HQ13.out.past hb14)
          have HX14 := Lib.hid (HX13.out.past hb14)
          have HD14 := Lib.hid (Below.past HD13.out hb14 (by omega))
          have hs14 := hb14.size
          clear hb14 HS14 hHeld
          refine hK.out _ _ (HQ14.out.cell8) (fun hHeld => ?_)
          try simp only [Act.put, List.getElem_toArray, List.getElem_cons_zero, List.getElem_cons_succ, List.setIfInBounds_toArray, List.set_cons_zero, List.set_cons_succ]
          refine wpAnyH_take (i := 36) (v := ?_) rfl (by kernel_rfl) (by kernel_rfl) (by kernel_rfl) (fun _ _ _ h => h) (Or.inl ⟨by rfl, ?_⟩) (by assumption) ?_
          rotate_left
          · (intro w' hSw; (try dsimp only at hSw); first | (go_simp; done) | (go_simp; with_reducible rfl))
          try simp only [Act.put, List.getElem_toArray, List.getElem_cons_zero, List.getElem_cons_succ, List.setIfInBounds_toArray, List.set_cons_zero, List.set_cons_succ]
          refine wpAnyH_take (i := 37) (v := ?_) rfl (by kernel_rfl) (by kernel_rfl) (by kernel_rfl) (fun _ _ _ h => h) (Or.inl ⟨by rfl, ?_⟩) (by assumption) ?_
          rotate_left
          · (intro w' hSw; (try dsimp only at hSw); first | (go_simp; done) | (go_simp; with_reducible rfl))
          try simp only [Act.put, List.getElem_toArray, List.getElem_cons_zero, List.getElem_cons_succ, List.setIfInBounds_toArray, List.set_cons_zero, List.set_cons_succ]
          refine wpAnyH_take (i := 38) (v := ?_) rfl (by kernel_rfl) (by kernel_rfl) (by kernel_rfl) (fun _ _ _ h => h) (Or.inl ⟨by rfl, ?_⟩) (by assumption) ?_
          rotate_left
          · (intro w' hSw; (try dsimp only at hSw); first | (go_simp; done) | (go_simp; with_reducible rfl))
          try simp only [Act.put, List.getElem_toArray, List.getElem_cons_zero, List.getElem_cons_succ, List.setIfInBounds_toArray, List.set_cons_zero, List.set_cons_succ]
          refine wpAnyH_take (i := 39) (v := ?_) rfl (by kernel_rfl) (by kernel_rfl) (by kernel_rfl) (fun _ _ _ h => h) (Or.inl ⟨by rfl, ?_⟩) (by assumption) ?_
          rotate_left
          · (intro w' hSw; (try dsimp only at hSw); first | (go_simp; done) | (go_simp; with_reducible rfl))
          try simp only [Act.put, List.getElem_toArray, List.getElem_cons_zero, List.getElem_cons_succ, List.setIfInBounds_toArray, List.set_cons_zero, List.set_cons_succ]
          refine wpAnyH_ready (rs := [40]) (by kernel_rfl) (by simp) ?_
          refine AllReadyH.cons rfl (fun K hK => ?_) AllReadyH.nil
          go_simp
          go_at_call 53
          have HA15 := Lib.hid (allB_any g base B1 n1 d1 B2 n2 d2 B3 n3 d3 cf _ [] _ HX14.out (by simp))
          refine HA15.out.mono ?_
          rintro e w15 ⟨va15, rfl, hva15, hb15⟩
          obtain ⟨A15, c15, rfl⟩ := own_form hva15
          have HQ15 := Lib.hid (HQ14.out.past hb15)
          have HX15 := Lib.hid (HX14.out.past hb15)
          have HD15 := Lib.hid (Below.past HD14.out hb15 (by omega))
          have hs15 := hb15.size
          clear hb15 hva15 HA15 hHeld
          refine hK.out _ _ (HQ15.out.cell8) (fun hHeld => ?_)
          try simp only [Act.put, List.getElem_toArray, List.getElem_cons_zero, List.getElem_cons_succ, List.setIfInBounds_toArray, List.set_cons_zero, List.set_cons_succ]
          refine wpAnyH_take (i := 41) (v := ?_) rfl (by kernel_rfl) (by kernel_rfl) (by kernel_rfl) (fun _ _ _ h => h) (Or.inl ⟨by rfl, ?_⟩) (by assumption) ?_
          rotate_left
          · (intro w' hSw; (try dsimp only at hSw); first | (go_simp; done) | (go_simp; with_reducible rfl))
          try simp only [Act.put, List.getElem_toArray, List.getElem_cons_zero, List.getElem_cons_succ, List.setIfInBounds_toArray, List.set_cons_zero, List.set_cons_succ]
          refine wpAnyH_take (i := 42) (v := ?_) rfl (by kernel_rfl) (by kernel_rfl) (by kernel_rfl) (fun _ _ _ h => h) (Or.inl ⟨by rfl, ?_⟩) (by assumption) ?_
          rotate_left
          · (intro w' hSw; (try dsimp only at hSw); first | (go_simp; done) | (go_simp; with_reducible rfl))
          try simp only [Act.put, List.getElem_toArray, List.getElem_cons_zero, List.getElem_cons_succ, List.setIfInBounds_toArray, List.set_cons_zero, List.set_cons_succ]
          refine wpAnyH_take (i := 43) (v := ?_) rfl (by kernel_rfl) (by kernel_rfl) (by kernel_rfl) (fun _ _ _ h => h) (Or.inl ⟨by rfl, ?_⟩) (by assumption) ?_
          rotate_left
          · (intro w' hSw; (try dsimp only at hSw); first | (go_simp; done) | (go_simp; with_reducible rfl))
          try simp only [Act.put, List.getElem_toArray, List.getElem_cons_zero, List.getElem_cons_succ, List.setIfInBounds_toArray, List.set_cons_zero, List.set_cons_succ]
          refine wpAnyH_done (by kernel_rfl) ?_ _
          clear hHeld
          go_wp2_with fail
          go_roundw
          case rel => exact ⟨k + 1, by omega, by go_num, HX15, HD15, by omega⟩
          case measure => simp [intOf]; omega
    · have hlz : ¬ (k : Int) < 2 := by omega
      go_wp2_with fail
      refine (awake24 _).mono ?_
      rintro e w9 ⟨rfl, hb9⟩
      have hD9 := Below.next HD.out hb9
      go_wp2_with fail
      go_ret
      exact ⟨rfl, Below.next' hB0 hD9 (Nat.le_refl _)⟩
end Go.Proofs.Ytndhhnfhookeaaa
