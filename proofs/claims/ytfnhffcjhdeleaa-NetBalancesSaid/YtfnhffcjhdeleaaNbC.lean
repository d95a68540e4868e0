import Derived.Test.YtfnhffcjhdeleaaNbB
import Derived.StillTailTactics
import Derived.Deep.RegionHeld3
import Derived.Test.YtfnhffcjhdeleaaNbA
/-! ## from NetW -/
namespace Go.Proofs.Ytfnhffcjhdeleaa
open Go.RowKit

theorem rowInfo17 : (Try.prog.info? 225).map (fun i => (i.zero, i.size, i.bytes)) = some (some (.agg #[.int .i64 0, .int .i64 0, .int .i64 0, .int .i64 0, .int .i64 0, .int .i64 0, .int .i64 0, .bool false]), 8, 64) := by kernel_rfl
def fullR (cf : Conf) (n3 : Nat) (c : Int) (l : List RowR) : Bool := decide (cf.trades ≤ (accR c l : Nat)) || decide (IntKind.i64.wrap (cf.trades * (n3 : Int)) ≤ (l.length : Int))
def muchR (c : Int) (l : List RowR) (t : Trad) : Bool := decide (288230376151711744 < grossR c l + t.qty * t.price) || decide (274877906944 < unitsR c t.sec l + t.qty)
/-- What Add tells. -/
def addRK (cf : Conf) (n1 n2 n3 : Nat) (c : Int) (l : List RowR) (t : Trad) : Int :=
  if checkT n1 n2 t = 0 then (if usedR t.id l = true then 7 else if fullR cf n3 c l = true then 6 else if muchR c l t = true then 2 else 0) else checkT n1 n2 t
def addRL (cf : Conf) (n1 n2 n3 : Nat) (c : Int) (l : List RowR) (t : Trad) : List RowR :=
  if addRK cf n1 n2 n3 c l t = 0 then l ++ [⟨t, c, false⟩] else l
/-- What Add leaves. -/
def AddGPost (g base : Nat) (B1 : Option Addr) (n1 d1 : Nat) (B2 : Option Addr) (n2 d2 : Nat) (B3 : Option Addr) (n3 d3 : Nat) (cf : Conf) (c : Int) (v : Value) (l : List RowR) (t : Trad) (w : World) (e : Ending) (w' : World) : Prop :=
  e = .returned (.int .i64 (addRK cf n1 n2 n3 c l t)) ∧ ∃ v', RegV w' g base B1 n1 d1 B2 n2 d2 B3 n3 d3 cf c v' (addRL cf n1 n2 n3 c l t) ∧ OnlyG g v w w' ∧ (v'.ownBlock = v.ownBlock ∨ ∃ k, v'.ownBlock = some k ∧ w.heap.size ≤ k)
theorem addG_no {g base : Nat} {B1 : Option Addr} {n1 d1 : Nat} {B2 : Option Addr} {n2 d2 : Nat} {B3 : Option Addr} {n3 d3 : Nat} {cf : Conf} {c : Int} {v : Value} {l : List RowR} {t : Trad} {w w' : World} {K : Int} (hx : RegV w g base B1 n1 d1 B2 n2 d2 B3 n3 d3 cf c v l) (hk : addRK cf n1 n2 n3 c l t = K) (h0 : K ≠ 0) (hb : Below w.heap.size w w') : AddGPost g base B1 n1 d1 B2 n2 d2 B3 n3 d3 cf c v l t w (.returned (.int .i64 K)) w' := by
  refine ⟨by rw [hk], v, ?_, OnlyG.of_below hb, .inl rfl⟩
  rw [addRL, hk, if_neg h0]; exact hx.past hb
theorem gross_snoc {n1 n2 : Nat} {c : Int} {l : List RowR} {t : Trad} (h : RowsOk n1 n2 c l) {cf : Conf} {n3 : Nat} (h0 : addRK cf n1 n2 n3 c l t = 0) : RowsOk n1 n2 c (l ++ [⟨t, c, false⟩]) := by
  unfold addRK at h0
  split at h0
  · rename_i hc
    split at h0
    · omega
    · split at h0
      · omega
      · split at h0
        · omega
        · rename_i hm
          have hm' : grossR c l + t.qty * t.price ≤ 288230376151711744 ∧ unitsR c t.sec l + t.qty ≤ 274877906944 := by simpa [muchR, Int.not_lt] using hm
          refine ⟨fun r hr => ?_, ?_⟩
          · rcases List.mem_append.1 hr with hr | hr
            · exact h.ok r hr
            · simp at hr; subst hr; exact hc
          · have : grossR c (l ++ [⟨t, c, false⟩]) = grossR c l + t.qty * t.price := by
              unfold grossR; rw [List.filter_append, List.map_append, List.sum_append]; simp [hereR, valR]
            rw [this]; exact hm'.1
  · rename_i hc; exact absurd h0 hc
theorem addRL_ok {cf : Conf} {n1 n2 n3 : Nat} {c : Int} {l : List RowR} {t : Trad} (h : RowsOk n1 n2 c l) : RowsOk n1 n2 c (addRL cf n1 n2 n3 c l t) := by
  unfold addRL; split
  · exact gross_snoc h (by assumption)
  · exact h

set_option maxHeartbeats 8000000 in
set_option maxRecDepth 100000 in
theorem addG_any (g base : Nat) (B1 : Option Addr) (n1 d1 : Nat) (B2 : Option Addr) (n2 d2 : Nat) (B3 : Option Addr) (n3 d3 : Nat) (cf : Conf) (c : Int) (v : Value) (l : List RowR) (t : Trad) (w : World) (hx : RegV w g base B1 n1 d1 B2 n2 d2 B3 n3 d3 cf c v l) (hok : RowsOk n1 n2 c l) (hl : l.length ≤ 1000) (hq : inI t.qty) (hp : inI t.price) (hbase : base ≤ w.heap.size) :
    Calls Try.prog 102 #[.pointer (some ⟨g, 0, none⟩), .agg #[.int .i64 t.id, .int .i64 t.buyer, .int .i64 t.seller, .int .i64 t.sec, .int .i64 t.qty, .int .i64 t.price]] w (AddGPost g base B1 n1 d1 B2 n2 d2 B3 n3 d3 cf c v l t w) := by
  have HX := Lib.hid hx
  have HO := Lib.hid hok
  obtain ⟨⟨A, cp, rfl⟩, bg, hrow⟩ := hx
  have hB0 := (Below.refl w.heap.size w).alloc (Nat.le_refl _) (.cells #[.int .i64 t.id, .int .i64 t.buyer, .int .i64 t.seller, .int .i64 t.sec, .int .i64 t.qty, .int .i64 t.price] 155)
  have bt0 := Blk.new w 155 #[.int .i64 t.id, .int .i64 t.buyer, .int .i64 t.seller, .int .i64 t.sec, .int .i64 t.qty, .int .i64 t.price] w.heap.size rfl
  have hgw := bg.lt
  obtain ⟨W, hW⟩ : ∃ W, Hid (w.alloc (.cells #[.int .i64 t.id, .int .i64 t.buyer, .int .i64 t.seller, .int .i64 t.sec, .int .i64 t.qty, .int .i64 t.price] 155) = W) := ⟨_, Lib.hid rfl⟩
  rw [hW.out] at bt0 hB0
  have hWs : w.heap.size < W.heap.size := bt0.lt
  have bg0 := bg.past hB0
  have HBT := Lib.hid bt0
  have HBW := Lib.hid hB0
  have HC := Lib.hid (refCheckT_any B1 B2 B3 n1 n2 n3 d1 d2 d3 cf t W.drew hq hp)
  obtain ⟨K, hKc⟩ : ∃ K, Hid (checkT n1 n2 t = K) := ⟨_, Lib.hid rfl⟩
  rw [hKc.out] at HC
  obtain ⟨n, hn⟩ : ∃ n, Hid (l.length = n) := ⟨_, Lib.hid rfl⟩
  rw [hn.out] at bg0
  have p0 := (bg0).cell 0
  have p1 := (bg0).cell 1
  have p2 := (bg0).cell 2
  have p3 := (bg0).cell 3
  have p4 := (bg0).cell 4
  have p5 := (bg0).cell 5
  have p6 := (bg0).cell 6
  have p7 := (bg0).cell 7
  have p8 := (bg0).cell 8
  have p9 := (bg0).cell 9
  simp at p0 p1 p2 p3 p4 p5 p6 p7 p8 p9
  have t0 := (bt0).cell 0
  have t1 := (bt0).cell 1
  have t2 := (bt0).cell 2
  have t3 := (bt0).cell 3
  have t4 := (bt0).cell 4
  have t5 := (bt0).cell 5
  simp at t0 t1 t2 t3 t4 t5
  have HBG0 := Lib.hid bg
  rw [hn.out] at HBG0
  have HLL := Lib.hid hl
  have HROW := Lib.hid hrow
  have HQP := Lib.hid (And.intro hq hp)
  clear bg hrow bg0 bt0 hB0 hok hl hq hp
  go_enter Try.func102, Try.ntmps102
  go_wp2_with fail
  rw [hW.out]
  go_still_tail 5, (by kernel_rfl)
  change wpList _ _ _ _ _ W.drew
  go_wp2_with fail
  refine HC.out.mono ?_
  rintro e w1 ⟨rfl, hb1⟩
  have hb1' : Below W.heap.size W w1 := undrew hb1
  have HD1 := Lib.hid (Below.past HBW.out hb1' (Nat.le_of_lt hWs))
  have HT1 := Lib.hid (HBT.out.past hb1')
  clear p0 p1 p2 p3 p4 p5 p6 p7 p8 p9 t0 t1 t2 t3 t4 t5 hb1 hb1' HC
  by_cases hk0 : K = 0
  · subst hk0
    have hd1s := HD1.out.size
    obtain ⟨U, hU⟩ : ∃ U, Hid (usedR t.id l = U) := ⟨_, Lib.hid rfl⟩
    have HU := Lib.hid (usedR_any g base B1 n1 d1 B2 n2 d2 B3 n3 d3 cf c _ l t.id w1 (HX.out.past HD1.out) HLL.out)
    rw [hU.out] at HU
    have t0 := HT1.out.cell 0
    simp at t0
    go_wp2_with fail
    refine HU.out.mono ?_
    rintro e w2 ⟨rfl, hb2⟩
    have HD2 := Lib.hid (Below.past HD1.out hb2 hd1s)
    have HT2 := Lib.hid (HT1.out.past hb2)
    clear hb2 t0
    cases U with
    | true =>
      have HK : Hid (addRK cf n1 n2 n3 c l t = 7) := Lib.hid (by unfold addRK; rw [if_pos hKc.out, if_pos hU.out])
      go_wp2_with fail
      go_ret
      exact addG_no HX.out HK.out (by omega) HD2.out
    | false =>
      have HX2 := Lib.hid (HX.out.past HD2.out)
      have HG2 := Lib.hid (HBG0.out.past HD2.out)
      have hs2 := HD2.out.size
      obtain ⟨a, ha⟩ : ∃ a, Hid (accR c l = a) := ⟨_, Lib.hid rfl⟩
      have ha2 : a ≤ 1000 := by rw [← ha.out]; exact Nat.le_trans (acc_le _ _) HLL.out
      obtain ⟨P, hP⟩ : ∃ P, Hid (IntKind.i64.wrap (cf.trades * (n3 : Int)) = P) := ⟨_, Lib.hid rfl⟩
      obtain ⟨F, hF⟩ : ∃ F, Hid (fullR cf n3 c l = F) := ⟨_, Lib.hid rfl⟩
      have hF2 : (decide (cf.trades ≤ (a : Int)) || decide (P ≤ (n : Int))) = F := by rw [← hF.out, ← ha.out, ← hP.out, ← hn.out]; rfl
      have hPw := hP.out
      go_upto_region 6 with fail
      have hdr := Below.drew (Below.refl w2.heap.size w2)
      have HX2d := Lib.hid (HX2.out.past hdr)
      have HG2d := Lib.hid (HG2.out.past hdr)
      have hS0 : (w2.drew).cell? ⟨g, 6, none⟩ = some (.int .i64 cf.trades) ∧ (w2.drew).cell? ⟨g, 8, none⟩ = some (.slice A n cp) ∧ (w2.drew).cell? ⟨g, 2, none⟩ = some (.slice B3 n3 d3) := ⟨HG2d.out.cell 6, HG2d.out.cell 8, HG2d.out.cell 2⟩
      refine wp_region_held_drew (S := fun w' => w'.cell? ⟨g, 6, none⟩ = some (.int .i64 cf.trades) ∧ w'.cell? ⟨g, 8, none⟩ = some (.slice A n cp) ∧ w'.cell? ⟨g, 2, none⟩ = some (.slice B3 n3 d3)) (by kernel_rfl) hS0 (fun hHeld => ?_)
      clear hS0
      refine wpAnyH_take (i := 0) (v := ?_) rfl (by kernel_rfl) (by kernel_rfl) (by kernel_rfl) (fun _ _ _ h => h) (Or.inl ⟨by rfl, ?_⟩) (by assumption) ?_
      rotate_left
      · (intro w' hSw; (try dsimp only at hSw); first | (go_simp; done) | (go_simp; with_reducible rfl))
      try simp only [Act.put, List.getElem_toArray, List.getElem_cons_zero, List.getElem_cons_succ, List.setIfInBounds_toArray, List.set_cons_zero, List.set_cons_succ]
      refine wpAnyH_take (i := 2) (v := ?_) rfl (by kernel_rfl) (by kernel_rfl) (by kernel_rfl) (fun _ _ _ h => h) (Or.inl ⟨by rfl, ?_⟩) (by assumption) ?_
      rotate_left
      · (intro w' hSw; (try dsimp only at hSw); first | (go_simp; done) | (go_simp; with_reducible rfl))
      try simp only [Act.put, List.getElem_toArray, List.getElem_cons_zero, List.getElem_cons_succ, List.setIfInBounds_toArray, List.set_cons_zero, List.set_cons_succ]
      refine wpAnyH_take (i := 3) (v := ?_) rfl (by kernel_rfl) (by kernel_rfl) (by kernel_rfl) (fun _ _ _ h => h) (Or.inl ⟨by rfl, ?_⟩) (by assumption) ?_
      rotate_left
      · (intro w' hSw; (try dsimp only at hSw); first | (go_simp; done) | (go_simp; with_reducible rfl))
      try simp only [Act.put, List.getElem_toArray, List.getElem_cons_zero, List.getElem_cons_succ, List.setIfInBounds_toArray, List.set_cons_zero, List.set_cons_succ]
      refine wpAnyH_take (i := 4) (v := ?_) rfl (by kernel_rfl) (by kernel_rfl) (by kernel_rfl) (fun _ _ _ h => h) (Or.inl ⟨by rfl, ?_⟩) (by assumption) ?_
      rotate_left
      · (intro w' hSw; (try dsimp only at hSw); first | (go_simp; done) | (go_simp; with_reducible rfl))
      try simp only [Act.put, List.getElem_toArray, List.getElem_cons_zero, List.getElem_cons_succ, List.setIfInBounds_toArray, List.set_cons_zero, List.set_cons_succ]
      refine wpAnyH_take (i := 5) (v := ?_) rfl (by kernel_rfl) (by kernel_rfl) (by kernel_rfl) (fun _ _ _ h => h) (Or.inl ⟨by rfl, ?_⟩) (by assumption) ?_
      rotate_left
      · (intro w' hSw; (try dsimp only at hSw); first | (go_simp; done) | (go_simp; with_reducible rfl))
      try simp only [Act.put, List.getElem_toArray, List.getElem_cons_zero, List.getElem_cons_succ, List.setIfInBounds_toArray, List.set_cons_zero, List.set_cons_succ]
      refine wpAnyH_take (i := 6) (v := ?_) rfl (by kernel_rfl) (by kernel_rfl) (by kernel_rfl) (fun _ _ _ h => h) (Or.inl ⟨by rfl, ?_⟩) (by assumption) ?_
      rotate_left
      · (intro w' hSw; (try dsimp only at hSw); first | (go_simp; done) | (go_simp; with_reducible rfl))
      try simp only [Act.put, List.getElem_toArray, List.getElem_cons_zero, List.getElem_cons_succ, List.setIfInBounds_toArray, List.set_cons_zero, List.set_cons_succ]
      refine wpAnyH_ready (rs := [1]) (by kernel_rfl) (by simp) ?_
      refine AllReadyH.cons rfl (fun K hK => ?_) AllReadyH.nil
      go_simp
      go_at_call 135
      have HAC := Lib.hid (accR_any g base B1 n1 d1 B2 n2 d2 B3 n3 d3 cf c _ l _ HX2d.out HLL.out)
      rw [ha.out] at HAC
      refine HAC.out.mono ?_
      rintro e w3 ⟨rfl, hb3'⟩
      have hb3 : Below w2.heap.size w2 w3 := undrew hb3'
      have HX3 := Lib.hid (HX2.out.past hb3)
      have HG3 := Lib.hid (HG2.out.past hb3)
      have HT3 := Lib.hid (HT2.out.past hb3)
      have HD3 := Lib.hid (Below.past HD2.out hb3 hs2)
      have hs3 := hb3.size
      clear hb3' hb3 HAC hHeld HX2 HG2 HT2 HX2d HG2d
      refine hK.out _ _ (⟨HG3.out.cell 6, HG3.out.cell 8, HG3.out.cell 2⟩) (fun hHeld => ?_)
      try simp only [Act.put, List.getElem_toArray, List.getElem_cons_zero, List.getElem_cons_succ, List.setIfInBounds_toArray, List.set_cons_zero, List.set_cons_succ]
      by_cases hacc : cf.trades ≤ (a : Int)
      · have qd1 := decide_eq_true hacc
        obtain rfl : F = true := by rw [← hF2, qd1]; rfl
        have HK : Hid (addRK cf n1 n2 n3 c l t = 6) := Lib.hid (by unfold addRK; rw [if_pos hKc.out, if_neg (show ¬ usedR t.id l = true by rw [hU.out]; simp), if_pos hF.out])
        clear hF2 hPw hacc
        refine wpAnyH_take (i := 7) (v := ?_) rfl (by kernel_rfl) (by kernel_rfl) (by kernel_rfl) (fun _ _ _ h => h) (Or.inl ⟨by rfl, ?_⟩) (by assumption) ?_
        rotate_left
        · (intro w' hSw; (try dsimp only at hSw); first | (go_simp; done) | (go_simp; with_reducible rfl))
        try simp only [Act.put, List.getElem_toArray, List.getElem_cons_zero, List.getElem_cons_succ, List.setIfInBounds_toArray, List.set_cons_zero, List.set_cons_succ]
        refine wpAnyH_take (i := 8) (v := ?_) rfl (by kernel_rfl) (by kernel_rfl) (by kernel_rfl) (fun _ _ _ h => h) (Or.inl ⟨by rfl, ?_⟩) (by assumption) ?_
        rotate_left
        · (intro w' hSw; (try dsimp only at hSw); first | (go_simp; done) | (go_simp; with_reducible rfl))
        try simp only [Act.put, List.getElem_toArray, List.getElem_cons_zero, List.getElem_cons_succ, List.setIfInBounds_toArray, List.set_cons_zero, List.set_cons_succ]
        refine wpAnyH_take (i := 9) (v := undef) rfl (by kernel_rfl) (by kernel_rfl) (by kernel_rfl) (fun _ _ _ h => h) (Or.inr ⟨by rfl, rfl⟩) (by assumption) ?_
        try simp only [Act.put, List.getElem_toArray, List.getElem_cons_zero, List.getElem_cons_succ, List.setIfInBounds_toArray, List.set_cons_zero, List.set_cons_succ]
        refine wpAnyH_take (i := 10) (v := undef) rfl (by kernel_rfl) (by kernel_rfl) (by kernel_rfl) (fun _ _ _ h => h) (Or.inr ⟨by rfl, rfl⟩) (by assumption) ?_
        try simp only [Act.put, List.getElem_toArray, List.getElem_cons_zero, List.getElem_cons_succ, List.setIfInBounds_toArray, List.set_cons_zero, List.set_cons_succ]
        refine wpAnyH_take (i := 11) (v := undef) rfl (by kernel_rfl) (by kernel_rfl) (by kernel_rfl) (fun _ _ _ h => h) (Or.inr ⟨by rfl, rfl⟩) (by assumption) ?_
        try simp only [Act.put, List.getElem_toArray, List.getElem_cons_zero, List.getElem_cons_succ, List.setIfInBounds_toArray, List.set_cons_zero, List.set_cons_succ]
        refine wpAnyH_take (i := 12) (v := undef) rfl (by kernel_rfl) (by kernel_rfl) (by kernel_rfl) (fun _ _ _ h => h) (Or.inr ⟨by rfl, rfl⟩) (by assumption) ?_
        try simp only [Act.put, List.getElem_toArray, List.getElem_cons_zero, List.getElem_cons_succ, List.setIfInBounds_toArray, List.set_cons_zero, List.set_cons_succ]
        refine wpAnyH_take (i := 13) (v := undef) rfl (by kernel_rfl) (by kernel_rfl) (by kernel_rfl) (fun _ _ _ h => h) (Or.inr ⟨by rfl, rfl⟩) (by assumption) ?_
        try simp only [Act.put, List.getElem_toArray, List.getElem_cons_zero, List.getElem_cons_succ, List.setIfInBounds_toArray, List.set_cons_zero, List.set_cons_succ]
        refine wpAnyH_take (i := 14) (v := undef) rfl (by kernel_rfl) (by kernel_rfl) (by kernel_rfl) (fun _ _ _ h => h) (Or.inr ⟨by rfl, rfl⟩) (by assumption) ?_
        try simp only [Act.put, List.getElem_toArray, List.getElem_cons_zero, List.getElem_cons_succ, List.setIfInBounds_toArray, List.set_cons_zero, List.set_cons_succ]
        refine wpAnyH_take (i := 15) (v := undef) rfl (by kernel_rfl) (by kernel_rfl) (by kernel_rfl) (fun _ _ _ h => h) (Or.inr ⟨by rfl, rfl⟩) (by assumption) ?_
        try simp only [Act.put, List.getElem_toArray, List.getElem_cons_zero, List.getElem_cons_succ, List.setIfInBounds_toArray, List.set_cons_zero, List.set_cons_succ]
        refine wpAnyH_take (i := 16) (v := undef) rfl (by kernel_rfl) (by kernel_rfl) (by kernel_rfl) (fun _ _ _ h => h) (Or.inr ⟨by rfl, rfl⟩) (by assumption) ?_
        try simp only [Act.put, List.getElem_toArray, List.getElem_cons_zero, List.getElem_cons_succ, List.setIfInBounds_toArray, List.set_cons_zero, List.set_cons_succ]
        refine wpAnyH_take (i := 17) (v := undef) rfl (by kernel_rfl) (by kernel_rfl) (by kernel_rfl) (fun _ _ _ h => h) (Or.inr ⟨by rfl, rfl⟩) (by assumption) ?_
        try simp only [Act.put, List.getElem_toArray, List.getElem_cons_zero, List.getElem_cons_succ, List.setIfInBounds_toArray, List.set_cons_zero, List.set_cons_succ]
        refine wpAnyH_take (i := 18) (v := undef) rfl (by kernel_rfl) (by kernel_rfl) (by kernel_rfl) (fun _ _ _ h => h) (Or.inr ⟨by rfl, rfl⟩) (by assumption) ?_
        try simp only [Act.put, List.getElem_toArray, List.getElem_cons_zero, List.getElem_cons_succ, List.setIfInBounds_toArray, List.set_cons_zero, List.set_cons_succ]
        refine wpAnyH_take (i := 19) (v := undef) rfl (by kernel_rfl) (by kernel_rfl) (by kernel_rfl) (fun _ _ _ h => h) (Or.inr ⟨by rfl, rfl⟩) (by assumption) ?_
        try simp only [Act.put, List.getElem_toArray, List.getElem_cons_zero, List.getElem_cons_succ, List.setIfInBounds_toArray, List.set_cons_zero, List.set_cons_succ]
        refine wpAnyH_take (i := 20) (v := undef) rfl (by kernel_rfl) (by kernel_rfl) (by kernel_rfl) (fun _ _ _ h => h) (Or.inr ⟨by rfl, rfl⟩) (by assumption) ?_
        try simp only [Act.put, List.getElem_toArray, List.getElem_cons_zero, List.getElem_cons_succ, List.setIfInBounds_toArray, List.set_cons_zero, List.set_cons_succ]
        refine wpAnyH_take (i := 21) (v := undef) rfl (by kernel_rfl) (by kernel_rfl) (by kernel_rfl) (fun _ _ _ h => h) (Or.inr ⟨by rfl, rfl⟩) (by assumption) ?_
        try simp only [Act.put, List.getElem_toArray, List.getElem_cons_zero, List.getElem_cons_succ, List.setIfInBounds_toArray, List.set_cons_zero, List.set_cons_succ]
        refine wpAnyH_take (i := 22) (v := undef) rfl (by kernel_rfl) (by kernel_rfl) (by kernel_rfl) (fun _ _ _ h => h) (Or.inr ⟨by rfl, rfl⟩) (by assumption) ?_
        try simp only [Act.put, List.getElem_toArray, List.getElem_cons_zero, List.getElem_cons_succ, List.setIfInBounds_toArray, List.set_cons_zero, List.set_cons_succ]
        refine wpAnyH_take (i := 23) (v := undef) rfl (by kernel_rfl) (by kernel_rfl) (by kernel_rfl) (fun _ _ _ h => h) (Or.inr ⟨by rfl, rfl⟩) (by assumption) ?_
        try simp only [Act.put, List.getElem_toArray, List.getElem_cons_zero, List.getElem_cons_succ, List.setIfInBounds_toArray, List.set_cons_zero, List.set_cons_succ]
        refine wpAnyH_take (i := 24) (v := undef) rfl (by kernel_rfl) (by kernel_rfl) (by kernel_rfl) (fun _ _ _ h => h) (Or.inr ⟨by rfl, rfl⟩) (by assumption) ?_
        try simp only [Act.put, List.getElem_toArray, List.getElem_cons_zero, List.getElem_cons_succ, List.setIfInBounds_toArray, List.set_cons_zero, List.set_cons_succ]
        refine wpAnyH_take (i := 25) (v := undef) rfl (by kernel_rfl) (by kernel_rfl) (by kernel_rfl) (fun _ _ _ h => h) (Or.inr ⟨by rfl, rfl⟩) (by assumption) ?_
        try simp only [Act.put, List.getElem_toArray, List.getElem_cons_zero, List.getElem_cons_succ, List.setIfInBounds_toArray, List.set_cons_zero, List.set_cons_succ]
        refine wpAnyH_take (i := 26) (v := undef) rfl (by kernel_rfl) (by kernel_rfl) (by kernel_rfl) (fun _ _ _ h => h) (Or.inr ⟨by rfl, rfl⟩) (by assumption) ?_
        try simp only [Act.put, List.getElem_toArray, List.getElem_cons_zero, List.getElem_cons_succ, List.setIfInBounds_toArray, List.set_cons_zero, List.set_cons_succ]
        refine wpAnyH_take (i := 27) (v := ?_) rfl (by kernel_rfl) (by kernel_rfl) (by kernel_rfl) (fun _ _ _ h => h) (Or.inl ⟨by rfl, ?_⟩) (by assumption) ?_
        rotate_left
        · (intro w' hSw; (try dsimp only at hSw); first | (go_simp; done) | (go_simp; with_reducible rfl))
        try simp only [Act.put, List.getElem_toArray, List.getElem_cons_zero, List.getElem_cons_succ, List.setIfInBounds_toArray, List.set_cons_zero, List.set_cons_succ]
        refine wpAnyH_done (by kernel_rfl) ?_ _
        clear hHeld
        go_wp2_with fail
        go_ret
        exact addG_no HX.out HK.out (by omega) HD3.out
      · have qd1 := decide_eq_false hacc
        clear hacc
        by_cases hlen : P ≤ (n : Int)
        · have qd2 := decide_eq_true hlen
          obtain rfl : F = true := by rw [← hF2, qd2]; simp
          have HK : Hid (addRK cf n1 n2 n3 c l t = 6) := Lib.hid (by unfold addRK; rw [if_pos hKc.out, if_neg (show ¬ usedR t.id l = true by rw [hU.out]; simp), if_pos hF.out])
          clear hF2 hlen
          refine wpAnyH_take (i := 7) (v := ?_) rfl (by kernel_rfl) (by kernel_rfl) (by kernel_rfl) (fun _ _ _ h => h) (Or.inl ⟨by rfl, ?_⟩) (by assumption) ?_
          rotate_left
          · (intro w' hSw; (try dsimp only at hSw); first | (go_simp; done) | (go_simp; with_reducible rfl))
          try simp only [Act.put, List.getElem_toArray, List.getElem_cons_zero, List.getElem_cons_succ, List.setIfInBounds_toArray, List.set_cons_zero, List.set_cons_succ]
          refine wpAnyH_take (i := 8) (v := ?_) rfl (by kernel_rfl) (by kernel_rfl) (by kernel_rfl) (fun _ _ _ h => h) (Or.inl ⟨by rfl, ?_⟩) (by assumption) ?_
          rotate_left
          · (intro w' hSw; (try dsimp only at hSw); first | (go_simp; done) | (go_simp; with_reducible rfl))
          try simp only [Act.put, List.getElem_toArray, List.getElem_cons_zero, List.getElem_cons_succ, List.setIfInBounds_toArray, List.set_cons_zero, List.set_cons_succ]
          refine wpAnyH_take (i := 9) (v := ?_) rfl (by kernel_rfl) (by kernel_rfl) (by kernel_rfl) (fun _ _ _ h => h) (Or.inl ⟨by rfl, ?_⟩) (by assumption) ?_
          rotate_left
          · (intro w' hSw; (try dsimp only at hSw); first | (go_simp; done) | (go_simp; with_reducible rfl))
          try simp only [Act.put, List.getElem_toArray, List.getElem_cons_zero, List.getElem_cons_succ, List.setIfInBounds_toArray, List.set_cons_zero, List.set_cons_succ]
          refine wpAnyH_take (i := 10) (v := ?_) rfl (by kernel_rfl) (by kernel_rfl) (by kernel_rfl) (fun _ _ _ h => h) (Or.inl ⟨by rfl, ?_⟩) (by assumption) ?_
          rotate_left
          · (intro w' hSw; (try dsimp only at hSw); first | (go_simp; done) | (go_simp; with_reducible rfl))
          try simp only [Act.put, List.getElem_toArray, List.getElem_cons_zero, List.getElem_cons_succ, List.setIfInBounds_toArray, List.set_cons_zero, List.set_cons_succ]
          refine wpAnyH_take (i := 11) (v := ?_) rfl (by kernel_rfl) (by kernel_rfl) (by kernel_rfl) (fun _ _ _ h => h) (Or.inl ⟨by rfl, ?_⟩) (by assumption) ?_
          rotate_left
          · (intro w' hSw; (try dsimp only at hSw); first | (go_simp; done) | (go_simp; with_reducible rfl))
          try simp only [Act.put, List.getElem_toArray, List.getElem_cons_zero, List.getElem_cons_succ, List.setIfInBounds_toArray, List.set_cons_zero, List.set_cons_succ]
          refine wpAnyH_take (i := 12) (v := ?_) rfl (by kernel_rfl) (by kernel_rfl) (by kernel_rfl) (fun _ _ _ h => h) (Or.inl ⟨by rfl, ?_⟩) (by assumption) ?_
          rotate_left
          · (intro w' hSw; (try dsimp only at hSw); first | (go_simp; done) | (go_simp; with_reducible rfl))
          try simp only [Act.put, List.getElem_toArray, List.getElem_cons_zero, List.getElem_cons_succ, List.setIfInBounds_toArray, List.set_cons_zero, List.set_cons_succ]
          refine wpAnyH_take (i := 13) (v := ?_) rfl (by kernel_rfl) (by kernel_rfl) (by kernel_rfl) (fun _ _ _ h => h) (Or.inl ⟨by rfl, ?_⟩) (by assumption) ?_
          rotate_left
          · (intro w' hSw; (try dsimp only at hSw); first | (go_simp; done) | (go_simp; with_reducible rfl))
          try simp only [Act.put, List.getElem_toArray, List.getElem_cons_zero, List.getElem_cons_succ, List.setIfInBounds_toArray, List.set_cons_zero, List.set_cons_succ]
          refine wpAnyH_take (i := 14) (v := ?_) rfl (by kernel_rfl) (by kernel_rfl) (by kernel_rfl) (fun _ _ _ h => h) (Or.inl ⟨by rfl, ?_⟩) (by assumption) ?_
          rotate_left
          · (intro w' hSw; (try dsimp only at hSw); first | (go_simp; done) | (go_simp; with_reducible rfl))
          try simp only [Act.put, List.getElem_toArray, List.getElem_cons_zero, List.getElem_cons_succ, List.setIfInBounds_toArray, List.set_cons_zero, List.set_cons_succ]
          refine wpAnyH_take (i := 15) (v := ?_) rfl (by kernel_rfl) (by kernel_rfl) (by kernel_rfl) (fun _ _ _ h => h) (Or.inl ⟨by rfl, ?_⟩) (by assumption) ?_
          rotate_left
          · (intro w' hSw; (try dsimp only at hSw); first | (go_simp; done) | (go_simp; with_reducible rfl))
          try simp only [Act.put, List.getElem_toArray, List.getElem_cons_zero, List.getElem_cons_succ, List.setIfInBounds_toArray, List.set_cons_zero, List.set_cons_succ]
          refine wpAnyH_take (i := 16) (v := ?_) rfl (by kernel_rfl) (by kernel_rfl) (by kernel_rfl) (fun _ _ _ h => h) (Or.inl ⟨by rfl, ?_⟩) (by assumption) ?_
          rotate_left
          · (intro w' hSw; (try dsimp only at hSw); first | (go_simp; done) | (go_simp; with_reducible rfl))
          try simp only [Act.put, List.getElem_toArray, List.getElem_cons_zero, List.getElem_cons_succ, List.setIfInBounds_toArray, List.set_cons_zero, List.set_cons_succ]
          refine wpAnyH_take (i := 17) (v := ?_) rfl (by kernel_rfl) (by kernel_rfl) (by kernel_rfl) (fun _ _ _ h => h) (Or.inl ⟨by rfl, ?_⟩) (by assumption) ?_
          rotate_left
          · (intro w' hSw; (try dsimp only at hSw); first | (go_simp; done) | (go_simp; with_reducible rfl))
          try simp only [Act.put, List.getElem_toArray, List.getElem_cons_zero, List.getElem_cons_succ, List.setIfInBounds_toArray, List.set_cons_zero, List.set_cons_succ]
          refine wpAnyH_take (i := 18) (v := ?_) rfl (by kernel_rfl) (by kernel_rfl) (by kernel_rfl) (fun _ _ _ h => h) (Or.inl ⟨by rfl, ?_⟩) (by assumption) ?_
          rotate_left
          · (intro w' hSw; (try dsimp only at hSw); first | (go_simp; done) | (go_simp; with_reducible rfl))
          try simp only [Act.put, List.getElem_toArray, List.getElem_cons_zero, List.getElem_cons_succ, List.setIfInBounds_toArray, List.set_cons_zero, List.set_cons_succ]
          refine wpAnyH_take (i := 19) (v := ?_) rfl (by kernel_rfl) (by kernel_rfl) (by kernel_rfl) (fun _ _ _ h => h) (Or.inl ⟨by rfl, ?_⟩) (by assumption) ?_
          rotate_left
          · (intro w' hSw; (try dsimp only at hSw); first | (go_simp; done) | (go_simp; with_reducible rfl))
          try simp only [Act.put, List.getElem_toArray, List.getElem_cons_zero, List.getElem_cons_succ, List.setIfInBounds_toArray, List.set_cons_zero, List.set_cons_succ]
          refine wpAnyH_take (i := 20) (v := ?_) rfl (by kernel_rfl) (by kernel_rfl) (by kernel_rfl) (fun _ _ _ h => h) (Or.inl ⟨by rfl, ?_⟩) (by assumption) ?_
          rotate_left
          · (intro w' hSw; (try dsimp only at hSw); first | (go_simp; done) | (go_simp; with_reducible rfl))
          try simp only [Act.put, List.getElem_toArray, List.getElem_cons_zero, List.getElem_cons_succ, List.setIfInBounds_toArray, List.set_cons_zero, List.set_cons_succ]
          refine wpAnyH_take (i := 21) (v := ?_) rfl (by kernel_rfl) (by kernel_rfl) (by kernel_rfl) (fun _ _ _ h => h) (Or.inl ⟨by rfl, ?_⟩) (by assumption) ?_
          rotate_left
          · (intro w' hSw; (try dsimp only at hSw); first | (go_simp; done) | (go_simp; with_reducible rfl))
          try simp only [Act.put, List.getElem_toArray, List.getElem_cons_zero, List.getElem_cons_succ, List.setIfInBounds_toArray, List.set_cons_zero, List.set_cons_succ]
          refine wpAnyH_take (i := 22) (v := ?_) rfl (by kernel_rfl) (by kernel_rfl) (by kernel_rfl) (fun _ _ _ h => h) (Or.inl ⟨by rfl, ?_⟩) (by assumption) ?_
          rotate_left
          · (intro w' hSw; (try dsimp only at hSw); first | (go_simp; done) | (go_simp; with_reducible rfl))
          try simp only [Act.put, List.getElem_toArray, List.getElem_cons_zero, List.getElem_cons_succ, List.setIfInBounds_toArray, List.set_cons_zero, List.set_cons_succ]
          refine wpAnyH_take (i := 23) (v := ?_) rfl (by kernel_rfl) (by kernel_rfl) (by kernel_rfl) (fun _ _ _ h => h) (Or.inl ⟨by rfl, ?_⟩) (by assumption) ?_
          rotate_left
          · (intro w' hSw; (try dsimp only at hSw); first | (go_simp; done) | (go_simp; with_reducible rfl))
          try simp only [Act.put, List.getElem_toArray, List.getElem_cons_zero, List.getElem_cons_succ, List.setIfInBounds_toArray, List.set_cons_zero, List.set_cons_succ]
          refine wpAnyH_take (i := 24) (v := ?_) rfl (by kernel_rfl) (by kernel_rfl) (by kernel_rfl) (fun _ _ _ h => h) (Or.inl ⟨by rfl, ?_⟩) (by assumption) ?_
          rotate_left
          · (intro w' hSw; (try dsimp only at hSw); first | (go_simp; done) | (go_simp; with_reducible rfl))
          try simp only [Act.put, List.getElem_toArray, List.getElem_cons_zero, List.getElem_cons_succ, List.setIfInBounds_toArray, List.set_cons_zero, List.set_cons_succ]
          refine wpAnyH_take (i := 25) (v := ?_) rfl (by kernel_rfl) (by kernel_rfl) (by kernel_rfl) (fun _ _ _ h => h) (Or.inl ⟨by rfl, ?_⟩) (by assumption) ?_
          rotate_left
          · (intro w' hSw; (try dsimp only at hSw); first | (go_simp; done) | (go_simp; with_reducible rfl))
          try simp only [Act.put, List.getElem_toArray, List.getElem_cons_zero, List.getElem_cons_succ, List.setIfInBounds_toArray, List.set_cons_zero, List.set_cons_succ]
          refine wpAnyH_take (i := 26) (v := ?_) rfl (by kernel_rfl) (by kernel_rfl) (by kernel_rfl) (fun _ _ _ h => h) (Or.inl ⟨by rfl, ?_⟩) (by assumption) ?_
          rotate_left
          · (intro w' hSw; (try dsimp only at hSw); first | (go_simp; done) | (go_simp; with_reducible rfl))
          try simp only [Act.put, List.getElem_toArray, List.getElem_cons_zero, List.getElem_cons_succ, List.setIfInBounds_toArray, List.set_cons_zero, List.set_cons_succ]
          refine wpAnyH_take (i := 27) (v := ?_) rfl (by kernel_rfl) (by kernel_rfl) (by kernel_rfl) (fun _ _ _ h => h) (Or.inl ⟨by rfl, ?_⟩) (by assumption) ?_
          rotate_left
          · (intro w' hSw; (try dsimp only at hSw); first | (go_simp; done) | (go_simp; with_reducible rfl))
          try simp only [Act.put, List.getElem_toArray, List.getElem_cons_zero, List.getElem_cons_succ, List.setIfInBounds_toArray, List.set_cons_zero, List.set_cons_succ]
          refine wpAnyH_done (by kernel_rfl) ?_ _
          clear hHeld
          go_wp2_with fail
          go_ret
          exact addG_no HX.out HK.out (by omega) HD3.out
        · have qd2 := decide_eq_false hlen
          obtain rfl : F = false := by rw [← hF2, qd1, qd2]; rfl
          clear hF2 hlen
          refine wpAnyH_take (i := 7) (v := ?_) rfl (by kernel_rfl) (by kernel_rfl) (by kernel_rfl) (fun _ _ _ h => h) (Or.inl ⟨by rfl, ?_⟩) (by assumption) ?_
          rotate_left
          · (intro w' hSw; (try dsimp only at hSw); first | (go_simp; done) | (go_simp; with_reducible rfl))
          try simp only [Act.put, List.getElem_toArray, List.getElem_cons_zero, List.getElem_cons_succ, List.setIfInBounds_toArray, List.set_cons_zero, List.set_cons_succ]
          refine wpAnyH_take (i := 8) (v := ?_) rfl (by kernel_rfl) (by kernel_rfl) (by kernel_rfl) (fun _ _ _ h => h) (Or.inl ⟨by rfl, ?_⟩) (by assumption) ?_
          rotate_left
          · (intro w' hSw; (try dsimp only at hSw); first | (go_simp; done) | (go_simp; with_reducible rfl))
          try simp only [Act.put, List.getElem_toArray, List.getElem_cons_zero, List.getElem_cons_succ, List.setIfInBounds_toArray, List.set_cons_zero, List.set_cons_succ]
          refine wpAnyH_take (i := 9) (v := ?_) rfl (by kernel_rfl) (by kernel_rfl) (by kernel_rfl) (fun _ _ _ h => h) (Or.inl ⟨by rfl, ?_⟩) (by assumption) ?_
          rotate_left
          · (intro w' hSw; (try dsimp only at hSw); first | (go_simp; done) | (go_simp; with_reducible rfl))
          try simp only [Act.put, List.getElem_toArray, List.getElem_cons_zero, List.getElem_cons_succ, List.setIfInBounds_toArray, List.set_cons_zero, List.set_cons_succ]
          refine wpAnyH_take (i := 10) (v := ?_) rfl (by kernel_rfl) (by kernel_rfl) (by kernel_rfl) (fun _ _ _ h => h) (Or.inl ⟨by rfl, ?_⟩) (by assumption) ?_
          rotate_left
          · (intro w' hSw; (try dsimp only at hSw); first | (go_simp; done) | (go_simp; with_reducible rfl))
          try simp only [Act.put, List.getElem_toArray, List.getElem_cons_zero, List.getElem_cons_succ, List.setIfInBounds_toArray, List.set_cons_zero, List.set_cons_succ]
          refine wpAnyH_take (i := 11) (v := ?_) rfl (by kernel_rfl) (by kernel_rfl) (by kernel_rfl) (fun _ _ _ h => h) (Or.inl ⟨by rfl, ?_⟩) (by assumption) ?_
          rotate_left
          · (intro w' hSw; (try dsimp only at hSw); first | (go_simp; done) | (go_simp; with_reducible rfl))
          try simp only [Act.put, List.getElem_toArray, List.getElem_cons_zero, List.getElem_cons_succ, List.setIfInBounds_toArray, List.set_cons_zero, List.set_cons_succ]
          refine wpAnyH_take (i := 12) (v := ?_) rfl (by kernel_rfl) (by kernel_rfl) (by kernel_rfl) (fun _ _ _ h => h) (Or.inl ⟨by rfl, ?_⟩) (by assumption) ?_
          rotate_left
          · (intro w' hSw; (try dsimp only at hSw); first | (go_simp; done) | (go_simp; with_reducible rfl))
          try simp only [Act.put, List.getElem_toArray, List.getElem_cons_zero, List.getElem_cons_succ, List.setIfInBounds_toArray, List.set_cons_zero, List.set_cons_succ]
          refine wpAnyH_take (i := 13) (v := ?_) rfl (by kernel_rfl) (by kernel_rfl) (by kernel_rfl) (fun _ _ _ h => h) (Or.inl ⟨by rfl, ?_⟩) (by assumption) ?_
          rotate_left
          · (intro w' hSw; (try dsimp only at hSw); first | (go_simp; done) | (go_simp; with_reducible rfl))
          try simp only [Act.put, List.getElem_toArray, List.getElem_cons_zero, List.getElem_cons_succ, List.setIfInBounds_toArray, List.set_cons_zero, List.set_cons_succ]
          refine wpAnyH_take (i := 14) (v := ?_) rfl (by kernel_rfl) (by kernel_rfl) (by kernel_rfl) (fun _ _ _ h => h) (Or.inl ⟨by rfl, ?_⟩) (by assumption) ?_
          rotate_left
          · (intro w' hSw; (try dsimp only at hSw); first | (go_simp; done) | (go_simp; with_reducible rfl))
          try simp only [Act.put, List.getElem_toArray, List.getElem_cons_zero, List.getElem_cons_succ, List.setIfInBounds_toArray, List.set_cons_zero, List.set_cons_succ]
          refine wpAnyH_take (i := 15) (v := ?_) rfl (by kernel_rfl) (by kernel_rfl) (by kernel_rfl) (fun _ _ _ h => h) (Or.inl ⟨by rfl, ?_⟩) (by assumption) ?_
          rotate_left
          · (intro w' hSw; (try dsimp only at hSw); first | (go_simp; done) | (go_simp; with_reducible rfl))
          try simp only [Act.put, List.getElem_toArray, List.getElem_cons_zero, List.getElem_cons_succ, List.setIfInBounds_toArray, List.set_cons_zero, List.set_cons_succ]
          refine wpAnyH_take (i := 16) (v := ?_) rfl (by kernel_rfl) (by kernel_rfl) (by kernel_rfl) (fun _ _ _ h => h) (Or.inl ⟨by rfl, ?_⟩) (by assumption) ?_
          rotate_left
          · (intro w' hSw; (try dsimp only at hSw); first | (go_simp; done) | (go_simp; with_reducible rfl))
          try simp only [Act.put, List.getElem_toArray, List.getElem_cons_zero, List.getElem_cons_succ, List.setIfInBounds_toArray, List.set_cons_zero, List.set_cons_succ]
          refine wpAnyH_take (i := 17) (v := ?_) rfl (by kernel_rfl) (by kernel_rfl) (by kernel_rfl) (fun _ _ _ h => h) (Or.inl ⟨by rfl, ?_⟩) (by assumption) ?_
          rotate_left
          · (intro w' hSw; (try dsimp only at hSw); first | (go_simp; done) | (go_simp; with_reducible rfl))
          try simp only [Act.put, List.getElem_toArray, List.getElem_cons_zero, List.getElem_cons_succ, List.setIfInBounds_toArray, List.set_cons_zero, List.set_cons_succ]
          refine wpAnyH_take (i := 18) (v := ?_) rfl (by kernel_rfl) (by kernel_rfl) (by kernel_rfl) (fun _ _ _ h => h) (Or.inl ⟨by rfl, ?_⟩) (by assumption) ?_
          rotate_left
          · (intro w' hSw; (try dsimp only at hSw); first | (go_simp; done) | (go_simp; with_reducible rfl))
          try simp only [Act.put, List.getElem_toArray, List.getElem_cons_zero, List.getElem_cons_succ, List.setIfInBounds_toArray, List.set_cons_zero, List.set_cons_succ]
          refine wpAnyH_take (i := 19) (v := ?_) rfl (by kernel_rfl) (by kernel_rfl) (by kernel_rfl) (fun _ _ _ h => h) (Or.inl ⟨by rfl, ?_⟩) (by assumption) ?_
          rotate_left
          · (intro w' hSw; (try dsimp only at hSw); first | (go_simp; done) | (go_simp; with_reducible rfl))
          try simp only [Act.put, List.getElem_toArray, List.getElem_cons_zero, List.getElem_cons_succ, List.setIfInBounds_toArray, List.set_cons_zero, List.set_cons_succ]
          refine wpAnyH_take (i := 20) (v := ?_) rfl (by kernel_rfl) (by kernel_rfl) (by kernel_rfl) (fun _ _ _ h => h) (Or.inl ⟨by rfl, ?_⟩) (by assumption) ?_
          rotate_left
          · (intro w' hSw; (try dsimp only at hSw); first | (go_simp; done) | (go_simp; with_reducible rfl))
          try simp only [Act.put, List.getElem_toArray, List.getElem_cons_zero, List.getElem_cons_succ, List.setIfInBounds_toArray, List.set_cons_zero, List.set_cons_succ]
          refine wpAnyH_take (i := 21) (v := ?_) rfl (by kernel_rfl) (by kernel_rfl) (by kernel_rfl) (fun _ _ _ h => h) (Or.inl ⟨by rfl, ?_⟩) (by assumption) ?_
          rotate_left
          · (intro w' hSw; (try dsimp only at hSw); first | (go_simp; done) | (go_simp; with_reducible rfl))
          try simp only [Act.put, List.getElem_toArray, List.getElem_cons_zero, List.getElem_cons_succ, List.setIfInBounds_toArray, List.set_cons_zero, List.set_cons_succ]
          refine wpAnyH_take (i := 22) (v := ?_) rfl (by kernel_rfl) (by kernel_rfl) (by kernel_rfl) (fun _ _ _ h => h) (Or.inl ⟨by rfl, ?_⟩) (by assumption) ?_
          rotate_left
          · (intro w' hSw; (try dsimp only at hSw); first | (go_simp; done) | (go_simp; with_reducible rfl))
          try simp only [Act.put, List.getElem_toArray, List.getElem_cons_zero, List.getElem_cons_succ, List.setIfInBounds_toArray, List.set_cons_zero, List.set_cons_succ]
          refine wpAnyH_take (i := 23) (v := ?_) rfl (by kernel_rfl) (by kernel_rfl) (by kernel_rfl) (fun _ _ _ h => h) (Or.inl ⟨by rfl, ?_⟩) (by assumption) ?_
          rotate_left
          · (intro w' hSw; (try dsimp only at hSw); first | (go_simp; done) | (go_simp; with_reducible rfl))
          try simp only [Act.put, List.getElem_toArray, List.getElem_cons_zero, List.getElem_cons_succ, List.setIfInBounds_toArray, List.set_cons_zero, List.set_cons_succ]
          refine wpAnyH_take (i := 24) (v := ?_) rfl (by kernel_rfl) (by kernel_rfl) (by kernel_rfl) (fun _ _ _ h => h) (Or.inl ⟨by rfl, ?_⟩) (by assumption) ?_
          rotate_left
          · (intro w' hSw; (try dsimp only at hSw); first | (go_simp; done) | (go_simp; with_reducible rfl))
          try simp only [Act.put, List.getElem_toArray, List.getElem_cons_zero, List.getElem_cons_succ, List.setIfInBounds_toArray, List.set_cons_zero, List.set_cons_succ]
          refine wpAnyH_take (i := 25) (v := ?_) rfl (by kernel_rfl) (by kernel_rfl) (by kernel_rfl) (fun _ _ _ h => h) (Or.inl ⟨by rfl, ?_⟩) (by assumption) ?_
          rotate_left
          · (intro w' hSw; (try dsimp only at hSw); first | (go_simp; done) | (go_simp; with_reducible rfl))
          try simp only [Act.put, List.getElem_toArray, List.getElem_cons_zero, List.getElem_cons_succ, List.setIfInBounds_toArray, List.set_cons_zero, List.set_cons_succ]
          refine wpAnyH_take (i := 26) (v := ?_) rfl (by kernel_rfl) (by kernel_rfl) (by kernel_rfl) (fun _ _ _ h => h) (Or.inl ⟨by rfl, ?_⟩) (by assumption) ?_
          rotate_left
          · (intro w' hSw; (try dsimp only at hSw); first | (go_simp; done) | (go_simp; with_reducible rfl))
          try simp only [Act.put, List.getElem_toArray, List.getElem_cons_zero, List.getElem_cons_succ, List.setIfInBounds_toArray, List.set_cons_zero, List.set_cons_succ]
          refine wpAnyH_take (i := 27) (v := ?_) rfl (by kernel_rfl) (by kernel_rfl) (by kernel_rfl) (fun _ _ _ h => h) (Or.inl ⟨by rfl, ?_⟩) (by assumption) ?_
          rotate_left
          · (intro w' hSw; (try dsimp only at hSw); first | (go_simp; done) | (go_simp; with_reducible rfl))
          try simp only [Act.put, List.getElem_toArray, List.getElem_cons_zero, List.getElem_cons_succ, List.setIfInBounds_toArray, List.set_cons_zero, List.set_cons_succ]
          refine wpAnyH_done (by kernel_rfl) ?_ _
          clear hHeld qd1 qd2 hPw
          obtain ⟨G, hG⟩ : ∃ G, Hid (grossR c l = G) := ⟨_, Lib.hid rfl⟩
          obtain ⟨V, hV⟩ : ∃ V, Hid (t.qty * t.price = V) := ⟨_, Lib.hid rfl⟩
          obtain ⟨N, hN⟩ : ∃ N, Hid (unitsR c t.sec l = N) := ⟨_, Lib.hid rfl⟩
          obtain ⟨M, hM⟩ : ∃ M, Hid (muchR c l t = M) := ⟨_, Lib.hid rfl⟩
          have hM2 : (decide (288230376151711744 < G + V) || decide (274877906944 < N + t.qty)) = M := by rw [← hM.out, ← hG.out, ← hV.out, ← hN.out]; rfl
          have hk1 := checkT_ok hKc.out
          have hul := units_le (c := c) (s := t.sec) HO.out.ok
          have hgt := HO.out.top
          have hg0 : 0 ≤ G := by rw [← hG.out]; omega
          have hg1 : G ≤ 288230376151711744 := by rw [← hG.out]; exact hgt
          have hv0 : 0 ≤ V := by have := hk1.1.le; have := hk1.1.q; rw [← hV.out]; omega
          have hv1 : V ≤ 288230376151711744 := by rw [← hV.out]; exact hk1.2.1
          have hn0 : 0 ≤ N ∧ N ≤ 288230376151711744 := by rw [← hN.out]; omega
          have hq1 : 0 ≤ t.qty ∧ t.qty ≤ 274877906944 := by have := hk1.1.q; have := hk1.2.2.1; omega
          have hw1 : IntKind.i64.wrap (G + V) = G + V := IntWalk.i64_in _ (by omega)
          have hw2 : IntKind.i64.wrap (N + t.qty) = N + t.qty := IntWalk.i64_in _ (by omega)
          have HVL : Hid (amount (t.qty * t.price) = V) := Lib.hid (by rw [← hV.out]; exact if_pos hk1.2.2.2)
          clear hk1 hul hgt hg0 hg1 hv0 hv1 hn0 hq1
          go_upto_region 8 with fail
          have hdr := Below.drew (Below.refl w3.heap.size w3)
          have HX3d := Lib.hid (HX3.out.past hdr)
          have HT3d := Lib.hid (HT3.out.past hdr)
          have hS0 : (w3.drew).cell? ⟨w.heap.size, 0, none⟩ = some (.int .i64 t.id) ∧ (w3.drew).cell? ⟨w.heap.size, 1, none⟩ = some (.int .i64 t.buyer) ∧ (w3.drew).cell? ⟨w.heap.size, 2, none⟩ = some (.int .i64 t.seller) ∧ (w3.drew).cell? ⟨w.heap.size, 3, none⟩ = some (.int .i64 t.sec) ∧ (w3.drew).cell? ⟨w.heap.size, 4, none⟩ = some (.int .i64 t.qty) ∧ (w3.drew).cell? ⟨w.heap.size, 5, none⟩ = some (.int .i64 t.price) := ⟨HT3d.out.cell 0, HT3d.out.cell 1, HT3d.out.cell 2, HT3d.out.cell 3, HT3d.out.cell 4, HT3d.out.cell 5⟩
          refine wp_region_held_drew (S := fun w' => w'.cell? ⟨w.heap.size, 0, none⟩ = some (.int .i64 t.id) ∧ w'.cell? ⟨w.heap.size, 1, none⟩ = some (.int .i64 t.buyer) ∧ w'.cell? ⟨w.heap.size, 2, none⟩ = some (.int .i64 t.seller) ∧ w'.cell? ⟨w.heap.size, 3, none⟩ = some (.int .i64 t.sec) ∧ w'.cell? ⟨w.heap.size, 4, none⟩ = some (.int .i64 t.qty) ∧ w'.cell? ⟨w.heap.size, 5, none⟩ = some (.int .i64 t.price)) (by kernel_rfl) hS0 (fun hHeld => ?_)
          clear hS0
          refine wpAnyH_take (i := 0) (v := ?_) rfl (by kernel_rfl) (by kernel_rfl) (by kernel_rfl) (fun _ _ _ h => h) (Or.inl ⟨by rfl, ?_⟩) (by assumption) ?_
          rotate_left
          · (intro w' hSw; (try dsimp only at hSw); first | (go_simp; done) | (go_simp; with_reducible rfl))
          try simp only [Act.put, List.getElem_toArray, List.getElem_cons_zero, List.getElem_cons_succ, List.setIfInBounds_toArray, List.set_cons_zero, List.set_cons_succ]
          refine wpAnyH_take (i := 2) (v := ?_) rfl (by kernel_rfl) (by kernel_rfl) (by kernel_rfl) (fun _ _ _ h => h) (Or.inl ⟨by rfl, ?_⟩) (by assumption) ?_
          rotate_left
          · (intro w' hSw; (try dsimp only at hSw); first | (go_simp; done) | (go_simp; with_reducible rfl))
          try simp only [Act.put, List.getElem_toArray, List.getElem_cons_zero, List.getElem_cons_succ, List.setIfInBounds_toArray, List.set_cons_zero, List.set_cons_succ]
          refine wpAnyH_ready (rs := [1]) (by kernel_rfl) (by simp) ?_
          refine AllReadyH.cons rfl (fun K hK => ?_) AllReadyH.nil
          go_simp
          go_at_call 136
          have HGR := Lib.hid (grossR_any g base B1 n1 d1 B2 n2 d2 B3 n3 d3 cf c _ l _ HX3d.out HO.out HLL.out)
          rw [hG.out] at HGR
          refine HGR.out.mono ?_
          rintro e w4 ⟨rfl, hb4'⟩
          have hb4 : Below w3.heap.size w3 w4 := undrew hb4'
          have HX4 := Lib.hid (HX3.out.past hb4)
          have HG4 := Lib.hid (HG3.out.past hb4)
          have HT4 := Lib.hid (HT3.out.past hb4)
          have HD4 := Lib.hid (Below.past HD3.out hb4 (by omega))
          have hs4 := hb4.size
          clear hb4' hb4 HGR hHeld HX3 HG3 HT3 HX3d HT3d
          refine hK.out _ _ (⟨HT4.out.cell 0, HT4.out.cell 1, HT4.out.cell 2, HT4.out.cell 3, HT4.out.cell 4, HT4.out.cell 5⟩) (fun hHeld => ?_)
          try simp only [Act.put, List.getElem_toArray, List.getElem_cons_zero, List.getElem_cons_succ, List.setIfInBounds_toArray, List.set_cons_zero, List.set_cons_succ]
          refine wpAnyH_ready (rs := [3]) (by kernel_rfl) (by simp) ?_
          refine AllReadyH.cons rfl (fun K hK => ?_) AllReadyH.nil
          go_simp
          go_at_call 137
          have HVA := Lib.hid (refValue17_any t HQP.out.1 HQP.out.2 w4)
          rw [HVL.out] at HVA
          refine HVA.out.mono ?_
          rintro e w5 ⟨rfl, hb5⟩
          have HX5 := Lib.hid (HX4.out.past hb5)
          have HG5 := Lib.hid (HG4.out.past hb5)
          have HT5 := Lib.hid (HT4.out.past hb5)
          have HD5 := Lib.hid (Below.past HD4.out hb5 (by omega))
          have hs5 := hb5.size
          clear hb5 HVA hHeld HX4 HG4 HT4
          refine hK.out _ _ (⟨HT5.out.cell 0, HT5.out.cell 1, HT5.out.cell 2, HT5.out.cell 3, HT5.out.cell 4, HT5.out.cell 5⟩) (fun hHeld => ?_)
          try simp only [Act.put, List.getElem_toArray, List.getElem_cons_zero, List.getElem_cons_succ, List.setIfInBounds_toArray, List.set_cons_zero, List.set_cons_succ]
          by_cases hm1 : 288230376151711744 < G + V
          · have qd1 := decide_eq_true hm1
            obtain rfl : M = true := by rw [← hM2, qd1]; rfl
            have HK : Hid (addRK cf n1 n2 n3 c l t = 2) := Lib.hid (by unfold addRK; rw [if_pos hKc.out, if_neg (show ¬ usedR t.id l = true by rw [hU.out]; simp), if_neg (show ¬ fullR cf n3 c l = true by rw [hF.out]; simp), if_pos hM.out])
            clear hM2 hm1
            refine wpAnyH_take (i := 4) (v := ?_) rfl (by kernel_rfl) (by kernel_rfl) (by kernel_rfl) (fun _ _ _ h => h) (Or.inl ⟨by rfl, ?_⟩) (by assumption) ?_
            rotate_left
            · (intro w' hSw; (try dsimp only at hSw); first | (go_simp; done) | (go_simp; with_reducible rfl))
            try simp only [Act.put, List.getElem_toArray, List.getElem_cons_zero, List.getElem_cons_succ, List.setIfInBounds_toArray, List.set_cons_zero, List.set_cons_succ]
            refine wpAnyH_take (i := 5) (v := ?_) rfl (by kernel_rfl) (by kernel_rfl) (by kernel_rfl) (fun _ _ _ h => h) (Or.inl ⟨by rfl, ?_⟩) (by assumption) ?_
            rotate_left
            · (intro w' hSw; (try dsimp only at hSw); first | (go_simp; done) | (go_simp; with_reducible rfl))
            try simp only [Act.put, List.getElem_toArray, List.getElem_cons_zero, List.getElem_cons_succ, List.setIfInBounds_toArray, List.set_cons_zero, List.set_cons_succ]
            refine wpAnyH_take (i := 6) (v := ?_) rfl (by kernel_rfl) (by kernel_rfl) (by kernel_rfl) (fun _ _ _ h => h) (Or.inl ⟨by rfl, ?_⟩) (by assumption) ?_
            rotate_left
            · (intro w' hSw; (try dsimp only at hSw); first | (go_simp; done) | (go_simp; with_reducible rfl))
            try simp only [Act.put, List.getElem_toArray, List.getElem_cons_zero, List.getElem_cons_succ, List.setIfInBounds_toArray, List.set_cons_zero, List.set_cons_succ]
            refine wpAnyH_take (i := 7) (v := undef) rfl (by kernel_rfl) (by kernel_rfl) (by kernel_rfl) (fun _ _ _ h => h) (Or.inr ⟨by rfl, rfl⟩) (by assumption) ?_
            try simp only [Act.put, List.getElem_toArray, List.getElem_cons_zero, List.getElem_cons_succ, List.setIfInBounds_toArray, List.set_cons_zero, List.set_cons_succ]
            refine wpAnyH_take (i := 8) (v := undef) rfl (by kernel_rfl) (by kernel_rfl) (by kernel_rfl) (fun _ _ _ h => h) (Or.inr ⟨by rfl, rfl⟩) (by assumption) ?_
            try simp only [Act.put, List.getElem_toArray, List.getElem_cons_zero, List.getElem_cons_succ, List.setIfInBounds_toArray, List.set_cons_zero, List.set_cons_succ]
            refine wpAnyH_take (i := 9) (v := undef) rfl (by kernel_rfl) (by kernel_rfl) (by kernel_rfl) (fun _ _ _ h => h) (Or.inr ⟨by rfl, rfl⟩) (by assumption) ?_
            try simp only [Act.put, List.getElem_toArray, List.getElem_cons_zero, List.getElem_cons_succ, List.setIfInBounds_toArray, List.set_cons_zero, List.set_cons_succ]
            refine wpAnyH_take (i := 10) (v := undef) rfl (by kernel_rfl) (by kernel_rfl) (by kernel_rfl) (fun _ _ _ h => h) (Or.inr ⟨by rfl, rfl⟩) (by assumption) ?_
            try simp only [Act.put, List.getElem_toArray, List.getElem_cons_zero, List.getElem_cons_succ, List.setIfInBounds_toArray, List.set_cons_zero, List.set_cons_succ]
            refine wpAnyH_take (i := 11) (v := undef) rfl (by kernel_rfl) (by kernel_rfl) (by kernel_rfl) (fun _ _ _ h => h) (Or.inr ⟨by rfl, rfl⟩) (by assumption) ?_
            try simp only [Act.put, List.getElem_toArray, List.getElem_cons_zero, List.getElem_cons_succ, List.setIfInBounds_toArray, List.set_cons_zero, List.set_cons_succ]
            refine wpAnyH_take (i := 12) (v := undef) rfl (by kernel_rfl) (by kernel_rfl) (by kernel_rfl) (fun _ _ _ h => h) (Or.inr ⟨by rfl, rfl⟩) (by assumption) ?_
            try simp only [Act.put, List.getElem_toArray, List.getElem_cons_zero, List.getElem_cons_succ, List.setIfInBounds_toArray, List.set_cons_zero, List.set_cons_succ]
            refine wpAnyH_take (i := 13) (v := undef) rfl (by kernel_rfl) (by kernel_rfl) (by kernel_rfl) (fun _ _ _ h => h) (Or.inr ⟨by rfl, rfl⟩) (by assumption) ?_
            try simp only [Act.put, List.getElem_toArray, List.getElem_cons_zero, List.getElem_cons_succ, List.setIfInBounds_toArray, List.set_cons_zero, List.set_cons_succ]
            refine wpAnyH_take (i := 14) (v := undef) rfl (by kernel_rfl) (by kernel_rfl) (by kernel_rfl) (fun _ _ _ h => h) (Or.inr ⟨by rfl, rfl⟩) (by assumption) ?_
            try simp only [Act.put, List.getElem_toArray, List.getElem_cons_zero, List.getElem_cons_succ, List.setIfInBounds_toArray, List.set_cons_zero, List.set_cons_succ]
            refine wpAnyH_take (i := 15) (v := ?_) rfl (by kernel_rfl) (by kernel_rfl) (by kernel_rfl) (fun _ _ _ h => h) (Or.inl ⟨by rfl, ?_⟩) (by assumption) ?_
            rotate_left
            · (intro w' hSw; (try dsimp only at hSw); first | (go_simp; done) | (go_simp; with_reducible rfl))
            try simp only [Act.put, List.getElem_toArray, List.getElem_cons_zero, List.getElem_cons_succ, List.setIfInBounds_toArray, List.set_cons_zero, List.set_cons_succ]
            refine wpAnyH_done (by kernel_rfl) ?_ _
            clear hHeld
            go_wp2_with fail
            go_ret
            exact addG_no HX.out HK.out (by omega) HD5.out
          · have qd1 := decide_eq_false hm1
            clear hm1
            refine wpAnyH_take (i := 4) (v := ?_) rfl (by kernel_rfl) (by kernel_rfl) (by kernel_rfl) (fun _ _ _ h => h) (Or.inl ⟨by rfl, ?_⟩) (by assumption) ?_
            rotate_left
            · (intro w' hSw; (try dsimp only at hSw); first | (go_simp; done) | (go_simp; with_reducible rfl))
            try simp only [Act.put, List.getElem_toArray, List.getElem_cons_zero, List.getElem_cons_succ, List.setIfInBounds_toArray, List.set_cons_zero, List.set_cons_succ]
            refine wpAnyH_take (i := 5) (v := ?_) rfl (by kernel_rfl) (by kernel_rfl) (by kernel_rfl) (fun _ _ _ h => h) (Or.inl ⟨by rfl, ?_⟩) (by assumption) ?_
            rotate_left
            · (intro w' hSw; (try dsimp only at hSw); first | (go_simp; done) | (go_simp; with_reducible rfl))
            try simp only [Act.put, List.getElem_toArray, List.getElem_cons_zero, List.getElem_cons_succ, List.setIfInBounds_toArray, List.set_cons_zero, List.set_cons_succ]
            refine wpAnyH_take (i := 6) (v := ?_) rfl (by kernel_rfl) (by kernel_rfl) (by kernel_rfl) (fun _ _ _ h => h) (Or.inl ⟨by rfl, ?_⟩) (by assumption) ?_
            rotate_left
            · (intro w' hSw; (try dsimp only at hSw); first | (go_simp; done) | (go_simp; with_reducible rfl))
            try simp only [Act.put, List.getElem_toArray, List.getElem_cons_zero, List.getElem_cons_succ, List.setIfInBounds_toArray, List.set_cons_zero, List.set_cons_succ]
            refine wpAnyH_take (i := 7) (v := ?_) rfl (by kernel_rfl) (by kernel_rfl) (by kernel_rfl) (fun _ _ _ h => h) (Or.inl ⟨by rfl, ?_⟩) (by assumption) ?_
            rotate_left
            · (intro w' hSw; (try dsimp only at hSw); first | (go_simp; done) | (go_simp; with_reducible rfl))
            try simp only [Act.put, List.getElem_toArray, List.getElem_cons_zero, List.getElem_cons_succ, List.setIfInBounds_toArray, List.set_cons_zero, List.set_cons_succ]
            refine wpAnyH_take (i := 8) (v := ?_) rfl (by kernel_rfl) (by kernel_rfl) (by kernel_rfl) (fun _ _ _ h => h) (Or.inl ⟨by rfl, ?_⟩) (by assumption) ?_
            rotate_left
            · (intro w' hSw; (try dsimp only at hSw); first | (go_simp; done) | (go_simp; with_reducible rfl))
            try simp only [Act.put, List.getElem_toArray, List.getElem_cons_zero, List.getElem_cons_succ, List.setIfInBounds_toArray, List.set_cons_zero, List.set_cons_succ]
            refine wpAnyH_take (i := 9) (v := ?_) rfl (by kernel_rfl) (by kernel_rfl) (by kernel_rfl) (fun _ _ _ h => h) (Or.inl ⟨by rfl, ?_⟩) (by assumption) ?_
            rotate_left
            · (intro w' hSw; (try dsimp only at hSw); first | (go_simp; done) | (go_simp; with_reducible rfl))
            try simp only [Act.put, List.getElem_toArray, List.getElem_cons_zero, List.getElem_cons_succ, List.setIfInBounds_toArray, List.set_cons_zero, List.set_cons_succ]
            refine wpAnyH_take (i := 11) (v := ?_) rfl (by kernel_rfl) (by kernel_rfl) (by kernel_rfl) (fun _ _ _ h => h) (Or.inl ⟨by rfl, ?_⟩) (by assumption) ?_
            rotate_left
            · (intro w' hSw; (try dsimp only at hSw); first | (go_simp; done) | (go_simp; with_reducible rfl))
            try simp only [Act.put, List.getElem_toArray, List.getElem_cons_zero, List.getElem_cons_succ, List.setIfInBounds_toArray, List.set_cons_zero, List.set_cons_succ]
            refine wpAnyH_take (i := 12) (v := ?_) rfl (by kernel_rfl) (by kernel_rfl) (by kernel_rfl) (fun _ _ _ h => h) (Or.inl ⟨by rfl, ?_⟩) (by assumption) ?_
            rotate_left
            · (intro w' hSw; (try dsimp only at hSw); first | (go_simp; done) | (go_simp; with_reducible rfl))
            try simp only [Act.put, List.getElem_toArray, List.getElem_cons_zero, List.getElem_cons_succ, List.setIfInBounds_toArray, List.set_cons_zero, List.set_cons_succ]
            refine wpAnyH_ready (rs := [10]) (by kernel_rfl) (by simp) ?_
            refine AllReadyH.cons rfl (fun K hK => ?_) AllReadyH.nil
            go_simp
            go_at_call 138
            have HUN := Lib.hid (unitsR_any g base B1 n1 d1 B2 n2 d2 B3 n3 d3 cf c _ l t.sec _ HX5.out HO.out HLL.out)
            rw [hN.out] at HUN
            refine HUN.out.mono ?_
            rintro e w6 ⟨rfl, hb6⟩
            have HX6 := Lib.hid (HX5.out.past hb6)
            have HG6 := Lib.hid (HG5.out.past hb6)
            have HT6 := Lib.hid (HT5.out.past hb6)
            have HD6 := Lib.hid (Below.past HD5.out hb6 (by omega))
            have hs6 := hb6.size
            clear hb6 HUN hHeld HX5 HG5 HT5
            refine hK.out _ _ (⟨HT6.out.cell 0, HT6.out.cell 1, HT6.out.cell 2, HT6.out.cell 3, HT6.out.cell 4, HT6.out.cell 5⟩) (fun hHeld => ?_)
            try simp only [Act.put, List.getElem_toArray, List.getElem_cons_zero, List.getElem_cons_succ, List.setIfInBounds_toArray, List.set_cons_zero, List.set_cons_succ]
            by_cases hm2 : 274877906944 < N + t.qty
            · have qd2 := decide_eq_true hm2
              obtain rfl : M = true := by rw [← hM2, qd2]; simp
              have HK : Hid (addRK cf n1 n2 n3 c l t = 2) := Lib.hid (by unfold addRK; rw [if_pos hKc.out, if_neg (show ¬ usedR t.id l = true by rw [hU.out]; simp), if_neg (show ¬ fullR cf n3 c l = true by rw [hF.out]; simp), if_pos hM.out])
              clear hM2 hm2
              refine wpAnyH_take (i := 13) (v := ?_) rfl (by kernel_rfl) (by kernel_rfl) (by kernel_rfl) (fun _ _ _ h => h) (Or.inl ⟨by rfl, ?_⟩) (by assumption) ?_
              rotate_left
              · (intro w' hSw; (try dsimp only at hSw); first | (go_simp; done) | (go_simp; with_reducible rfl))
              try simp only [Act.put, List.getElem_toArray, List.getElem_cons_zero, List.getElem_cons_succ, List.setIfInBounds_toArray, List.set_cons_zero, List.set_cons_succ]
              refine wpAnyH_take (i := 14) (v := ?_) rfl (by kernel_rfl) (by kernel_rfl) (by kernel_rfl) (fun _ _ _ h => h) (Or.inl ⟨by rfl, ?_⟩) (by assumption) ?_
              rotate_left
              · (intro w' hSw; (try dsimp only at hSw); first | (go_simp; done) | (go_simp; with_reducible rfl))
              try simp only [Act.put, List.getElem_toArray, List.getElem_cons_zero, List.getElem_cons_succ, List.setIfInBounds_toArray, List.set_cons_zero, List.set_cons_succ]
              refine wpAnyH_take (i := 15) (v := ?_) rfl (by kernel_rfl) (by kernel_rfl) (by kernel_rfl) (fun _ _ _ h => h) (Or.inl ⟨by rfl, ?_⟩) (by assumption) ?_
              rotate_left
              · (intro w' hSw; (try dsimp only at hSw); first | (go_simp; done) | (go_simp; with_reducible rfl))
              try simp only [Act.put, List.getElem_toArray, List.getElem_cons_zero, List.getElem_cons_succ, List.setIfInBounds_toArray, List.set_cons_zero, List.set_cons_succ]
              refine wpAnyH_done (by kernel_rfl) ?_ _
              clear hHeld
              go_wp2_with fail
              go_ret
              exact addG_no HX.out HK.out (by omega) HD6.out
            · have qd2 := decide_eq_false hm2
              obtain rfl : M = false := by rw [← hM2, qd1, qd2]; rfl
              have HK : Hid (addRK cf n1 n2 n3 c l t = 0) := Lib.hid (by unfold addRK; rw [if_pos hKc.out, if_neg (show ¬ usedR t.id l = true by rw [hU.out]; simp), if_neg (show ¬ fullR cf n3 c l = true by rw [hF.out]; simp), if_neg (show ¬ muchR c l t = true by rw [hM.out]; simp)])
              clear hM2 hm2
              refine wpAnyH_take (i := 13) (v := ?_) rfl (by kernel_rfl) (by kernel_rfl) (by kernel_rfl) (fun _ _ _ h => h) (Or.inl ⟨by rfl, ?_⟩) (by assumption) ?_
              rotate_left
              · (intro w' hSw; (try dsimp only at hSw); first | (go_simp; done) | (go_simp; with_reducible rfl))
              try simp only [Act.put, List.getElem_toArray, List.getElem_cons_zero, List.getElem_cons_succ, List.setIfInBounds_toArray, List.set_cons_zero, List.set_cons_succ]
              refine wpAnyH_take (i := 14) (v := ?_) rfl (by kernel_rfl) (by kernel_rfl) (by kernel_rfl) (fun _ _ _ h => h) (Or.inl ⟨by rfl, ?_⟩) (by assumption) ?_
              rotate_left
              · (intro w' hSw; (try dsimp only at hSw); first | (go_simp; done) | (go_simp; with_reducible rfl))
              try simp only [Act.put, List.getElem_toArray, List.getElem_cons_zero, List.getElem_cons_succ, List.setIfInBounds_toArray, List.set_cons_zero, List.set_cons_succ]
              refine wpAnyH_take (i := 15) (v := ?_) rfl (by kernel_rfl) (by kernel_rfl) (by kernel_rfl) (fun _ _ _ h => h) (Or.inl ⟨by rfl, ?_⟩) (by assumption) ?_
              rotate_left
              · (intro w' hSw; (try dsimp only at hSw); first | (go_simp; done) | (go_simp; with_reducible rfl))
              try simp only [Act.put, List.getElem_toArray, List.getElem_cons_zero, List.getElem_cons_succ, List.setIfInBounds_toArray, List.set_cons_zero, List.set_cons_succ]
              refine wpAnyH_done (by kernel_rfl) ?_ _
              clear hHeld qd1 qd2 hw1 hw2
              have hoz : w6.ownsRow base 225 8 (.slice A n cp) n (l.flatMap RowR.cells) := by have := HX6.out.row; rwa [hn.out] at this
              have blz := HG6.out
              have btz := HT6.out
              have hBz := HD6.out
              have hll : n ≤ 1000 := by rw [← hn.out]; exact HLL.out
              have l8 := blz.cell 8
              have l9 := blz.cell 9
              simp at l8 l9
              have t0 := (btz).cell 0
              have t1 := (btz).cell 1
              have t2 := (btz).cell 2
              have t3 := (btz).cell 3
              have t4 := (btz).cell 4
              have t5 := (btz).cell 5
              simp at t0 t1 t2 t3 t4 t5
              have hVs := blz.lt
              have hVt := btz.lt
              have hBV : w.heap.size ≤ w6.heap.size := by omega
              have hbV : base ≤ w6.heap.size := by omega
              obtain ⟨j0, hj0, jz0, jz1, jz2⟩ := info_parts rowInfo17
              clear HX6 HG6 HT6 HD6
              go_upto_region 10 with fail
              go_region_law (refine step_append_blkG rfl (.tmp 67) (.tmp 74) 182 rfl base 225 j0 _ 8 64 Try.underlying182 hj0 jz0 jz1 jz2 rfl (by decide) (.slice A n cp) n (l.flatMap RowR.cells) (by simp [Act.eval, Act.put]) (by first | exact hoz.alloc _ | exact own_drewN (hoz.alloc _) 1) w6.heap.size 1 1 #[.int .i64 t.id, .int .i64 t.buyer, .int .i64 t.seller, .int .i64 t.sec, .int .i64 t.qty, .int .i64 t.price, .int .i64 c, .bool false] (by simp [Act.eval, Act.put]) (by exact Blk.new w6 225 _ _ rfl) rfl (by simp [Value.oneCell']) (by omega) (by omega) (by simp; omega) ?_; intro v' w' hown' hg' hd; obtain ⟨A', c', rfl⟩ := own_form hown'; have bz : Blk w' g 184 #[.slice B1 n1 d1, .slice B2 n2 d2, .slice B3 n3 d3, .int .i64 cf.line, .int .i64 cf.capital, .int .i64 cf.lead, .int .i64 cf.trades, .int .i64 cf.bids, .slice A n cp, .int .i64 c] := Blk.grown (by first | exact blz.alloc _ | exact (blz.alloc _).drewN 1) hg' (own_blk_ne hoz blz (by decide)); have hd2 : (Value.slice A' (n + 1) c').ownBlock = (Value.slice A n cp).ownBlock ∨ ∃ k, (Value.slice A' (n + 1) c').ownBlock = some k ∧ w.heap.size ≤ k := hd.imp id (fun e => ⟨_, e, by simp; omega⟩); have bw : OnlyG g (.slice A n cp) w w' := OnlyG.grown (OnlyG.of_below (by first | exact hBz.alloc hBV _ | exact (hBz.alloc hBV _).drew)) hg'; have z1 := bz.cell 8; have zf := bz.frozen 8; simp at z1)
              all_goals
                have hne8 := own_blk_ne hown' bz (by decide)
                have HZ := Lib.hid (bz.put 8 (.slice A' (n + 1) c'))
                have HOW := Lib.hid (own_far (p := ⟨g, 8, none⟩) hown' hne8 (.slice A' (n + 1) c'))
                have HBW2 := Lib.hid (bw.setCell ⟨g, 8, none⟩ rfl (.slice A' (n + 1) c'))
                have HD2x := Lib.hid hd2
                clear hd2 hne8 z1 zf bz bw hown' hg' hd
                go_wp2_with fail
                refine bodyPost_ret (v := .int .i64 0) (by simp [results, Try.results102, go_sem]) rfl ⟨by rw [HK.out], .slice A' (n + 1) c', ⟨⟨A', c', by rw [addRL, HK.out, if_pos rfl]; simp [hn.out]⟩, HZ.out, by rw [addRL, HK.out, if_pos rfl, List.length_append, hn.out, List.flatMap_append]; exact HOW.out⟩, by rw [hn.out]; exact HBW2.out, by rw [hn.out]; exact HD2x.out⟩
  · have HK : Hid (addRK cf n1 n2 n3 c l t = K) := Lib.hid (by unfold addRK; rw [if_neg (by rw [hKc.out]; exact hk0), hKc.out])
    have q1 : (K != 0) = true := by simpa using hk0
    go_wp2_with fail
    go_ret
    exact addG_no HX.out HK.out hk0 HD1.out
end Go.Proofs.Ytfnhffcjhdeleaa

/-! ## from NetX -/
namespace Go.Proofs.Ytfnhffcjhdeleaa
open Go.RowKit

def trC (t : Trad) : List Value := [.int .i64 t.id, .int .i64 t.buyer, .int .i64 t.seller, .int .i64 t.sec, .int .i64 t.qty, .int .i64 t.price]
theorem trC_len (t : Trad) : (trC t).length = 6 := rfl
theorem RegV.grown {w w' : World} {g base : Nat} {B1 : Option Addr} {n1 d1 : Nat} {B2 : Option Addr} {n2 d2 : Nat} {B3 : Option Addr} {n3 d3 : Nat} {cf : Conf} {c : Int} {v : Value} {l : List RowR} (h : RegV w g base B1 n1 d1 B2 n2 d2 B3 n3 d3 cf c v l) {u : Value} {bq m : Nat} {xs : List Value} (hg : w.grownBy w' u.ownBlock) (hu : w.ownsRow bq 97 3 u m xs) : RegV w' g base B1 n1 d1 B2 n2 d2 B3 n3 d3 cf c v l :=
  ⟨h.form, h.blk.grown hg (own_blk_ne hu h.blk (by decide)), own_grownN h.row hg (fun k e1 e2 => by
    rcases own_ne hu h.row (by decide) with h0 | h0
    · rw [e1] at h0; cases h0
    · exact h0 (e1.trans e2.symm))⟩
theorem own_onlyL {g : Nat} {v u : Value} {w w' : World} (h : OnlyG g v w w') {base bq : Nat} {n m : Nat} {xs ys : List Value} {cs : Array Value} (ho : w.ownsRow base 97 3 u n xs) (hb : Blk w g 184 cs) (hv : w.ownsRow bq 225 8 v m ys) : w'.ownsRow base 97 3 u n xs := by
  have h1 := own_blk_ne ho hb (by decide)
  have h2 : ∀ k, v.ownBlock = some k → u.ownBlock ≠ some k := fun k e1 e2 => by
    rcases own_ne ho hv (by decide) with h0 | h0
    · rw [e2] at h0; cases h0
    · exact h0 (e2.trans e1.symm)
  refine ⟨ho.1, ?_⟩
  rcases ho.2 with h0 | ⟨k, cap, cur, rfl, hb, hh, h3⟩
  · exact .inl h0
  · refine .inr ⟨k, cap, cur, rfl, hb, ?_, h3⟩
    have hlt : k < w.heap.size := by
      rcases Nat.lt_or_ge k w.heap.size with hlt | hge
      · exact hlt
      · rw [Array.getElem?_eq_none hge] at hh; cases hh
    rw [h.block k hlt (fun e => h1 (by rw [← e]; rfl)) (fun e => h2 k e rfl)]; exact hh
theorem legsA_app (a b : List Trad) : legsA (a ++ b) = legsA a ++ legsA b := List.flatMap_append
theorem legsA_len : ∀ ts : List Trad, (legsA ts).length = 4 * ts.length
  | [] => rfl
  | t :: ts => by
    have ih := legsA_len ts
    have e : legsA (t :: ts) = legsOf t ++ legsA ts := rfl
    rw [e, List.length_append, ih]; simp [legsOf]; omega
theorem gross_here : ∀ {l : List RowR} {c : Int}, (∀ r ∈ l, hereR c r = true) → grossR c l = valT (l.map RowR.t)
  | [], _, _ => rfl
  | x :: l, c, h => by
    have ih := gross_here (l := l) (c := c) fun r hr => h r (by simp [hr])
    unfold grossR valT at ih ⊢
    rw [List.filter_cons, if_pos (h x (by simp)), List.map_cons, List.sum_cons, ih]; rfl
theorem acc_of {n1 n2 : Nat} {c : Int} {l : List RowR} (h : RowsOk n1 n2 c l) (hh : ∀ r ∈ l, hereR c r = true) : AccT n1 n2 (l.map RowR.t) := by
  refine ⟨fun t ht => ?_, by rw [← gross_here hh]; exact h.top⟩
  obtain ⟨r, hr, rfl⟩ := List.mem_map.1 ht
  exact (checkT_ok (h.ok r hr)).1
theorem legs_in {n1 n2 : Nat} {t : Trad} (h : checkT n1 n2 t = 0) : legsIn t = true := by
  have hk := checkT_ok h
  have h1 := hk.2.2.2; have h2 := hk.2.1; have h3 := hk.1.le; have h4 := hk.1.q; have h5 := hk.2.2.1
  unfold legsIn
  rw [decide_eq_true h1, decide_eq_true (by unfold inI; omega), decide_eq_true (by unfold inI; omega)]; rfl

/-- What holds at the head of each round. -/
def LegRel (W : World) (g : Nat) (A1 A2 A3 : Option Addr) (n1 n2 n3 cp1 cp2 cp3 : Nat) (cf : Conf) (k : Nat) (v : Value) (wr : World) : Prop :=
  ∃ u rows, RegV wr g W.heap.size A1 n1 cp1 A2 n2 cp2 A3 n3 cp3 cf 0 u rows ∧ RowsOk n1 n2 0 rows ∧ (∀ r ∈ rows, hereR 0 r = true) ∧ rows.length ≤ k ∧ wr.ownsRow W.heap.size 97 3 v (legsA (rows.map RowR.t)).length ((legsA (rows.map RowR.t)).flatMap Leg.cells) ∧ Below W.heap.size W wr
def LegsOfPost (n1 n2 n : Nat) (w : World) (e : Ending) (w' : World) : Prop :=
  ∃ v ts, e = .returned v ∧ AccT n1 n2 ts ∧ ts.length ≤ n ∧ w'.ownsRow w.heap.size 97 3 v (legsA ts).length ((legsA ts).flatMap Leg.cells) ∧ Below w.heap.size w w'

set_option maxHeartbeats 8000000 in
set_option maxRecDepth 100000 in
theorem legsOf18_any (A1 A2 A3 : Option Addr) (n1 n2 n3 cp1 cp2 cp3 : Nat) (cf : Conf) (A : Option Addr) (n c : Nat) (l : List Trad) (w : World) (hrl : Rd w w.heap.size 6 A n (l.flatMap trC)) (hn : n ≤ 30) (hg : ∀ t ∈ l, inI t.qty ∧ inI t.price) :
    Calls Try.prog 64 #[.agg #[.slice A1 n1 cp1, .slice A2 n2 cp2, .slice A3 n3 cp3, .int .i64 cf.line, .int .i64 cf.capital, .int .i64 cf.lead, .int .i64 cf.trades, .int .i64 cf.bids], .slice A n c] w (LegsOfPost n1 n2 n w) := by
  have HL := Lib.hid (hrl.len trC_len (by omega))
  have HG := Lib.hid hg
  have HRL := Lib.hid hrl
  obtain ⟨j0, hj0, jz0, jz1, jz2⟩ := info_parts legInfoN
  have bc0 := Blk.new w 89 #[.slice A1 n1 cp1, .slice A2 n2 cp2, .slice A3 n3 cp3, .int .i64 cf.line, .int .i64 cf.capital, .int .i64 cf.lead, .int .i64 cf.trades, .int .i64 cf.bids] w.heap.size rfl
  have hB0 := (Below.refl w.heap.size w).alloc (Nat.le_refl _) (.cells #[.slice A1 n1 cp1, .slice A2 n2 cp2, .slice A3 n3 cp3, .int .i64 cf.line, .int .i64 cf.capital, .int .i64 cf.lead, .int .i64 cf.trades, .int .i64 cf.bids] 89)
  obtain ⟨W, hW⟩ : ∃ W, Hid (w.alloc (.cells #[.slice A1 n1 cp1, .slice A2 n2 cp2, .slice A3 n3 cp3, .int .i64 cf.line, .int .i64 cf.capital, .int .i64 cf.lead, .int .i64 cf.trades, .int .i64 cf.bids] 89) = W) := ⟨_, Lib.hid rfl⟩
  rw [hW.out] at bc0 hB0
  have bq := Blk.new W 184 #[.slice A1 n1 cp1, .slice A2 n2 cp2, .slice A3 n3 cp3, .int .i64 cf.line, .int .i64 cf.capital, .int .i64 cf.lead, .int .i64 cf.trades, .int .i64 cf.bids, .slice none 0 0, .int .i64 0] W.heap.size rfl
  have hbq := (Below.refl W.heap.size W).alloc (Nat.le_refl _) (.cells #[.slice A1 n1 cp1, .slice A2 n2 cp2, .slice A3 n3 cp3, .int .i64 cf.line, .int .i64 cf.capital, .int .i64 cf.lead, .int .i64 cf.trades, .int .i64 cf.bids, .slice none 0 0, .int .i64 0] 184)
  obtain ⟨W1, hW1⟩ : ∃ W1, Hid (W.alloc (.cells #[.slice A1 n1 cp1, .slice A2 n2 cp2, .slice A3 n3 cp3, .int .i64 cf.line, .int .i64 cf.capital, .int .i64 cf.lead, .int .i64 cf.trades, .int .i64 cf.bids, .slice none 0 0, .int .i64 0] 184) = W1) := ⟨_, Lib.hid rfl⟩
  rw [hW1.out] at bq hbq
  have HLR : Hid (LegRel W W.heap.size A1 A2 A3 n1 n2 n3 cp1 cp2 cp3 cf 0 (.slice none 0 0) W1) := Lib.hid ⟨.slice none 0 0, [], ⟨⟨none, 0, rfl⟩, bq, World.ownsRow_nil _ _ _ _⟩, ⟨(fun r hr => absurd hr (by simp)), by simp [grossR]⟩, (fun r hr => absurd hr (by simp)), Nat.le_refl _, World.ownsRow_nil _ _ _ _, hbq⟩
  have hWw := hB0.size
  obtain ⟨g, hg0⟩ : ∃ g, Hid (W.heap.size = g) := ⟨_, Lib.hid rfl⟩
  have hgW : W.heap.size ≤ g := by rw [hg0.out]; exact Nat.le_refl _
  have HLR : Hid (LegRel W g A1 A2 A3 n1 n2 n3 cp1 cp2 cp3 cf 0 (.slice none 0 0) W1) := by rw [← hg0.out]; exact HLR
  have e0 := (bc0).cell 0
  have e1 := (bc0).cell 1
  have e2 := (bc0).cell 2
  have e3 := (bc0).cell 3
  have e4 := (bc0).cell 4
  have e5 := (bc0).cell 5
  have e6 := (bc0).cell 6
  have e7 := (bc0).cell 7
  simp at e0 e1 e2 e3 e4 e5 e6 e7
  clear bc0 bq hbq hg hrl
  go_enter Try.func64, Try.ntmps64
  go_upto_region 1 with fail
  rw [hW.out]
  go_upto_region 2 with fail
  rw [hW1.out, hg0.out]
  clear e0 e1 e2 e3 e4 e5 e6 e7
  go_wp2_with fail
  go_loopw [6, 7] (fun v i wr => ∃ k : Nat, k ≤ n ∧ i = .int .i64 k ∧ Hid (LegRel W g A1 A2 A3 n1 n2 n3 cp1 cp2 cp3 cf k v wr)) (fun _ i _ => n - (intOf i).toNat)
  case atStart => exact ⟨0, Nat.zero_le _, rfl, HLR⟩
  case round =>
    obtain ⟨k, hk, rfl, HP⟩ := hrel
    clear HLR
    obtain ⟨u, rows, hreg, hro, hhere, hlen, hout, hb⟩ := HP.out
    have hs := hb.size
    by_cases hlt : k < n
    · have hlz : (k : Int) < (n : Int) := by omega
      obtain ⟨t, hgt⟩ : ∃ t, l[k]? = some t := ⟨_, List.getElem?_eq_getElem (by rw [HL.out]; exact hlt)⟩
      have HGT := Lib.hid hgt
      have hqp := HG.out t (List.mem_of_getElem? hgt)
      obtain ⟨b1, o1, rfl, hb1, hc1⟩ := (HRL.out.below (Below.past hB0 hb hWw)).elem trC_len hgt hlt
      have c0 := hc1 0 _ rfl
      have c1 := hc1 1 _ rfl
      have c2 := hc1 2 _ rfl
      have c3 := hc1 3 _ rfl
      have c4 := hc1 4 _ rfl
      have c5 := hc1 5 _ rfl
      simp only [Nat.add_zero] at c0
      have HA := Lib.hid (addG_any g W.heap.size A1 n1 cp1 A2 n2 cp2 A3 n3 cp3 cf 0 u rows t wr hreg hro (by omega) hqp.1 hqp.2 hs)
      unfold AddGPost at HA
      obtain ⟨K, hK⟩ : ∃ K, Hid (addRK cf n1 n2 n3 0 rows t = K) := ⟨_, Lib.hid rfl⟩
      rw [hK.out] at HA
      have HRO := Lib.hid hro
      have HHR := Lib.hid hhere
      have HREG := Lib.hid hreg
      have HOUT := Lib.hid hout
      have HB := Lib.hid hb
      have HQP := Lib.hid hqp
      clear hc1 hgt hqp hreg hro hhere hout hb HP hb1
      go_wp2_with fail
      refine HA.out.mono ?_
      rintro e w3 ⟨rfl, u', hreg', hon, hap⟩
      have HB3 := Lib.hid (Below.trans HB.out (hon.frame hgW hs (fun j e => (HREG.out.row.lt _ e).1)))
      have HOUT3 := Lib.hid (own_onlyL hon HOUT.out HREG.out.blk HREG.out.row)
      have hs3 := HB3.out.size
      have HREG3 := Lib.hid hreg'
      clear hreg' hon hap HA HREG HOUT c0 c1 c2 c3 c4 c5
      by_cases hk0 : K = 0
      · subst hk0
        have HNEW : Hid (addRL cf n1 n2 n3 0 rows t = rows ++ [⟨t, 0, false⟩]) := Lib.hid (by rw [addRL, if_pos hK.out])
        have HRO3 := Lib.hid (addRL_ok (cf := cf) (n3 := n3) (t := t) HRO.out)
        rw [HNEW.out] at HREG3 HRO3
        have HLI : Hid (legsIn t = true) := Lib.hid (legs_in (HRO3.out.ok ⟨t, 0, false⟩ (by simp)))
        have HHR3 : Hid (∀ r ∈ rows ++ [⟨t, 0, false⟩], hereR 0 r = true) := Lib.hid fun r hr => by
          rcases List.mem_append.1 hr with hr | hr
          · exact HHR.out r hr
          · simp at hr; subst hr; rfl
        obtain ⟨b2, o2, hA2, hb2, hc2⟩ := (HRL.out.below (Below.past hB0 HB3.out hWw)).elem trC_len HGT.out hlt
        cases hA2
        have c0 := hc2 0 _ rfl
        have c1 := hc2 1 _ rfl
        have c2 := hc2 2 _ rfl
        have c3 := hc2 3 _ rfl
        have c4 := hc2 4 _ rfl
        have c5 := hc2 5 _ rfl
        simp only [Nat.add_zero] at c0
        have HLG := Lib.hid (refLegs_own t HQP.out.1 HQP.out.2 HLI.out w3)
        unfold LegsOwn at HLG
        clear hc2 hb2
        go_wp2_with fail
        refine HLG.out.mono ?_
        rintro e w4 ⟨AL, cL, rfl, hol, hb4⟩
        have HREG4 := Lib.hid (HREG3.out.past hb4)
        have HOUT4 := Lib.hid (own_past' HOUT3.out hb4)
        have HB4 := Lib.hid (Below.past HB3.out hb4 hs3)
        have hs4 := hb4.size
        obtain ⟨L, hL⟩ : ∃ L, Hid (legsOf t = L) := ⟨_, Lib.hid rfl⟩
        rw [hL.out] at hol
        have HLL : Hid (L.length = 4) := Lib.hid (by rw [← hL.out]; rfl)
        obtain ⟨O, hO⟩ : ∃ O, Hid (legsA (rows.map RowR.t) = O) := ⟨_, Lib.hid rfl⟩
        have hOl : O.length ≤ 1000 := by rw [← hO.out, legsA_len, List.length_map]; omega
        rw [hO.out] at HOUT4
        have HAP : Hid (ApartVN u6 (.slice AL 4 cL)) := Lib.hid fun j e1 e2 => by
          have := (HOUT3.out.lt _ e1).2; have := (hol.lt _ e2).1; omega
        have HOL := Lib.hid (own_mono' hol (show W.heap.size ≤ w3.heap.size from hs3))
        clear hol hb4 HLG HOUT3 HREG3 HB3 c0 c1 c2 c3 c4 c5
        go_wp2_with fail
        go_loopw [6, 10] (fun v i w5 => ∃ j : Nat, j ≤ 4 ∧ i = .int .i64 j ∧ Hid (w5.ownsRow W.heap.size 97 3 v (O ++ L.take j).length ((O ++ L.take j).flatMap Leg.cells)) ∧ Hid (w5.ownsRow W.heap.size 97 3 (.slice AL 4 cL) 4 (L.flatMap Leg.cells)) ∧ Hid (ApartVN v (.slice AL 4 cL)) ∧ Hid (RegV w5 g W.heap.size A1 n1 cp1 A2 n2 cp2 A3 n3 cp3 cf 0 u' (rows ++ [⟨t, 0, false⟩])) ∧ Hid (Below W.heap.size W w5)) (fun _ i _ => 4 - (intOf i).toNat)
        case atStart => exact ⟨0, by omega, rfl, by simpa using HOUT4, HOL, HAP, HREG4, HB4⟩
        case round =>
          obtain ⟨j, hj, rfl, HV, HY, HAPJ, HRJ, HBJ⟩ := hrel
          have hsj := HBJ.out.size
          by_cases hj4 : j < 4
          · have hjz : (j : Int) < (4 : Int) := by omega
            have hg_f : L[j]? = some (L[j]'(by have := HLL.out; omega)) := List.getElem?_eq_getElem _
            obtain ⟨b_f, off_f, rfl, hbb_f, hc_f⟩ := (Rd.of_own HY.out).elem Leg.cells_len hg_f hj4
            have HT_f := Lib.hid (show L.take (j + 1) = L.take j ++ [(L[j]'(by have := HLL.out; omega))] from List.take_succ_eq_append_getElem (by have := HLL.out; omega))
            have HM_f := Lib.hid (show (L[j]'(by have := HLL.out; omega)) ∈ L from List.getElem_mem _)
            generalize (L[j]'(by have := HLL.out; omega)) = f at *
            have c0 := hc_f 0 _ rfl
            have c1 := hc_f 1 _ rfl
            have c2 := hc_f 2 _ rfl
            clear hc_f hg_f
            simp only [Nat.add_zero] at c0
            have hbo := (Below.refl wr.heap.size wr).alloc (Nat.le_refl _) (.cells #[.int .i64 f.member, .int .i64 f.asset, .int .i64 f.amount] 97)
            have HB1 := Lib.hid (Below.past HBJ.out hbo hsj)
            have HV1 := Lib.hid (own_past' HV.out hbo)
            have HY1 := Lib.hid (own_past' HY.out hbo)
            have HR1 := Lib.hid (HRJ.out.past hbo)
            obtain ⟨m, hm⟩ : ∃ m, Hid ((O ++ L.take j).length = m) := ⟨_, Lib.hid rfl⟩
            have hml : m ≤ 1010 := by rw [← hm.out, List.length_append, List.length_take]; omega
            rw [hm.out] at HV1 HV
            have bX := Blk.new wr 97 #[.int .i64 f.member, .int .i64 f.asset, .int .i64 f.amount] wr.heap.size rfl
            have hbW : W.heap.size ≤ wr.heap.size := hsj
            have HOA : Hid (O ++ L.take (j + 1) = (O ++ L.take j) ++ [f]) := Lib.hid (by rw [HT_f.out, List.append_assoc])
            clear hbo HRJ bX
            go_wp2_with (at_builtin; refine wpList_append_lit_atN _ _ rfl (.tmp 41) (.tmp 46) 90 rfl W.heap.size 97 j0 _ 3 24 Try.underlying90 hj0 jz0 jz1 jz2 rfl (by decide) _ _ _ rfl HV.out _ 1 1 rfl (by first | rfl | simp) rfl (by simp [Value.oneCell']) (by omega) (by omega) (by omega) ?_; intro v' w' hown' hg' hd; have HOWN := Lib.hid hown'; have HGR := Lib.hid hg'; have HDD := Lib.hid hd; clear hown' hg' hd)
            have HOW2 : Hid (w'.ownsRow W.heap.size 97 3 v' (O ++ L.take (j + 1)).length ((O ++ L.take (j + 1)).flatMap Leg.cells)) := Lib.hid (by rw [HOA.out, List.length_append, hm.out, List.flatMap_append]; exact HOWN.out)
            have HY2 := Lib.hid (own_grownN HY1.out HGR.out HAPJ.out)
            have HR2 := Lib.hid (HR1.out.grown HGR.out HV1.out)
            have HAP2 := Lib.hid (apart_grownN HAPJ.out HY.out HDD.out)
            have HB2 := Lib.hid (below_own HB1.out HGR.out HV1.out HB1.out.size (Nat.le_refl _))
            clear HOWN HGR HDD HV HY HV1 HY1 HR1 HB1 HAPJ HBJ c0 c1 c2
            go_wp2_with fail
            go_roundw
            case rel => exact ⟨j + 1, by omega, by go_num, HOW2, HY2, HAP2, HR2, HB2⟩
            case measure => simp [intOf]; omega
          · have hjz : ¬ (j : Int) < (4 : Int) := by omega
            obtain rfl : j = 4 := by omega
            have HT4 : Hid (O ++ L.take 4 = legsA ((rows ++ [(⟨t, 0, false⟩ : RowR)]).map RowR.t)) := Lib.hid (by
              rw [List.take_of_length_le (by rw [HLL.out]; exact Nat.le_refl _), List.map_append, legsA_app, hO.out]
              congr 1; rw [← hL.out]; simp [legsA])
            rw [HT4.out] at HV
            go_wp2_with fail
            go_roundw
            case rel => exact ⟨k + 1, by omega, by go_num, Lib.hid ⟨u', rows ++ [⟨t, 0, false⟩], HRJ.out, HRO3.out, HHR3.out, by simp; omega, HV.out, HBJ.out⟩⟩
            case measure => simp [intOf]; omega
      · have q1 : (K == 0) = false := by simpa using hk0
        have HNEW : Hid (addRL cf n1 n2 n3 0 rows t = rows) := Lib.hid (by rw [addRL, if_neg (by rw [hK.out]; exact hk0)])
        rw [HNEW.out] at HREG3
        go_wp2_with fail
        go_roundw
        case rel => exact ⟨k + 1, by omega, by go_num, Lib.hid ⟨u', rows, HREG3.out, HRO.out, HHR.out, by omega, HOUT3.out, HB3.out⟩⟩
        case measure => simp [intOf]; omega
    · have hlz : ¬ (k : Int) < (n : Int) := by omega
      have HOUT := Lib.hid hout
      have HACC := Lib.hid (acc_of hro hhere)
      have HLN : Hid ((rows.map RowR.t).length ≤ n) := Lib.hid (by rw [List.length_map]; omega)
      have HBE := Lib.hid (Below.next' hB0 hb (Nat.le_refl _))
      clear hreg hro hhere hout hb HP
      go_wp2_with fail
      go_ret
      exact ⟨_, _, rfl, HACC.out, HLN.out, own_mono' HOUT.out hWw, HBE.out⟩
end Go.Proofs.Ytfnhffcjhdeleaa

/-! ## from NetY -/
namespace Go.Proofs.Ytfnhffcjhdeleaa
open Go.RowKit Go.ChangeShapes

theorem netSides_ok (A : Option Addr) (n c : Nat) (l : List Leg) (a D C : Int) (w : World) (hr : Rd w w.heap.size 3 A n (l.flatMap Leg.cells)) (hn : n ≤ 1000) (hg : ∀ x ∈ l, inI x.amount) (h : sidesOk l a = true) (hd : owedD l a = D) (hc : owedC l a = C) :
    Calls Try.prog 59 #[.slice A n c, .int .i64 a] w fun e w' => e = .returned (.tuple #[.int .i64 D, .int .i64 C, .int .i64 0]) ∧ Below w.heap.size w w' :=
  (netSides_any A n c l a w hr hn hg).mono fun e w' hp => by
    unfold SidesPost at hp
    rw [if_pos h, hd, hc] at hp
    exact hp

set_option maxHeartbeats 2000000 in
theorem netSaved_ok (A1 : Option Addr) (n1 c1 : Nat) (l1 : List Leg) (A2 : Option Addr) (n2 c2 : Nat) (l2 : List Leg) (a D1 D2 : Int) (w : World) (hr1 : Rd w w.heap.size 3 A1 n1 (l1.flatMap Leg.cells)) (hr2 : Rd w w.heap.size 3 A2 n2 (l2.flatMap Leg.cells)) (hn1 : n1 ≤ 1000) (hn2 : n2 ≤ 1000) (hg1 : ∀ x ∈ l1, inI x.amount) (hg2 : ∀ x ∈ l2, inI x.amount) (h1 : sidesOk l1 a = true) (h2 : sidesOk l2 a = true) (hd1 : owedD l1 a = D1) (hd2 : owedD l2 a = D2) (hi1 : inI D1) (hi2 : inI D2) (hi : inI (D1 - D2)) :
    Calls Try.prog 65 #[.slice A1 n1 c1, .slice A2 n2 c2, .int .i64 a] w fun e w' => e = .returned (.tuple #[.int .i64 (D1 - D2), .int .i64 0]) ∧ Below w.heap.size w w' := by
  obtain ⟨C1, hC1⟩ : ∃ C, Hid (owedC l1 a = C) := ⟨_, Lib.hid rfl⟩
  obtain ⟨C2, hC2⟩ : ∃ C, Hid (owedC l2 a = C) := ⟨_, Lib.hid rfl⟩
  have HS1 := Lib.hid (netSides_ok A1 n1 c1 l1 a D1 C1 w hr1 hn1 hg1 h1 hd1 hC1.out)
  have HS2 := Lib.hid (fun w' (hb : Below w.heap.size w w') => netSides_ok A2 n2 c2 l2 a D2 C2 w' (hr2.past hb) hn2 hg2 h2 hd2 hC2.out)
  have HSB := Lib.hid (fun w => sub_any D1 D2 hi1 hi2 w)
  rw [show amount (D1 - D2) = D1 - D2 from if_pos hi, show over (D1 - D2) = 0 from if_pos hi] at HSB
  clear hr1 hr2 hn1 hn2 hg1 hg2 h1 h2 hd1 hd2 hi1 hi2 hi
  go_enter Try.func65, Try.ntmps65
  go_wp2_with fail
  refine HS1.out.mono ?_
  rintro e w1 ⟨rfl, hb1⟩
  have HB1 := Lib.hid hb1
  clear hb1
  go_wp2_with fail
  refine (HS2.out _ HB1.out).mono ?_
  rintro e w2 ⟨rfl, hb2⟩
  have HB2 := Lib.hid (Below.next HB1.out hb2)
  clear hb2
  go_wp2_with fail
  refine (HSB.out _).mono ?_
  rintro e w3 ⟨rfl, rfl⟩
  go_wp2_with fail
  refine bodyPost_ret (v := .tuple #[.int .i64 (D1 - D2), .int .i64 0]) (by simp [results, Try.results65, go_sem]) rfl ⟨rfl, HB2.out⟩

set_option maxHeartbeats 2000000 in
set_option maxRecDepth 100000 in
theorem netBalances_many (A1 A2 A3 : Option Addr) (n1 n2 n3 cp1 cp2 cp3 : Nat) (cf : Conf) (A : Option Addr) (n c : Nat) (w : World) (hf : ¬ (fewB n1 n2 n3 = true ∧ n ≤ 30 ∧ wrongK cf = 8)) (hcr : fewB n1 n2 n3 = true → CfRd w A1 n1 A2 n2 A3 n3 cf) :
    Calls Try.prog 13 #[.agg #[.slice A1 n1 cp1, .slice A2 n2 cp2, .slice A3 n3 cp3, .int .i64 cf.line, .int .i64 cf.capital, .int .i64 cf.lead, .int .i64 cf.trades, .int .i64 cf.bids], .slice A n c] w fun e w' => e = .returned (.bool true) ∧ Below w.heap.size w w' := by
  obtain ⟨W, hW⟩ : ∃ W, Hid (w.alloc (.cells #[.slice A1 n1 cp1, .slice A2 n2 cp2, .slice A3 n3 cp3, .int .i64 cf.line, .int .i64 cf.capital, .int .i64 cf.lead, .int .i64 cf.trades, .int .i64 cf.bids] 89) = W) := ⟨_, Lib.hid rfl⟩
  have hB0 : Below w.heap.size w W := by rw [← hW.out]; exact (Below.refl _ _).alloc (Nat.le_refl _) _
  have bc0 : Blk W w.heap.size 89 #[.slice A1 n1 cp1, .slice A2 n2 cp2, .slice A3 n3 cp3, .int .i64 cf.line, .int .i64 cf.capital, .int .i64 cf.lead, .int .i64 cf.trades, .int .i64 cf.bids] := by
    rw [← hW.out]; exact Blk.new w _ _ _ rfl
  have HCB := Lib.hid bc0
  have e0 := (bc0).cell 0
  have e1 := (bc0).cell 1
  have e2 := (bc0).cell 2
  have e3 := (bc0).cell 3
  have e4 := (bc0).cell 4
  have e5 := (bc0).cell 5
  have e6 := (bc0).cell 6
  have e7 := (bc0).cell 7
  simp at e0 e1 e2 e3 e4 e5 e6 e7
  clear bc0
  obtain ⟨v, hv⟩ : ∃ v, Hid (fewB n1 n2 n3 = v) := ⟨_, Lib.hid rfl⟩
  obtain ⟨K, HK⟩ : ∃ K, Hid (wrongK cf = K) := ⟨_, Lib.hid rfl⟩
  have h8' := wrongK_le cf
  rw [HK.out] at h8'
  have HF := Lib.hid hf
  have HCR := Lib.hid hcr
  clear hf hcr
  go_enter Try.func13, Try.ntmps13
  go_upto_region 1 with fail
  rw [hW.out]
  go_wp2_with fail
  refine (few_any A1 A2 A3 n1 n2 n3 cp1 cp2 cp3 cf _).mono ?_
  rw [hv.out]
  rintro e w1 ⟨rfl, hb1⟩
  have hb2 := Below.past hB0 hb1 hB0.size
  have hs2 := hb2.size
  have hfin := HF.out
  rw [hv.out, HK.out] at hfin
  cases v with
  | false =>
    clear hfin e0 e1 e2 e3 e4 e5 e6 e7
    go_wp2_with fail
    refine (awake18 _).mono ?_
    rintro e w3 ⟨rfl, hb3⟩
    have hb4 := Below.past hb2 hb3 hs2
    go_wp2_with fail
    go_ret
    exact ⟨rfl, hb4⟩
  | true =>
    have bc1 := HCB.out.past hb1
    have HW := Lib.hid (refWrong_any A1 A2 A3 n1 n2 n3 cp1 cp2 cp3 cf w1 ((HCR.out hv.out).past hb2))
    rw [HK.out] at HW
    clear e0 e1 e2 e3 e4 e5 e6 e7
    by_cases h30 : n ≤ 30
    · have q0 : ¬ (30 : Int) < (n : Int) := by omega
      have h8 : ¬ K = 8 := fun h => hfin ⟨by simp, h30, h⟩
      have e0 := (bc1).cell 0
      have e1 := (bc1).cell 1
      have e2 := (bc1).cell 2
      have e3 := (bc1).cell 3
      have e4 := (bc1).cell 4
      have e5 := (bc1).cell 5
      have e6 := (bc1).cell 6
      have e7 := (bc1).cell 7
      simp at e0 e1 e2 e3 e4 e5 e6 e7
      clear bc1 hfin
      go_wp2_with fail
      refine HW.out.mono ?_
      rintro e w5 ⟨rfl, hb5⟩
      have hb6 := Below.past hb2 hb5 hs2
      have hs6 := hb6.size
      clear e0 e1 e2 e3 e4 e5 e6 e7
      have hw1 : ((word K).toList == []) = false := by rw [word_empty, decide_eq_false (by omega)]
      have hw2 : ((word K).toList.isEmpty) = ((word K).toList == []) := by cases (word K).toList <;> rfl
      rw [hw1] at hw2
      have hw3 : decide ((word K).toList = []) = ((word K).toList == []) := by cases (word K).toList <;> simp
      rw [hw1] at hw3
      simp at hw3
      clear hw1 h8 h8'
      go_wp2_with fail
      refine (awake18 _).mono ?_
      rintro e w3 ⟨rfl, hb3⟩
      have hb4 := Below.past hb6 hb3 hs6
      go_wp2_with fail
      go_ret
      exact ⟨rfl, hb4⟩
    · have q0 : (30 : Int) < (n : Int) := by omega
      clear bc1 hfin
      go_wp2_with fail
      refine (awake18 _).mono ?_
      rintro e w3 ⟨rfl, hb3⟩
      have hb4 := Below.past hb2 hb3 hs2
      go_wp2_with fail
      go_ret
      exact ⟨rfl, hb4⟩

set_option maxHeartbeats 8000000 in
set_option maxRecDepth 100000 in
theorem netBalances_few (A1 A2 A3 : Option Addr) (n1 n2 n3 cp1 cp2 cp3 : Nat) (cf : Conf) (A : Option Addr) (n c : Nat) (l : List Trad) (w : World) (hr : CfRd w A1 n1 A2 n2 A3 n3 cf) (hrl : Rd w w.heap.size 6 A n (l.flatMap trC)) (hg : ∀ t ∈ l, inI t.qty ∧ inI t.price) (hf : fewB n1 n2 n3 = true) (hn : n ≤ 30) (hk8 : wrongK cf = 8) (h20 : n1 ≤ 20 ∧ n2 ≤ 20) :
    Calls Try.prog 13 #[.agg #[.slice A1 n1 cp1, .slice A2 n2 cp2, .slice A3 n3 cp3, .int .i64 cf.line, .int .i64 cf.capital, .int .i64 cf.lead, .int .i64 cf.trades, .int .i64 cf.bids], .slice A n c] w fun e w' => e = .returned (.bool true) ∧ Below w.heap.size w w' := by
  obtain ⟨hm20, hs20⟩ := h20
  have HF := Lib.hid hf
  have HHK := Lib.hid hk8
  have HG := Lib.hid hg
  clear hf hk8 hg
  obtain ⟨W, hW⟩ : ∃ W, Hid (w.alloc (.cells #[.slice A1 n1 cp1, .slice A2 n2 cp2, .slice A3 n3 cp3, .int .i64 cf.line, .int .i64 cf.capital, .int .i64 cf.lead, .int .i64 cf.trades, .int .i64 cf.bids] 89) = W) := ⟨_, Lib.hid rfl⟩
  have hB0 : Below w.heap.size w W := by rw [← hW.out]; exact (Below.refl _ _).alloc (Nat.le_refl _) _
  have bc0 : Blk W w.heap.size 89 #[.slice A1 n1 cp1, .slice A2 n2 cp2, .slice A3 n3 cp3, .int .i64 cf.line, .int .i64 cf.capital, .int .i64 cf.lead, .int .i64 cf.trades, .int .i64 cf.bids] := by
    rw [← hW.out]; exact Blk.new w _ _ _ rfl
  have HCB := Lib.hid bc0
  have HR0 := Lib.hid (hr.past hB0)
  have HRL := Lib.hid (hrl.past hB0)
  have q0 : ¬ (30 : Int) < (n : Int) := by omega
  have e0 := (bc0).cell 0
  have e1 := (bc0).cell 1
  have e2 := (bc0).cell 2
  have e3 := (bc0).cell 3
  have e4 := (bc0).cell 4
  have e5 := (bc0).cell 5
  have e6 := (bc0).cell 6
  have e7 := (bc0).cell 7
  simp at e0 e1 e2 e3 e4 e5 e6 e7
  clear bc0 hr hrl
  go_enter Try.func13, Try.ntmps13
  go_upto_region 1 with fail
  rw [hW.out]
  go_wp2_with fail
  refine (few_any A1 A2 A3 n1 n2 n3 cp1 cp2 cp3 cf _).mono ?_
  rw [HF.out]
  rintro e w1 ⟨rfl, hb1⟩
  have bc1 := HCB.out.past hb1
  have HWr := Lib.hid (refWrong_any A1 A2 A3 n1 n2 n3 cp1 cp2 cp3 cf w1 (HR0.out.past hb1))
  rw [HHK.out] at HWr
  have HD1 := Lib.hid hb1
  clear e0 e1 e2 e3 e4 e5 e6 e7
  have e0 := (bc1).cell 0
  have e1 := (bc1).cell 1
  have e2 := (bc1).cell 2
  have e3 := (bc1).cell 3
  have e4 := (bc1).cell 4
  have e5 := (bc1).cell 5
  have e6 := (bc1).cell 6
  have e7 := (bc1).cell 7
  simp at e0 e1 e2 e3 e4 e5 e6 e7
  clear bc1 hb1
  go_wp2_with fail
  refine HWr.out.mono ?_
  rintro e w2 ⟨rfl, hb2⟩
  have HD2 := Lib.hid (Below.next HD1.out hb2)
  have hw1 : (word 8).toList = [] := by have h := word_empty 8; simpa using h
  have hw2 : (word 8) = ⟨#[]⟩ := rfl
  have bc2 := HCB.out.past HD2.out
  clear e0 e1 e2 e3 e4 e5 e6 e7 hb2
  have e0 := (bc2).cell 0
  have e1 := (bc2).cell 1
  have e2 := (bc2).cell 2
  have e3 := (bc2).cell 3
  have e4 := (bc2).cell 4
  have e5 := (bc2).cell 5
  have e6 := (bc2).cell 6
  have e7 := (bc2).cell 7
  simp at e0 e1 e2 e3 e4 e5 e6 e7
  clear bc2
  have HLO := Lib.hid (legsOf18_any A1 A2 A3 n1 n2 n3 cp1 cp2 cp3 cf A n c l w2 (HRL.out.past HD2.out) hn HG.out)
  unfold LegsOfPost at HLO
  go_wp2_with fail
  refine HLO.out.mono ?_
  rintro e w3 ⟨v, ts, rfl, hacc, htl, hown, hb3⟩
  obtain ⟨AL, cL, rfl⟩ := own_form hown
  have HD3 := Lib.hid (Below.next HD2.out hb3)
  have HA := Lib.hid hacc
  have hll : (legsA ts).length ≤ 120 := by rw [legsA_len]; omega
  have hrd := Rd.of_own hown
  obtain ⟨m, hm⟩ : ∃ m, Hid ((legsA ts).length = m) := ⟨_, Lib.hid rfl⟩
  rw [hm.out] at hll hrd
  have HNT := Lib.hid (nets_any A1 A2 A3 n1 n2 n3 cp1 cp2 cp3 cf AL m cL (legsA ts) w3 (HR0.out.past HD3.out) hrd (by omega) hacc.inn)
  unfold NetsPost at HNT
  rw [hacc.net.1, hacc.net.2] at HNT
  have hNl := netR_len n1 n2 (legsA ts) hm20 hs20
  rw [hacc.net.2] at hNl
  have HL3 := Lib.hid hrd
  have bc3 := HCB.out.past HD3.out
  rw [hm.out]
  clear e0 e1 e2 e3 e4 e5 e6 e7 hw1 hw2 q0 hown hb3 hrd HLO hacc
  have e0 := (bc3).cell 0
  have e1 := (bc3).cell 1
  have e2 := (bc3).cell 2
  have e3 := (bc3).cell 3
  have e4 := (bc3).cell 4
  have e5 := (bc3).cell 5
  have e6 := (bc3).cell 6
  have e7 := (bc3).cell 7
  simp at e0 e1 e2 e3 e4 e5 e6 e7
  clear bc3
  go_wp2_with fail
  refine HNT.out.mono ?_
  rintro e w4 ⟨vn, rfl, hon, hb4⟩
  obtain ⟨AN, cN, rfl⟩ := own_form hon
  have HD4 := Lib.hid (Below.next HD3.out hb4)
  have HL4 := Lib.hid (HL3.out.past hb4)
  have hrn := Rd.of_own hon
  obtain ⟨N, hN⟩ : ∃ N, Hid (outL (legsA ts) (gridS n1 n2) = N) := ⟨_, Lib.hid rfl⟩
  obtain ⟨p, hp⟩ : ∃ p, Hid (N.length = p) := ⟨_, Lib.hid rfl⟩
  rw [hN.out] at hrn hNl
  rw [hp.out] at hrn hNl
  rw [hN.out, hp.out]
  have HN4 := Lib.hid hrn
  clear e0 e1 e2 e3 e4 e5 e6 e7 hon hb4 hrn HNT
  go_wp2_with fail
  go_loopw [8] (fun i wr => ∃ a : Nat, a ≤ n2 + 1 ∧ i = .int .i64 a ∧ Hid (Below W.heap.size W wr) ∧ Hid (Rd wr wr.heap.size 3 AL m ((legsA ts).flatMap Leg.cells)) ∧ Hid (Rd wr wr.heap.size 3 AN p (N.flatMap Leg.cells))) (fun i _ => n2 + 1 - (intOf i).toNat)
  case atStart => exact ⟨0, by omega, rfl, HD4, HL4, HN4⟩
  case round =>
    obtain ⟨a, ha, rfl, HD, HL, HNR⟩ := hrel
    have bcr := HCB.out.past HD.out
    have e1 := bcr.cell 1
    simp at e1
    clear bcr
    by_cases hlt : a ≤ n2
    · have hlz : (a : Int) ≤ (n2 : Int) := by omega
      obtain ⟨D, hD⟩ : ∃ D, Hid (owedD N a = D) := ⟨_, Lib.hid rfl⟩
      obtain ⟨D1, hD1⟩ : ∃ D, Hid (owedD (legsA ts) a = D) := ⟨_, Lib.hid rfl⟩
      have hev : owedC N a = D := by rw [← hD.out, ← hN.out]; exact (HA.out.even a).symm
      have hsv := HA.out.saved (a : Int)
      rw [hN.out, hD.out, hD1.out] at hsv
      have hso := HA.out.netsides (a : Int)
      rw [hN.out] at hso
      have hni := HA.out.netin
      rw [hN.out] at hni
      have HNI := Lib.hid hni
      have HSI := Lib.hid (netSides_ok AN p cN N a D D wr HNR.out (by omega) hni hso hD.out hev)
      have hiD : inI D := by
        have h := hso; unfold sidesOk at h
        rw [hD.out] at h
        simp at h; exact h.1
      have hiD1 : inI D1 := by
        have h := HA.out.sides (a : Int); unfold sidesOk at h
        rw [hD1.out] at h
        simp at h; exact h.1
      have HSV := Lib.hid (fun w' (hb : Below wr.heap.size wr w') => netSaved_ok AL m cL (legsA ts) AN p cN N a D1 D w' (HL.out.past hb) (HNR.out.past hb) (by omega) (by omega) HA.out.inn HNI.out (HA.out.sides _) hso hD1.out hD.out hiD1 hiD (by unfold inI; omega))
      have q1 : (D != D) = false := by simp
      have q2 : ¬ (D1 - D) < 0 := by omega
      clear hev hsv hso hni hiD hiD1
      go_wp2_with fail
      refine HSI.out.mono ?_
      rintro e w5 ⟨rfl, hb5⟩
      have HB5 := Lib.hid hb5
      clear hb5 e1
      go_wp2_with fail
      refine (HSV.out _ HB5.out).mono ?_
      rintro e w6 ⟨rfl, hb6⟩
      have HB6 := Lib.hid (Below.next HB5.out hb6)
      have HD6 := Lib.hid (Below.next HD.out HB6.out)
      have HL6 := Lib.hid (HL.out.past HB6.out)
      have HN6 := Lib.hid (HNR.out.past HB6.out)
      clear hb6 HSI HSV HL HNR HB5 HB6
      go_wp2_with fail
      clear q1 q2
      go_loopw [14] (fun i w7 => ∃ b : Nat, 1 ≤ b ∧ b ≤ n1 + 1 ∧ i = .int .i64 b ∧ Hid (Below W.heap.size W w7) ∧ Hid (Rd w7 w7.heap.size 3 AL m ((legsA ts).flatMap Leg.cells)) ∧ Hid (Rd w7 w7.heap.size 3 AN p (N.flatMap Leg.cells))) (fun i _ => n1 + 1 - (intOf i).toNat)
      case atStart => exact ⟨1, Nat.le_refl _, by omega, rfl, HD6, HL6, HN6⟩
      case round =>
        obtain ⟨b, hb1, hbn, rfl, HE, HM, HNM⟩ := hrel
        have bcr := HCB.out.past HE.out
        have e0 := bcr.cell 0
        simp at e0
        clear bcr
        by_cases hbl : b ≤ n1
        · have hbz : (b : Int) ≤ (n1 : Int) := by omega
          have hof := HA.out.of (m := b) (a := a) (by omega) (by omega) (by omega) (by omega)
          rw [hN.out] at hof
          have HOW := Lib.hid (refOwed_any AL m cL (legsA ts) b a wr HM.out (by omega) HA.out.inn)
          obtain ⟨S, hS⟩ : ∃ S, Hid ((owedL (legsA ts) b a).sum = S) := ⟨_, Lib.hid rfl⟩
          rw [hS.out] at HOW hof
          rw [show amount S = S from if_pos hof.2, show over S = 0 from if_pos hof.2] at HOW
          have HOF := Lib.hid (fun w' (hb : Below wr.heap.size wr w') => netOf_any AN p cN N b a w' (HNM.out.past hb) (by omega))
          rw [hof.1] at HOF
          have q3 : (S != S) = false := by simp
          clear hof
          go_wp2_with fail
          refine HOW.out.mono ?_
          rintro e w8 ⟨rfl, hb8⟩
          have HB8 := Lib.hid hb8
          clear hb8 e0
          go_wp2_with fail
          refine (HOF.out _ HB8.out).mono ?_
          rintro e w9 ⟨rfl, hb9⟩
          have HB9 := Lib.hid (Below.next HB8.out hb9)
          have HD9 := Lib.hid (Below.next HE.out HB9.out)
          have HL9 := Lib.hid (HM.out.past HB9.out)
          have HN9 := Lib.hid (HNM.out.past HB9.out)
          clear hb9
          go_wp2_with fail
          go_roundw
          case rel => exact ⟨b + 1, by omega, by omega, by go_num, HD9, HL9, HN9⟩
          case measure => simp [intOf]; omega
        · have hbz : ¬ (b : Int) ≤ (n1 : Int) := by omega
          go_wp2_with fail
          go_roundw
          case rel => exact ⟨a + 1, by omega, by go_num, HE, HM, HNM⟩
          case measure => simp [intOf]; omega
    · have hlz : ¬ (a : Int) ≤ (n2 : Int) := by omega
      go_wp2_with fail
      refine (awake18 _).mono ?_
      rintro e w9 ⟨rfl, hb9⟩
      have hD9 := Below.next HD.out hb9
      go_wp2_with fail
      go_ret
      exact ⟨rfl, Below.next' hB0 hD9 (Nat.le_refl _)⟩
end Go.Proofs.Ytfnhffcjhdeleaa
