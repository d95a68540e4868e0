import Derived.Test.YtjkabmijkbpodabAuctG
namespace Go.Proofs.Ytjkabmijkbpodab
open Go.RowKit

theorem qs_nonneg (r : List Fill) (h : ∀ f ∈ r, 0 ≤ f.qty ∧ 0 ≤ f.cost) : 0 ≤ qs r ∧ 0 ≤ cs r := by
  induction r with
  | nil => simp [qs, cs]
  | cons x r ih =>
    have := ih fun f hf => h f (List.mem_cons_of_mem _ hf)
    have := h x (List.mem_cons_self ..)
    simp only [qs, cs, List.map_cons, List.sum_cons] at *; omega
theorem qs_append (r s : List Fill) : qs (r ++ s) = qs r + qs s ∧ cs (r ++ s) = cs r + cs s := by simp [qs, cs]
theorem qs_take (r : List Fill) (h : ∀ f ∈ r, 0 ≤ f.qty ∧ 0 ≤ f.cost) (a : Nat) : 0 ≤ qs (r.take a) ∧ qs (r.take a) ≤ qs r ∧ 0 ≤ cs (r.take a) ∧ cs (r.take a) ≤ cs r := by
  have h1 := qs_nonneg (r.take a) fun f hf => h f (List.mem_of_mem_take hf)
  have h2 := qs_nonneg (r.drop a) fun f hf => h f (List.mem_of_mem_drop hf)
  have h3 := qs_append (r.take a) (r.drop a)
  rw [List.take_append_drop] at h3
  omega

def WantRel (w : World) (bs : List Bid) (R : List Fill) (T : List Int) (n : Nat) (sa su sc si : Value) (wr : World) : Prop :=
  ∃ (k a : Nat) (lk mk : Int), k ≤ n ∧ si = .int .i64 k ∧ sa = .int .i64 a ∧ a ≤ k ∧ su = .int .i64 (qs (R.take a)) ∧ sc = .int .i64 (cs (R.take a)) ∧ Wants R T bs k a lk mk ∧ Below w.heap.size w wr

set_option maxRecDepth 100000 in
set_option maxHeartbeats 4000000 in
theorem runs_good (A : Option Addr) (n c : Nat) (bs : List Bid) (l m : Int) (w : World) (hr : Rd w w.heap.size 5 A n (bs.flatMap Bid.cells)) (hn : n ≤ 50) (hl : 0 ≤ l) (hm : 0 ≤ m) (hg : bs.any Bid.bad = false)
    (hl' : l ≤ 9223372036854775807) (hm' : m ≤ 9223372036854775807) (hp : ∀ b ∈ bs, inI b.price) :
    Calls Try.prog 3 #[.slice A n c, .int .i64 l, .int .i64 m] w fun e w' => e = .returned (.bool true) ∧ Below w.heap.size w w' := by
  have HL := Lib.hid (hr.len Bid.cells_len (by omega))
  have hbd := runA_bd bs l m hg hl hm
  have HC0 := Lib.hid (show checkA bs l 0 = 0 by unfold checkA; rw [if_neg (by have := HL.out; omega), if_neg (by simp [hg]; omega)])
  have HG := Lib.hid hg
  have HP := Lib.hid hp
  clear hg hp
  have HS := Lib.hid (Wants.start bs l m hl hm)
  have q50 : decide ((50 : Int) < n) = false := dec_f (by omega)
  have qm : decide (m < 0) = false := dec_f (by omega)
  obtain ⟨wn, hwn⟩ : ∃ z, Hid (worstN bs l = z) := ⟨_, rfl⟩
  obtain ⟨we, hwe⟩ : ∃ z, Hid (worstE bs l = z) := ⟨_, rfl⟩
  go_enter Try.func3, Try.ntmps3
  go_wp2_with fail
  refine (run_any A n c bs l m _ hr (by omega) hl hm HG.out hl' hm').mono ?_
  generalize hR : runA bs l m = R at *
  rintro e w1 ⟨v, rfl, hown, hb1⟩
  have HR := Lib.hid hR
  clear hR
  obtain ⟨q0, q1, c0, c1, _, hpos⟩ := hbd
  have hRl : R.length ≤ 50 := by have := runA_len bs l m; rw [HR.out] at this; have := HL.out; omega
  have HQ := Lib.hid (show sumW (R.map Fill.qty) = qs R from sumW_eq _ (by intro x hx; obtain ⟨f, hf, rfl⟩ := List.mem_map.1 hx; exact (hpos f hf).1) (by show qs R ≤ _; omega))
  have HC := Lib.hid (show sumW (R.map Fill.cost) = cs R from sumW_eq _ (by intro x hx; obtain ⟨f, hf, rfl⟩ := List.mem_map.1 hx; exact (hpos f hf).2) (by show cs R ≤ _; omega))
  have HPOS := Lib.hid hpos
  clear hpos
  obtain ⟨A', cap, rfl⟩ := own_form hown
  have hrd := Rd.of_own hown
  clear hown
  have hr1 := hr.past hb1
  have hs1 := hb1.size
  go_wp2_with fail
  refine (worst_any _ _ _ bs l _ hr1 (by omega) hl hl' HG.out HP.out).mono ?_
  rw [hwn.out, hwe.out]
  rintro e w2 ⟨rfl, hb2⟩
  have hr2 := hr1.past hb2
  have hrd2 := hrd.past hb2
  have hB2 := Below.past hb1 hb2 hs1
  go_wp2_with fail
  refine (refWrongA_any _ _ _ bs l 0 _ hr2 (by omega)).mono ?_
  rw [HC0.out]
  rintro e w' ⟨rfl, rfl⟩
  go_wp2_with fail
  refine (refWorst_any _ _ _ bs l _ hr2 (by omega) hl hl' HG.out HP.out).mono ?_
  rw [hwn.out, hwe.out]
  rintro e w3 ⟨rfl, hb3⟩
  have hr3 := hr2.past hb3
  have hrd3 := hrd2.past hb3
  have hB3 := Below.past hB2 hb3 hB2.size
  go_wp2_with fail
  refine (refRun_any _ _ _ bs l m _ hr3 (by omega) hl hm hl' hm' HG.out).mono ?_
  rintro e w4 ⟨v2, rfl, hownT, hb4⟩
  obtain ⟨T, hT⟩ : ∃ T, Hid (takes bs l m = T) := ⟨_, rfl⟩
  rw [hT.out] at HS hownT
  have HTL : Hid (T.length = n) := by rw [← hT.out, takes_len]; exact HL.out
  obtain ⟨B', capT, rfl⟩ := own_form hownT
  have hrT := Rd.of_own hownT
  have hr4 := hr3.past hb4
  have hrd4 := hrd3.past hb4
  have hB4 := Below.past hB3 hb4 hB3.size
  have hs4 := hB4.size
  clear hownT hr1 hr2 hr3 hrd hrd2 hrd3 hb1 hb2 hb3 hb4 hB2 hB3 hr
  go_wp2_with fail
  go_loopw [14, 15, 16, 17] (WantRel w4 bs R T n) (fun _ _ _ i _ => n - (intOf i).toNat)
  case atStart => exact ⟨0, 0, l, m, Nat.zero_le _, rfl, rfl, Nat.le_refl _, rfl, rfl, HS.out, Below.refl _ _⟩
  case round =>
    obtain ⟨k, a, lk, mk, hk, rfl, rfl, hak, rfl, rfl, hW, hb⟩ := hrel
    have hs := hb.size
    by_cases hlt : k < n
    · have hg_f : bs[k]? = some (bs[k]'(by have := HL.out; omega)) := List.getElem?_eq_getElem _
      obtain ⟨b_f, off_f, rfl, hbb_f, hc_f⟩ := (hr4.below hb).elem Bid.cells_len hg_f hlt
      have HT_f := Lib.hid (show bs.take (k + 1) = bs.take k ++ [(bs[k]'(by have := HL.out; omega))] from List.take_succ_eq_append_getElem (by have := HL.out; omega))
      have HD_f := Lib.hid (show bs.drop k = (bs[k]'(by have := HL.out; omega)) :: bs.drop (k + 1) from List.drop_eq_getElem_cons (by have := HL.out; omega))
      have HM_f := Lib.hid (show (bs[k]'(by have := HL.out; omega)) ∈ bs from List.getElem_mem _)
      generalize (bs[k]'(by have := HL.out; omega)) = f at *
      have c0 := hc_f 0 _ rfl
      have c1 := hc_f 1 _ rfl
      have c2 := hc_f 2 _ rfl
      have c3 := hc_f 3 _ rfl
      have c4 := hc_f 4 _ rfl
      clear hc_f hg_f
      simp only [Nat.add_zero] at c0
      obtain ⟨x, hx, hcase⟩ := hW.step HG.out HD_f.out
      obtain ⟨b2, off2, hA2, hbb2, hc2⟩ := (hrT.below hb).elem i64Cells_len hx hlt
      subst hA2
      have d0 := hc2 0 _ rfl
      simp only [Nat.add_zero, Nat.mul_one] at d0
      clear hc2 hx hW
      rcases hcase with ⟨hx0, lk', mk', hN⟩ | ⟨hx0, hRa, lk', mk', hN⟩
      · have HN := Lib.hid hN
        have qx : (x == 0) = true := by simp [hx0]
        clear hN hx0
        go_wp2_with fail
        go_roundw
        case rel => exact ⟨k + 1, a, lk', mk', by omega, by go_num, rfl, by omega, rfl, rfl, HN.out, hb⟩
        case measure => simp [intOf]; omega
      · have HN := Lib.hid hN
        have qx : (x == 0) = false := by simp [hx0]
        have hal : a < R.length := (List.getElem?_eq_some_iff.1 hRa).1
        obtain ⟨b3, off3, hA3, hbb3, hc3⟩ := (hrd4.below hb).elem Fill.cells_len hRa hal
        subst hA3
        have g0 := hc3 0 _ rfl
        have g1 := hc3 1 _ rfl
        have g2 := hc3 2 _ rfl
        have g3 := hc3 3 _ rfl
        have g4 := hc3 4 _ rfl
        have g5 := hc3 5 _ rfl
        have g6 := hc3 6 _ rfl
        simp only [Nat.add_zero] at g0
        have hget : R[a]'hal = ⟨f, x, x * f.price⟩ := by have := hRa; rw [List.getElem?_eq_getElem hal] at this; exact Option.some.inj this
        have hsnoc : R.take (a + 1) = R.take a ++ [⟨f, x, x * f.price⟩] := by rw [List.take_succ_eq_append_getElem hal, hget]
        have hb1 := qs_take R HPOS.out a
        have hb2 := qs_take R HPOS.out (a + 1)
        have e1 : qs (R.take (a + 1)) = qs (R.take a) + x := by rw [hsnoc, (qs_append _ _).1]; simp [qs]
        have e2 : cs (R.take (a + 1)) = cs (R.take a) + x * f.price := by rw [hsnoc, (qs_append _ _).2]; simp [cs]
        rw [e1, e2] at hb2
        have HE1 := Lib.hid e1
        have HE2 := Lib.hid e2
        clear hN hx0 hc3 hRa hget hsnoc e1 e2
        have qal : decide ((R.length : Int) ≤ a) = false := dec_f (by omega)
        generalize qs (R.take a) = u at *
        generalize cs (R.take a) = z at *
        obtain ⟨p, hpx⟩ : ∃ p, Hid (x * f.price = p) := ⟨_, rfl⟩
        have hpx2 := hpx.out
        rw [hpx2] at hb2 g6 HE2
        have wp : IntKind.i64.wrap p = p := IntWalk.i64_in _ (by omega)
        have wu : IntKind.i64.wrap (u + x) = u + x := IntWalk.i64_in _ (by omega)
        have wz : IntKind.i64.wrap (z + p) = z + p := IntWalk.i64_in _ (by omega)
        go_wp2_with fail
        go_quiet (fail)
        go_wp2_with fail
        go_quiet (fail)
        clear wp wu wz
        go_wp2_with fail
        go_roundw
        case rel => exact ⟨k + 1, a + 1, lk', mk', by omega, by go_num, by go_num, by omega, by rw [HE1.out], by rw [HE2.out], HN.out, below_drewN hb _⟩
        case measure => simp [intOf]; omega
    · have hdone := hW.done (by have := HL.out; omega)
      have hall : R.take a = R := by rw [hdone]; exact List.take_length ..
      rw [hall]
      have qa : ((a : Int) == R.length) = true := by simp [hdone]
      clear hW hdone hall
      have hrdr := hrd4.past hb
      generalize hQ : qs R = Q at *
      generalize hK : cs R = K at *
      have HQQ := Lib.hid hQ
      have HKK := Lib.hid hK
      clear hQ hK
      go_wp2_with fail
      refine (awake25 _).mono ?_
      rintro e w6 ⟨rfl, hb6⟩
      go_wp2_with fail
      refine (units_any _ _ _ R _ (hrdr.past hb6) (by omega)).mono ?_
      rw [HQ.out]
      rintro e w7 ⟨rfl, hb7⟩
      go_wp2_with fail
      refine (cost_any _ _ _ R _ ((hrdr.past hb6).past hb7) (by omega)).mono ?_
      rw [HC.out]
      rintro e w8 ⟨rfl, hb8⟩
      go_wp2_with fail
      go_ret
      have k1 := Below.past hB4 hb hs4
      have k2 := Below.past k1 hb6 k1.size
      have k3 := Below.past k2 hb7 k2.size
      exact ⟨by simp, Below.past k3 hb8 k3.size⟩

theorem check_less (bs : List Bid) (l m : Int) (hn : bs.length ≤ 1024) (h : checkA bs l 0 ≠ 0) : checkA bs l m ≠ 0 := by
  unfold checkA at h ⊢
  rw [if_neg (by omega)] at h ⊢
  by_cases hc : l < 0 ∨ (0 : Int) < 0 ∨ bs.any Bid.bad = true
  · rw [if_pos (by rcases hc with h | h | h; exact .inl h; omega; exact .inr (.inr h))]; omega
  · rw [if_neg hc] at h; exact absurd rfl h

set_option maxRecDepth 100000 in
set_option maxHeartbeats 2000000 in
theorem runs_wrong (A : Option Addr) (n c : Nat) (bs : List Bid) (l m : Int) (w : World) (hr : Rd w w.heap.size 5 A n (bs.flatMap Bid.cells)) (hn : n ≤ 50) (hc : checkA bs l 0 ≠ 0) :
    Calls Try.prog 3 #[.slice A n c, .int .i64 l, .int .i64 m] w fun e w' => e = .returned (.bool true) ∧ Below w.heap.size w w' := by
  have hlen := hr.len Bid.cells_len (by omega)
  have hc2 := check_less bs l m (by omega) hc
  have R1 := Lib.hid (run_bad A n c bs l m w hr (by omega) hc2)
  have q50 : decide ((50 : Int) < n) = false := dec_f (by omega)
  obtain ⟨x, hx⟩ : ∃ x, Hid (checkA bs l 0 = x) := ⟨_, rfl⟩
  obtain ⟨y, hy⟩ : ∃ x, Hid (checkA bs l m = x) := ⟨_, rfl⟩
  have HC := Lib.hid hc
  have qx : (x != 0) = true := by rw [← hx.out]; simpa using hc
  rw [hy.out] at R1
  clear hc hc2 hlen
  go_enter Try.func3, Try.ntmps3
  go_wp2_with fail
  refine (R1.out).mono ?_
  rintro e w1 ⟨rfl, hb1⟩
  have hr1 := hr.past hb1
  go_wp2_with fail
  refine (worst_bad _ _ _ bs l _ hr1 (by omega) HC.out).mono ?_
  rw [hx.out]
  rintro e w2 ⟨rfl, hb2⟩
  have hr2 := hr1.past hb2
  have hB2 := Below.past hb1 hb2 hb1.size
  go_wp2_with fail
  refine (refWrongA_any _ _ _ bs l 0 _ hr2 (by omega)).mono ?_
  rw [hx.out]
  rintro e w' ⟨rfl, rfl⟩
  go_wp2_with fail
  refine (awake25 _).mono ?_
  rintro e w6 ⟨rfl, hb6⟩
  have hr6 := hr2.past hb6
  go_wp2_with fail
  refine (refWrongA_any _ _ _ bs l m _ hr6 (by omega)).mono ?_
  rw [hy.out]
  rintro e w' ⟨rfl, rfl⟩
  go_wp2_with fail
  refine (refWrongA_any _ _ _ bs l 0 _ hr6 (by omega)).mono ?_
  rw [hx.out]
  rintro e w' ⟨rfl, rfl⟩
  go_wp2_with fail
  go_ret
  exact ⟨by simp, Below.past hB2 hb6 hB2.size⟩

set_option maxRecDepth 100000 in
set_option maxHeartbeats 2000000 in
theorem runs_poor (A : Option Addr) (n c : Nat) (bs : List Bid) (l m : Int) (w : World) (hr : Rd w w.heap.size 5 A n (bs.flatMap Bid.cells)) (hn : n ≤ 50) (hc : checkA bs l 0 = 0) (hm : m < 0) (hl' : l ≤ 9223372036854775807) (hp : ∀ b ∈ bs, inI b.price) :
    Calls Try.prog 3 #[.slice A n c, .int .i64 l, .int .i64 m] w fun e w' => e = .returned (.bool true) ∧ Below w.heap.size w w' := by
  have hlen := hr.len Bid.cells_len (by omega)
  have hy : checkA bs l m = 1 := by unfold checkA; rw [if_neg (by omega), if_pos (.inr (.inl hm))]
  have hgl : 0 ≤ l ∧ bs.any Bid.bad = false := by
    have h2 := hc
    unfold checkA at h2
    rw [if_neg (by omega)] at h2
    by_cases h : l < 0 ∨ (0 : Int) < 0 ∨ bs.any Bid.bad = true
    · rw [if_pos h] at h2; cases h2
    · simp only [not_or, Bool.not_eq_true] at h; exact ⟨by omega, h.2.2⟩
  obtain ⟨hl, hg⟩ := hgl
  have R1 := Lib.hid (run_bad A n c bs l m w hr (by omega) (by rw [hy]; omega))
  rw [hy] at R1
  have q50 : decide ((50 : Int) < n) = false := dec_f (by omega)
  have qm := dec_t hm
  have HC := Lib.hid hc
  have HG := Lib.hid hg
  have HP := Lib.hid hp
  obtain ⟨wn, hwn⟩ : ∃ z, Hid (worstN bs l = z) := ⟨_, rfl⟩
  obtain ⟨we, hwe⟩ : ∃ z, Hid (worstE bs l = z) := ⟨_, rfl⟩
  clear hc hlen hy hg hp
  go_enter Try.func3, Try.ntmps3
  go_wp2_with fail
  refine (R1.out).mono ?_
  rintro e w1 ⟨rfl, hb1⟩
  have hr1 := hr.past hb1
  go_wp2_with fail
  refine (worst_any _ _ _ bs l _ hr1 (by omega) hl hl' HG.out HP.out).mono ?_
  rw [hwn.out, hwe.out]
  rintro e w2 ⟨rfl, hb2⟩
  have hr2 := hr1.past hb2
  have hB2 := Below.past hb1 hb2 hb1.size
  go_wp2_with fail
  refine (refWrongA_any _ _ _ bs l 0 _ hr2 (by omega)).mono ?_
  rw [HC.out]
  rintro e w' ⟨rfl, rfl⟩
  go_wp2_with fail
  refine (refWorst_any _ _ _ bs l _ hr2 (by omega) hl hl' HG.out HP.out).mono ?_
  rw [hwn.out, hwe.out]
  rintro e w3 ⟨rfl, hb3⟩
  have hB3 := Below.past hB2 hb3 hB2.size
  go_wp2_with fail
  refine (awake25 _).mono ?_
  rintro e w6 ⟨rfl, hb6⟩
  go_wp2_with fail
  go_ret
  exact ⟨rfl, Below.past hB3 hb6 hB3.size⟩

set_option maxRecDepth 100000 in
set_option maxHeartbeats 1000000 in
theorem runs_long (A : Option Addr) (n c : Nat) (l m : Int) (w : World) (hn : 50 < n) :
    Calls Try.prog 3 #[.slice A n c, .int .i64 l, .int .i64 m] w fun e w' => e = .returned (.bool true) ∧ Below w.heap.size w w' := by
  have h0 : decide ((50 : Int) < n) = true := dec_t (by omega)
  go_enter Try.func3, Try.ntmps3
  go_wp2_with fail
  refine (awake25 _).mono ?_
  rintro e w2 ⟨rfl, hb2⟩
  go_wp2_with fail
  go_ret
  exact ⟨rfl, hb2⟩
end Go.Proofs.Ytjkabmijkbpodab
