import Derived.Test.YtelbolhckhdioaaTabZ
import Derived.IntWalk
import Derived.StillTailTactics
namespace Go.Proofs.Ytelbolhckhdioaa.TTbI
open Go.RowKit Go.Proofs.Ytelbolhckhdioaa

/-! ### Rows by rising numbers (plain) -/
structure RowT where
  id : Int
  v : Int
def RowT.cells (r : RowT) : List Value := [.int .i64 r.id, .int .i64 r.v]
theorem RowT.cells_len (r : RowT) : r.cells.length = 2 := rfl
def RisT (S : List RowT) : Prop := ∀ (i j : Nat) (a b : RowT), i < j → S[i]? = some a → S[j]? = some b → a.id < b.id
/-- Where a number's row stands, or would stand; whether it is there. -/
def posT (S : List RowT) (id : Int) : Nat := S.countP fun r => decide (r.id < id)
def isT (S : List RowT) (id : Int) : Bool := S.any fun r => decide (r.id = id)
structure BisT (S : List RowT) (id : Int) (i j : Nat) : Prop where
  ij : i ≤ j
  len : j ≤ S.length
  lo : ∀ t r, t < i → S[t]? = some r → r.id < id
  hi : ∀ t r, j ≤ t → S[t]? = some r → id ≤ r.id
theorem BisT.start (S : List RowT) (id : Int) : BisT S id 0 S.length :=
  ⟨Nat.zero_le _, Nat.le_refl _, fun t r h => absurd h (Nat.not_lt_zero _), fun t r h e => by rw [List.getElem?_eq_none h] at e; cases e⟩
theorem BisT.up {S : List RowT} {id : Int} {i j h : Nat} {r : RowT} (H : BisT S id i j) (hr : RisT S) (hj : h < j) (e : S[h]? = some r) (hl : r.id < id) : BisT S id (h + 1) j :=
  ⟨hj, H.len, fun t x ht ex => by
    rcases Nat.lt_or_ge t h with h1 | h1
    · have := hr t h x r h1 ex e; omega
    · obtain rfl : t = h := by omega
      rw [e] at ex; cases ex; exact hl, H.hi⟩
theorem BisT.down {S : List RowT} {id : Int} {i j h : Nat} {r : RowT} (H : BisT S id i j) (hr : RisT S) (hi : i ≤ h) (hj : h < j) (e : S[h]? = some r) (hl : ¬ r.id < id) : BisT S id i h :=
  ⟨hi, by have := H.len; omega, H.lo, fun t x ht ex => by
    rcases Nat.lt_or_ge h t with h1 | h1
    · have := hr h t r x h1 e ex; omega
    · obtain rfl : t = h := by omega
      rw [e] at ex; cases ex; omega⟩
theorem BisT.pos {S : List RowT} {id : Int} {i : Nat} (H : BisT S id i i) : posT S id = i := by
  unfold posT
  rw [← List.take_append_drop i S, List.countP_append]
  have h1 : (S.take i).countP (fun r => decide (r.id < id)) = i := by
    rw [List.countP_eq_length.2 (fun r hr => ?_), List.length_take]
    · have := H.len; omega
    · obtain ⟨t, ht, e⟩ := List.mem_iff_getElem.1 hr
      rw [List.length_take] at ht
      rw [List.getElem_take] at e
      simpa using H.lo t r (by omega) (by rw [List.getElem?_eq_getElem (by omega), e])
  have h2 : (S.drop i).countP (fun r => decide (r.id < id)) = 0 := by
    rw [List.countP_eq_zero]
    intro r hr
    obtain ⟨t, ht, e⟩ := List.mem_iff_getElem.1 hr
    rw [List.length_drop] at ht
    rw [List.getElem_drop] at e
    have := H.hi (i + t) r (by omega) (by rw [List.getElem?_eq_getElem (by omega), e])
    simp; omega
  omega
theorem BisT.found {S : List RowT} {id : Int} {i : Nat} (H : BisT S id i i) (hr : RisT S) : isT S id = match S[i]? with | some r => decide (r.id = id) | none => false := by
  rw [Bool.eq_iff_iff]
  unfold isT
  rw [List.any_eq_true]
  constructor
  · rintro ⟨r, hm, he⟩
    obtain ⟨t, ht, e⟩ := List.mem_iff_getElem.1 hm
    have et : S[t]? = some r := by rw [List.getElem?_eq_getElem ht, e]
    have he' : r.id = id := by simpa using he
    rcases Nat.lt_or_ge t i with h1 | h1
    · have := H.lo t r h1 et; omega
    · rcases Nat.lt_or_ge i t with h2 | h2
      · have hi : i < S.length := by omega
        have := hr i t _ r h2 (List.getElem?_eq_getElem hi) et
        have := H.hi i _ (Nat.le_refl _) (List.getElem?_eq_getElem hi)
        omega
      · obtain rfl : t = i := by omega
        rw [et]; simpa using he'
  · intro h
    cases e : S[i]? with
    | none => rw [e] at h; cases h
    | some r => rw [e] at h; exact ⟨r, List.mem_of_getElem? e, h⟩
/-! ### slices.BinarySearchFunc at rows; find -/
def cmpT (a b : Int) : Int := if a < b then -1 else if b < a then 1 else 0
theorem isNaNT (a : Int) (w : World) : Calls Try.prog 162 #[.int .i64 a] w fun e w' => e = .returned (.bool false) ∧ w = w' := by
  go_enter Try.func162, Try.ntmps162
  go_wp2
  go_ret
  exact ⟨by simp, rfl⟩
set_option maxHeartbeats 1000000 in
theorem cmpT_any (a b : Int) (w : World) : Calls Try.prog 147 #[.int .i64 a, .int .i64 b] w fun e w' => e = .returned (.int .i64 (cmpT a b)) ∧ w = w' := by
  by_cases h1 : a < b
  · have HV := Lib.hid (show cmpT a b = -1 by rw [cmpT, if_pos h1])
    rw [HV.out]
    go_enter Try.func147, Try.ntmps147
    go_wp2_with fail
    refine (isNaNT _ _).mono ?_
    rintro e w1 ⟨rfl, rfl⟩
    go_wp2_with fail
    refine (isNaNT _ _).mono ?_
    rintro e w2 ⟨rfl, rfl⟩
    go_wp2_with fail
    go_ret
    exact ⟨rfl, rfl⟩
  · by_cases h2 : b < a
    · have HV := Lib.hid (show cmpT a b = 1 by rw [cmpT, if_neg h1, if_pos h2])
      rw [HV.out]
      go_enter Try.func147, Try.ntmps147
      go_wp2_with fail
      refine (isNaNT _ _).mono ?_
      rintro e w1 ⟨rfl, rfl⟩
      go_wp2_with fail
      refine (isNaNT _ _).mono ?_
      rintro e w2 ⟨rfl, rfl⟩
      go_wp2_with fail
      go_ret
      exact ⟨rfl, rfl⟩
    · have HV := Lib.hid (show cmpT a b = 0 by rw [cmpT, if_neg h1, if_neg h2])
      rw [HV.out]
      go_enter Try.func147, Try.ntmps147
      go_wp2_with fail
      refine (isNaNT _ _).mono ?_
      rintro e w1 ⟨rfl, rfl⟩
      go_wp2_with fail
      refine (isNaNT _ _).mono ?_
      rintro e w2 ⟨rfl, rfl⟩
      go_wp2_with fail
      go_ret
      exact ⟨rfl, rfl⟩
set_option maxHeartbeats 1000000 in
theorem findF_any (r : RowT) (id : Int) (w : World) : Calls Try.prog 153 #[.agg #[.int .i64 r.id, .int .i64 r.v], .int .i64 id] w fun e w' => e = .returned (.int .i64 (cmpT r.id id)) ∧ Below w.heap.size w w' := by
  have bt0 := Blk.new w 205 #[.int .i64 r.id, .int .i64 r.v] w.heap.size rfl
  have hB0 := (Below.refl w.heap.size w).alloc (Nat.le_refl _) (.cells #[.int .i64 r.id, .int .i64 r.v] 205)
  obtain ⟨W, hW⟩ : ∃ W, Hid (w.alloc (.cells #[.int .i64 r.id, .int .i64 r.v] 205) = W) := ⟨_, Lib.hid rfl⟩
  rw [hW.out] at bt0 hB0
  have t0 := (bt0).cell 0
  have t1 := (bt0).cell 1
  simp at t0 t1
  have HB0 := Lib.hid hB0
  clear bt0 hB0
  go_enter Try.func153, Try.ntmps153
  go_upto_region 1 with fail
  rw [hW.out]
  go_wp2_with fail
  refine (cmpT_any _ _ _).mono ?_
  rintro e w1 ⟨rfl, rfl⟩
  go_wp2_with fail
  go_ret
  exact ⟨rfl, HB0.out⟩
set_option maxHeartbeats 8000000 in
set_option maxRecDepth 100000 in
theorem searchT_any (A : Option Addr) (n c : Nat) (S : List RowT) (id : Int) (w : World) (hr : Rd w w.heap.size 2 A n (S.flatMap RowT.cells)) (hn : n ≤ 1000000) (hs : RisT S) :
    Calls Try.prog 152 #[.slice A n c, .int .i64 id, .func (.func 153) #[] #[]] w fun e w' => e = .returned (.tuple #[.int .i64 (posT S id : Nat), .bool (isT S id)]) ∧ Below w.heap.size w w' := by
  have HL := Lib.hid (hr.len RowT.cells_len (by omega))
  have HR := Lib.hid hr
  have HS := Lib.hid hs
  have HB0 : Hid (BisT S id 0 n) := Lib.hid (by rw [← HL.out]; exact BisT.start S id)
  clear hr hs
  go_enter Try.func152, Try.ntmps152
  go_wp2_with fail
  go_loopw [9, 10] (fun vi vj wr => ∃ (i j : Nat), vi = .int .i64 i ∧ vj = .int .i64 j ∧ i ≤ j ∧ j ≤ n ∧ Hid (BisT S id i j) ∧ Hid (Below w.heap.size w wr)) (fun vi vj _ => (intOf vj).toNat - (intOf vi).toNat)
  case atStart => exact ⟨0, n, rfl, rfl, Nat.zero_le _, Nat.le_refl _, HB0, Lib.hid (Below.refl _ _)⟩
  case round =>
    obtain ⟨i, j, rfl, rfl, hij, hjn, HBi, HB⟩ := hrel
    have hbs := HB.out.size
    by_cases hlt : i < j
    · have hltz : (i : Int) < (j : Int) := by omega
      obtain ⟨h, hh⟩ : ∃ h : Nat, Hid (h = (i + j) / 2) := ⟨_, Lib.hid rfl⟩
      have e2 : ((i : Int) + (j : Int)) / 2 = (h : Int) := by have := hh.out; omega
      have hih : i ≤ h := by have := hh.out; omega
      have hhj : h < j := by have := hh.out; omega
      have hhn : h < n := by omega
      have hhz : (h : Int) < (n : Int) := by omega
      have hg_f : S[h]? = some (S[h]'(by have := HL.out; omega)) := List.getElem?_eq_getElem _
      obtain ⟨b_f, off_f, rfl, hbb_f, hc_f⟩ := (HR.out.past HB.out).elem RowT.cells_len hg_f hhn
      have HT_f := Lib.hid (show S.take (h + 1) = S.take h ++ [(S[h]'(by have := HL.out; omega))] from List.take_succ_eq_append_getElem (by have := HL.out; omega))
      have HM_f := Lib.hid (show (S[h]'(by have := HL.out; omega)) ∈ S from List.getElem_mem _)
      have HG_f := Lib.hid hg_f
      generalize (S[h]'(by have := HL.out; omega)) = f at *
      have c0 := hc_f 0 _ rfl
      have c1 := hc_f 1 _ rfl
      clear hc_f hg_f
      simp only [Nat.add_zero] at c0
      go_wp2_with fail
      refine (findF_any f id _).mono ?_
      rintro e w3 ⟨rfl, hb3⟩
      have HB3 := Lib.hid (Below.past HB.out hb3 hbs)
      clear hb3 c0 c1
      by_cases hl : f.id < id
      · have hc : cmpT f.id id = -1 := by rw [cmpT, if_pos hl]
        rw [hc]
        have HN := Lib.hid (HBi.out.up HS.out hhj HG_f.out hl)
        clear hc
        go_wp2_with fail
        go_roundw
        case rel => exact ⟨h + 1, j, by go_num, rfl, by omega, hjn, HN, HB3⟩
        case measure => simp [intOf]; omega
      · obtain ⟨C, hC⟩ : ∃ C, Hid (cmpT f.id id = C) := ⟨_, Lib.hid rfl⟩
        have hC0 : ¬ C < 0 := by rw [← hC.out, cmpT, if_neg hl]; split <;> omega
        rw [hC.out]
        have HN := Lib.hid (HBi.out.down HS.out hih hhj HG_f.out hl)
        go_wp2_with fail
        go_roundw
        case rel => exact ⟨i, h, rfl, rfl, by omega, by omega, HN, HB3⟩
        case measure => simp [intOf]; omega
    · have hltz : ¬ (i : Int) < (j : Int) := by omega
      obtain rfl : j = i := by omega
      have HP : Hid (posT S id = j) := Lib.hid HBi.out.pos
      have HF := Lib.hid (HBi.out.found HS.out)
      by_cases hjn2 : j < n
      · have hjz : (j : Int) < (n : Int) := by omega
        have hg_f : S[j]? = some (S[j]'(by have := HL.out; omega)) := List.getElem?_eq_getElem _
        obtain ⟨b_f, off_f, rfl, hbb_f, hc_f⟩ := (HR.out.past HB.out).elem RowT.cells_len hg_f hjn2
        have HT_f := Lib.hid (show S.take (j + 1) = S.take j ++ [(S[j]'(by have := HL.out; omega))] from List.take_succ_eq_append_getElem (by have := HL.out; omega))
        have HM_f := Lib.hid (show (S[j]'(by have := HL.out; omega)) ∈ S from List.getElem_mem _)
        have HG_f := Lib.hid hg_f
        generalize (S[j]'(by have := HL.out; omega)) = f at *
        have c0 := hc_f 0 _ rfl
        have c1 := hc_f 1 _ rfl
        clear hc_f hg_f
        simp only [Nat.add_zero] at c0
        rw [HG_f.out] at HF
        have HF2 : Hid (isT S id = decide (f.id = id)) := HF
        clear HF
        go_wp2_with fail
        refine (findF_any f id _).mono ?_
        rintro e w3 ⟨rfl, hb3⟩
        have HB3 := Lib.hid (Below.past HB.out hb3 hbs)
        clear hb3 c0 c1
        by_cases he : f.id = id
        · have hc : cmpT f.id id = 0 := by rw [cmpT, if_neg (by omega), if_neg (by omega)]
          rw [hc]
          clear hc
          go_wp2_with fail
          go_ret2
          exact ⟨by rw [HP.out, HF2.out, decide_eq_true he]; rfl, HB3.out⟩
        · obtain ⟨C, hC⟩ : ∃ C, Hid (cmpT f.id id = C) := ⟨_, Lib.hid rfl⟩
          have hC0 : (C == 0) = false := by rw [← hC.out, cmpT]; split; rfl; split; rfl; omega
          rw [hC.out]
          go_wp2_with fail
          go_ret2
          exact ⟨by rw [HP.out, HF2.out, decide_eq_false he]; rfl, HB3.out⟩
      · have hjz : ¬ (j : Int) < (n : Int) := by omega
        rw [List.getElem?_eq_none (by rw [HL.out]; omega)] at HF
        have HF2 : Hid (isT S id = false) := HF
        clear HF
        go_wp2_with fail
        go_ret2
        exact ⟨by rw [HP.out, HF2.out]; rfl, HB.out⟩
/-! ### A table in memory; find -/
structure TabV (w : World) (g base : Nat) (room : Int) (v : Value) (S : List RowT) : Prop where
  form : ∃ X c, v = .slice X S.length c
  blk : Blk w g 197 #[.int .i64 room, v]
  row : w.ownsRow base 205 2 v S.length (S.flatMap RowT.cells)
  ris : RisT S
  len : S.length ≤ 1000
  rm : 0 ≤ room ∧ room ≤ 9223372036854775807
set_option maxHeartbeats 2000000 in
theorem findT_any (g base : Nat) (room : Int) (v : Value) (S : List RowT) (id : Int) (w : World) (hx : TabV w g base room v S) :
    Calls Try.prog 132 #[.pointer (some ⟨g, 0, none⟩), .int .i64 id] w fun e w' => e = .returned (.tuple #[.int .i64 (posT S id : Nat), .bool (isT S id)]) ∧ Below w.heap.size w w' := by
  obtain ⟨X, c, hv⟩ := hx.form
  subst hv
  have hl := hx.len
  have p1 := hx.blk.cell 1
  simp at p1
  have HS := Lib.hid (searchT_any X S.length c S id w (Rd.of_own hx.row) (by omega) hx.ris)
  generalize S.length = n at HS p1
  generalize posT S id = I at HS ⊢
  generalize isT S id = B at HS ⊢
  clear hx
  go_enter Try.func132, Try.ntmps132
  go_wp2_with fail
  refine HS.out.mono ?_
  rintro e w1 ⟨rfl, hb⟩
  go_wp2_with fail
  go_ret2
  exact ⟨rfl, hb⟩
theorem findT_nil (id : Int) (w : World) : Calls Try.prog 132 #[.pointer none, .int .i64 id] w fun e w' => e = .returned (.tuple #[.int .i64 0, .bool false]) ∧ w = w' := by
  go_enter Try.func132, Try.ntmps132
  go_wp2_with fail
  go_ret2
  exact ⟨rfl, rfl⟩
theorem BisT.ex {S : List RowT} {id : Int} (hr : RisT S) : ∀ (d i j : Nat), j = i + d → BisT S id i j → ∃ k, BisT S id k k
  | 0, i, j, e, H => by obtain rfl : j = i := by omega
                        exact ⟨_, H⟩
  | d + 1, i, j, e, H => by
    have hi : i < S.length := by have := H.len; omega
    have ei : S[i]? = some S[i] := List.getElem?_eq_getElem hi
    by_cases hl : S[i].id < id
    · exact BisT.ex hr d (i + 1) j (by omega) (H.up hr (by omega) ei hl)
    · exact ⟨i, H.down hr (Nat.le_refl _) (by omega) ei hl⟩
theorem bisT_pos {S : List RowT} (hr : RisT S) (id : Int) : BisT S id (posT S id) (posT S id) := by
  obtain ⟨k, H⟩ := BisT.ex hr S.length 0 S.length (by omega) (BisT.start S id)
  rw [H.pos]; exact H
theorem posT_le (S : List RowT) (id : Int) : posT S id ≤ S.length := List.countP_le_length
theorem at_is {S : List RowT} {id : Int} (hr : RisT S) (h : isT S id = true) : ∃ r, S[posT S id]? = some r ∧ r.id = id := by
  rw [(bisT_pos hr id).found hr] at h
  cases e : S[posT S id]? with
  | none => rw [e] at h; cases h
  | some r => rw [e] at h; exact ⟨r, rfl, by simpa using h⟩
theorem TabV.past {w w' : World} {g base : Nat} {room : Int} {v : Value} {S : List RowT} (h : TabV w g base room v S) (hb : Below w.heap.size w w') : TabV w' g base room v S :=
  ⟨h.form, h.blk.past hb, own_pastZ h.row hb, h.ris, h.len, h.rm⟩
/-! ### New, Len, Left, Get, Near -/
set_option maxHeartbeats 1000000 in
theorem newT_any (room : Int) (hro : -9223372036854775808 ≤ room ∧ room ≤ 9223372036854775807) (w : World) : Calls Try.prog 94 #[.int .i64 room] w fun e w' => ∃ g, e = .returned (.pointer (some ⟨g, 0, none⟩)) ∧ w.heap.size ≤ g ∧ TabV w' g w.heap.size (max room 0) (.slice none 0 0) [] ∧ Below w.heap.size w w' := by
  have hm : (if 0 ≤ room then room else 0) = max room 0 := by split <;> omega
  obtain ⟨R, hR⟩ : ∃ R, Hid (max room 0 = R) := ⟨_, Lib.hid rfl⟩
  have hR0 : 0 ≤ R ∧ R ≤ 9223372036854775807 := by have := hR.out; omega
  have HV : Hid (TabV (w.alloc (.cells #[.int .i64 R, .slice none 0 0] 197)) w.heap.size w.heap.size R (.slice none 0 0) []) := Lib.hid ⟨⟨none, 0, rfl⟩, Blk.new w 197 _ _ rfl, World.ownsRow_nil _ _ _ _, (fun i j a b _ e => by simp at e), by simp, hR0⟩
  have HB := Lib.hid ((Below.refl w.heap.size w).alloc (Nat.le_refl _) (.cells #[.int .i64 R, .slice none 0 0] 197))
  rw [hR.out] at hm ⊢
  by_cases h0 : 0 ≤ room
  · obtain rfl : room = R := by rw [if_pos h0] at hm; exact hm
    clear hm hR
    go_enter Try.func94, Try.ntmps94
    go_wp2_with fail
    go_ret
    exact ⟨_, rfl, Nat.le_refl _, HV.out, HB.out⟩
  · obtain rfl : 0 = R := by rw [if_neg h0] at hm; exact hm
    clear hm hR
    go_enter Try.func94, Try.ntmps94
    go_wp2_with fail
    go_ret
    exact ⟨_, rfl, Nat.le_refl _, HV.out, HB.out⟩
set_option maxHeartbeats 1000000 in
theorem leftT_any (g base : Nat) (room : Int) (v : Value) (S : List RowT) (w : World) (hx : TabV w g base room v S) : Calls Try.prog 96 #[.pointer (some ⟨g, 0, none⟩)] w fun e w' => e = .returned (.int .i64 (room - (S.length : Nat))) ∧ Below w.heap.size w w' := by
  obtain ⟨X, c, hv⟩ := hx.form
  subst hv
  have p0 := hx.blk.cell 0
  have p1 := hx.blk.cell 1
  simp at p0 p1
  have hr := hx.rm
  have hl := hx.len
  generalize S.length = n at p1 hl ⊢
  have hw : IntKind.i64.wrap (room - (n : Int)) = room - (n : Int) := IntWalk.i64_in _ (by omega)
  have hd := Below.drew (Below.refl w.heap.size w)
  clear hx
  go_enter Try.func96, Try.ntmps96
  go_wp2_with fail
  go_region
  all_goals
    go_wp2_with fail
    go_ret
    exact ⟨rfl, hd⟩
set_option maxHeartbeats 2000000 in
theorem getT_yes (g base : Nat) (room : Int) (v : Value) (S : List RowT) (id : Int) (w : World) (hx : TabV w g base room v S) (hi : isT S id = true) (r : RowT) (hr : S[posT S id]? = some r) :
    Calls Try.prog 123 #[.pointer (some ⟨g, 0, none⟩), .int .i64 id] w fun e w' => e = .returned (.tuple #[.int .i64 r.v, .int .i64 0]) ∧ Below w.heap.size w w' := by
  have HF := Lib.hid (findT_any g base room v S id w hx)
  rw [hi] at HF
  have HX := Lib.hid hx
  have HL := (List.getElem?_eq_some_iff.1 hr).1
  obtain ⟨I, hI⟩ : ∃ I, Hid (posT S id = I) := ⟨_, Lib.hid rfl⟩
  have HR := Lib.hid hr
  rw [hI.out] at HF HR HL
  clear hx hi hr
  go_enter Try.func123, Try.ntmps123
  go_wp2_with fail
  refine HF.out.mono ?_
  rintro e w1 ⟨rfl, hb⟩
  have hx1 := HX.out.past hb
  obtain ⟨X, c, hv⟩ := hx1.form
  subst hv
  have p1 := hx1.blk.cell 1
  simp at p1
  obtain ⟨b, off, he, _, hc⟩ := (Rd.of_own hx1.row).elem RowT.cells_len HR.out HL
  cases he
  have c1 := hc 1 _ rfl
  have hz : (I : Int) < (S.length : Int) := by omega
  have HB := Lib.hid hb
  clear hx1 hc hb HF
  go_wp2_with fail
  go_ret2
  exact ⟨rfl, HB.out⟩
set_option maxHeartbeats 2000000 in
theorem getT_no (g base : Nat) (room : Int) (v : Value) (S : List RowT) (id : Int) (w : World) (hx : TabV w g base room v S) (hi : isT S id = false) :
    Calls Try.prog 123 #[.pointer (some ⟨g, 0, none⟩), .int .i64 id] w fun e w' => e = .returned (.tuple #[.int .i64 0, .int .i64 8]) ∧ Below w.heap.size w w' := by
  have HF := Lib.hid (findT_any g base room v S id w hx)
  rw [hi] at HF
  clear hx hi
  go_enter Try.func123, Try.ntmps123
  go_wp2_with fail
  refine HF.out.mono ?_
  rintro e w1 ⟨rfl, hb⟩
  go_wp2_with fail
  go_ret2
  exact ⟨rfl, hb⟩
/-! ### Near -/
/-! ### A copy of any rows; Rows, Copy -/
theorem rowInfo : (Try.prog.info? 205).map (fun i => (i.zero, i.size, i.bytes)) = some (some (.agg #[.int .i64 0, .int .i64 0]), 2, 16) := by kernel_rfl
set_option maxRecDepth 100000 in
set_option maxHeartbeats 1000000 in
theorem cloneR_nil (cp : Nat) (w : World) : Calls Try.prog 141 #[.slice none 0 cp] w fun e w' => e = .returned (.slice none 0 0) ∧ w = w' := by
  have hq := fun w => Lib.run_eql_slice_nil (P := Try.prog) w 195 205 none 0 cp 0 0 Try.underlying195
  go_enter Try.func141, Try.ntmps141
  go_wp2_with fail
  go_ret
  exact ⟨rfl, rfl⟩
set_option maxRecDepth 100000 in
set_option maxHeartbeats 1000000 in
theorem cloneR_some (A : Addr) (n cp : Nat) (l : List RowT) (w : World) (hr : Rd w w.heap.size 2 (some A) n (l.flatMap RowT.cells)) (hn : n ≤ 1000) : Calls Try.prog 141 #[.slice (some A) n cp] w fun e w' => ∃ v, e = .returned v ∧ w'.ownsRow w.heap.size 205 2 v n (l.flatMap RowT.cells) ∧ Below w.heap.size w w' := by
  have hq := fun w => Lib.run_eql_slice_nil (P := Try.prog) w 195 205 (some A) n cp 0 0 Try.underlying195
  have hB0 := (Below.refl w.heap.size w).alloc (Nat.le_refl _) (.cells #[] 205)
  have hr0 := hr.past hB0
  have hown : (w.alloc (.cells #[] 205)).ownsRow w.heap.size 205 2 (.slice (some ⟨w.heap.size, 0, none⟩) 0 0) 0 [] := ⟨rfl, .inr ⟨w.heap.size, 0, #[], rfl, Nat.le_refl _, heap_alloc_new w _, Nat.le_refl _, Nat.zero_le _, rfl, rfl⟩⟩
  obtain ⟨j0, hj0, jz0, jz1, jz2⟩ := info_parts rowInfo
  have hone : ∀ u ∈ l.flatMap RowT.cells, u.oneCell' = true := by
    intro u hu
    obtain ⟨f, _, h2⟩ := List.mem_flatMap.1 hu
    simp [RowT.cells] at h2
    rcases h2 with rfl | rfl <;> rfl
  go_enter Try.func141, Try.ntmps141
  go_wp2_with (at_builtin; refine wpList_append_rd _ rfl (.tmp 5) (.tmp 6) 195 rfl w.heap.size 205 j0 _ 2 16 Try.underlying195 hj0 jz0 jz1 jz2 rfl (by decide) _ _ _ rfl hown (some A) n cp _ rfl hr0 (fun e => by cases e) hone (by omega) (by omega) (by simp) hB0 (Nat.le_refl _) ?_; intro v' w' hown' hb'; rw [Nat.zero_add, List.nil_append] at hown')
  go_ret
  exact ⟨_, rfl, hown', hb'⟩
theorem cloneR_any (A : Option Addr) (n cp : Nat) (l : List RowT) (w : World) (hr : Rd w w.heap.size 2 A n (l.flatMap RowT.cells)) (hn : n ≤ 1000) : Calls Try.prog 141 #[.slice A n cp] w fun e w' => ∃ v, e = .returned v ∧ w'.ownsRow w.heap.size 205 2 v n (l.flatMap RowT.cells) ∧ Below w.heap.size w w' := by
  cases A with
  | none =>
    obtain rfl := rd_none0Z hr
    have hl : l = [] := List.length_eq_zero_iff.1 (hr.len (fun _ => rfl) (by omega))
    subst hl
    refine (cloneR_nil cp w).mono ?_
    rintro e w' ⟨rfl, rfl⟩
    exact ⟨_, rfl, World.ownsRow_nil _ _ _ _, Below.refl _ _⟩
  | some A1 => exact cloneR_some A1 n cp l w hr hn
theorem copyT_nil (w : World) : Calls Try.prog 106 #[.pointer none] w fun e w' => e = .returned (.pointer none) ∧ w = w' := by
  go_enter Try.func106, Try.ntmps106
  go_wp2_with fail
  go_ret
  exact ⟨rfl, rfl⟩
/-! ### Copy; Set -/
def CopyTPost (room : Int) (S : List RowT) (w : World) (e : Ending) (w' : World) : Prop :=
  ∃ g' v', e = .returned (.pointer (some ⟨g', 0, none⟩)) ∧ w.heap.size ≤ g' ∧ TabV w' g' w.heap.size room v' S ∧ Below w.heap.size w w'
set_option maxHeartbeats 4000000 in
set_option maxRecDepth 100000 in
theorem copyT_any (g base : Nat) (room : Int) (v : Value) (S : List RowT) (w : World) (hx : TabV w g base room v S) :
    Calls Try.prog 106 #[.pointer (some ⟨g, 0, none⟩)] w (CopyTPost room S w) := by
  obtain ⟨X, c, hv⟩ := hx.form
  subst hv
  have HRS := Lib.hid hx.ris
  have hln := hx.len
  have hrm := hx.rm
  have HBG := Lib.hid hx.blk
  have hC := Lib.hid (cloneR_any X S.length c S w.drew ((Rd.of_own hx.row).past (Below.drew (Below.refl _ _))) hx.len)
  obtain ⟨n, hn⟩ : ∃ n, Hid (S.length = n) := ⟨_, Lib.hid rfl⟩
  rw [hn.out] at hC HBG
  have p0 := HBG.out.cell 0
  have p1 := HBG.out.cell 1
  simp at p0 p1
  clear hx
  go_enter Try.func106, Try.ntmps106
  go_wp2_with fail
  go_region_with (go_at_call 141; refine hC.out.mono ?_; rintro e w1 ⟨v, rfl, hov, hb0⟩; obtain ⟨A2, c2, rfl⟩ := own_form hov; have hb : Below w.heap.size w w1 := undrewZ hb0; have bl1 := HBG.out.past hb; have m0 := bl1.cell 0; have m1 := bl1.cell 1; simp at m0 m1)
  all_goals
    have hs := hb.size
    have hbz := (Below.refl w1.heap.size w1).alloc (Nat.le_refl _) (.cells #[.int .i64 room, .slice A2 n c2] 197)
    have HV : Hid (TabV (w1.alloc (.cells #[.int .i64 room, .slice A2 n c2] 197)) w1.heap.size w.heap.size room (.slice A2 n c2) S) :=
      Lib.hid ⟨⟨A2, c2, by rw [hn.out]⟩, Blk.new w1 197 _ _ rfl, by rw [hn.out]; exact own_pastZ hov hbz, HRS.out, hln, hrm⟩
    have HBB := Lib.hid (Below.past hb hbz hs)
    clear hov hb0 hb hbz bl1
    go_wp2_with fail
    go_ret
    exact ⟨_, _, rfl, hs, HV.out, HBB.out⟩
end Go.Proofs.Ytelbolhckhdioaa.TTbI
