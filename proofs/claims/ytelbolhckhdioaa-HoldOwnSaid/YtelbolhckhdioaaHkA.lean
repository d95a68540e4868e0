import Derived.Test.YtelbolhckhdioaaTbHT
import Derived.Test.YtelbolhckhdioaaBokQ
import Derived.Test.YtelbolhckhdioaaBokS
/-! ## from HolA -/
namespace Go.Proofs.Ytelbolhckhdioaa
open Go.RowKit

/-! ### A vault in memory; what is held -/
def HoldV.spt (h : HoldV) : Spt := ⟨h.k, h.m, h.a⟩
abbrev HRow := TTbH.RowT
structure VltV (w : World) (gv gb gt base M A : Nat) (vb : Value) (bl : List Int) (p : Int) (room : Int) (vt : Value) (S : List HRow) : Prop where
  blk : Blk w gv 121 #[.pointer (some ⟨gb, 0, none⟩), .pointer (some ⟨gt, 0, none⟩)]
  book : BookV w gb base M A vb bl p
  tab : TTbH.TabV w gt base room vt S
  hv : base ≤ gv
  hb : base ≤ gb
  ht : base ≤ gt
theorem VltV.past {w w' : World} {gv gb gt base M A : Nat} {vb : Value} {bl : List Int} {p room : Int} {vt : Value} {S : List HRow} (h : VltV w gv gb gt base M A vb bl p room vt S) (hb : Below w.heap.size w w') : VltV w' gv gb gt base M A vb bl p room vt S :=
  ⟨h.blk.past hb, h.book.past hb, h.tab.past hb, h.hv, h.hb, h.ht⟩
def atH (s : Spt) (r : HRow) : Bool := decide (r.v.spt = s)
def heldH (S : List HRow) (s : Spt) : Int := ((S.filter (atH s)).map fun r => r.v.z).sum
theorem heldH_yes {S : List HRow} {f : HRow} {k : Nat} {s : Spt} (hT : S.take (k + 1) = S.take k ++ [f]) (h : f.v.spt = s) : heldH (S.take (k + 1)) s = heldH (S.take k) s + f.v.z := by
  rw [hT, heldH, List.filter_append, List.map_append, List.sum_append]
  simp [atH, h, heldH]
theorem heldH_no {S : List HRow} {f : HRow} {k : Nat} {s : Spt} (hT : S.take (k + 1) = S.take k ++ [f]) (h : ¬ f.v.spt = s) : heldH (S.take (k + 1)) s = heldH (S.take k) s := by
  rw [hT, heldH, List.filter_append, List.map_append, List.sum_append]
  simp [atH, h, heldH]
theorem heldH_nonneg {S : List HRow} (hz : ∀ r ∈ S, 0 ≤ r.v.z) (s : Spt) : 0 ≤ heldH S s := by
  induction S with
  | nil => simp [heldH]
  | cons x S ih =>
    have h1 := ih fun r hr => hz r (by simp [hr])
    have h2 := hz x (by simp)
    unfold heldH at h1 ⊢
    rw [List.filter_cons]
    split
    · rw [List.map_cons, List.sum_cons]; omega
    · exact h1
theorem heldH_app (S T : List HRow) (s : Spt) : heldH (S ++ T) s = heldH S s + heldH T s := by
  rw [heldH, List.filter_append, List.map_append, List.sum_append]; rfl
theorem heldH_take {S : List HRow} (hz : ∀ r ∈ S, 0 ≤ r.v.z) (s : Spt) (k : Nat) : heldH (S.take k) s ≤ heldH S s := by
  have h := heldH_app (S.take k) (S.drop k) s
  rw [List.take_append_drop] at h
  have := heldH_nonneg (S := S.drop k) (fun r hr => hz r (List.mem_of_mem_drop hr)) s
  omega
theorem sum_permH {a b : List Int} (h : a.Perm b) : a.sum = b.sum := by
  induction h with
  | nil => rfl
  | cons x _ ih => rw [List.sum_cons, List.sum_cons, ih]
  | swap x y l => rw [List.sum_cons, List.sum_cons, List.sum_cons, List.sum_cons]; omega
  | trans _ _ h1 h2 => exact h1.trans h2
theorem heldH_perm {S T : List HRow} (h : S.Perm T) (s : Spt) : heldH S s = heldH T s := sum_permH ((h.filter _).map _)
theorem spt_eqH (f : HoldV) (s : Spt) : (f.spt = s) ↔ (eqA ⟨f.k, f.m⟩ ⟨s.k, s.m⟩ = true ∧ f.a = s.a) := by
  rw [eqA_iff]
  constructor
  · rintro rfl; exact ⟨⟨rfl, rfl⟩, rfl⟩
  · rintro ⟨⟨h1, h2⟩, h3⟩; exact Spt.same h1 h2 h3
set_option maxHeartbeats 4000000 in
set_option maxRecDepth 100000 in
theorem heldK_any (gv gb gt base M A : Nat) (vb : Value) (bl : List Int) (p room : Int) (vt : Value) (S : List HRow) (s : Spt) (w : World) (hx : VltV w gv gb gt base M A vb bl p room vt S) (hz : ∀ r ∈ S, 0 ≤ r.v.z) (hs : heldH S s ≤ 9223372036854775807) :
    Calls Try.prog 83 #[.pointer (some ⟨gv, 0, none⟩), .agg #[.int .i64 s.k, .int .i64 s.m], .int .i64 s.a] w fun e w' => e = .returned (.int .i64 (heldH S s)) ∧ Below w.heap.size w w' := by
  have bt0 := Blk.new w 52 #[.int .i64 s.k, .int .i64 s.m] w.heap.size rfl
  have hB0 := (Below.refl w.heap.size w).alloc (Nat.le_refl _) (.cells #[.int .i64 s.k, .int .i64 s.m] 52)
  obtain ⟨W, hW⟩ : ∃ W, Hid (w.alloc (.cells #[.int .i64 s.k, .int .i64 s.m] 52) = W) := ⟨_, Lib.hid rfl⟩
  obtain ⟨xb, hxb⟩ : ∃ xb, Hid (w.heap.size = xb) := ⟨_, Lib.hid rfl⟩
  rw [hW.out] at bt0 hB0
  rw [hxb.out] at bt0
  have HB0 := Lib.hid hB0
  have HX := Lib.hid (hx.past hB0)
  have HT := Lib.hid bt0
  have hln := hx.tab.len
  have HRW := Lib.hid (TTbH.rowsT_any gt base room vt S W HX.out.tab)
  have HN := Lib.hid (fun k => heldH_nonneg (S := S.take k) (fun r hr => hz r (List.mem_of_mem_take hr)) s)
  have HM := Lib.hid (fun k => Int.le_trans (heldH_take hz s k) hs)
  obtain ⟨n, hn⟩ : ∃ n, Hid (S.length = n) := ⟨_, Lib.hid rfl⟩
  rw [hn.out] at HRW hln
  have p1 := HX.out.blk.cell 1
  simp at p1
  clear hx hz hs bt0 hB0
  go_enter Try.func83, Try.ntmps83
  go_upto_region 1 with fail
  rw [hW.out, hxb.out]
  go_wp2_with fail
  refine HRW.out.mono ?_
  rintro e w1 ⟨v1, rfl, hov, hb1⟩
  obtain ⟨A1, c1, rfl⟩ := own_form hov
  have HR := Lib.hid (Rd.of_own hov)
  have HB1 := Lib.hid (Below.past HB0.out hb1 HB0.out.size)
  have HT1 := Lib.hid (HT.out.past hb1)
  clear hov hb1 HRW p1
  go_wp2_with fail
  go_loopw [7, 16] (fun v i wr => ∃ k : Nat, k ≤ n ∧ i = .int .i64 k ∧ v = .int .i64 (heldH (S.take k) s) ∧ Hid (Below w1.heap.size w1 wr)) (fun _ i _ => n - (intOf i).toNat)
  case atStart => exact ⟨0, Nat.zero_le _, rfl, rfl, Lib.hid (Below.refl _ _)⟩
  case round =>
    obtain ⟨k, hk, rfl, rfl, HB⟩ := hrel
    have hn0 := HN.out k
    have hm0 := HM.out k
    by_cases hlt : k < n
    · have hlz : (k : Int) < (n : Int) := by omega
      have hg_f : S[k]? = some (S[k]'(by have := hn.out; omega)) := List.getElem?_eq_getElem _
      obtain ⟨b_f, off_f, rfl, hbb_f, hc_f⟩ := (HR.out.past HB.out).elem TTbH.RowT.cells_len hg_f hlt
      have HT_f := Lib.hid (show S.take (k + 1) = S.take k ++ [(S[k]'(by have := hn.out; omega))] from List.take_succ_eq_append_getElem (by have := hn.out; omega))
      have HM_f := Lib.hid (show (S[k]'(by have := hn.out; omega)) ∈ S from List.getElem_mem _)
      generalize (S[k]'(by have := hn.out; omega)) = f at *
      have c0 := hc_f 0 _ rfl
      have c1 := hc_f 1 _ rfl
      have c2 := hc_f 2 _ rfl
      have c3 := hc_f 3 _ rfl
      have c4 := hc_f 4 _ rfl
      clear hc_f hg_f
      simp only [Nat.add_zero] at c0
      have hq := fun w => acc_eql ⟨f.v.k, f.v.m⟩ ⟨s.k, s.m⟩ w
      have ht := HT1.out.past HB.out
      have t0 := ht.cell 0
      have t1 := ht.cell 1
      have htl := ht.lt
      simp at t0 t1
      have HBN := Lib.hid (HB.out.alloc HB.out.size (.cells #[.int .i64 f.id, .int .i64 f.v.k, .int .i64 f.v.m, .int .i64 f.v.a, .int .i64 f.v.z] 132))
      clear ht
      obtain ⟨P, hP⟩ : ∃ P, Hid (heldH (S.take k) s = P) := ⟨_, Lib.hid rfl⟩
      rw [hP.out] at hn0 hm0
      rw [hP.out]
      cases he : eqA ⟨f.v.k, f.v.m⟩ ⟨s.k, s.m⟩ with
      | false =>
        rw [he] at hq
        have HS : Hid (heldH (S.take (k + 1)) s = P) := Lib.hid (by rw [← hP.out]; exact heldH_no HT_f.out (fun h => by rw [spt_eqH] at h; rw [he] at h; cases h.1))
        go_wp2_with fail
        go_roundw
        case rel => exact ⟨k + 1, by omega, by go_num, by rw [HS.out], HBN⟩
        case measure => simp [intOf]; omega
      | true =>
        rw [he] at hq
        by_cases ha : f.v.a = s.a
        · have hpt : f.v.spt = s := (spt_eqH _ _).2 ⟨he, ha⟩
          have h1 := heldH_yes HT_f.out hpt
          have h2 := HM.out (k + 1)
          have h3 := HN.out (k + 1)
          rw [h1, hP.out] at h2 h3
          have HS : Hid (heldH (S.take (k + 1)) s = P + f.v.z) := Lib.hid (by rw [← hP.out]; exact h1)
          have hw : IntKind.i64.wrap (P + f.v.z) = P + f.v.z := IntWalk.i64_in _ (by omega)
          have hqa : (f.v.a == s.a) = true := by simpa using ha
          clear h1 h2 h3 hpt ha
          go_wp2_with fail
          go_roundw
          case rel => exact ⟨k + 1, by omega, by go_num, by rw [HS.out], HBN⟩
          case measure => simp [intOf]; omega
        · have HS : Hid (heldH (S.take (k + 1)) s = P) := Lib.hid (by rw [← hP.out]; exact heldH_no HT_f.out (fun h => by rw [spt_eqH] at h; exact ha h.2))
          have hqa : (f.v.a == s.a) = false := by simpa using ha
          go_wp2_with fail
          go_roundw
          case rel => exact ⟨k + 1, by omega, by go_num, by rw [HS.out], HBN⟩
          case measure => simp [intOf]; omega
    · have hlz : ¬ (k : Int) < (n : Int) := by omega
      obtain rfl : n = k := by omega
      have hT : S.take n = S := List.take_of_length_le (by rw [hn.out]; exact Nat.le_refl _)
      rw [hT]
      have HBE := Lib.hid (Below.past HB1.out HB.out HB1.out.size)
      clear hn0 hm0
      go_wp2_with fail
      go_ret
      exact ⟨rfl, HBE.out⟩
end Go.Proofs.Ytelbolhckhdioaa

/-! ## from HolB -/
namespace Go.Proofs.Ytelbolhckhdioaa
open Go.RowKit

/-! ### What holds of a vault; Balance, Held, Unheld, Total -/
structure HInv (M A : Nat) (bl : List Int) (S : List HRow) : Prop where
  z : ∀ r ∈ S, 0 ≤ r.v.z
  ok : ∀ r ∈ S, okP M A r.v.spt = true ∧ frB r.v.spt = false
  le : ∀ s, okP M A s = true → frB s = false → heldH S s ≤ bl.getD (ixS M s) 0
theorem heldH_none {S : List HRow} {s : Spt} (h : ∀ r ∈ S, r.v.spt ≠ s) : heldH S s = 0 := by
  have : S.filter (atH s) = [] := List.filter_eq_nil_iff.2 fun r hr => by simpa [atH] using h r hr
  rw [heldH, this]; rfl
theorem HInv.free {M A : Nat} {bl : List Int} {S : List HRow} (h : HInv M A bl S) {s : Spt} (hf : frB s = true) : heldH S s = 0 :=
  heldH_none fun r hr e => by have := (h.ok r hr).2; rw [e, hf] at this; cases this
theorem bl_in {bl : List Int} (h : ∀ z ∈ bl, inI z) (i : Nat) : inI (bl.getD i 0) := by
  rw [List.getD]
  cases e : bl[i]? with
  | none => simp [inI]
  | some z => exact h z (List.mem_of_getElem? e)
theorem HInv.most {M A : Nat} {bl : List Int} {S : List HRow} (h : HInv M A bl S) (hi : ∀ z ∈ bl, inI z) {s : Spt} (hs : okP M A s = true) : heldH S s ≤ 9223372036854775807 := by
  cases hf : frB s with
  | true => rw [h.free hf]; omega
  | false =>
    have h1 := h.le s hs hf
    have h2 := bl_in hi (ixS M s)
    unfold inI at h2
    omega
section
variable {gv gb gt base M A : Nat} {vb : Value} {bl : List Int} {p room : Int} {vt : Value} {S : List HRow}
set_option maxHeartbeats 4000000 in
set_option maxRecDepth 100000 in
theorem balH_any (s : Spt) (w : World) (hx : VltV w gv gb gt base M A vb bl p room vt S) :
    Calls Try.prog 33 #[.pointer (some ⟨gv, 0, none⟩), .agg #[.int .i64 s.k, .int .i64 s.m], .int .i64 s.a] w fun e w' => e = .returned (.tuple #[.int .i64 (blK M A bl s).1, .int .i64 (blK M A bl s).2]) ∧ Below w.heap.size w w' := by
  have bt0 := Blk.new w 52 #[.int .i64 s.k, .int .i64 s.m] w.heap.size rfl
  have hB0 := (Below.refl w.heap.size w).alloc (Nat.le_refl _) (.cells #[.int .i64 s.k, .int .i64 s.m] 52)
  obtain ⟨W, hW⟩ : ∃ W, Hid (w.alloc (.cells #[.int .i64 s.k, .int .i64 s.m] 52) = W) := ⟨_, Lib.hid rfl⟩
  obtain ⟨xb, hxb⟩ : ∃ xb, Hid (w.heap.size = xb) := ⟨_, Lib.hid rfl⟩
  rw [hW.out] at bt0 hB0
  rw [hxb.out] at bt0
  have hx0 := hx.past hB0
  have hdr := Below.drew (Below.refl W.heap.size W)
  have HBL := Lib.hid (balK_any gb base M A vb bl p s W.drew (hx0.book.past hdr))
  have HB0 := Lib.hid (Below.past hB0 hdr hB0.size)
  have hsz : w.heap.size ≤ W.drew.heap.size := HB0.out.size
  have p0 := hx0.blk.cell 0
  simp at p0
  have t0 := bt0.cell 0
  have t1 := bt0.cell 1
  simp at t0 t1
  obtain ⟨z1, hz1⟩ : ∃ z, Hid ((blK M A bl s).1 = z) := ⟨_, Lib.hid rfl⟩
  obtain ⟨z2, hz2⟩ : ∃ z, Hid ((blK M A bl s).2 = z) := ⟨_, Lib.hid rfl⟩
  rw [hz1.out, hz2.out] at HBL ⊢
  clear bt0 hB0 hx hx0 hdr
  go_enter Try.func33, Try.ntmps33
  go_upto_region 1 with fail
  rw [hW.out, hxb.out]
  go_wp2_with fail
  go_region_with (go_at_call 54; refine HBL.out.mono ?_; rintro e w1 ⟨rfl, hb1⟩; have HB1 := Lib.hid (Below.past HB0.out hb1 hsz); clear hb1)
  all_goals
    go_wp2_with fail
    go_ret2
    exact ⟨rfl, HB1.out⟩
def hlK (M A : Nat) (S : List HRow) (s : Spt) : Int × Int := if okP M A s = true then (heldH S s, 0) else (0, 8)
set_option maxHeartbeats 4000000 in
set_option maxRecDepth 100000 in
theorem heldB_any (s : Spt) (w : World) (hx : VltV w gv gb gt base M A vb bl p room vt S) (hi : HInv M A bl S) (hbl : ∀ z ∈ bl, inI z) :
    Calls Try.prog 34 #[.pointer (some ⟨gv, 0, none⟩), .agg #[.int .i64 s.k, .int .i64 s.m], .int .i64 s.a] w fun e w' => e = .returned (.tuple #[.int .i64 (hlK M A S s).1, .int .i64 (hlK M A S s).2]) ∧ Below w.heap.size w w' := by
  have bt0 := Blk.new w 52 #[.int .i64 s.k, .int .i64 s.m] w.heap.size rfl
  have hB0 := (Below.refl w.heap.size w).alloc (Nat.le_refl _) (.cells #[.int .i64 s.k, .int .i64 s.m] 52)
  obtain ⟨W, hW⟩ : ∃ W, Hid (w.alloc (.cells #[.int .i64 s.k, .int .i64 s.m] 52) = W) := ⟨_, Lib.hid rfl⟩
  obtain ⟨xb, hxb⟩ : ∃ xb, Hid (w.heap.size = xb) := ⟨_, Lib.hid rfl⟩
  rw [hW.out] at bt0 hB0
  rw [hxb.out] at bt0
  have HX := Lib.hid (hx.past hB0)
  have HBL := Lib.hid (balH_any s W HX.out)
  have HB0 := Lib.hid hB0
  have HT := Lib.hid bt0
  have t0 := HT.out.cell 0
  have t1 := HT.out.cell 1
  simp at t0 t1
  cases hok : okP M A s with
  | false =>
    rw [blK_f hok] at HBL
    have HK : Hid (hlK M A S s = (0, 8)) := Lib.hid (if_neg (by rw [hok]; simp))
    clear bt0 hB0 hx hok
    go_enter Try.func34, Try.ntmps34
    go_upto_region 1 with fail
    rw [hW.out, hxb.out]
    go_wp2_with fail
    refine HBL.out.mono ?_
    rintro e w1 ⟨rfl, hb1⟩
    have HB1 := Lib.hid (Below.past HB0.out hb1 HB0.out.size)
    clear hb1
    go_wp2_with fail
    go_ret2
    exact ⟨by rw [HK.out]; rfl, HB1.out⟩
  | true =>
    rw [blK_t hok] at HBL
    have HK : Hid (hlK M A S s = (heldH S s, 0)) := Lib.hid (if_pos hok)
    have HH := Lib.hid (fun w1 h => heldK_any gv gb gt base M A vb bl p room vt S s w1 h hi.z (hi.most hbl hok))
    obtain ⟨z1, hz1⟩ : ∃ z, Hid (bl.getD (ixS M s) 0 = z) := ⟨_, Lib.hid rfl⟩
    rw [hz1.out] at HBL
    clear bt0 hB0 hx hok hi hbl
    go_enter Try.func34, Try.ntmps34
    go_upto_region 1 with fail
    rw [hW.out, hxb.out]
    go_wp2_with fail
    refine HBL.out.mono ?_
    rintro e w1 ⟨rfl, hb1⟩
    have HB1 := Lib.hid (Below.past HB0.out hb1 HB0.out.size)
    have HH1 := Lib.hid (HH.out w1 (HX.out.past hb1))
    have ht1 := HT.out.past hb1
    clear t0 t1
    have t0 := ht1.cell 0
    have t1 := ht1.cell 1
    simp at t0 t1
    clear hb1 ht1 HH
    go_wp2_with fail
    refine HH1.out.mono ?_
    rintro e w2 ⟨rfl, hb2⟩
    have HB2 := Lib.hid (Below.past HB1.out hb2 HB1.out.size)
    clear hb2
    go_wp2_with fail
    go_ret2
    exact ⟨by rw [HK.out]; rfl, HB2.out⟩
def uhK (M A : Nat) (bl : List Int) (S : List HRow) (s : Spt) : Int × Int := if okP M A s = true then (bl.getD (ixS M s) 0 - heldH S s, 0) else (0, 8)
theorem HInv.free_in {M A : Nat} {bl : List Int} {S : List HRow} (h : HInv M A bl S) (hi : ∀ z ∈ bl, inI z) {s : Spt} (hs : okP M A s = true) : inI (heldH S s) ∧ inI (bl.getD (ixS M s) 0 - heldH S s) := by
  have h0 := heldH_nonneg h.z s
  have h1 := h.most hi hs
  have h2 := bl_in hi (ixS M s)
  cases hf : frB s with
  | true =>
    have h3 := h.free hf
    rw [h3]
    refine ⟨by simp [inI], ?_⟩
    rw [Int.sub_zero]; exact h2
  | false =>
    have h3 := h.le s hs hf
    unfold inI at h2 ⊢
    omega
set_option maxHeartbeats 4000000 in
set_option maxRecDepth 100000 in
theorem unheldB_any (s : Spt) (w : World) (hx : VltV w gv gb gt base M A vb bl p room vt S) (hi : HInv M A bl S) (hbl : ∀ z ∈ bl, inI z) :
    Calls Try.prog 36 #[.pointer (some ⟨gv, 0, none⟩), .agg #[.int .i64 s.k, .int .i64 s.m], .int .i64 s.a] w fun e w' => e = .returned (.tuple #[.int .i64 (uhK M A bl S s).1, .int .i64 (uhK M A bl S s).2]) ∧ Below w.heap.size w w' := by
  have bt0 := Blk.new w 52 #[.int .i64 s.k, .int .i64 s.m] w.heap.size rfl
  have hB0 := (Below.refl w.heap.size w).alloc (Nat.le_refl _) (.cells #[.int .i64 s.k, .int .i64 s.m] 52)
  obtain ⟨W, hW⟩ : ∃ W, Hid (w.alloc (.cells #[.int .i64 s.k, .int .i64 s.m] 52) = W) := ⟨_, Lib.hid rfl⟩
  obtain ⟨xb, hxb⟩ : ∃ xb, Hid (w.heap.size = xb) := ⟨_, Lib.hid rfl⟩
  rw [hW.out] at bt0 hB0
  rw [hxb.out] at bt0
  have HX := Lib.hid (hx.past hB0)
  have HBL := Lib.hid (balH_any s W HX.out)
  have HB0 := Lib.hid hB0
  have HT := Lib.hid bt0
  have t0 := HT.out.cell 0
  have t1 := HT.out.cell 1
  simp at t0 t1
  cases hok : okP M A s with
  | false =>
    rw [blK_f hok] at HBL
    have HK : Hid (uhK M A bl S s = (0, 8)) := Lib.hid (if_neg (by rw [hok]; simp))
    clear bt0 hB0 hx hok
    go_enter Try.func36, Try.ntmps36
    go_upto_region 1 with fail
    rw [hW.out, hxb.out]
    go_wp2_with fail
    refine HBL.out.mono ?_
    rintro e w1 ⟨rfl, hb1⟩
    have HB1 := Lib.hid (Below.past HB0.out hb1 HB0.out.size)
    clear hb1
    go_wp2_with fail
    go_ret2
    exact ⟨by rw [HK.out]; rfl, HB1.out⟩
  | true =>
    rw [blK_t hok] at HBL
    have HK : Hid (uhK M A bl S s = (bl.getD (ixS M s) 0 - heldH S s, 0)) := Lib.hid (if_pos hok)
    have HH := Lib.hid (fun w1 h => heldK_any gv gb gt base M A vb bl p room vt S s w1 h hi.z (hi.most hbl hok))
    obtain ⟨hin1, hin2⟩ := hi.free_in hbl hok
    have HSB := Lib.hid (fun w => sub_any (bl.getD (ixS M s) 0) (heldH S s) (bl_in hbl _) hin1 w)
    rw [show amount (bl.getD (ixS M s) 0 - heldH S s) = bl.getD (ixS M s) 0 - heldH S s from if_pos hin2, show over (bl.getD (ixS M s) 0 - heldH S s) = 0 from if_pos hin2] at HSB
    obtain ⟨z1, hz1⟩ : ∃ z, Hid (bl.getD (ixS M s) 0 = z) := ⟨_, Lib.hid rfl⟩
    rw [hz1.out] at HBL HSB HK
    clear bt0 hB0 hx hok hi hbl hin1 hin2
    go_enter Try.func36, Try.ntmps36
    go_upto_region 1 with fail
    rw [hW.out, hxb.out]
    go_wp2_with fail
    refine HBL.out.mono ?_
    rintro e w1 ⟨rfl, hb1⟩
    have HB1 := Lib.hid (Below.past HB0.out hb1 HB0.out.size)
    have HH1 := Lib.hid (HH.out w1 (HX.out.past hb1))
    have ht1 := HT.out.past hb1
    clear t0 t1
    have t0 := ht1.cell 0
    have t1 := ht1.cell 1
    simp at t0 t1
    clear hb1 ht1 HH
    go_wp2_with fail
    refine HH1.out.mono ?_
    rintro e w2 ⟨rfl, hb2⟩
    have HB2 := Lib.hid (Below.past HB1.out hb2 HB1.out.size)
    have HSB2 := Lib.hid (HSB.out w2)
    clear hb2 HSB
    go_wp2_with fail
    refine HSB2.out.mono ?_
    rintro e w3 ⟨rfl, rfl⟩
    go_wp2_with fail
    go_ret2
    exact ⟨by rw [HK.out]; rfl, HB2.out⟩
end
set_option maxHeartbeats 2000000 in
theorem totH_yes {gv gb gt base M A : Nat} {vb : Value} {bl : List Int} {p room : Int} {vt : Value} {S : List HRow} (j : Nat) (hj : j < A) (w : World) (hx : VltV w gv gb gt base M A vb bl p room vt S) (hbl : ∀ z ∈ bl, inI z) :
    Calls Try.prog 32 #[.pointer (some ⟨gv, 0, none⟩), .int .i64 (j : Nat)] w fun e w' => e = .returned (.tuple #[.int .i64 (amount ((bl.drop (j * cnt M)).take (cnt M)).sum), .int .i64 (over ((bl.drop (j * cnt M)).take (cnt M)).sum)]) ∧ Below w.heap.size w w' := by
  have HT := Lib.hid (totK_yes gb base M A vb bl p j hj w hx.book hbl)
  have p0 := hx.blk.cell 0
  simp at p0
  generalize amount ((bl.drop (j * cnt M)).take (cnt M)).sum = z1 at HT ⊢
  generalize over ((bl.drop (j * cnt M)).take (cnt M)).sum = z2 at HT ⊢
  clear hx
  go_enter Try.func32, Try.ntmps32
  go_wp2_with fail
  refine HT.out.mono ?_
  rintro e w1 ⟨rfl, hb⟩
  go_wp2_with fail
  go_ret2
  exact ⟨rfl, hb⟩
end Go.Proofs.Ytelbolhckhdioaa

/-! ## from HolC -/
namespace Go.Proofs.Ytelbolhckhdioaa
open Go.RowKit

/-! ### below -/
def belB (M A : Nat) (bl bl2 : List Int) (S : List HRow) (e : Ent) : Bool :=
  !frB e.spt && (decide ((blK M A bl2 e.spt).1 < (blK M A bl e.spt).1) && decide ((blK M A bl2 e.spt).1 < heldH S e.spt))
theorem bel_ok {M A : Nat} {bl bl2 : List Int} {s : Spt} (h : (blK M A bl2 s).1 < (blK M A bl s).1) : okP M A s = true := by
  cases hok : okP M A s with
  | true => rfl
  | false => rw [blK_f hok, blK_f hok] at h; simp at h
set_option maxHeartbeats 8000000 in
set_option maxRecDepth 100000 in
theorem belowK_any (gv gb gt base M A : Nat) (vb : Value) (bl : List Int) (p room : Int) (vt : Value) (S : List HRow) (gb2 base2 : Nat) (vb2 : Value) (bl2 : List Int) (p2 : Int) (P : Option Addr) (n c : Nat) (l : List Ent) (w : World) (hx : VltV w gv gb gt base M A vb bl p room vt S) (hx2 : BookV w gb2 base2 M A vb2 bl2 p2) (hi : HInv M A bl S) (hbl : ∀ z ∈ bl, inI z) (hr : Rd w w.heap.size 4 P n (l.flatMap Ent.cells)) (hn : n ≤ 1000) :
    Calls Try.prog 76 #[.pointer (some ⟨gv, 0, none⟩), .pointer (some ⟨gb2, 0, none⟩), .slice P n c] w fun e w' => e = .returned (.bool (l.any (belB M A bl bl2 S))) ∧ Below w.heap.size w w' := by
  have HL := Lib.hid (hr.len Ent.cells_len (by omega))
  have HX := Lib.hid hx
  have HX2 := Lib.hid hx2
  have HR := Lib.hid hr
  have HI := Lib.hid hi
  have HBL := Lib.hid hbl
  clear hx hx2 hr hi hbl
  go_enter Try.func76, Try.ntmps76
  go_wp2_with fail
  go_loopw [15] (fun i wr => ∃ k : Nat, k ≤ n ∧ i = .int .i64 k ∧ Hid ((l.take k).any (belB M A bl bl2 S) = false) ∧ Hid (Below w.heap.size w wr)) (fun i _ => n - (intOf i).toNat)
  case atStart => exact ⟨0, Nat.zero_le _, rfl, Lib.hid rfl, Lib.hid (Below.refl _ _)⟩
  case round =>
    obtain ⟨k, hk, rfl, HN, HB⟩ := hrel
    by_cases hlt : k < n
    · have hlz : (k : Int) < (n : Int) := by omega
      have hg_f : l[k]? = some (l[k]'(by have := HL.out; omega)) := List.getElem?_eq_getElem _
      obtain ⟨b_f, off_f, rfl, hbb_f, hc_f⟩ := (HR.out.past HB.out).elem Ent.cells_len hg_f hlt
      have HT_f := Lib.hid (show l.take (k + 1) = l.take k ++ [(l[k]'(by have := HL.out; omega))] from List.take_succ_eq_append_getElem (by have := HL.out; omega))
      have HM_f := Lib.hid (show (l[k]'(by have := HL.out; omega)) ∈ l from List.getElem_mem _)
      generalize (l[k]'(by have := HL.out; omega)) = f at *
      have c0 := hc_f 0 _ rfl
      have c1 := hc_f 1 _ rfl
      have c2 := hc_f 2 _ rfl
      have c3 := hc_f 3 _ rfl
      clear hc_f hg_f
      simp only [Nat.add_zero] at c0
      have hx1 := HX.out.past HB.out
      have hy1 := HX2.out.past HB.out
      have hba := (Below.refl wr.heap.size wr).alloc (Nat.le_refl _) (.cells #[.int .i64 f.k, .int .i64 f.m, .int .i64 f.a, .int .i64 f.z] 110)
      have hbk := Blk.new wr 110 #[.int .i64 f.k, .int .i64 f.m, .int .i64 f.a, .int .i64 f.z] wr.heap.size rfl
      obtain ⟨xb, hxb⟩ : ∃ xb, Hid (wr.heap.size = xb) := ⟨_, Lib.hid rfl⟩
      obtain ⟨W1, hW1⟩ : ∃ W1, Hid (wr.alloc (.cells #[.int .i64 f.k, .int .i64 f.m, .int .i64 f.a, .int .i64 f.z] 110) = W1) := ⟨_, Lib.hid rfl⟩
      have hxA := hx1.past hba
      have hyA := hy1.past hba
      have HBA := Lib.hid (Below.past HB.out hba HB.out.size)
      rw [hW1.out] at hbk hxA hyA HBA
      rw [hxb.out] at hbk
      have hdr := Below.drew (Below.refl W1.heap.size W1)
      have HXD := Lib.hid (hxA.past hdr)
      have HYD := Lib.hid (hyA.past hdr)
      have HKD := Lib.hid (hbk.past hdr)
      have HBD := Lib.hid (Below.past HBA.out hdr HBA.out.size)
      have HB1 := Lib.hid (balK_any gb base M A vb bl p f.spt W1.drew HXD.out.book)
      have p0 := hxA.blk.cell 0
      simp at p0
      have t0 := hbk.cell 0
      have t1 := hbk.cell 1
      have t2 := hbk.cell 2
      have hxl := hbk.lt
      simp at t0 t1 t2
      have HF2 : Hid (belB M A bl bl2 S f = (!frB f.spt && (decide ((blK M A bl2 f.spt).1 < (blK M A bl f.spt).1) && decide ((blK M A bl2 f.spt).1 < heldH S f.spt)))) := Lib.hid rfl
      have HNX : Hid ((l.take (k + 1)).any (belB M A bl bl2 S) = belB M A bl bl2 S f) := Lib.hid (by rw [HT_f.out, List.any_append, HN.out]; simp)
      have HAN : Hid (belB M A bl bl2 S f = true → l.any (belB M A bl bl2 S) = true) := Lib.hid fun h => List.any_eq_true.2 ⟨f, HM_f.out, h⟩
      have HHE : Hid ((blK M A bl2 f.spt).1 < (blK M A bl f.spt).1 → ∀ w1, VltV w1 gv gb gt base M A vb bl p room vt S → Calls Try.prog 83 #[.pointer (some ⟨gv, 0, none⟩), .agg #[.int .i64 f.k, .int .i64 f.m], .int .i64 f.a] w1 fun e w' => e = .returned (.int .i64 (heldH S f.spt)) ∧ Below w1.heap.size w1 w') := Lib.hid fun h w1 h1 => heldK_any gv gb gt base M A vb bl p room vt S f.spt w1 h1 HI.out.z (HI.out.most HBL.out (bel_ok h))
      have HFR := Lib.hid (fun w => free_any ⟨f.k, f.m⟩ w)
      rw [show ((⟨f.k, f.m⟩ : Acc).kind == 5 || (⟨f.k, f.m⟩ : Acc).kind == 6 || (⟨f.k, f.m⟩ : Acc).kind == 7) = frB f.spt from rfl] at HFR
      have HB2 := Lib.hid (fun w h => balK_any gb2 base2 M A vb2 bl2 p2 f.spt w h)
      rw [show f.spt.k = f.k from rfl, show f.spt.m = f.m from rfl, show f.spt.a = f.a from rfl] at HB1 HB2
      obtain ⟨za, hza⟩ : ∃ z, Hid ((blK M A bl f.spt).1 = z) := ⟨_, Lib.hid rfl⟩
      obtain ⟨ea, hea⟩ : ∃ z, Hid ((blK M A bl f.spt).2 = z) := ⟨_, Lib.hid rfl⟩
      obtain ⟨zb, hzb⟩ : ∃ z, Hid ((blK M A bl2 f.spt).1 = z) := ⟨_, Lib.hid rfl⟩
      obtain ⟨eb, heb⟩ : ∃ z, Hid ((blK M A bl2 f.spt).2 = z) := ⟨_, Lib.hid rfl⟩
      obtain ⟨hz, hhz⟩ : ∃ z, Hid (heldH S f.spt = z) := ⟨_, Lib.hid rfl⟩
      obtain ⟨fr, hfr⟩ : ∃ z, Hid (frB f.spt = z) := ⟨_, Lib.hid rfl⟩
      rw [hza.out, hea.out] at HB1
      rw [hzb.out, heb.out] at HB2
      rw [hza.out, hzb.out, hhz.out, hfr.out] at HF2
      rw [hza.out, hzb.out, hhz.out] at HHE
      rw [hfr.out] at HFR
      clear hx1 hy1 hba hbk hxA hyA hdr HBA
      go_upto_region 4 with fail
      rw [hW1.out, hxb.out]
      go_region_with (go_at_call 54; refine HB1.out.mono ?_; rintro e w2 ⟨rfl, hb2⟩; have HBN2 := Lib.hid hb2; clear hb2)
      all_goals
        have HX3 := Lib.hid (HXD.out.past HBN2.out)
        have HY3 := Lib.hid (HYD.out.past HBN2.out)
        have HK3 := Lib.hid (HKD.out.past HBN2.out)
        have HBB3 := Lib.hid (Below.past HBD.out HBN2.out HBD.out.size)
        have HB23 := Lib.hid (HB2.out w2 HY3.out)
        clear p0 t0 t1 t2 hxl HBN2
        have t0 := HK3.out.cell 0
        have t1 := HK3.out.cell 1
        have t2 := HK3.out.cell 2
        simp at t0 t1 t2
        go_wp2_with fail
        refine HB23.out.mono ?_
        rintro e w3 ⟨rfl, hb3⟩
        have HX4 := Lib.hid (HX3.out.past hb3)
        have HK4 := Lib.hid (HK3.out.past hb3)
        have HBB4 := Lib.hid (Below.past HBB3.out hb3 HBB3.out.size)
        have HFR4 := Lib.hid (HFR.out w3)
        clear t0 t1 t2 hb3
        have t0 := HK4.out.cell 0
        have t1 := HK4.out.cell 1
        have t2 := HK4.out.cell 2
        simp at t0 t1 t2
        go_wp2_with fail
        refine HFR4.out.mono ?_
        rintro e w4 ⟨rfl, hb4⟩
        have HX5 := Lib.hid (HX4.out.past hb4)
        have HK5 := Lib.hid (HK4.out.past hb4)
        have HBB5 := Lib.hid (Below.past HBB4.out hb4 HBB4.out.size)
        clear t0 t1 t2 hb4
        have t0 := HK5.out.cell 0
        have t1 := HK5.out.cell 1
        have t2 := HK5.out.cell 2
        simp at t0 t1 t2
        cases fr with
        | true =>
          have HFF : Hid (belB M A bl bl2 S f = false) := Lib.hid (by rw [HF2.out]; rfl)
          go_wp2_with fail
          go_roundw
          case rel => exact ⟨k + 1, by omega, by go_num, Lib.hid (by rw [HNX.out, HFF.out]), HBB5⟩
          case measure => simp [intOf]; omega
        | false =>
          by_cases hlt2 : zb < za
          · have HH5 := Lib.hid (HHE.out hlt2 w4 HX5.out)
            go_wp2_with fail
            refine HH5.out.mono ?_
            rintro e w5 ⟨rfl, hb5⟩
            have HBB6 := Lib.hid (Below.past HBB5.out hb5 HBB5.out.size)
            clear hb5
            by_cases hlt3 : zb < hz
            · have HFF : Hid (belB M A bl bl2 S f = true) := Lib.hid (by rw [HF2.out]; simp [hlt2, hlt3])
              go_wp2_with fail
              go_ret
              exact ⟨by rw [HAN.out HFF.out]; rfl, HBB6.out⟩
            · have HFF : Hid (belB M A bl bl2 S f = false) := Lib.hid (by rw [HF2.out]; simp [hlt3])
              go_wp2_with fail
              go_roundw
              case rel => exact ⟨k + 1, by omega, by go_num, Lib.hid (by rw [HNX.out, HFF.out]), HBB6⟩
              case measure => simp [intOf]; omega
          · have HFF : Hid (belB M A bl bl2 S f = false) := Lib.hid (by rw [HF2.out]; simp [hlt2])
            go_wp2_with fail
            go_roundw
            case rel => exact ⟨k + 1, by omega, by go_num, Lib.hid (by rw [HNX.out, HFF.out]), HBB5⟩
            case measure => simp [intOf]; omega
    · have hlz : ¬ (k : Int) < (n : Int) := by omega
      obtain rfl : n = k := by omega
      have hT : l.take n = l := List.take_of_length_le (by rw [HL.out]; exact Nat.le_refl _)
      rw [hT] at HN
      go_wp2_with fail
      go_ret
      exact ⟨by rw [HN.out]; rfl, HB.out⟩
end Go.Proofs.Ytelbolhckhdioaa

/-! ## from HolD -/
namespace Go.Proofs.Ytelbolhckhdioaa
open Go.RowKit

/-! ### Post: what it tells, and what holds behind it (plain) -/
def hpK (M A : Nat) (bl : List Int) (S : List HRow) (l : List Ent) : Int := if postK M A bl l = 0 then (if l.any (belB M A bl (postB M A bl l) S) = true then 13 else 0) else postK M A bl l
def hpB (M A : Nat) (bl : List Int) (S : List HRow) (l : List Ent) : List Int := if hpK M A bl S l = 0 then postB M A bl l else bl
def hpL (M A : Nat) (bl : List Int) (S : List HRow) (L l : List Ent) : List Ent := if hpK M A bl S l = 0 then L ++ l else L
theorem hpK_zero {M A : Nat} {bl : List Int} {S : List HRow} {l : List Ent} (h : hpK M A bl S l = 0) : postK M A bl l = 0 ∧ l.any (belB M A bl (postB M A bl l) S) = false := by
  unfold hpK at h
  by_cases h0 : postK M A bl l = 0
  · rw [if_pos h0] at h
    refine ⟨h0, ?_⟩
    cases hb : l.any (belB M A bl (postB M A bl l) S) with
    | false => rfl
    | true => rw [hb, if_pos rfl] at h; omega
  · rw [if_neg h0] at h; exact absurd h h0
theorem inv_get {M A : Nat} {bl : List Int} {L : List Ent} (h : Inv M A bl L) {s : Spt} (hs : okP M A s = true) : bl.getD (ixS M s) 0 = (atB L s).sum := by
  rw [List.getD, h.bal s hs]; rfl
theorem atB_none {l : List Ent} {s : Spt} (h : ∀ e ∈ l, e.spt ≠ s) : atB l s = [] := by
  unfold atB
  rw [List.filter_eq_nil_iff.2 fun e he => by simpa using h e he]; rfl
theorem HInv.post {M A : Nat} {bl : List Int} {S : List HRow} {L l : List Ent} (hM : M ≤ 16) (hI : Inv M A bl L) (h : HInv M A bl S) : Inv M A (hpB M A bl S l) (hpL M A bl S L l) ∧ HInv M A (hpB M A bl S l) S := by
  unfold hpB hpL
  by_cases h0 : hpK M A bl S l = 0
  · rw [if_pos h0, if_pos h0]
    obtain ⟨h1, h2⟩ := hpK_zero h0
    have hI2 := hI.post (l := l) hM
    rw [if_pos h1] at hI2
    refine ⟨hI2, h.z, h.ok, fun s hs hf => ?_⟩
    have e1 := inv_get hI hs
    have e2 := inv_get hI2 hs
    have hle := h.le s hs hf
    by_cases hlt : (postB M A bl l).getD (ixS M s) 0 < bl.getD (ixS M s) 0
    · by_cases hex : ∃ e ∈ l, e.spt = s
      · obtain ⟨e, he, rfl⟩ := hex
        rw [List.any_eq_false] at h2
        have h3 := h2 e he
        unfold belB at h3
        rw [blK_t hs, blK_t hs, hf] at h3
        simp only [Bool.not_false, Bool.true_and, Bool.and_eq_true, decide_eq_true_eq, not_and] at h3
        have := h3 hlt
        omega
      · have : atB l s = [] := atB_none fun e he hes => hex ⟨e, he, hes⟩
        rw [e1, e2, atB_app, this, List.append_nil] at hlt
        omega
    · omega
  · rw [if_neg h0, if_neg h0]
    exact ⟨hI, h⟩
def PostHPost (gv gt base M A : Nat) (bl : List Int) (p room : Int) (vt : Value) (S : List HRow) (l : List Ent) (w : World) (e : Ending) (w' : World) : Prop :=
  e = .returned (.int .i64 (hpK M A bl S l)) ∧ ∃ gb' vb' p', VltV w' gv gb' gt base M A vb' (hpB M A bl S l) p' room vt S ∧ OnlyG gv (.slice none 0 0) w w' ∧ (p' = p ∨ p' = p + 1)
theorem BookV.base {w : World} {g base base' M A : Nat} {v : Value} {bl : List Int} {p : Int} (h : BookV w g base M A v bl p) (hb : base' ≤ base) : BookV w g base' M A v bl p :=
  ⟨h.form, h.blk, own_monoZ h.row hb, h.len, h.hM, h.hA⟩
set_option maxHeartbeats 8000000 in
set_option maxRecDepth 100000 in
theorem postH_any (gv gb gt base M A : Nat) (vb : Value) (bl : List Int) (p room : Int) (vt : Value) (S : List HRow) (P : Option Addr) (n c : Nat) (l : List Ent) (w : World) (hx : VltV w gv gb gt base M A vb bl p room vt S) (hi : HInv M A bl S) (hbl : ∀ z ∈ bl, inI z) (hr : Rd w w.heap.size 4 P n (l.flatMap Ent.cells)) (hn : n ≤ 1000) (hok : ∀ e ∈ l, EntOk e) (hp : 0 ≤ p ∧ p ≤ 1000000) (hbase : base ≤ w.heap.size) :
    Calls Try.prog 27 #[.pointer (some ⟨gv, 0, none⟩), .slice P n c] w (PostHPost gv gt base M A bl p room vt S l w) := by
  have HX := Lib.hid hx
  have HR := Lib.hid hr
  have HI := Lib.hid hi
  have HBL := Lib.hid hbl
  have HC := Lib.hid (copyK_any gb base M A vb bl p w hx.book)
  unfold CopyKPost at HC
  have HOK := Lib.hid hok
  clear hx hr hi hbl hok
  go_enter Try.func27, Try.ntmps27
  have p0 := HX.out.blk.cell 0
  simp at p0
  go_wp2_with fail
  refine HC.out.mono ?_
  rintro e w1 ⟨g2, v2, rfl, hg2, hbk, hb1⟩
  have HPO := Lib.hid (postK_any g2 w.heap.size M A v2 bl p P n c l w1 hbk (HR.out.past hb1) hn HOK.out HBL.out hp)
  unfold PostPost at HPO
  have HB1 := Lib.hid hb1
  have HBK1 := Lib.hid hbk
  clear hb1 hbk HC p0
  go_wp2_with fail
  refine HPO.out.mono ?_
  rintro e w2 ⟨rfl, hbk2, ho2⟩
  have HB2 : Hid (Below w.heap.size w w2) := Lib.hid (Below.trans HB1.out (ho2.frame hg2 HB1.out.size fun k e => (HBK1.out.row.lt k e).1))
  have HX2 := Lib.hid (HX.out.past HB2.out)
  have HBK2 := Lib.hid hbk2
  have HBE := Lib.hid (belowK_any gv gb gt base M A vb bl p room vt S g2 w.heap.size v2 (postB M A bl l) (postP M A bl l p) P n c l w2 HX2.out HBK2.out HI.out HBL.out (HR.out.past HB2.out) hn)
  clear hbk2 ho2 HPO HBK1 HB1
  by_cases hK : postK M A bl l = 0
  · rw [hK]
    have HK := Lib.hid hK
    cases hany : l.any (belB M A bl (postB M A bl l) S) with
    | true =>
      have HH : Hid (hpK M A bl S l = 13) := Lib.hid (by rw [hpK, if_pos hK, if_pos hany])
      rw [hany] at HBE
      clear hK hany
      go_wp2_with fail
      refine HBE.out.mono ?_
      rintro e w3 ⟨rfl, hb3⟩
      have HB3 := Lib.hid (Below.past HB2.out hb3 HB2.out.size)
      clear hb3
      go_wp2_with fail
      go_ret
      refine ⟨by rw [HH.out]; rfl, gb, vb, p, ?_, OnlyG.of_below HB3.out, .inl rfl⟩
      rw [hpB, if_neg (by rw [HH.out]; decide)]
      exact HX.out.past HB3.out
    | false =>
      have HH : Hid (hpK M A bl S l = 0) := Lib.hid (by rw [hpK, if_pos hK, if_neg (by rw [hany]; simp)])
      have HP : Hid (postP M A bl l p = p + 1) := Lib.hid (by rw [postP, if_pos hK])
      rw [hany] at HBE
      clear hK hany
      go_wp2_with fail
      refine HBE.out.mono ?_
      rintro e w3 ⟨rfl, hb3⟩
      have HB3 := Lib.hid (Below.past HB2.out hb3 HB2.out.size)
      have HX3 := Lib.hid (HX2.out.past hb3)
      have HBK3 := Lib.hid (HBK2.out.past hb3)
      have y0 := HX3.out.blk.cell 0
      have f0 := HX3.out.blk.frozen 0
      simp at y0
      have HF : Hid (VltV (w3.setCell ⟨gv, 0, none⟩ (.pointer (some ⟨g2, 0, none⟩))) gv g2 gt base M A v2 (postB M A bl l) (p + 1) room vt S) := Lib.hid (by
        have h1 : g2 ≠ gv := blk_neZ HBK3.out.blk HX3.out.blk (by decide)
        have h2 : gt ≠ gv := blk_neZ HX3.out.tab.blk HX3.out.blk (by decide)
        rw [← HP.out]
        refine ⟨HX3.out.blk.put 0 _, ⟨HBK3.out.form, HBK3.out.blk.far (p := ⟨gv, 0, none⟩) h1 _, own_far (p := ⟨gv, 0, none⟩) (own_monoZ HBK3.out.row hbase) (own_blk_ne HBK3.out.row HX3.out.blk (by decide)) _, HBK3.out.len, HBK3.out.hM, HBK3.out.hA⟩, HX3.out.tab.far (p := ⟨gv, 0, none⟩) h2 (own_blk_ne HX3.out.tab.row HX3.out.blk (by decide)) _, HX3.out.hv, by omega, HX3.out.ht⟩)
      have HO : Hid (OnlyG gv (.slice none 0 0) w (w3.setCell ⟨gv, 0, none⟩ (.pointer (some ⟨g2, 0, none⟩)))) := Lib.hid ((OnlyG.of_below HB3.out).setCell ⟨gv, 0, none⟩ rfl _)
      clear hb3
      go_wp2_with fail
      go_ret
      refine ⟨by rw [HH.out]; rfl, g2, v2, p + 1, ?_, HO.out, .inr rfl⟩
      rw [hpB, if_pos HH.out]
      exact HF.out
  · have HH : Hid (hpK M A bl S l = postK M A bl l) := Lib.hid (by rw [hpK, if_neg hK])
    obtain ⟨K, hKe⟩ : ∃ K, Hid (postK M A bl l = K) := ⟨_, Lib.hid rfl⟩
    rw [hKe.out] at HH hK
    rw [hKe.out]
    have hq : (K != 0) = true := by simpa using hK
    clear hK HBE
    go_wp2_with fail
    go_ret
    refine ⟨by rw [HH.out]; rfl, gb, vb, p, ?_, OnlyG.of_below HB2.out, .inl rfl⟩
    rw [hpB, if_neg (by rw [HH.out]; simpa using hq)]
    exact HX2.out
end Go.Proofs.Ytelbolhckhdioaa
