import Derived.Test.YtelbolhckhdioaaHkF
import Derived.Test.YtelbolhckhdioaaBokS
import Derived.Test.YtelbolhckhdioaaHkC
/-! ## from HdA -/
namespace Go.Proofs.Ytelbolhckhdioaa
open Go.RowKit

/-! ### The document's vault in memory; Held, Find -/
structure QvtV (w : World) (h base M A : Nat) (v : Value) (L : List Ent) (p room : Int) (u : Value) (D : List HRow) : Prop where
  book : TBk.RbkV room u w h base M A v L p
  form : ∃ X c, u = .slice X D.length c
  row : w.ownsRow base 124 5 u D.length (D.flatMap TTbH.RowT.cells)
  len : D.length ≤ 1000
section
variable {w w' : World} {h base M A : Nat} {v : Value} {L : List Ent} {p room : Int} {u : Value} {D : List HRow}
theorem QvtV.past (H : QvtV w h base M A v L p room u D) (hb : Below w.heap.size w w') : QvtV w' h base M A v L p room u D :=
  ⟨H.book.past hb, H.form, own_pastZ H.row hb, H.len⟩
theorem QvtV.blk (H : QvtV w h base M A v L p room u D) : Blk w h 49 #[.int .i64 M, .int .i64 A, v, .int .i64 p, .int .i64 room, u] := H.book.blk
end
theorem refFree15_any (s : Spt) (w : World) : Calls Try.prog 115 #[.agg #[.int .i64 s.k, .int .i64 s.m]] w fun e w' => e = .returned (.bool (frB s)) ∧ Below w.heap.size w w' := by
  have hb := (Below.refl w.heap.size w).alloc (Nat.le_refl _) (.cells #[.int .i64 s.k, .int .i64 s.m] 52)
  have hf : frB s = (decide (5 ≤ s.k) && decide (s.k ≤ 7)) := by
    unfold frB
    rw [Bool.eq_iff_iff]
    simp
    omega
  have HF := Lib.hid hf
  clear hf
  by_cases h1 : 5 ≤ s.k
  · by_cases h2 : s.k ≤ 7
    · go_enter Try.func115, Try.ntmps115
      go_wp2_with fail
      go_ret
      exact ⟨by rw [HF.out]; simp [h1, h2], hb⟩
    · go_enter Try.func115, Try.ntmps115
      go_wp2_with fail
      go_ret
      exact ⟨by rw [HF.out]; simp [h1, h2], hb⟩
  · go_enter Try.func115, Try.ntmps115
    go_wp2_with fail
    go_ret
    exact ⟨by rw [HF.out, decide_eq_false (show ¬ 5 ≤ s.k by omega)]; rfl, hb⟩
def FindH (D : List HRow) (id i : Int) : Prop := (i = -1 ∧ TTbH.isT D id = false) ∨ ∃ (k : Nat) (r : HRow), i = (k : Nat) ∧ D[k]? = some r ∧ r.id = id
theorem FindH.is {D : List HRow} {id i : Int} (h : FindH D id i) : (TTbH.isT D id = true ↔ 0 ≤ i) := by
  rcases h with ⟨rfl, h⟩ | ⟨k, r, rfl, h1, h2⟩
  · rw [h]; simp
  · constructor
    · intro _; omega
    · intro _; exact List.any_eq_true.2 ⟨r, List.mem_of_getElem? h1, by simpa using h2⟩
section
variable {h base M A : Nat} {v : Value} {L : List Ent} {p room : Int} {u : Value} {D : List HRow}
set_option maxHeartbeats 4000000 in
theorem refFindV_any (id : Int) (w : World) (hx : QvtV w h base M A v L p room u D) :
    Calls Try.prog 116 #[.pointer (some ⟨h, 0, none⟩), .int .i64 id] w fun e w' => (∃ i : Int, e = .returned (.int .i64 i) ∧ FindH D id i) ∧ w = w' := by
  obtain ⟨X, c, hv⟩ := hx.form
  subst hv
  have hl := hx.len
  have p1 := hx.blk.cell 5
  simp at p1
  have HR := Lib.hid (Rd.of_own hx.row)
  obtain ⟨n, hn⟩ : ∃ n, Hid (D.length = n) := ⟨_, Lib.hid rfl⟩
  rw [hn.out] at p1 HR hl
  clear hx
  go_enter Try.func116, Try.ntmps116
  go_wp2_with fail
  go_loopw [5] (fun i wr => ∃ k : Nat, k ≤ n ∧ i = .int .i64 k ∧ Hid (TTbH.isT (D.take k) id = false) ∧ w = wr) (fun i _ => n - (intOf i).toNat)
  case atStart => exact ⟨0, Nat.zero_le _, rfl, Lib.hid rfl, rfl⟩
  case round =>
    obtain ⟨k, hk, rfl, HN, rfl⟩ := hrel
    by_cases hlt : k < n
    · have hlz : (k : Int) < (n : Int) := by omega
      have hg_f : D[k]? = some (D[k]'(by have := hn.out; omega)) := List.getElem?_eq_getElem _
      obtain ⟨b_f, off_f, rfl, hbb_f, hc_f⟩ := (HR.out).elem TTbH.RowT.cells_len hg_f hlt
      have HT_f := Lib.hid (show D.take (k + 1) = D.take k ++ [(D[k]'(by have := hn.out; omega))] from List.take_succ_eq_append_getElem (by have := hn.out; omega))
      have HM_f := Lib.hid (show (D[k]'(by have := hn.out; omega)) ∈ D from List.getElem_mem _)
      have HG_f := Lib.hid hg_f
      generalize (D[k]'(by have := hn.out; omega)) = f at *
      have c0 := hc_f 0 _ rfl
      have c1 := hc_f 1 _ rfl
      have c2 := hc_f 2 _ rfl
      have c3 := hc_f 3 _ rfl
      have c4 := hc_f 4 _ rfl
      clear hc_f hg_f
      simp only [Nat.add_zero] at c0
      by_cases he : f.id = id
      · have HP : Hid (FindH D id (k : Nat)) := Lib.hid (.inr ⟨k, f, rfl, HG_f.out, he⟩)
        have hq : (f.id == id) = true := by simpa using he
        clear he
        go_wp2_with fail
        go_ret
        exact ⟨⟨_, rfl, HP.out⟩, rfl⟩
      · have HN2 : Hid (TTbH.isT (D.take (k + 1)) id = false) := Lib.hid (by
          have := HN.out
          unfold TTbH.isT at this ⊢
          rw [HT_f.out, List.any_append, this]; simp [he])
        have hq : (f.id == id) = false := by simpa using he
        go_wp2_with fail
        go_roundw
        case rel => exact ⟨k + 1, by omega, by go_num, HN2, (by first | rfl | trivial)⟩
        case measure => simp [intOf]; omega
    · have hlz : ¬ (k : Int) < (n : Int) := by omega
      obtain rfl : n = k := by omega
      have HP : Hid (FindH D id (-1)) := Lib.hid (.inl ⟨rfl, by have := HN.out; rwa [List.take_of_length_le (by rw [hn.out]; exact Nat.le_refl _)] at this⟩)
      go_wp2_with fail
      go_ret
      exact ⟨⟨_, rfl, HP.out⟩, rfl⟩
set_option maxHeartbeats 4000000 in
set_option maxRecDepth 100000 in
theorem refHeld_any (s : Spt) (w : World) (hx : QvtV w h base M A v L p room u D) (hz : ∀ r ∈ D, 0 ≤ r.v.z) (hs : heldH D s ≤ 9223372036854775807) :
    Calls Try.prog 71 #[.pointer (some ⟨h, 0, none⟩), .agg #[.int .i64 s.k, .int .i64 s.m], .int .i64 s.a] w fun e w' => e = .returned (.int .i64 (heldH D s)) ∧ Below w.heap.size w w' := by
  have bt0 := Blk.new w 52 #[.int .i64 s.k, .int .i64 s.m] w.heap.size rfl
  have hB0 := (Below.refl w.heap.size w).alloc (Nat.le_refl _) (.cells #[.int .i64 s.k, .int .i64 s.m] 52)
  obtain ⟨W, hW⟩ : ∃ W, Hid (w.alloc (.cells #[.int .i64 s.k, .int .i64 s.m] 52) = W) := ⟨_, Lib.hid rfl⟩
  obtain ⟨xb, hxb⟩ : ∃ xb, Hid (w.heap.size = xb) := ⟨_, Lib.hid rfl⟩
  rw [hW.out] at bt0 hB0
  rw [hxb.out] at bt0
  have HB0 := Lib.hid hB0
  have HX := Lib.hid (hx.past hB0)
  have HT := Lib.hid bt0
  have hln := hx.len
  have HN := Lib.hid (fun k => heldH_nonneg (S := D.take k) (fun r hr => hz r (List.mem_of_mem_take hr)) s)
  have HM := Lib.hid (fun k => Int.le_trans (heldH_take hz s k) hs)
  obtain ⟨X, c, hv⟩ := hx.form
  subst hv
  have HR := Lib.hid (Rd.of_own HX.out.row)
  have HK := Lib.hid HX.out.blk
  obtain ⟨n, hn⟩ : ∃ n, Hid (D.length = n) := ⟨_, Lib.hid rfl⟩
  rw [hn.out] at HR HK hln
  clear hx hz hs bt0 hB0
  go_enter Try.func71, Try.ntmps71
  go_upto_region 1 with fail
  rw [hW.out, hxb.out]
  go_wp2_with fail
  go_loopw [7, 8] (fun v i wr => ∃ k : Nat, k ≤ n ∧ i = .int .i64 k ∧ v = .int .i64 (heldH (D.take k) s) ∧ Hid (Below W.heap.size W wr)) (fun _ i _ => n - (intOf i).toNat)
  case atStart => exact ⟨0, Nat.zero_le _, rfl, rfl, Lib.hid (Below.refl _ _)⟩
  case round =>
    obtain ⟨k, hk, rfl, rfl, HB⟩ := hrel
    have hn0 := HN.out k
    have hm0 := HM.out k
    have p5 := (HK.out.past HB.out).cell 5
    simp at p5
    by_cases hlt : k < n
    · have hlz : (k : Int) < (n : Int) := by omega
      have hg_f : D[k]? = some (D[k]'(by have := hn.out; omega)) := List.getElem?_eq_getElem _
      obtain ⟨b_f, off_f, rfl, hbb_f, hc_f⟩ := (HR.out.past HB.out).elem TTbH.RowT.cells_len hg_f hlt
      have HT_f := Lib.hid (show D.take (k + 1) = D.take k ++ [(D[k]'(by have := hn.out; omega))] from List.take_succ_eq_append_getElem (by have := hn.out; omega))
      have HM_f := Lib.hid (show (D[k]'(by have := hn.out; omega)) ∈ D from List.getElem_mem _)
      generalize (D[k]'(by have := hn.out; omega)) = f at *
      have c0 := hc_f 0 _ rfl
      have c1 := hc_f 1 _ rfl
      have c2 := hc_f 2 _ rfl
      have c3 := hc_f 3 _ rfl
      have c4 := hc_f 4 _ rfl
      clear hc_f hg_f
      simp only [Nat.add_zero] at c0
      have hq := fun w => acc_eql ⟨f.v.k, f.v.m⟩ ⟨s.k, s.m⟩ w
      have ht := HT.out.past HB.out
      have t0 := ht.cell 0
      have t1 := ht.cell 1
      have htl := ht.lt
      simp at t0 t1
      clear ht
      obtain ⟨P, hP⟩ : ∃ P, Hid (heldH (D.take k) s = P) := ⟨_, Lib.hid rfl⟩
      rw [hP.out] at hn0 hm0
      rw [hP.out]
      cases he : eqA ⟨f.v.k, f.v.m⟩ ⟨s.k, s.m⟩ with
      | false =>
        rw [he] at hq
        have HS : Hid (heldH (D.take (k + 1)) s = P) := Lib.hid (by rw [← hP.out]; exact heldH_no HT_f.out (fun h => by rw [spt_eqH] at h; rw [he] at h; cases h.1))
        clear he
        go_wp2_with fail
        go_quiet (fail)
        have HBN := Lib.hid (below_drewN HB.out nq)
        clear p5 c0 c1 c2 c3 c4 t0 t1 hq
        go_wp2_with fail
        go_roundw
        case rel => exact ⟨k + 1, by omega, by go_num, by rw [HS.out], HBN⟩
        case measure => simp [intOf]; omega
      | true =>
        rw [he] at hq
        by_cases ha : f.v.a = s.a
        · have hpt : f.v.spt = s := (spt_eqH _ _).2 ⟨he, ha⟩
          have h1 := heldH_yes HT_f.out hpt
          have h2 := HM.out (k + 1)
          have h3 := HN.out (k + 1)
          rw [h1, hP.out] at h2 h3
          have HS : Hid (heldH (D.take (k + 1)) s = P + f.v.z) := Lib.hid (by rw [← hP.out]; exact h1)
          have hw : IntKind.i64.wrap (P + f.v.z) = P + f.v.z := IntWalk.i64_in _ (by omega)
          have hqa : (f.v.a == s.a) = true := by simpa using ha
          clear h1 h2 h3 hpt ha he
          go_wp2_with fail
          go_quiet (fail)
          have HBN := Lib.hid (below_drewN HB.out nq)
          have d4 : (wr.drewN nq).cell? _ = _ := c4
          have d5 : (wr.drewN nq).cell? _ = _ := p5
          obtain ⟨V, hV⟩ : ∃ V, Hid (wr.drewN nq = V) := ⟨_, Lib.hid rfl⟩
          rw [hV.out] at HBN d4 d5
          rw [hV.out]
          clear p5 c0 c1 c2 c3 c4 t0 t1 hq
          go_wp2_with fail
          go_roundw
          case rel => exact ⟨k + 1, by omega, by go_num, by rw [HS.out], HBN⟩
          case measure => simp [intOf]; omega
        · have HS : Hid (heldH (D.take (k + 1)) s = P) := Lib.hid (by rw [← hP.out]; exact heldH_no HT_f.out (fun h => by rw [spt_eqH] at h; exact ha h.2))
          have hqa : (f.v.a == s.a) = false := by simpa using ha
          clear he ha
          go_wp2_with fail
          go_quiet (fail)
          have HBN := Lib.hid (below_drewN HB.out nq)
          clear p5 c0 c1 c2 c3 c4 t0 t1 hq
          go_wp2_with fail
          go_roundw
          case rel => exact ⟨k + 1, by omega, by go_num, by rw [HS.out], HBN⟩
          case measure => simp [intOf]; omega
    · have hlz : ¬ (k : Int) < (n : Int) := by omega
      obtain rfl : n = k := by omega
      have hT : D.take n = D := List.take_of_length_le (by rw [hn.out]; exact Nat.le_refl _)
      rw [hT]
      have HBE := Lib.hid (Below.past HB0.out HB.out HB0.out.size)
      clear hn0 hm0
      go_wp2_with fail
      go_ret
      exact ⟨rfl, HBE.out⟩
end
end Go.Proofs.Ytelbolhckhdioaa

/-! ## from HdB -/
namespace Go.Proofs.Ytelbolhckhdioaa
open Go.RowKit

/-! ### The document's Post of a vault -/
theorem HInv.perm {M A : Nat} {bl : List Int} {S D : List HRow} (h : HInv M A bl S) (hp : S.Perm D) : HInv M A bl D :=
  ⟨fun r hr => h.z r (hp.mem_iff.2 hr), fun r hr => h.ok r (hp.mem_iff.2 hr), fun s hs hf => by rw [← heldH_perm hp]; exact h.le s hs hf⟩
theorem belB_perm {M A : Nat} {bl bl2 : List Int} {S D : List HRow} (hp : S.Perm D) (e : Ent) : belB M A bl bl2 S e = belB M A bl bl2 D e := by
  unfold belB; rw [heldH_perm hp]
theorem hpK_perm {M A : Nat} {bl : List Int} {S D : List HRow} (hp : S.Perm D) (l : List Ent) : hpK M A bl S l = hpK M A bl D l := by
  unfold hpK
  rw [show belB M A bl (postB M A bl l) S = belB M A bl (postB M A bl l) D from funext fun e => belB_perm hp e]
theorem hpB_perm {M A : Nat} {bl : List Int} {S D : List HRow} (hp : S.Perm D) (l : List Ent) : hpB M A bl S l = hpB M A bl D l := by
  unfold hpB; rw [hpK_perm hp]
theorem hpL_perm {M A : Nat} {bl : List Int} {S D : List HRow} (hp : S.Perm D) (L l : List Ent) : hpL M A bl S L l = hpL M A bl D L l := by
  unfold hpL; rw [hpK_perm hp]
/-- The balances as they were, entry by entry. -/
def wasL (L l : List Ent) : List Int := l.map fun e => amount (atB L e.spt).sum
theorem wasL_next {L l : List Ent} {k : Nat} {f : Ent} (hT : l.take (k + 1) = l.take k ++ [f]) : wasL L (l.take (k + 1)) = wasL L (l.take k) ++ [amount (atB L f.spt).sum] := by
  unfold wasL; rw [hT, List.map_append]; rfl
theorem own_preH {w : World} {base c n m sz : Nat} {e : TypeId} {X : Option Addr} {xs ys : List Value} (h : w.ownsRow base e sz (.slice X (n + m) c) (n + m) (xs ++ ys)) (hx : xs.length = n * sz) : n + m ≤ c ∧ w.ownsRow base e sz (.slice X n c) n xs := by
  rcases h.2 with ⟨h0, h1⟩ | ⟨g, cap, cur, e1, h1, h2, h3, h4, h5, h6⟩
  · injection h0 with a1 a2 a3
    subst a1
    subst a3
    obtain ⟨rfl, rfl⟩ : n = 0 ∧ m = 0 := by omega
    have : xs = [] := List.eq_nil_of_length_eq_zero (by simpa using hx)
    subst this
    exact ⟨by omega, World.ownsRow_nil _ _ _ _⟩
  · injection e1 with a1 a2 a3
    subst a1
    subst a3
    refine ⟨h3, hx, .inr ⟨g, c, cur, rfl, h1, h2, by omega, h4, h5, ?_⟩⟩
    have := congrArg (List.take (n * sz)) h6
    rw [List.take_take, List.take_append, ← hx, Nat.sub_self, List.take_length, List.take_zero, List.append_nil, hx, Nat.min_eq_left (Nat.mul_le_mul_right _ (by omega))] at this
    exact this
theorem i64_cell {w : World} {B n k : Nat} {A : Option Addr} {l : List Int} {z : Int} (h : Rd w B 1 A n (l.flatMap i64Cells)) (hz : l[k]? = some z) (hk : k < n) : ∃ b off, A = some ⟨b, off, none⟩ ∧ ∀ w', Below B w w' → w'.cell? ⟨b, off + k, none⟩ = some (.int .i64 z) := by
  obtain ⟨b, off, he, hb, hc⟩ := h.elem (f := i64Cells) (fun _ => rfl) hz hk
  refine ⟨b, off, he, fun w' hbw => ?_⟩
  have := hc 0 _ rfl
  simp only [Nat.add_zero, Nat.mul_one] at this
  exact (hbw.cell (p := ⟨b, off + k, none⟩) hb).trans this
def DPost (h base M A : Nat) (v : Value) (p room : Int) (u : Value) (D : List HRow) (K : Int) (L' : List Ent) (w : World) (e : Ending) (w' : World) : Prop :=
  e = .returned (.int .i64 K) ∧ ∃ v' p', QvtV w' h base M A v' L' p' room u D ∧ OnlyG h v w w' ∧ (v'.ownBlock = v.ownBlock ∨ ∃ k, v'.ownBlock = some k ∧ w.heap.size ≤ k) ∧ (p' = p ∨ p' = p + 1)
theorem postP_or {M A : Nat} {bl : List Int} {l : List Ent} {p : Int} : postP M A bl l p = p ∨ postP M A bl l p = p + 1 := by
  unfold postP; split
  · exact .inr rfl
  · exact .inl rfl
section
variable {h base M A : Nat} {v : Value} {bl : List Int} {L : List Ent} {p room : Int} {u : Value} {D : List HRow}
/-- Behind the document's book's Post: the vault. -/
theorem QvtV.posted {w w' : World} {v' : Value} {L' : List Ent} {p' : Int} (hx : QvtV w h base M A v L p room u D) (hb : TBk.RbkV room u w' h base M A v' L' p') (ho : OnlyG h v w w') : QvtV w' h base M A v' L' p' room u D :=
  ⟨hb, hx.form, own_onlyZ ho hx.row (own_blk_ne hx.row hx.blk (by decide)) (fun k e e' => own_neZ hx.book.row hx.row (by decide) k e' e), hx.len⟩
set_option maxHeartbeats 16000000 in
set_option maxRecDepth 100000 in
theorem refPostV_any (P : Option Addr) (n c : Nat) (l : List Ent) (w : World) (hM : M ≤ 16) (hA : A ≤ 9) (hinv : Inv M A bl L) (hi : HInv M A bl D) (hx : QvtV w h base M A v L p room u D) (hr : Rd w w.heap.size 4 P n (l.flatMap Ent.cells)) (hbs : 0 < n → BesideK h v P) (hn : n ≤ 500) (hLn : L.length + l.length ≤ 1000) (hok : ∀ e ∈ l, EntOk e) (hp : 0 ≤ p ∧ p ≤ 1000000) (hbase : base ≤ w.heap.size) :
    Calls Try.prog 66 #[.pointer (some ⟨h, 0, none⟩), .slice P n c] w (DPost h base M A v p room u D (hpK M A bl D l) (hpL M A bl D L l) w) := by
  have HL := Lib.hid (hr.len Ent.cells_len (by omega))
  obtain ⟨i0, hi0, hz0, hz1, hz2⟩ := info_parts int64Info
  obtain ⟨X, cX, hv⟩ := hx.book.form
  subst hv
  obtain ⟨N, hN⟩ : ∃ N, Hid (L.length = N) := ⟨_, Lib.hid rfl⟩
  have HPO := Lib.hid (fun w1 (hb : Below w.heap.size w w1) => TBk.refPost_any h base M A _ bl L p P n c l w1 hM hA hinv (hx.past hb).book (hr.past hb) hbs hn hLn hok hp (Nat.le_trans hbase hb.size))
  rw [hN.out] at hx hbs HPO ⊢
  have HR := Lib.hid hr
  have HX := Lib.hid hx
  have HG := Lib.hid hok
  have HI := Lib.hid hinv
  have HH := Lib.hid hi
  have HBS := Lib.hid hbs
  have HK := Lib.hid hx.blk
  have p2 := HK.out.cell 2
  simp at p2
  have hNl : N ≤ 1000 := by rw [← hN.out]; omega
  clear hx hr hok hinv hi hbs
  go_enter Try.func66, Try.ntmps66
  go_wp2_with fail
  go_loopw [6, 7] (fun q i wr => ∃ k : Nat, k ≤ n ∧ i = .int .i64 (k : Nat) ∧ Hid (wr.ownsRow w.heap.size 2 1 q k ((wasL L (l.take k)).flatMap i64Cells)) ∧ Hid (Below w.heap.size w wr)) (fun _ i _ => n - (intOf i).toNat)
  case atStart => exact ⟨0, by omega, rfl, Lib.hid (World.ownsRow_nil _ _ _ _), Lib.hid (Below.refl _ _)⟩
  case round =>
    clear p2
    obtain ⟨k, hk, rfl, HO, HB⟩ := hrel
    have hs := HB.out.size
    by_cases hlt : k < n
    · have hlz : (k : Int) < (n : Int) := by omega
      have hl4 : (k : Int) < 1024 := by omega
      have hg_f : l[k]? = some (l[k]'(by have := HL.out; omega)) := List.getElem?_eq_getElem _
      obtain ⟨b_f, off_f, rfl, hbb_f, hc_f⟩ := (HR.out.past HB.out).elem Ent.cells_len hg_f hlt
      have HT_f := Lib.hid (show l.take (k + 1) = l.take k ++ [(l[k]'(by have := HL.out; omega))] from List.take_succ_eq_append_getElem (by have := HL.out; omega))
      have HM_f := Lib.hid (show (l[k]'(by have := HL.out; omega)) ∈ l from List.getElem_mem _)
      have HG_f := Lib.hid hg_f
      generalize (l[k]'(by have := HL.out; omega)) = f at *
      have c0 := hc_f 0 _ rfl
      have c1 := hc_f 1 _ rfl
      have c2 := hc_f 2 _ rfl
      have c3 := hc_f 3 _ rfl
      clear hc_f hg_f
      simp only [Nat.add_zero] at c0
      have HE := Lib.hid (wasL_next (L := L) HT_f.out)
      have hdr := Below.drew (Below.refl wr.heap.size wr)
      have HBL := Lib.hid (TBk.refBal_any h base M A _ L p f.spt wr.drew ((HX.out.past HB.out).past hdr).book)
      obtain ⟨za, hza⟩ : ∃ z, Hid (amount (atB L f.spt).sum = z) := ⟨_, Lib.hid rfl⟩
      rw [hza.out] at HBL HE
      have HBd := Lib.hid (Below.past HB.out hdr hs)
      have HOd := Lib.hid (own_pastZ HO.out hdr)
      have hsd := HBd.out.size
      clear hdr
      obtain ⟨b3, o3, e3, hce⟩ := ent_cells HR.out HG_f.out hlt
      cases e3
      have HCE := Lib.hid hce
      clear hce
      go_upto_region 6 with fail
      have hS0 : wr.drew.cell? ⟨b_f, off_f + k * 4, none⟩ = some (.int .i64 f.k) ∧ wr.drew.cell? ⟨b_f, off_f + k * 4 + 1, none⟩ = some (.int .i64 f.m) ∧ wr.drew.cell? ⟨b_f, off_f + k * 4 + 2, none⟩ = some (.int .i64 f.a) := HCE.out _ HBd.out
      refine wp_region_held_drew (S := fun w' => w'.cell? ⟨b_f, off_f + k * 4, none⟩ = some (.int .i64 f.k) ∧ w'.cell? ⟨b_f, off_f + k * 4 + 1, none⟩ = some (.int .i64 f.m) ∧ w'.cell? ⟨b_f, off_f + k * 4 + 2, none⟩ = some (.int .i64 f.a)) (by kernel_rfl) hS0 (fun hHeld => ?_)
      clear hS0 c0 c1 c2 c3
      refine wpAnyH_take (i := 0) (v := ?_) rfl (by kernel_rfl) (by kernel_rfl) (by kernel_rfl) (fun _ _ _ h => h) (Or.inl ⟨by rfl, ?_⟩) (by assumption) ?_
      rotate_left
      · (intro w' hSw; (try dsimp only at hSw); first | (go_simp; done) | (go_simp; with_reducible rfl))
      try simp only [Act.put, List.getElem_toArray, List.getElem_cons_zero, List.getElem_cons_succ, List.setIfInBounds_toArray, List.set_cons_zero, List.set_cons_succ]
      refine wpAnyH_take (i := 1) (v := ?_) rfl (by kernel_rfl) (by kernel_rfl) (by kernel_rfl) (fun _ _ _ h => h) (Or.inl ⟨by rfl, ?_⟩) (by assumption) ?_
      rotate_left
      · (intro w' hSw; (try dsimp only at hSw); first | (go_simp; done) | (go_simp; with_reducible rfl))
      try simp only [Act.put, List.getElem_toArray, List.getElem_cons_zero, List.getElem_cons_succ, List.setIfInBounds_toArray, List.set_cons_zero, List.set_cons_succ]
      refine wpAnyH_take (i := 2) (v := ?_) rfl (by kernel_rfl) (by kernel_rfl) (by kernel_rfl) (fun _ _ _ h => h) (Or.inl ⟨by rfl, ?_⟩) (by assumption) ?_
      rotate_left
      · (intro w' hSw; (try dsimp only at hSw); first | (go_simp; done) | (go_simp; with_reducible rfl))
      try simp only [Act.put, List.getElem_toArray, List.getElem_cons_zero, List.getElem_cons_succ, List.setIfInBounds_toArray, List.set_cons_zero, List.set_cons_succ]
      refine wpAnyH_take (i := 3) (v := ?_) rfl (by kernel_rfl) (by kernel_rfl) (by kernel_rfl) (fun _ _ _ h => h) (Or.inl ⟨by rfl, ?_⟩) (by assumption) ?_
      rotate_left
      · (intro w' hSw; (try dsimp only at hSw); first | (go_simp; done) | (go_simp; with_reducible rfl))
      try simp only [Act.put, List.getElem_toArray, List.getElem_cons_zero, List.getElem_cons_succ, List.setIfInBounds_toArray, List.set_cons_zero, List.set_cons_succ]
      refine wpAnyH_take (i := 4) (v := ?_) rfl (by kernel_rfl) (by kernel_rfl) (by kernel_rfl) (fun _ _ _ h => h) (Or.inl ⟨by rfl, ?_⟩) (by assumption) ?_
      rotate_left
      · (intro w' hSw; (try dsimp only at hSw); first | (go_simp; done) | (go_simp; with_reducible rfl))
      try simp only [Act.put, List.getElem_toArray, List.getElem_cons_zero, List.getElem_cons_succ, List.setIfInBounds_toArray, List.set_cons_zero, List.set_cons_succ]
      refine wpAnyH_take (i := 5) (v := ?_) rfl (by kernel_rfl) (by kernel_rfl) (by kernel_rfl) (fun _ _ _ h => h) (Or.inl ⟨by rfl, ?_⟩) (by assumption) ?_
      rotate_left
      · (intro w' hSw; (try dsimp only at hSw); first | (go_simp; done) | (go_simp; with_reducible rfl))
      try simp only [Act.put, List.getElem_toArray, List.getElem_cons_zero, List.getElem_cons_succ, List.setIfInBounds_toArray, List.set_cons_zero, List.set_cons_succ]
      refine wpAnyH_take (i := 6) (v := ?_) rfl (by kernel_rfl) (by kernel_rfl) (by kernel_rfl) (fun _ _ _ h => h) (Or.inl ⟨by rfl, ?_⟩) (by assumption) ?_
      rotate_left
      · (intro w' hSw; (try dsimp only at hSw); first | (go_simp; done) | (go_simp; with_reducible rfl))
      try simp only [Act.put, List.getElem_toArray, List.getElem_cons_zero, List.getElem_cons_succ, List.setIfInBounds_toArray, List.set_cons_zero, List.set_cons_succ]
      refine wpAnyH_take (i := 7) (v := ?_) rfl (by kernel_rfl) (by kernel_rfl) (by kernel_rfl) (fun _ _ _ h => h) (Or.inl ⟨by rfl, ?_⟩) (by assumption) ?_
      rotate_left
      · (intro w' hSw; (try dsimp only at hSw); first | (go_simp; done) | (go_simp; with_reducible rfl))
      try simp only [Act.put, List.getElem_toArray, List.getElem_cons_zero, List.getElem_cons_succ, List.setIfInBounds_toArray, List.set_cons_zero, List.set_cons_succ]
      refine wpAnyH_take (i := 8) (v := ?_) rfl (by kernel_rfl) (by kernel_rfl) (by kernel_rfl) (fun _ _ _ h => h) (Or.inl ⟨by rfl, ?_⟩) (by assumption) ?_
      rotate_left
      · (intro w' hSw; (try dsimp only at hSw); first | (go_simp; done) | (go_simp; with_reducible rfl))
      try simp only [Act.put, List.getElem_toArray, List.getElem_cons_zero, List.getElem_cons_succ, List.setIfInBounds_toArray, List.set_cons_zero, List.set_cons_succ]
      refine wpAnyH_take (i := 9) (v := ?_) rfl (by kernel_rfl) (by kernel_rfl) (by kernel_rfl) (fun _ _ _ h => h) (Or.inl ⟨by rfl, ?_⟩) (by assumption) ?_
      rotate_left
      · (intro w' hSw; (try dsimp only at hSw); first | (go_simp; done) | (go_simp; with_reducible rfl))
      try simp only [Act.put, List.getElem_toArray, List.getElem_cons_zero, List.getElem_cons_succ, List.setIfInBounds_toArray, List.set_cons_zero, List.set_cons_succ]
      refine wpAnyH_take (i := 10) (v := ?_) rfl (by kernel_rfl) (by kernel_rfl) (by kernel_rfl) (fun _ _ _ h => h) (Or.inl ⟨by rfl, ?_⟩) (by assumption) ?_
      rotate_left
      · (intro w' hSw; (try dsimp only at hSw); first | (go_simp; done) | (go_simp; with_reducible rfl))
      try simp only [Act.put, List.getElem_toArray, List.getElem_cons_zero, List.getElem_cons_succ, List.setIfInBounds_toArray, List.set_cons_zero, List.set_cons_succ]
      refine wpAnyH_take (i := 11) (v := ?_) rfl (by kernel_rfl) (by kernel_rfl) (by kernel_rfl) (fun _ _ _ h => h) (Or.inl ⟨by rfl, ?_⟩) (by assumption) ?_
      rotate_left
      · (intro w' hSw; (try dsimp only at hSw); first | (go_simp; done) | (go_simp; with_reducible rfl))
      try simp only [Act.put, List.getElem_toArray, List.getElem_cons_zero, List.getElem_cons_succ, List.setIfInBounds_toArray, List.set_cons_zero, List.set_cons_succ]
      refine wpAnyH_take (i := 12) (v := ?_) rfl (by kernel_rfl) (by kernel_rfl) (by kernel_rfl) (fun _ _ _ h => h) (Or.inl ⟨by rfl, ?_⟩) (by assumption) ?_
      rotate_left
      · (intro w' hSw; (try dsimp only at hSw); first | (go_simp; done) | (go_simp; with_reducible rfl))
      try simp only [Act.put, List.getElem_toArray, List.getElem_cons_zero, List.getElem_cons_succ, List.setIfInBounds_toArray, List.set_cons_zero, List.set_cons_succ]
      refine wpAnyH_take (i := 13) (v := ?_) rfl (by kernel_rfl) (by kernel_rfl) (by kernel_rfl) (fun _ _ _ h => h) (Or.inl ⟨by rfl, ?_⟩) (by assumption) ?_
      rotate_left
      · (intro w' hSw; (try dsimp only at hSw); first | (go_simp; done) | (go_simp; with_reducible rfl))
      try simp only [Act.put, List.getElem_toArray, List.getElem_cons_zero, List.getElem_cons_succ, List.setIfInBounds_toArray, List.set_cons_zero, List.set_cons_succ]
      refine wpAnyH_ready (rs := [14]) (by kernel_rfl) (by simp) ?_
      refine AllReadyH.cons rfl (fun K hK => ?_) AllReadyH.nil
      go_simp
      go_at_call 61
      refine HBL.out.mono ?_
      rintro e w1 ⟨rfl, hb1⟩
      have HB1 := Lib.hid (Below.past HBd.out hb1 hsd)
      have HO1 := Lib.hid (own_pastZ HOd.out hb1)
      have hs1 := HB1.out.size
      clear hb1 HBL hHeld
      refine hK.out _ _ ((HCE.out _ HB1.out)) (fun hHeld => ?_)
      try simp only [Act.put, List.getElem_toArray, List.getElem_cons_zero, List.getElem_cons_succ, List.setIfInBounds_toArray, List.set_cons_zero, List.set_cons_succ]
      refine wpAnyH_ready (rs := [15]) (by kernel_rfl) (by simp) ?_
      refine AllReadyH.cons rfl (fun K hK => ?_) AllReadyH.nil
      go_simp
      have HA1 := Lib.hid ((Below.refl w1.heap.size w1).alloc (Nat.le_refl _) (.cells #[.int .i64 za] 2))
      have HBK1 := Lib.hid (Blk.new w1 2 #[.int .i64 za] w1.heap.size rfl)
      have HO2 := Lib.hid (own_pastZ HO1.out HA1.out)
      clear hHeld
      refine hK.out _ _ (HCE.out _ (Below.past HB1.out HA1.out hs1)) (fun hHeld => ?_)
      clear hK
      refine wpAnyH_ready (rs := [16]) (by kernel_rfl) (by simp) ?_
      refine AllReadyH.cons rfl (fun K hK => ?_) AllReadyH.nil
      refine step_append_blkG rfl (.tmp 27) (.tmp 42) 71 rfl w.heap.size 2 i0 _ 1 8 Try.underlying71 hi0 hz0 hz1 hz2 rfl (by decide) _ k _ (by simp [Act.eval, Act.put]) HO2.out w1.heap.size 1 1 #[.int .i64 za] (by simp [Act.eval, Act.put]) HBK1.out rfl (by simp [Value.oneCell']) (by omega) (by omega) (by simp; omega) ?_
      intro v' w' hown' hg' _
      have HOWN := Lib.hid hown'
      have HBW := Lib.hid (below_own (HB1.out.alloc hs1 _) hg' HO2.out (by simp; omega) (Nat.le_refl _))
      clear hown' hg' hHeld
      refine hK.out _ _ (HCE.out _ HBW.out) (fun hHeld => ?_)
      clear hK
      refine wpAnyH_take (i := 17) (v := ?_) rfl (by kernel_rfl) (by kernel_rfl) (by kernel_rfl) (fun _ _ _ h => h) (Or.inl ⟨by rfl, ?_⟩) (by assumption) ?_
      rotate_left
      · (intro w' hSw; (try dsimp only at hSw); first | (go_simp; done) | (go_simp; with_reducible rfl))
      try simp only [Act.put, List.getElem_toArray, List.getElem_cons_zero, List.getElem_cons_succ, List.setIfInBounds_toArray, List.set_cons_zero, List.set_cons_succ]
      refine wpAnyH_done (by kernel_rfl) ?_ _
      clear hHeld
      go_wp2_with fail
      go_roundw
      case rel => exact ⟨k + 1, by omega, by go_num, Lib.hid (by rw [HE.out, List.flatMap_append]; exact HOWN.out), HBW⟩
      case measure => simp [intOf]; omega
    · have hlz : ¬ (k : Int) < (n : Int) := by omega
      obtain rfl : n = k := by omega
      have hT : l.take n = l := List.take_of_length_le (by rw [HL.out]; exact Nat.le_refl _)
      rw [hT] at HO
      obtain ⟨Aw, cw, rfl⟩ := own_form HO.out
      have HPP := Lib.hid (HPO.out wr HB.out)
      unfold TBk.PostRPost at HPP
      obtain ⟨K, hKp⟩ : ∃ K, Hid (postK M A bl l = K) := ⟨_, Lib.hid rfl⟩
      rw [hKp.out] at HPP
      have HXr := Lib.hid (HX.out.past HB.out)
      clear hT HPO
      go_wp2_with fail
      refine HPP.out.mono ?_
      rintro e w2 ⟨rfl, v2, hbk, ho, hd⟩
      have HX2 := Lib.hid (HXr.out.posted hbk ho)
      have HO2 := Lib.hid (OnlyG.afterZ HB.out ho)
      have HD2 : Hid (v2.ownBlock = (Value.slice X N cX).ownBlock ∨ ∃ k, v2.ownBlock = some k ∧ w.heap.size ≤ k) := Lib.hid (hd.imp (fun e => e) fun ⟨k, e1, e2⟩ => ⟨k, e1, Nat.le_trans hs e2⟩)
      have HW2 : Hid (w2.ownsRow w.heap.size 2 1 (.slice Aw n cw) n ((wasL L l).flatMap i64Cells)) := Lib.hid (own_onlyZ ho HO.out (own_blk_ne HO.out HXr.out.blk (by decide)) (fun k e e' => own_neZ HO.out HXr.out.book.row (by decide) k e e'))
      have HR2 : Hid (0 < n → Rd w2 w2.heap.size 4 P n (l.flatMap Ent.cells)) := Lib.hid fun h0 => (HR.out.past HB.out).onlyG ho (HBS.out h0)
      have HPo : Hid (postP M A bl l p = p ∨ postP M A bl l p = p + 1) := Lib.hid postP_or
      clear hbk ho hd HPP HO
      by_cases hk0 : K = 0
      · subst hk0
        obtain ⟨X2, c2, hv2⟩ := HX2.out.book.form
        subst hv2
        have hPLe : postLL M A bl L l = L ++ l := by unfold postLL; rw [hKp.out, if_pos rfl]
        have hPPe : postP M A bl l p = p + 1 := by unfold postP; rw [hKp.out, if_pos rfl]
        have hlen2 : (L ++ l).length = N + n := by rw [List.length_append, hN.out, HL.out]
        have hIv2 := HI.out.post (l := l) hM
        rw [if_pos hKp.out] at hIv2
        have HI2 := Lib.hid hIv2
        have HOKP := Lib.hid (post_ok hKp.out).2.2.2.1
        rw [hPLe, hPPe] at HX2
        rw [hlen2] at HX2
        rw [hPLe, hlen2] at HD2
        have HP1 := Lib.hid hPPe
        clear hPLe hPPe hlen2 hIv2 HPo
        have hp1 := hp
        clear hp
        go_wp2_with fail
        go_loopw [9] (fun i wr => ∃ k : Nat, k ≤ n ∧ i = .int .i64 (k : Nat) ∧ Hid ((l.take k).any (belB M A bl (postB M A bl l) D) = false) ∧ Hid (Below w2.heap.size w2 wr)) (fun i _ => n - (intOf i).toNat)
        case atStart => exact ⟨0, by omega, rfl, Lib.hid rfl, Lib.hid (Below.refl _ _)⟩
        case round =>
          obtain ⟨k, hk, rfl, HNB, HB2⟩ := hrel
          have hs2 := HB2.out.size
          by_cases hlt : k < n
          · have hlz : (k : Int) < (n : Int) := by omega
            have hkl : k < l.length := by have := HL.out; omega
            obtain ⟨f, hfk⟩ : ∃ f, l[k]? = some f := ⟨_, List.getElem?_eq_getElem hkl⟩
            have hfm := List.mem_of_getElem? hfk
            have HTk : Hid (l.take (k + 1) = l.take k ++ [f]) := Lib.hid (by rw [List.take_add_one, hfk]; rfl)
            have hok1 := HOKP.out f hfm
            have hwk : (wasL L l)[k]? = some (amount (atB L f.spt).sum) := by unfold wasL; rw [List.getElem?_map, hfk]; rfl
            obtain ⟨za, hza⟩ : ∃ z, Hid (amount (atB L f.spt).sum = z) := ⟨_, Lib.hid rfl⟩
            obtain ⟨zb, hzb⟩ : ∃ z, Hid (amount (atB (L ++ l) f.spt).sum = z) := ⟨_, Lib.hid rfl⟩
            obtain ⟨hz, hhz⟩ : ∃ z, Hid (heldH D f.spt = z) := ⟨_, Lib.hid rfl⟩
            obtain ⟨fr, hfr⟩ : ∃ z, Hid (frB f.spt = z) := ⟨_, Lib.hid rfl⟩
            have HF2 : Hid (belB M A bl (postB M A bl l) D f = (!fr && (decide (zb < za) && decide (zb < hz)))) := Lib.hid (by
              unfold belB
              rw [blK_t hok1, blK_t hok1, hfr.out, hhz.out]
              have e1 := inv_get HI.out hok1
              have e2 := inv_get HI2.out hok1
              have i1 := bl_in HI.out.inn (ixS M f.spt)
              have i2 := bl_in HI2.out.inn (ixS M f.spt)
              rw [e1] at i1
              rw [e2] at i2
              simp only
              rw [e1, e2, ← amount_of i1, ← amount_of i2, hza.out, hzb.out])
            have HNX : Hid ((l.take (k + 1)).any (belB M A bl (postB M A bl l) D) = belB M A bl (postB M A bl l) D f) := Lib.hid (by rw [HTk.out, List.any_append, HNB.out]; simp)
            have HAN : Hid (belB M A bl (postB M A bl l) D f = true → l.any (belB M A bl (postB M A bl l) D) = true) := Lib.hid fun h => List.any_eq_true.2 ⟨f, hfm, h⟩
            rw [hza.out] at hwk
            obtain ⟨b_f, off_f, rfl, hce⟩ := ent_cells ((HR2.out (by omega)).past HB2.out) hfk hlt
            obtain ⟨b_q, off_q, rfl, hcq⟩ := i64_cell (Rd.of_own (own_pastZ HW2.out HB2.out)) hwk hlt
            have HCE := Lib.hid hce
            have HCQ := Lib.hid hcq
            have HX3 := Lib.hid (HX2.out.past HB2.out)
            have HHD := Lib.hid (fun w1 h1 => refHeld_any (h := h) (base := base) (M := M) (A := A) (v := .slice X2 (N + n) c2) (L := L ++ l) (p := p + 1) (room := room) (u := u) (D := D) f.spt w1 h1 HH.out.z (HH.out.most HI.out.inn hok1))
            rw [hhz.out] at HHD
            have HBA := Lib.hid (fun w1 h1 => TBk.refBal_any (rm := room) (vq := u) h base M A (.slice X2 (N + n) c2) (L ++ l) (p + 1) f.spt w1 h1)
            rw [hzb.out] at HBA
            have HFR := Lib.hid (fun w1 => refFree15_any f.spt w1)
            rw [hfr.out] at HFR
            obtain ⟨k0, k1, k2⟩ := HCE.out wr (Below.refl _ _)
            have hdr := Below.drew (Below.refl wr.heap.size wr)
            have HBC := Lib.hid (HBA.out wr.drew (HX3.out.past hdr).book)
            rw [show f.spt.k = f.k from rfl, show f.spt.m = f.m from rfl, show f.spt.a = f.a from rfl] at HBC
            rw [show f.spt.k = f.k from rfl, show f.spt.m = f.m from rfl] at HFR
            rw [show f.spt.k = f.k from rfl, show f.spt.m = f.m from rfl, show f.spt.a = f.a from rfl] at HHD
            have HDR := Lib.hid hdr
            clear hce hcq hok1 hwk hdr hfk hfm HBA hkl
            go_wp2_with fail
            go_still_tail 13, (by kernel_rfl)
            change wpList _ _ _ _ _ wr.drew
            go_wp2_with fail
            refine HBC.out.mono ?_
            rintro e w3 ⟨rfl, hb3'⟩
            have hb3 : Below wr.heap.size wr w3 := Below.past HDR.out hb3' HDR.out.size
            have HB3 := Lib.hid hb3
            have hs3 := hb3.size
            clear hb3 hb3' HBC HDR k0 k1 k2
            go_upto_region 14 with fail
            have hdr := Below.drew (Below.refl w3.heap.size w3)
            have HB3d := Lib.hid (Below.past HB3.out hdr hs3)
            have hS0 : w3.drew.cell? ⟨b_f, off_f + k * 4, none⟩ = some (.int .i64 f.k) ∧ w3.drew.cell? ⟨b_f, off_f + k * 4 + 1, none⟩ = some (.int .i64 f.m) ∧ w3.drew.cell? ⟨b_f, off_f + k * 4 + 2, none⟩ = some (.int .i64 f.a) ∧ w3.drew.cell? ⟨b_q, off_q + k, none⟩ = some (.int .i64 za) := by
              obtain ⟨k0, k1, k2⟩ := HCE.out _ HB3d.out
              exact ⟨k0, k1, k2, HCQ.out _ HB3d.out⟩
            refine wp_region_held_drew (S := fun w' => w'.cell? ⟨b_f, off_f + k * 4, none⟩ = some (.int .i64 f.k) ∧ w'.cell? ⟨b_f, off_f + k * 4 + 1, none⟩ = some (.int .i64 f.m) ∧ w'.cell? ⟨b_f, off_f + k * 4 + 2, none⟩ = some (.int .i64 f.a) ∧ w'.cell? ⟨b_q, off_q + k, none⟩ = some (.int .i64 za)) (by kernel_rfl) hS0 (fun hHeld => ?_)
            clear hS0 hdr
            refine wpAnyH_take (i := 0) (v := ?_) rfl (by kernel_rfl) (by kernel_rfl) (by kernel_rfl) (fun _ _ _ h => h) (Or.inl ⟨by rfl, ?_⟩) (by assumption) ?_
            rotate_left
            · (intro w' hSw; (try dsimp only at hSw); first | (go_simp; done) | (go_simp; with_reducible rfl))
            try simp only [Act.put, List.getElem_toArray, List.getElem_cons_zero, List.getElem_cons_succ, List.setIfInBounds_toArray, List.set_cons_zero, List.set_cons_succ]
            refine wpAnyH_take (i := 1) (v := ?_) rfl (by kernel_rfl) (by kernel_rfl) (by kernel_rfl) (fun _ _ _ h => h) (Or.inl ⟨by rfl, ?_⟩) (by assumption) ?_
            rotate_left
            · (intro w' hSw; (try dsimp only at hSw); first | (go_simp; done) | (go_simp; with_reducible rfl))
            try simp only [Act.put, List.getElem_toArray, List.getElem_cons_zero, List.getElem_cons_succ, List.setIfInBounds_toArray, List.set_cons_zero, List.set_cons_succ]
            refine wpAnyH_take (i := 2) (v := ?_) rfl (by kernel_rfl) (by kernel_rfl) (by kernel_rfl) (fun _ _ _ h => h) (Or.inl ⟨by rfl, ?_⟩) (by assumption) ?_
            rotate_left
            · (intro w' hSw; (try dsimp only at hSw); first | (go_simp; done) | (go_simp; with_reducible rfl))
            try simp only [Act.put, List.getElem_toArray, List.getElem_cons_zero, List.getElem_cons_succ, List.setIfInBounds_toArray, List.set_cons_zero, List.set_cons_succ]
            refine wpAnyH_take (i := 3) (v := ?_) rfl (by kernel_rfl) (by kernel_rfl) (by kernel_rfl) (fun _ _ _ h => h) (Or.inl ⟨by rfl, ?_⟩) (by assumption) ?_
            rotate_left
            · (intro w' hSw; (try dsimp only at hSw); first | (go_simp; done) | (go_simp; with_reducible rfl))
            try simp only [Act.put, List.getElem_toArray, List.getElem_cons_zero, List.getElem_cons_succ, List.setIfInBounds_toArray, List.set_cons_zero, List.set_cons_succ]
            refine wpAnyH_take (i := 4) (v := ?_) rfl (by kernel_rfl) (by kernel_rfl) (by kernel_rfl) (fun _ _ _ h => h) (Or.inl ⟨by rfl, ?_⟩) (by assumption) ?_
            rotate_left
            · (intro w' hSw; (try dsimp only at hSw); first | (go_simp; done) | (go_simp; with_reducible rfl))
            try simp only [Act.put, List.getElem_toArray, List.getElem_cons_zero, List.getElem_cons_succ, List.setIfInBounds_toArray, List.set_cons_zero, List.set_cons_succ]
            refine wpAnyH_ready (rs := [5]) (by kernel_rfl) (by simp) ?_
            refine AllReadyH.cons rfl (fun K hK => ?_) AllReadyH.nil
            go_simp
            go_at_call 115
            refine (HFR.out _).mono ?_
            rintro e w4 ⟨rfl, hb4'⟩
            have HB4 := Lib.hid (Below.past HB3d.out hb4' HB3d.out.size)
            have HB4b := Lib.hid (Below.past HB2.out HB4.out hs2)
            clear hb4' HFR hHeld
            refine hK.out _ _ ((by obtain ⟨k0, k1, k2⟩ := HCE.out _ HB4.out; exact ⟨k0, k1, k2, HCQ.out _ HB4.out⟩)) (fun hHeld => ?_)
            try simp only [Act.put, List.getElem_toArray, List.getElem_cons_zero, List.getElem_cons_succ, List.setIfInBounds_toArray, List.set_cons_zero, List.set_cons_succ]
            cases fr with
            | true =>
              have HFF : Hid (belB M A bl (postB M A bl l) D f = false) := Lib.hid (by rw [HF2.out]; rfl)
              refine wpAnyH_take (i := 6) (v := ?_) rfl (by kernel_rfl) (by kernel_rfl) (by kernel_rfl) (fun _ _ _ h => h) (Or.inl ⟨by rfl, ?_⟩) (by assumption) ?_
              rotate_left
              · (intro w' hSw; (try dsimp only at hSw); first | (go_simp; done) | (go_simp; with_reducible rfl))
              try simp only [Act.put, List.getElem_toArray, List.getElem_cons_zero, List.getElem_cons_succ, List.setIfInBounds_toArray, List.set_cons_zero, List.set_cons_succ]
              refine wpAnyH_take (i := 7) (v := ?_) rfl (by kernel_rfl) (by kernel_rfl) (by kernel_rfl) (fun _ _ _ h => h) (Or.inl ⟨by rfl, ?_⟩) (by assumption) ?_
              rotate_left
              · (intro w' hSw; (try dsimp only at hSw); first | (go_simp; done) | (go_simp; with_reducible rfl))
              try simp only [Act.put, List.getElem_toArray, List.getElem_cons_zero, List.getElem_cons_succ, List.setIfInBounds_toArray, List.set_cons_zero, List.set_cons_succ]
              refine wpAnyH_take (i := 8) (v := undef) rfl (by kernel_rfl) (by kernel_rfl) (by kernel_rfl) (fun _ _ _ h => h) (Or.inr ⟨by rfl, rfl⟩) (by assumption) ?_
              try simp only [Act.put, List.getElem_toArray, List.getElem_cons_zero, List.getElem_cons_succ, List.setIfInBounds_toArray, List.set_cons_zero, List.set_cons_succ]
              refine wpAnyH_take (i := 9) (v := undef) rfl (by kernel_rfl) (by kernel_rfl) (by kernel_rfl) (fun _ _ _ h => h) (Or.inr ⟨by rfl, rfl⟩) (by assumption) ?_
              try simp only [Act.put, List.getElem_toArray, List.getElem_cons_zero, List.getElem_cons_succ, List.setIfInBounds_toArray, List.set_cons_zero, List.set_cons_succ]
              refine wpAnyH_take (i := 10) (v := undef) rfl (by kernel_rfl) (by kernel_rfl) (by kernel_rfl) (fun _ _ _ h => h) (Or.inr ⟨by rfl, rfl⟩) (by assumption) ?_
              try simp only [Act.put, List.getElem_toArray, List.getElem_cons_zero, List.getElem_cons_succ, List.setIfInBounds_toArray, List.set_cons_zero, List.set_cons_succ]
              refine wpAnyH_take (i := 11) (v := undef) rfl (by kernel_rfl) (by kernel_rfl) (by kernel_rfl) (fun _ _ _ h => h) (Or.inr ⟨by rfl, rfl⟩) (by assumption) ?_
              try simp only [Act.put, List.getElem_toArray, List.getElem_cons_zero, List.getElem_cons_succ, List.setIfInBounds_toArray, List.set_cons_zero, List.set_cons_succ]
              refine wpAnyH_take (i := 12) (v := undef) rfl (by kernel_rfl) (by kernel_rfl) (by kernel_rfl) (fun _ _ _ h => h) (Or.inr ⟨by rfl, rfl⟩) (by assumption) ?_
              try simp only [Act.put, List.getElem_toArray, List.getElem_cons_zero, List.getElem_cons_succ, List.setIfInBounds_toArray, List.set_cons_zero, List.set_cons_succ]
              refine wpAnyH_take (i := 13) (v := undef) rfl (by kernel_rfl) (by kernel_rfl) (by kernel_rfl) (fun _ _ _ h => h) (Or.inr ⟨by rfl, rfl⟩) (by assumption) ?_
              try simp only [Act.put, List.getElem_toArray, List.getElem_cons_zero, List.getElem_cons_succ, List.setIfInBounds_toArray, List.set_cons_zero, List.set_cons_succ]
              refine wpAnyH_take (i := 14) (v := ?_) rfl (by kernel_rfl) (by kernel_rfl) (by kernel_rfl) (fun _ _ _ h => h) (Or.inl ⟨by rfl, ?_⟩) (by assumption) ?_
              rotate_left
              · (intro w' hSw; (try dsimp only at hSw); first | (go_simp; done) | (go_simp; with_reducible rfl))
              try simp only [Act.put, List.getElem_toArray, List.getElem_cons_zero, List.getElem_cons_succ, List.setIfInBounds_toArray, List.set_cons_zero, List.set_cons_succ]
              refine wpAnyH_take (i := 15) (v := ?_) rfl (by kernel_rfl) (by kernel_rfl) (by kernel_rfl) (fun _ _ _ h => h) (Or.inl ⟨by rfl, ?_⟩) (by assumption) ?_
              rotate_left
              · (intro w' hSw; (try dsimp only at hSw); first | (go_simp; done) | (go_simp; with_reducible rfl))
              try simp only [Act.put, List.getElem_toArray, List.getElem_cons_zero, List.getElem_cons_succ, List.setIfInBounds_toArray, List.set_cons_zero, List.set_cons_succ]
              refine wpAnyH_take (i := 16) (v := undef) rfl (by kernel_rfl) (by kernel_rfl) (by kernel_rfl) (fun _ _ _ h => h) (Or.inr ⟨by rfl, rfl⟩) (by assumption) ?_
              try simp only [Act.put, List.getElem_toArray, List.getElem_cons_zero, List.getElem_cons_succ, List.setIfInBounds_toArray, List.set_cons_zero, List.set_cons_succ]
              refine wpAnyH_take (i := 17) (v := undef) rfl (by kernel_rfl) (by kernel_rfl) (by kernel_rfl) (fun _ _ _ h => h) (Or.inr ⟨by rfl, rfl⟩) (by assumption) ?_
              try simp only [Act.put, List.getElem_toArray, List.getElem_cons_zero, List.getElem_cons_succ, List.setIfInBounds_toArray, List.set_cons_zero, List.set_cons_succ]
              refine wpAnyH_take (i := 18) (v := undef) rfl (by kernel_rfl) (by kernel_rfl) (by kernel_rfl) (fun _ _ _ h => h) (Or.inr ⟨by rfl, rfl⟩) (by assumption) ?_
              try simp only [Act.put, List.getElem_toArray, List.getElem_cons_zero, List.getElem_cons_succ, List.setIfInBounds_toArray, List.set_cons_zero, List.set_cons_succ]
              refine wpAnyH_take (i := 19) (v := undef) rfl (by kernel_rfl) (by kernel_rfl) (by kernel_rfl) (fun _ _ _ h => h) (Or.inr ⟨by rfl, rfl⟩) (by assumption) ?_
              try simp only [Act.put, List.getElem_toArray, List.getElem_cons_zero, List.getElem_cons_succ, List.setIfInBounds_toArray, List.set_cons_zero, List.set_cons_succ]
              refine wpAnyH_take (i := 20) (v := undef) rfl (by kernel_rfl) (by kernel_rfl) (by kernel_rfl) (fun _ _ _ h => h) (Or.inr ⟨by rfl, rfl⟩) (by assumption) ?_
              try simp only [Act.put, List.getElem_toArray, List.getElem_cons_zero, List.getElem_cons_succ, List.setIfInBounds_toArray, List.set_cons_zero, List.set_cons_succ]
              refine wpAnyH_take (i := 21) (v := undef) rfl (by kernel_rfl) (by kernel_rfl) (by kernel_rfl) (fun _ _ _ h => h) (Or.inr ⟨by rfl, rfl⟩) (by assumption) ?_
              try simp only [Act.put, List.getElem_toArray, List.getElem_cons_zero, List.getElem_cons_succ, List.setIfInBounds_toArray, List.set_cons_zero, List.set_cons_succ]
              refine wpAnyH_take (i := 22) (v := undef) rfl (by kernel_rfl) (by kernel_rfl) (by kernel_rfl) (fun _ _ _ h => h) (Or.inr ⟨by rfl, rfl⟩) (by assumption) ?_
              try simp only [Act.put, List.getElem_toArray, List.getElem_cons_zero, List.getElem_cons_succ, List.setIfInBounds_toArray, List.set_cons_zero, List.set_cons_succ]
              refine wpAnyH_take (i := 23) (v := undef) rfl (by kernel_rfl) (by kernel_rfl) (by kernel_rfl) (fun _ _ _ h => h) (Or.inr ⟨by rfl, rfl⟩) (by assumption) ?_
              try simp only [Act.put, List.getElem_toArray, List.getElem_cons_zero, List.getElem_cons_succ, List.setIfInBounds_toArray, List.set_cons_zero, List.set_cons_succ]
              refine wpAnyH_take (i := 24) (v := undef) rfl (by kernel_rfl) (by kernel_rfl) (by kernel_rfl) (fun _ _ _ h => h) (Or.inr ⟨by rfl, rfl⟩) (by assumption) ?_
              try simp only [Act.put, List.getElem_toArray, List.getElem_cons_zero, List.getElem_cons_succ, List.setIfInBounds_toArray, List.set_cons_zero, List.set_cons_succ]
              refine wpAnyH_take (i := 25) (v := undef) rfl (by kernel_rfl) (by kernel_rfl) (by kernel_rfl) (fun _ _ _ h => h) (Or.inr ⟨by rfl, rfl⟩) (by assumption) ?_
              try simp only [Act.put, List.getElem_toArray, List.getElem_cons_zero, List.getElem_cons_succ, List.setIfInBounds_toArray, List.set_cons_zero, List.set_cons_succ]
              refine wpAnyH_take (i := 26) (v := undef) rfl (by kernel_rfl) (by kernel_rfl) (by kernel_rfl) (fun _ _ _ h => h) (Or.inr ⟨by rfl, rfl⟩) (by assumption) ?_
              try simp only [Act.put, List.getElem_toArray, List.getElem_cons_zero, List.getElem_cons_succ, List.setIfInBounds_toArray, List.set_cons_zero, List.set_cons_succ]
              refine wpAnyH_take (i := 27) (v := undef) rfl (by kernel_rfl) (by kernel_rfl) (by kernel_rfl) (fun _ _ _ h => h) (Or.inr ⟨by rfl, rfl⟩) (by assumption) ?_
              try simp only [Act.put, List.getElem_toArray, List.getElem_cons_zero, List.getElem_cons_succ, List.setIfInBounds_toArray, List.set_cons_zero, List.set_cons_succ]
              refine wpAnyH_take (i := 28) (v := undef) rfl (by kernel_rfl) (by kernel_rfl) (by kernel_rfl) (fun _ _ _ h => h) (Or.inr ⟨by rfl, rfl⟩) (by assumption) ?_
              try simp only [Act.put, List.getElem_toArray, List.getElem_cons_zero, List.getElem_cons_succ, List.setIfInBounds_toArray, List.set_cons_zero, List.set_cons_succ]
              refine wpAnyH_take (i := 29) (v := undef) rfl (by kernel_rfl) (by kernel_rfl) (by kernel_rfl) (fun _ _ _ h => h) (Or.inr ⟨by rfl, rfl⟩) (by assumption) ?_
              try simp only [Act.put, List.getElem_toArray, List.getElem_cons_zero, List.getElem_cons_succ, List.setIfInBounds_toArray, List.set_cons_zero, List.set_cons_succ]
              refine wpAnyH_take (i := 30) (v := ?_) rfl (by kernel_rfl) (by kernel_rfl) (by kernel_rfl) (fun _ _ _ h => h) (Or.inl ⟨by rfl, ?_⟩) (by assumption) ?_
              rotate_left
              · (intro w' hSw; (try dsimp only at hSw); first | (go_simp; done) | (go_simp; with_reducible rfl))
              try simp only [Act.put, List.getElem_toArray, List.getElem_cons_zero, List.getElem_cons_succ, List.setIfInBounds_toArray, List.set_cons_zero, List.set_cons_succ]
              refine wpAnyH_done (by kernel_rfl) ?_ _
              clear hHeld
              go_wp2_with fail
              go_roundw
              case rel => exact ⟨k + 1, by omega, by go_num, Lib.hid (by rw [HNX.out, HFF.out]), HB4b⟩
              case measure => simp [intOf]; omega
            | false =>
              by_cases hab : zb < za
              · have dab := decide_eq_true hab
                have HH4 := Lib.hid (HHD.out w4 (HX3.out.past HB4.out))
                have HF3 : Hid (belB M A bl (postB M A bl l) D f = decide (zb < hz)) := Lib.hid (by rw [HF2.out, dab]; rfl)
                clear hab
                refine wpAnyH_take (i := 6) (v := ?_) rfl (by kernel_rfl) (by kernel_rfl) (by kernel_rfl) (fun _ _ _ h => h) (Or.inl ⟨by rfl, ?_⟩) (by assumption) ?_
                rotate_left
                · (intro w' hSw; (try dsimp only at hSw); first | (go_simp; done) | (go_simp; with_reducible rfl))
                try simp only [Act.put, List.getElem_toArray, List.getElem_cons_zero, List.getElem_cons_succ, List.setIfInBounds_toArray, List.set_cons_zero, List.set_cons_succ]
                refine wpAnyH_take (i := 7) (v := ?_) rfl (by kernel_rfl) (by kernel_rfl) (by kernel_rfl) (fun _ _ _ h => h) (Or.inl ⟨by rfl, ?_⟩) (by assumption) ?_
                rotate_left
                · (intro w' hSw; (try dsimp only at hSw); first | (go_simp; done) | (go_simp; with_reducible rfl))
                try simp only [Act.put, List.getElem_toArray, List.getElem_cons_zero, List.getElem_cons_succ, List.setIfInBounds_toArray, List.set_cons_zero, List.set_cons_succ]
                refine wpAnyH_take (i := 8) (v := ?_) rfl (by kernel_rfl) (by kernel_rfl) (by kernel_rfl) (fun _ _ _ h => h) (Or.inl ⟨by rfl, ?_⟩) (by assumption) ?_
                rotate_left
                · (intro w' hSw; (try dsimp only at hSw); first | (go_simp; done) | (go_simp; with_reducible rfl))
                try simp only [Act.put, List.getElem_toArray, List.getElem_cons_zero, List.getElem_cons_succ, List.setIfInBounds_toArray, List.set_cons_zero, List.set_cons_succ]
                refine wpAnyH_take (i := 9) (v := ?_) rfl (by kernel_rfl) (by kernel_rfl) (by kernel_rfl) (fun _ _ _ h => h) (Or.inl ⟨by rfl, ?_⟩) (by assumption) ?_
                rotate_left
                · (intro w' hSw; (try dsimp only at hSw); first | (go_simp; done) | (go_simp; with_reducible rfl))
                try simp only [Act.put, List.getElem_toArray, List.getElem_cons_zero, List.getElem_cons_succ, List.setIfInBounds_toArray, List.set_cons_zero, List.set_cons_succ]
                refine wpAnyH_take (i := 10) (v := ?_) rfl (by kernel_rfl) (by kernel_rfl) (by kernel_rfl) (fun _ _ _ h => h) (Or.inl ⟨by rfl, ?_⟩) (by assumption) ?_
                rotate_left
                · (intro w' hSw; (try dsimp only at hSw); first | (go_simp; done) | (go_simp; with_reducible rfl))
                try simp only [Act.put, List.getElem_toArray, List.getElem_cons_zero, List.getElem_cons_succ, List.setIfInBounds_toArray, List.set_cons_zero, List.set_cons_succ]
                refine wpAnyH_take (i := 11) (v := ?_) rfl (by kernel_rfl) (by kernel_rfl) (by kernel_rfl) (fun _ _ _ h => h) (Or.inl ⟨by rfl, ?_⟩) (by assumption) ?_
                rotate_left
                · (intro w' hSw; (try dsimp only at hSw); first | (go_simp; done) | (go_simp; with_reducible rfl))
                try simp only [Act.put, List.getElem_toArray, List.getElem_cons_zero, List.getElem_cons_succ, List.setIfInBounds_toArray, List.set_cons_zero, List.set_cons_succ]
                refine wpAnyH_take (i := 12) (v := ?_) rfl (by kernel_rfl) (by kernel_rfl) (by kernel_rfl) (fun _ _ _ h => h) (Or.inl ⟨by rfl, ?_⟩) (by assumption) ?_
                rotate_left
                · (intro w' hSw; (try dsimp only at hSw); first | (go_simp; done) | (go_simp; with_reducible rfl))
                try simp only [Act.put, List.getElem_toArray, List.getElem_cons_zero, List.getElem_cons_succ, List.setIfInBounds_toArray, List.set_cons_zero, List.set_cons_succ]
                refine wpAnyH_take (i := 13) (v := ?_) rfl (by kernel_rfl) (by kernel_rfl) (by kernel_rfl) (fun _ _ _ h => h) (Or.inl ⟨by rfl, ?_⟩) (by assumption) ?_
                rotate_left
                · (intro w' hSw; (try dsimp only at hSw); first | (go_simp; done) | (go_simp; with_reducible rfl))
                try simp only [Act.put, List.getElem_toArray, List.getElem_cons_zero, List.getElem_cons_succ, List.setIfInBounds_toArray, List.set_cons_zero, List.set_cons_succ]
                refine wpAnyH_take (i := 14) (v := ?_) rfl (by kernel_rfl) (by kernel_rfl) (by kernel_rfl) (fun _ _ _ h => h) (Or.inl ⟨by rfl, ?_⟩) (by assumption) ?_
                rotate_left
                · (intro w' hSw; (try dsimp only at hSw); first | (go_simp; done) | (go_simp; with_reducible rfl))
                try simp only [Act.put, List.getElem_toArray, List.getElem_cons_zero, List.getElem_cons_succ, List.setIfInBounds_toArray, List.set_cons_zero, List.set_cons_succ]
                refine wpAnyH_take (i := 15) (v := ?_) rfl (by kernel_rfl) (by kernel_rfl) (by kernel_rfl) (fun _ _ _ h => h) (Or.inl ⟨by rfl, ?_⟩) (by assumption) ?_
                rotate_left
                · (intro w' hSw; (try dsimp only at hSw); first | (go_simp; done) | (go_simp; with_reducible rfl))
                try simp only [Act.put, List.getElem_toArray, List.getElem_cons_zero, List.getElem_cons_succ, List.setIfInBounds_toArray, List.set_cons_zero, List.set_cons_succ]
                refine wpAnyH_take (i := 16) (v := ?_) rfl (by kernel_rfl) (by kernel_rfl) (by kernel_rfl) (fun _ _ _ h => h) (Or.inl ⟨by rfl, ?_⟩) (by assumption) ?_
                rotate_left
                · (intro w' hSw; (try dsimp only at hSw); first | (go_simp; done) | (go_simp; with_reducible rfl))
                try simp only [Act.put, List.getElem_toArray, List.getElem_cons_zero, List.getElem_cons_succ, List.setIfInBounds_toArray, List.set_cons_zero, List.set_cons_succ]
                refine wpAnyH_take (i := 17) (v := ?_) rfl (by kernel_rfl) (by kernel_rfl) (by kernel_rfl) (fun _ _ _ h => h) (Or.inl ⟨by rfl, ?_⟩) (by assumption) ?_
                rotate_left
                · (intro w' hSw; (try dsimp only at hSw); first | (go_simp; done) | (go_simp; with_reducible rfl))
                try simp only [Act.put, List.getElem_toArray, List.getElem_cons_zero, List.getElem_cons_succ, List.setIfInBounds_toArray, List.set_cons_zero, List.set_cons_succ]
                refine wpAnyH_take (i := 18) (v := ?_) rfl (by kernel_rfl) (by kernel_rfl) (by kernel_rfl) (fun _ _ _ h => h) (Or.inl ⟨by rfl, ?_⟩) (by assumption) ?_
                rotate_left
                · (intro w' hSw; (try dsimp only at hSw); first | (go_simp; done) | (go_simp; with_reducible rfl))
                try simp only [Act.put, List.getElem_toArray, List.getElem_cons_zero, List.getElem_cons_succ, List.setIfInBounds_toArray, List.set_cons_zero, List.set_cons_succ]
                refine wpAnyH_take (i := 19) (v := ?_) rfl (by kernel_rfl) (by kernel_rfl) (by kernel_rfl) (fun _ _ _ h => h) (Or.inl ⟨by rfl, ?_⟩) (by assumption) ?_
                rotate_left
                · (intro w' hSw; (try dsimp only at hSw); first | (go_simp; done) | (go_simp; with_reducible rfl))
                try simp only [Act.put, List.getElem_toArray, List.getElem_cons_zero, List.getElem_cons_succ, List.setIfInBounds_toArray, List.set_cons_zero, List.set_cons_succ]
                refine wpAnyH_take (i := 20) (v := ?_) rfl (by kernel_rfl) (by kernel_rfl) (by kernel_rfl) (fun _ _ _ h => h) (Or.inl ⟨by rfl, ?_⟩) (by assumption) ?_
                rotate_left
                · (intro w' hSw; (try dsimp only at hSw); first | (go_simp; done) | (go_simp; with_reducible rfl))
                try simp only [Act.put, List.getElem_toArray, List.getElem_cons_zero, List.getElem_cons_succ, List.setIfInBounds_toArray, List.set_cons_zero, List.set_cons_succ]
                refine wpAnyH_take (i := 21) (v := ?_) rfl (by kernel_rfl) (by kernel_rfl) (by kernel_rfl) (fun _ _ _ h => h) (Or.inl ⟨by rfl, ?_⟩) (by assumption) ?_
                rotate_left
                · (intro w' hSw; (try dsimp only at hSw); first | (go_simp; done) | (go_simp; with_reducible rfl))
                try simp only [Act.put, List.getElem_toArray, List.getElem_cons_zero, List.getElem_cons_succ, List.setIfInBounds_toArray, List.set_cons_zero, List.set_cons_succ]
                refine wpAnyH_take (i := 22) (v := ?_) rfl (by kernel_rfl) (by kernel_rfl) (by kernel_rfl) (fun _ _ _ h => h) (Or.inl ⟨by rfl, ?_⟩) (by assumption) ?_
                rotate_left
                · (intro w' hSw; (try dsimp only at hSw); first | (go_simp; done) | (go_simp; with_reducible rfl))
                try simp only [Act.put, List.getElem_toArray, List.getElem_cons_zero, List.getElem_cons_succ, List.setIfInBounds_toArray, List.set_cons_zero, List.set_cons_succ]
                refine wpAnyH_take (i := 23) (v := ?_) rfl (by kernel_rfl) (by kernel_rfl) (by kernel_rfl) (fun _ _ _ h => h) (Or.inl ⟨by rfl, ?_⟩) (by assumption) ?_
                rotate_left
                · (intro w' hSw; (try dsimp only at hSw); first | (go_simp; done) | (go_simp; with_reducible rfl))
                try simp only [Act.put, List.getElem_toArray, List.getElem_cons_zero, List.getElem_cons_succ, List.setIfInBounds_toArray, List.set_cons_zero, List.set_cons_succ]
                refine wpAnyH_take (i := 24) (v := ?_) rfl (by kernel_rfl) (by kernel_rfl) (by kernel_rfl) (fun _ _ _ h => h) (Or.inl ⟨by rfl, ?_⟩) (by assumption) ?_
                rotate_left
                · (intro w' hSw; (try dsimp only at hSw); first | (go_simp; done) | (go_simp; with_reducible rfl))
                try simp only [Act.put, List.getElem_toArray, List.getElem_cons_zero, List.getElem_cons_succ, List.setIfInBounds_toArray, List.set_cons_zero, List.set_cons_succ]
                refine wpAnyH_take (i := 25) (v := ?_) rfl (by kernel_rfl) (by kernel_rfl) (by kernel_rfl) (fun _ _ _ h => h) (Or.inl ⟨by rfl, ?_⟩) (by assumption) ?_
                rotate_left
                · (intro w' hSw; (try dsimp only at hSw); first | (go_simp; done) | (go_simp; with_reducible rfl))
                try simp only [Act.put, List.getElem_toArray, List.getElem_cons_zero, List.getElem_cons_succ, List.setIfInBounds_toArray, List.set_cons_zero, List.set_cons_succ]
                refine wpAnyH_take (i := 26) (v := ?_) rfl (by kernel_rfl) (by kernel_rfl) (by kernel_rfl) (fun _ _ _ h => h) (Or.inl ⟨by rfl, ?_⟩) (by assumption) ?_
                rotate_left
                · (intro w' hSw; (try dsimp only at hSw); first | (go_simp; done) | (go_simp; with_reducible rfl))
                try simp only [Act.put, List.getElem_toArray, List.getElem_cons_zero, List.getElem_cons_succ, List.setIfInBounds_toArray, List.set_cons_zero, List.set_cons_succ]
                refine wpAnyH_take (i := 27) (v := ?_) rfl (by kernel_rfl) (by kernel_rfl) (by kernel_rfl) (fun _ _ _ h => h) (Or.inl ⟨by rfl, ?_⟩) (by assumption) ?_
                rotate_left
                · (intro w' hSw; (try dsimp only at hSw); first | (go_simp; done) | (go_simp; with_reducible rfl))
                try simp only [Act.put, List.getElem_toArray, List.getElem_cons_zero, List.getElem_cons_succ, List.setIfInBounds_toArray, List.set_cons_zero, List.set_cons_succ]
                refine wpAnyH_ready (rs := [28]) (by kernel_rfl) (by simp) ?_
                refine AllReadyH.cons rfl (fun K hK => ?_) AllReadyH.nil
                go_simp
                go_at_call 71
                refine HH4.out.mono ?_
                rintro e w5 ⟨rfl, hb5'⟩
                have HB5 := Lib.hid (Below.past HB4.out hb5' HB4.out.size)
                have HB5b := Lib.hid (Below.past HB2.out HB5.out hs2)
                clear hb5' HH4 hHeld
                refine hK.out _ _ ((by obtain ⟨k0, k1, k2⟩ := HCE.out _ HB5.out; exact ⟨k0, k1, k2, HCQ.out _ HB5.out⟩)) (fun hHeld => ?_)
                try simp only [Act.put, List.getElem_toArray, List.getElem_cons_zero, List.getElem_cons_succ, List.setIfInBounds_toArray, List.set_cons_zero, List.set_cons_succ]
                by_cases hbz : zb < hz
                · have dbz := decide_eq_true hbz
                  have HANY := Lib.hid (HAN.out (by rw [HF3.out, dbz]))
                  have HX5 := Lib.hid (HX2.out.past HB5b.out)
                  refine wpAnyH_take (i := 29) (v := ?_) rfl (by kernel_rfl) (by kernel_rfl) (by kernel_rfl) (fun _ _ _ h => h) (Or.inl ⟨by rfl, ?_⟩) (by assumption) ?_
                  rotate_left
                  · (intro w' hSw; (try dsimp only at hSw); first | (go_simp; done) | (go_simp; with_reducible rfl))
                  try simp only [Act.put, List.getElem_toArray, List.getElem_cons_zero, List.getElem_cons_succ, List.setIfInBounds_toArray, List.set_cons_zero, List.set_cons_succ]
                  refine wpAnyH_take (i := 30) (v := ?_) rfl (by kernel_rfl) (by kernel_rfl) (by kernel_rfl) (fun _ _ _ h => h) (Or.inl ⟨by rfl, ?_⟩) (by assumption) ?_
                  rotate_left
                  · (intro w' hSw; (try dsimp only at hSw); first | (go_simp; done) | (go_simp; with_reducible rfl))
                  try simp only [Act.put, List.getElem_toArray, List.getElem_cons_zero, List.getElem_cons_succ, List.setIfInBounds_toArray, List.set_cons_zero, List.set_cons_succ]
                  refine wpAnyH_done (by kernel_rfl) ?_ _
                  clear hHeld hbz
                  have HBK5 := Lib.hid HX5.out.blk
                  have x2 := HBK5.out.cell 2
                  have x3 := HBK5.out.cell 3
                  have y2 := HBK5.out.frozen 2
                  have y3 := HBK5.out.frozen 3
                  simp at x2 x3
                  have hrw := HX5.out.book.row
                  rw [List.flatMap_append] at hrw
                  obtain ⟨hcap, hpre⟩ := own_preH (n := N) (m := n) (by rw [List.length_append, hN.out, HL.out] at hrw; exact hrw) (by rw [flat_len _ 4 Ent.cells_len, hN.out])
                  have HPRE := Lib.hid hpre
                  have hNc : N ≤ c2 := by omega
                  have hNz : (N : Int) ≤ (c2 : Int) := by omega
                  have hwp : IntKind.i64.wrap (p + 1 - 1) = p := by rw [show p + 1 - 1 = p by omega]; exact IntWalk.i64_in _ (by omega)
                  have HFIN : Hid (∀ c3, c3 = c2 → DPost h base M A (.slice X N cX) p room u D (hpK M A bl D l) (hpL M A bl D L l) w (.returned (.int .i64 13)) ((w5.setCell ⟨h, 2, none⟩ (.slice X2 N c3)).setCell ⟨h, 3, none⟩ (.int .i64 p))) := Lib.hid (by
                    rintro c3 rfl
                    have hK13 : hpK M A bl D l = 13 := by unfold hpK; rw [if_pos hKp.out, HANY.out, if_pos rfl]
                    refine ⟨by rw [hK13], .slice X2 N c3, p, ?_, ((HO2.out.below HB5b.out).setCell ⟨h, 2, none⟩ rfl _).setCell ⟨h, 3, none⟩ rfl _, by cases X2 <;> simpa [Value.ownBlock] using HD2.out, .inl rfl⟩
                    have hLL : hpL M A bl D L l = L := by unfold hpL; rw [hK13, if_neg (by decide)]
                    rw [hLL]
                    have hb1 := HBK5.out.put 2 (.slice X2 N c3)
                    have hb2 := hb1.put 3 (.int .i64 p)
                    have hr1 := own_far (p := ⟨h, 2, none⟩) HPRE.out (own_blk_ne HPRE.out HBK5.out (by decide)) (.slice X2 N c3)
                    have hr2 := own_far (p := ⟨h, 3, none⟩) hr1 (own_blk_ne hr1 hb1 (by decide)) (.int .i64 p)
                    have hu1 := own_far (p := ⟨h, 2, none⟩) HX5.out.row (own_blk_ne HX5.out.row HBK5.out (by decide)) (.slice X2 N c3)
                    have hu2 := own_far (p := ⟨h, 3, none⟩) hu1 (own_blk_ne hu1 hb1 (by decide)) (.int .i64 p)
                    exact ⟨⟨⟨X2, c3, by rw [hN.out]⟩, hb2, by rw [hN.out]; exact hr2, fun e he => HX5.out.book.ok e (List.mem_append_left _ he), by rw [hN.out]; exact hNl⟩, HX5.out.form, hu2, HX5.out.len⟩)
                  clear hrw hpre hcap
                  go_wp2_with fail
                  go_ret
                  exact HFIN.out _ rfl
                · have dbz := decide_eq_false hbz
                  have HFF : Hid (belB M A bl (postB M A bl l) D f = false) := Lib.hid (by rw [HF3.out, dbz])
                  refine wpAnyH_take (i := 29) (v := ?_) rfl (by kernel_rfl) (by kernel_rfl) (by kernel_rfl) (fun _ _ _ h => h) (Or.inl ⟨by rfl, ?_⟩) (by assumption) ?_
                  rotate_left
                  · (intro w' hSw; (try dsimp only at hSw); first | (go_simp; done) | (go_simp; with_reducible rfl))
                  try simp only [Act.put, List.getElem_toArray, List.getElem_cons_zero, List.getElem_cons_succ, List.setIfInBounds_toArray, List.set_cons_zero, List.set_cons_succ]
                  refine wpAnyH_take (i := 30) (v := ?_) rfl (by kernel_rfl) (by kernel_rfl) (by kernel_rfl) (fun _ _ _ h => h) (Or.inl ⟨by rfl, ?_⟩) (by assumption) ?_
                  rotate_left
                  · (intro w' hSw; (try dsimp only at hSw); first | (go_simp; done) | (go_simp; with_reducible rfl))
                  try simp only [Act.put, List.getElem_toArray, List.getElem_cons_zero, List.getElem_cons_succ, List.setIfInBounds_toArray, List.set_cons_zero, List.set_cons_succ]
                  refine wpAnyH_done (by kernel_rfl) ?_ _
                  clear hHeld hbz
                  go_wp2_with fail
                  go_roundw
                  case rel => exact ⟨k + 1, by omega, by go_num, Lib.hid (by rw [HNX.out, HFF.out]), HB5b⟩
                  case measure => simp [intOf]; omega
              · have dab := decide_eq_false hab
                have HFF : Hid (belB M A bl (postB M A bl l) D f = false) := Lib.hid (by rw [HF2.out, dab]; simp)
                clear hab
                refine wpAnyH_take (i := 6) (v := ?_) rfl (by kernel_rfl) (by kernel_rfl) (by kernel_rfl) (fun _ _ _ h => h) (Or.inl ⟨by rfl, ?_⟩) (by assumption) ?_
                rotate_left
                · (intro w' hSw; (try dsimp only at hSw); first | (go_simp; done) | (go_simp; with_reducible rfl))
                try simp only [Act.put, List.getElem_toArray, List.getElem_cons_zero, List.getElem_cons_succ, List.setIfInBounds_toArray, List.set_cons_zero, List.set_cons_succ]
                refine wpAnyH_take (i := 7) (v := ?_) rfl (by kernel_rfl) (by kernel_rfl) (by kernel_rfl) (fun _ _ _ h => h) (Or.inl ⟨by rfl, ?_⟩) (by assumption) ?_
                rotate_left
                · (intro w' hSw; (try dsimp only at hSw); first | (go_simp; done) | (go_simp; with_reducible rfl))
                try simp only [Act.put, List.getElem_toArray, List.getElem_cons_zero, List.getElem_cons_succ, List.setIfInBounds_toArray, List.set_cons_zero, List.set_cons_succ]
                refine wpAnyH_take (i := 8) (v := ?_) rfl (by kernel_rfl) (by kernel_rfl) (by kernel_rfl) (fun _ _ _ h => h) (Or.inl ⟨by rfl, ?_⟩) (by assumption) ?_
                rotate_left
                · (intro w' hSw; (try dsimp only at hSw); first | (go_simp; done) | (go_simp; with_reducible rfl))
                try simp only [Act.put, List.getElem_toArray, List.getElem_cons_zero, List.getElem_cons_succ, List.setIfInBounds_toArray, List.set_cons_zero, List.set_cons_succ]
                refine wpAnyH_take (i := 9) (v := ?_) rfl (by kernel_rfl) (by kernel_rfl) (by kernel_rfl) (fun _ _ _ h => h) (Or.inl ⟨by rfl, ?_⟩) (by assumption) ?_
                rotate_left
                · (intro w' hSw; (try dsimp only at hSw); first | (go_simp; done) | (go_simp; with_reducible rfl))
                try simp only [Act.put, List.getElem_toArray, List.getElem_cons_zero, List.getElem_cons_succ, List.setIfInBounds_toArray, List.set_cons_zero, List.set_cons_succ]
                refine wpAnyH_take (i := 10) (v := ?_) rfl (by kernel_rfl) (by kernel_rfl) (by kernel_rfl) (fun _ _ _ h => h) (Or.inl ⟨by rfl, ?_⟩) (by assumption) ?_
                rotate_left
                · (intro w' hSw; (try dsimp only at hSw); first | (go_simp; done) | (go_simp; with_reducible rfl))
                try simp only [Act.put, List.getElem_toArray, List.getElem_cons_zero, List.getElem_cons_succ, List.setIfInBounds_toArray, List.set_cons_zero, List.set_cons_succ]
                refine wpAnyH_take (i := 11) (v := ?_) rfl (by kernel_rfl) (by kernel_rfl) (by kernel_rfl) (fun _ _ _ h => h) (Or.inl ⟨by rfl, ?_⟩) (by assumption) ?_
                rotate_left
                · (intro w' hSw; (try dsimp only at hSw); first | (go_simp; done) | (go_simp; with_reducible rfl))
                try simp only [Act.put, List.getElem_toArray, List.getElem_cons_zero, List.getElem_cons_succ, List.setIfInBounds_toArray, List.set_cons_zero, List.set_cons_succ]
                refine wpAnyH_take (i := 12) (v := ?_) rfl (by kernel_rfl) (by kernel_rfl) (by kernel_rfl) (fun _ _ _ h => h) (Or.inl ⟨by rfl, ?_⟩) (by assumption) ?_
                rotate_left
                · (intro w' hSw; (try dsimp only at hSw); first | (go_simp; done) | (go_simp; with_reducible rfl))
                try simp only [Act.put, List.getElem_toArray, List.getElem_cons_zero, List.getElem_cons_succ, List.setIfInBounds_toArray, List.set_cons_zero, List.set_cons_succ]
                refine wpAnyH_take (i := 13) (v := ?_) rfl (by kernel_rfl) (by kernel_rfl) (by kernel_rfl) (fun _ _ _ h => h) (Or.inl ⟨by rfl, ?_⟩) (by assumption) ?_
                rotate_left
                · (intro w' hSw; (try dsimp only at hSw); first | (go_simp; done) | (go_simp; with_reducible rfl))
                try simp only [Act.put, List.getElem_toArray, List.getElem_cons_zero, List.getElem_cons_succ, List.setIfInBounds_toArray, List.set_cons_zero, List.set_cons_succ]
                refine wpAnyH_take (i := 14) (v := ?_) rfl (by kernel_rfl) (by kernel_rfl) (by kernel_rfl) (fun _ _ _ h => h) (Or.inl ⟨by rfl, ?_⟩) (by assumption) ?_
                rotate_left
                · (intro w' hSw; (try dsimp only at hSw); first | (go_simp; done) | (go_simp; with_reducible rfl))
                try simp only [Act.put, List.getElem_toArray, List.getElem_cons_zero, List.getElem_cons_succ, List.setIfInBounds_toArray, List.set_cons_zero, List.set_cons_succ]
                refine wpAnyH_take (i := 15) (v := ?_) rfl (by kernel_rfl) (by kernel_rfl) (by kernel_rfl) (fun _ _ _ h => h) (Or.inl ⟨by rfl, ?_⟩) (by assumption) ?_
                rotate_left
                · (intro w' hSw; (try dsimp only at hSw); first | (go_simp; done) | (go_simp; with_reducible rfl))
                try simp only [Act.put, List.getElem_toArray, List.getElem_cons_zero, List.getElem_cons_succ, List.setIfInBounds_toArray, List.set_cons_zero, List.set_cons_succ]
                refine wpAnyH_take (i := 16) (v := undef) rfl (by kernel_rfl) (by kernel_rfl) (by kernel_rfl) (fun _ _ _ h => h) (Or.inr ⟨by rfl, rfl⟩) (by assumption) ?_
                try simp only [Act.put, List.getElem_toArray, List.getElem_cons_zero, List.getElem_cons_succ, List.setIfInBounds_toArray, List.set_cons_zero, List.set_cons_succ]
                refine wpAnyH_take (i := 17) (v := undef) rfl (by kernel_rfl) (by kernel_rfl) (by kernel_rfl) (fun _ _ _ h => h) (Or.inr ⟨by rfl, rfl⟩) (by assumption) ?_
                try simp only [Act.put, List.getElem_toArray, List.getElem_cons_zero, List.getElem_cons_succ, List.setIfInBounds_toArray, List.set_cons_zero, List.set_cons_succ]
                refine wpAnyH_take (i := 18) (v := undef) rfl (by kernel_rfl) (by kernel_rfl) (by kernel_rfl) (fun _ _ _ h => h) (Or.inr ⟨by rfl, rfl⟩) (by assumption) ?_
                try simp only [Act.put, List.getElem_toArray, List.getElem_cons_zero, List.getElem_cons_succ, List.setIfInBounds_toArray, List.set_cons_zero, List.set_cons_succ]
                refine wpAnyH_take (i := 19) (v := undef) rfl (by kernel_rfl) (by kernel_rfl) (by kernel_rfl) (fun _ _ _ h => h) (Or.inr ⟨by rfl, rfl⟩) (by assumption) ?_
                try simp only [Act.put, List.getElem_toArray, List.getElem_cons_zero, List.getElem_cons_succ, List.setIfInBounds_toArray, List.set_cons_zero, List.set_cons_succ]
                refine wpAnyH_take (i := 20) (v := undef) rfl (by kernel_rfl) (by kernel_rfl) (by kernel_rfl) (fun _ _ _ h => h) (Or.inr ⟨by rfl, rfl⟩) (by assumption) ?_
                try simp only [Act.put, List.getElem_toArray, List.getElem_cons_zero, List.getElem_cons_succ, List.setIfInBounds_toArray, List.set_cons_zero, List.set_cons_succ]
                refine wpAnyH_take (i := 21) (v := undef) rfl (by kernel_rfl) (by kernel_rfl) (by kernel_rfl) (fun _ _ _ h => h) (Or.inr ⟨by rfl, rfl⟩) (by assumption) ?_
                try simp only [Act.put, List.getElem_toArray, List.getElem_cons_zero, List.getElem_cons_succ, List.setIfInBounds_toArray, List.set_cons_zero, List.set_cons_succ]
                refine wpAnyH_take (i := 22) (v := undef) rfl (by kernel_rfl) (by kernel_rfl) (by kernel_rfl) (fun _ _ _ h => h) (Or.inr ⟨by rfl, rfl⟩) (by assumption) ?_
                try simp only [Act.put, List.getElem_toArray, List.getElem_cons_zero, List.getElem_cons_succ, List.setIfInBounds_toArray, List.set_cons_zero, List.set_cons_succ]
                refine wpAnyH_take (i := 23) (v := undef) rfl (by kernel_rfl) (by kernel_rfl) (by kernel_rfl) (fun _ _ _ h => h) (Or.inr ⟨by rfl, rfl⟩) (by assumption) ?_
                try simp only [Act.put, List.getElem_toArray, List.getElem_cons_zero, List.getElem_cons_succ, List.setIfInBounds_toArray, List.set_cons_zero, List.set_cons_succ]
                refine wpAnyH_take (i := 24) (v := undef) rfl (by kernel_rfl) (by kernel_rfl) (by kernel_rfl) (fun _ _ _ h => h) (Or.inr ⟨by rfl, rfl⟩) (by assumption) ?_
                try simp only [Act.put, List.getElem_toArray, List.getElem_cons_zero, List.getElem_cons_succ, List.setIfInBounds_toArray, List.set_cons_zero, List.set_cons_succ]
                refine wpAnyH_take (i := 25) (v := undef) rfl (by kernel_rfl) (by kernel_rfl) (by kernel_rfl) (fun _ _ _ h => h) (Or.inr ⟨by rfl, rfl⟩) (by assumption) ?_
                try simp only [Act.put, List.getElem_toArray, List.getElem_cons_zero, List.getElem_cons_succ, List.setIfInBounds_toArray, List.set_cons_zero, List.set_cons_succ]
                refine wpAnyH_take (i := 26) (v := undef) rfl (by kernel_rfl) (by kernel_rfl) (by kernel_rfl) (fun _ _ _ h => h) (Or.inr ⟨by rfl, rfl⟩) (by assumption) ?_
                try simp only [Act.put, List.getElem_toArray, List.getElem_cons_zero, List.getElem_cons_succ, List.setIfInBounds_toArray, List.set_cons_zero, List.set_cons_succ]
                refine wpAnyH_take (i := 27) (v := undef) rfl (by kernel_rfl) (by kernel_rfl) (by kernel_rfl) (fun _ _ _ h => h) (Or.inr ⟨by rfl, rfl⟩) (by assumption) ?_
                try simp only [Act.put, List.getElem_toArray, List.getElem_cons_zero, List.getElem_cons_succ, List.setIfInBounds_toArray, List.set_cons_zero, List.set_cons_succ]
                refine wpAnyH_take (i := 28) (v := undef) rfl (by kernel_rfl) (by kernel_rfl) (by kernel_rfl) (fun _ _ _ h => h) (Or.inr ⟨by rfl, rfl⟩) (by assumption) ?_
                try simp only [Act.put, List.getElem_toArray, List.getElem_cons_zero, List.getElem_cons_succ, List.setIfInBounds_toArray, List.set_cons_zero, List.set_cons_succ]
                refine wpAnyH_take (i := 29) (v := undef) rfl (by kernel_rfl) (by kernel_rfl) (by kernel_rfl) (fun _ _ _ h => h) (Or.inr ⟨by rfl, rfl⟩) (by assumption) ?_
                try simp only [Act.put, List.getElem_toArray, List.getElem_cons_zero, List.getElem_cons_succ, List.setIfInBounds_toArray, List.set_cons_zero, List.set_cons_succ]
                refine wpAnyH_take (i := 30) (v := ?_) rfl (by kernel_rfl) (by kernel_rfl) (by kernel_rfl) (fun _ _ _ h => h) (Or.inl ⟨by rfl, ?_⟩) (by assumption) ?_
                rotate_left
                · (intro w' hSw; (try dsimp only at hSw); first | (go_simp; done) | (go_simp; with_reducible rfl))
                try simp only [Act.put, List.getElem_toArray, List.getElem_cons_zero, List.getElem_cons_succ, List.setIfInBounds_toArray, List.set_cons_zero, List.set_cons_succ]
                refine wpAnyH_done (by kernel_rfl) ?_ _
                clear hHeld
                go_wp2_with fail
                go_roundw
                case rel => exact ⟨k + 1, by omega, by go_num, Lib.hid (by rw [HNX.out, HFF.out]), HB4b⟩
                case measure => simp [intOf]; omega
          · have hlz : ¬ (k : Int) < (n : Int) := by omega
            obtain rfl : n = k := by omega
            have hT : l.take n = l := List.take_of_length_le (by rw [HL.out]; exact Nat.le_refl _)
            rw [hT] at HNB
            have hK0 : hpK M A bl D l = 0 := by unfold hpK; rw [if_pos hKp.out, HNB.out, if_neg (by simp)]
            have hLL : hpL M A bl D L l = L ++ l := by unfold hpL; rw [if_pos hK0]
            have HFIN : Hid (DPost h base M A (.slice X N cX) p room u D (hpK M A bl D l) (hpL M A bl D L l) w (.returned (.int .i64 0)) wr) := Lib.hid (by
              rw [hLL]
              exact ⟨by rw [hK0], _, p + 1, HX2.out.past HB2.out, HO2.out.below HB2.out, HD2.out, .inr rfl⟩)
            clear hT hK0 hLL
            go_wp2_with fail
            go_ret
            exact HFIN.out
      · have HHK : Hid (hpK M A bl D l = K) := Lib.hid (by unfold hpK; rw [hKp.out, if_neg hk0])
        have HHL : Hid (hpL M A bl D L l = L) := Lib.hid (by unfold hpL; rw [HHK.out, if_neg hk0])
        have HPL : Hid (postLL M A bl L l = L) := Lib.hid (by unfold postLL; rw [hKp.out, if_neg hk0])
        have q1 : (K != 0) = true := by simpa using hk0
        clear hk0
        go_wp2_with fail
        go_ret
        rw [HHK.out, HHL.out]
        refine ⟨rfl, v2, _, ?_, HO2.out, HD2.out, HPo.out⟩
        have := HX2.out
        rw [HPL.out] at this
        exact this
end
end Go.Proofs.Ytelbolhckhdioaa

/-! ## from HdC -/
namespace Go.Proofs.Ytelbolhckhdioaa
open Go.RowKit

/-! ### The document's Move of a vault; what any call of it leaves -/
def dbad (h : Nat) (v u : Value) (k : Nat) : Prop := k = h ∨ v.ownBlock = some k ∨ u.ownBlock = some k
def QPost (h base M A : Nat) (v : Value) (p room : Int) (u : Value) (K : Int) (L' : List Ent) (D' : List HRow) (w : World) (e : Ending) (w' : World) : Prop :=
  e = .returned (.int .i64 K) ∧ ∃ v' p' u', QvtV w' h base M A v' L' p' room u' D' ∧ OnlyS (dbad h v u) w w' ∧ (∀ k, v'.ownBlock = some k → v.ownBlock = some k ∨ w.heap.size ≤ k) ∧ (∀ k, u'.ownBlock = some k → u.ownBlock = some k ∨ w.heap.size ≤ k) ∧ (p' = p ∨ p' = p + 1)
section
variable {h base M A : Nat} {v : Value} {bl : List Int} {L L' : List Ent} {p room : Int} {u : Value} {D D' : List HRow}
theorem DPost.q {K : Int} {w w' : World} {e : Ending} (H : DPost h base M A v p room u D K L' w e w') : QPost h base M A v p room u K L' D w e w' := by
  obtain ⟨he, v', p', h1, h2, h3, h4⟩ := H
  refine ⟨he, v', p', u, h1, OnlyS.of_onlyG h2 (.inl rfl) (fun k e => .inr (.inl e)), fun k e => ?_, fun k e => .inl e, h4⟩
  rcases h3 with e1 | ⟨k', e1, e2⟩
  · exact .inl (e1 ▸ e)
  · rw [e1] at e; cases e; exact .inr e2
theorem DPost.after {K : Int} {w w1 w' : World} {e : Ending} (hb : Below w.heap.size w w1) (H : DPost h base M A v p room u D K L' w1 e w') : DPost h base M A v p room u D K L' w e w' := by
  obtain ⟨he, v', p', h1, h2, h3, h4⟩ := H
  exact ⟨he, v', p', h1, h2.afterZ hb, h3.imp (fun e => e) fun ⟨k, e1, e2⟩ => ⟨k, e1, Nat.le_trans hb.size e2⟩, h4⟩
theorem QPost.same {w w' : World} (hx : QvtV w h base M A v L p room u D) (hb : Below w.heap.size w w') (K : Int) : QPost h base M A v p room u K L D w (.returned (.int .i64 K)) w' :=
  ⟨rfl, v, p, u, hx.past hb, OnlyS.of_below hb, fun k e => .inl e, fun k e => .inl e, .inl rfl⟩
set_option maxHeartbeats 4000000 in
set_option maxRecDepth 100000 in
theorem refMoveV_any (x y : Acc) (a z : Int) (w : World) (hM : M ≤ 16) (hA : A ≤ 9) (hinv : Inv M A bl L) (hi : HInv M A bl D) (hx : QvtV w h base M A v L p room u D) (hix : inI x.kind ∧ inI x.member) (hiy : inI y.kind ∧ inI y.member) (hia : inI a) (hiz : inI z) (hLn : L.length ≤ 900) (hp : 0 ≤ p ∧ p ≤ 1000000) (hbase : base ≤ w.heap.size) :
    Calls Try.prog 67 #[.pointer (some ⟨h, 0, none⟩), .agg #[.int .i64 x.kind, .int .i64 x.member], .agg #[.int .i64 y.kind, .int .i64 y.member], .int .i64 a, .int .i64 z] w (DPost h base M A v p room u D (hmK M A bl D x y a z) (hmL M A bl D L x y a z) w) := by
  have bx := Blk.new w 52 #[.int .i64 x.kind, .int .i64 x.member] w.heap.size rfl
  have by_ := Blk.new (w.alloc (.cells #[.int .i64 x.kind, .int .i64 x.member] 52)) 52 #[.int .i64 y.kind, .int .i64 y.member] (w.heap.size + 1) (by simp)
  have hB0 := ((Below.refl w.heap.size w).alloc (Nat.le_refl _) (.cells #[.int .i64 x.kind, .int .i64 x.member] 52)).alloc (by simp) (.cells #[.int .i64 y.kind, .int .i64 y.member] 52)
  have bx := bx.alloc (.cells #[.int .i64 y.kind, .int .i64 y.member] 52)
  obtain ⟨W, hW⟩ : ∃ W, Hid ((w.alloc (.cells #[.int .i64 x.kind, .int .i64 x.member] 52)).alloc (.cells #[.int .i64 y.kind, .int .i64 y.member] 52) = W) := ⟨_, Lib.hid rfl⟩
  rw [hW.out] at bx by_ hB0
  have hWs := hB0.size
  by_cases hz : z < 0
  · have HK : Hid (hmK M A bl D x y a z = 1 ∧ hmL M A bl D L x y a z = L) := Lib.hid ⟨if_pos hz, if_pos hz⟩
    have HX := Lib.hid hx
    have HB0 := Lib.hid hB0
    clear bx by_ hx hi hinv hB0
    go_enter Try.func67, Try.ntmps67
    go_upto_region 1 with fail
    rw [hW.out]
    go_wp2_with fail
    go_ret
    rw [HK.out.1, HK.out.2]
    exact ⟨rfl, v, p, HX.out.past HB0.out, OnlyG.of_below HB0.out, .inl rfl, .inl rfl⟩
  · have hz0 : 0 ≤ z := by omega
    have hB1 := hB0.alloc hB0.size (.cells #[.int .i64 x.kind, .int .i64 x.member, .int .i64 a, .int .i64 (-z), .int .i64 y.kind, .int .i64 y.member, .int .i64 a, .int .i64 z] 110)
    have hrl : Rd _ _ 4 _ 2 ((moveE x y a z).flatMap Ent.cells) := Rd.lit (n := 2) (sz := 4) W #[.int .i64 x.kind, .int .i64 x.member, .int .i64 a, .int .i64 (-z), .int .i64 y.kind, .int .i64 y.member, .int .i64 a, .int .i64 z] 110 W.heap.size rfl rfl
    have hbes : 0 < 2 → BesideK h v (some ⟨W.heap.size, 0, none⟩) := fun _ b off he => by
      injection he with he
      injection he with h1 h2
      subst h1
      refine ⟨fun e => ?_, fun e => ?_⟩
      · have := hx.blk.lt; omega
      · have := (hx.book.row.lt _ e).2; omega
    have HPO := Lib.hid (refPostV_any (some ⟨W.heap.size, 0, none⟩) 2 2 (moveE x y a z) _ hM hA hinv hi (hx.past hB1) hrl hbes (by omega) (by simp [moveE]; omega) (moveE_ok hix hiy hia hiz hz0) hp (by have := hB1.size; omega))
    have HK : Hid (hmK M A bl D x y a z = hpK M A bl D (moveE x y a z) ∧ hmL M A bl D L x y a z = hpL M A bl D L (moveE x y a z)) := Lib.hid ⟨if_neg hz, if_neg hz⟩
    obtain ⟨K, hK⟩ : ∃ K, Hid (hpK M A bl D (moveE x y a z) = K) := ⟨_, Lib.hid rfl⟩
    rw [hK.out] at HPO HK
    have HB1 := Lib.hid hB1
    have hw1 : IntKind.i64.wrap (-z) = -z := IntWalk.i64_in _ (by unfold inI at hiz; omega)
    have s0 := (bx).cell 0
    have s1 := (bx).cell 1
    simp at s0 s1
    have t0 := (by_).cell 0
    have t1 := (by_).cell 1
    simp at t0 t1
    clear bx by_ hB0 hB1 hrl hx hi hinv hbes
    go_enter Try.func67, Try.ntmps67
    go_upto_region 1 with fail
    rw [hW.out]
    go_wp2_with fail
    refine HPO.out.mono ?_
    rintro e w2 ⟨rfl, hv⟩
    have HV := Lib.hid hv
    clear hv
    go_wp2_with fail
    go_ret
    rw [HK.out.1, HK.out.2]
    exact DPost.after HB1.out ⟨rfl, HV.out⟩

/-! ### Place -/
theorem row15Info : (Try.prog.info? 124).map (fun i => (i.zero, i.size, i.bytes)) = some (some (.agg #[.int .i64 0, .int .i64 0, .int .i64 0, .int .i64 0, .int .i64 0]), 5, 40) := by kernel_rfl
def qplD (M A : Nat) (bl : List Int) (D : List HRow) (room : Int) (id : Int) (f : HoldV) : List HRow := if plcK M A bl D room id f = 0 then D ++ [⟨id, f⟩] else D
theorem qplD_no {M A : Nat} {bl : List Int} {D : List HRow} {room id K : Int} {f : HoldV} (hk : plcK M A bl D room id f = K) (h0 : K ≠ 0) : qplD M A bl D room id f = D := if_neg (by rw [hk]; exact h0)
set_option maxHeartbeats 16000000 in
set_option maxRecDepth 100000 in
theorem refPlace_any (id : Int) (f : HoldV) (w : World) (hM : M ≤ 16) (hinv : Inv M A bl L) (hi : HInv M A bl D) (hx : QvtV w h base M A v L p room u D) (hl9 : D.length ≤ 900) (hbase : base ≤ w.heap.size) :
    Calls Try.prog 68 #[.pointer (some ⟨h, 0, none⟩), .int .i64 id, .agg #[.int .i64 f.k, .int .i64 f.m, .int .i64 f.a, .int .i64 f.z]] w (QPost h base M A v p room u (plcK M A bl D room id f) L (qplD M A bl D room id f) w) := by
  have hB0 := (Below.refl w.heap.size w).alloc (Nat.le_refl _) (.cells #[.int .i64 f.k, .int .i64 f.m, .int .i64 f.a, .int .i64 f.z] 60)
  have bz0 := Blk.new w 60 #[.int .i64 f.k, .int .i64 f.m, .int .i64 f.a, .int .i64 f.z] w.heap.size rfl
  obtain ⟨W, hW⟩ : ∃ W, Hid (w.alloc (.cells #[.int .i64 f.k, .int .i64 f.m, .int .i64 f.a, .int .i64 f.z] 60) = W) := ⟨_, Lib.hid rfl⟩
  obtain ⟨xb, hxb⟩ : ∃ xb, Hid (w.heap.size = xb) := ⟨_, Lib.hid rfl⟩
  rw [hW.out] at hB0 bz0
  rw [hxb.out] at bz0
  have HV := Lib.hid hx
  have HV0 := Lib.hid (hx.past hB0)
  have HB0 := Lib.hid hB0
  have HX0 := Lib.hid bz0
  have HI := Lib.hid hi
  have HN := Lib.hid hinv
  obtain ⟨i0, hi0, hz0, hz1, hz2⟩ := info_parts row15Info
  have x0 := HX0.out.cell 0
  have x1 := HX0.out.cell 1
  have x2 := HX0.out.cell 2
  have x3 := HX0.out.cell 3
  simp at x0 x1 x2 x3
  clear hx hi hinv hB0 bz0
  by_cases hz : f.z < 0
  · have HK : Hid (plcK M A bl D room id f = 1) := Lib.hid (if_pos (.inl hz))
    go_enter Try.func68, Try.ntmps68
    go_upto_region 1 with fail
    rw [hW.out, hxb.out]
    go_wp2_with fail
    go_ret
    rw [qplD_no HK.out (by decide), HK.out]
    exact QPost.same HV.out HB0.out 1
  · have HFR := Lib.hid (refFree15_any f.spt W)
    rw [show f.spt.k = f.k from rfl, show f.spt.m = f.m from rfl] at HFR
    cases hfr : frB f.spt with
    | true =>
      have HK : Hid (plcK M A bl D room id f = 1) := Lib.hid (if_pos (.inr hfr))
      rw [hfr] at HFR
      clear hfr
      go_enter Try.func68, Try.ntmps68
      go_upto_region 1 with fail
      rw [hW.out, hxb.out]
      go_wp2_with fail
      refine HFR.out.mono ?_
      rintro e w1 ⟨rfl, hb1⟩
      have HB1 := Lib.hid (Below.past HB0.out hb1 HB0.out.size)
      clear hb1
      go_wp2_with fail
      go_ret
      rw [qplD_no HK.out (by decide), HK.out]
      exact QPost.same HV.out HB1.out 1
    | false =>
      have HK1 : Hid (plcK M A bl D room id f = if okP M A f.spt = false then 8 else if TTbH.isT D id = true then 7 else if room ≤ (D.length : Nat) then 6 else if bl.getD (ixS M f.spt) 0 - heldH D f.spt < f.z then 13 else 0) := Lib.hid (if_neg (by rw [hfr]; simp [hz]))
      rw [hfr] at HFR
      clear hfr
      go_enter Try.func68, Try.ntmps68
      go_upto_region 1 with fail
      rw [hW.out, hxb.out]
      go_wp2_with fail
      refine HFR.out.mono ?_
      rintro e w1 ⟨rfl, hb1⟩
      have hdr := Below.drew (Below.refl w1.heap.size w1)
      have HV1 := Lib.hid ((HV0.out.past hb1).past hdr)
      have HX1 := Lib.hid (HX0.out.past hb1)
      have HB1 := Lib.hid ((Below.past HB0.out hb1 HB0.out.size).drew)
      have HH1 := Lib.hid (TBk.refHas_any14 h base M A v L p f.spt w1.drew hM HV1.out.book)
      rw [show f.spt.k = f.k from rfl, show f.spt.m = f.m from rfl, show f.spt.a = f.a from rfl] at HH1
      clear hb1 x0 x1 x2 x3 hdr HFR
      have x0 := HX1.out.cell 0
      have x1 := HX1.out.cell 1
      have x2 := HX1.out.cell 2
      have x3 := HX1.out.cell 3
      simp at x0 x1 x2 x3
      go_upto_region 3 with fail
      go_still_tail 7, (by kernel_rfl)
      change wpList _ _ _ _ _ w1.drew
      cases hok : okP M A f.spt with
      | false =>
        have HK : Hid (plcK M A bl D room id f = 8) := Lib.hid (by rw [HK1.out, if_pos hok])
        rw [hok] at HH1
        clear hok
        go_wp2_with fail
        refine HH1.out.mono ?_
        rintro e w2 ⟨rfl, hb2⟩
        have HB2 := Lib.hid (Below.past HB1.out hb2 HB1.out.size)
        clear hb2
        go_wp2_with fail
        go_ret
        rw [qplD_no HK.out (by decide), HK.out]
        exact QPost.same HV.out HB2.out 8
      | true =>
        have HK2 : Hid (plcK M A bl D room id f = if TTbH.isT D id = true then 7 else if room ≤ (D.length : Nat) then 6 else if bl.getD (ixS M f.spt) 0 - heldH D f.spt < f.z then 13 else 0) := Lib.hid (by rw [HK1.out, if_neg (by rw [hok]; simp)])
        rw [hok] at HH1
        have HOKS := Lib.hid hok
        clear hok HK1
        go_wp2_with fail
        refine HH1.out.mono ?_
        rintro e w2 ⟨rfl, hb2⟩
        have HV2 := Lib.hid (HV1.out.past hb2)
        have HX2 := Lib.hid ((HX1.out.drewN 1).past hb2)
        have HB2 := Lib.hid (Below.past HB1.out hb2 HB1.out.size)
        have HFD := Lib.hid (refFindV_any id w2 HV2.out)
        clear hb2 x0 x1 x2 x3 HH1
        go_wp2_with fail
        refine HFD.out.mono ?_
        rintro e w3 ⟨⟨i, rfl, hfd⟩, rfl⟩
        by_cases hi0' : 0 ≤ i
        · have HK : Hid (plcK M A bl D room id f = 7) := Lib.hid (by rw [HK2.out, if_pos (hfd.is.2 hi0')])
          clear hfd
          go_wp2_with fail
          go_ret
          rw [qplD_no HK.out (by decide), HK.out]
          exact QPost.same HV.out HB2.out 7
        · have his : TTbH.isT D id = false := by rw [Bool.eq_false_iff]; exact fun e => hi0' (hfd.is.1 e)
          have HK3 : Hid (plcK M A bl D room id f = if room ≤ (D.length : Nat) then 6 else if bl.getD (ixS M f.spt) 0 - heldH D f.spt < f.z then 13 else 0) := Lib.hid (by rw [HK2.out, if_neg (by rw [his]; simp)])
          obtain ⟨X, c, hu⟩ := HV2.out.form
          subst hu
          obtain ⟨n, hn⟩ : ∃ n, Hid (D.length = n) := ⟨_, Lib.hid rfl⟩
          have HBK := Lib.hid HV2.out.blk
          rw [hn.out] at HBK HK3 hl9
          have p4 := HBK.out.cell 4
          have p5 := HBK.out.cell 5
          simp at p4 p5
          clear hfd his HFD HK2
          by_cases hfu : room ≤ (n : Int)
          · have HK : Hid (plcK M A bl D room id f = 6) := Lib.hid (by rw [HK3.out, if_pos hfu])
            go_wp2_with fail
            go_quiet (fail)
            have HB3 := Lib.hid (below_drewN HB2.out nq)
            clear p4 p5
            go_wp2_with fail
            go_ret
            rw [qplD_no HK.out (by decide), HK.out]
            exact QPost.same HV.out HB3.out 6
          · have HK4 : Hid (plcK M A bl D room id f = if bl.getD (ixS M f.spt) 0 - heldH D f.spt < f.z then 13 else 0) := Lib.hid (by rw [HK3.out, if_neg hfu])
            have hi1 := inv_get HN.out HOKS.out
            have hin := bl_in HN.out.inn (ixS M f.spt)
            have hfin := (HI.out.free_in HN.out.inn HOKS.out).2
            rw [hi1] at hin
            obtain ⟨bz, hbz⟩ : ∃ z, Hid ((atB L f.spt).sum = z) := ⟨_, Lib.hid rfl⟩
            obtain ⟨hz', hhz⟩ : ∃ z, Hid (heldH D f.spt = z) := ⟨_, Lib.hid rfl⟩
            rw [hi1, hbz.out, hhz.out] at HK4 hfin
            have HBL := Lib.hid (fun w1 h1 => TBk.refBal_any (rm := room) (vq := .slice X D.length c) h base M A v L p f.spt w1 h1)
            rw [hbz.out, amount_of (by rw [← hbz.out]; exact hin)] at HBL
            have HHD := Lib.hid (fun w1 h1 => refHeld_any (h := h) (base := base) (M := M) (A := A) (v := v) (L := L) (p := p) (room := room) (u := .slice X D.length c) (D := D) f.spt w1 h1 HI.out.z (HI.out.most HN.out.inn HOKS.out))
            rw [hhz.out] at HHD
            rw [show f.spt.k = f.k from rfl, show f.spt.m = f.m from rfl, show f.spt.a = f.a from rfl] at HBL HHD
            have hw1 : IntKind.i64.wrap (bz - hz') = bz - hz' := IntWalk.i64_in _ (by unfold inI at hfin; omega)
            clear HK3 hi1 hin hfin
            go_wp2_with fail
            go_quiet (fail)
            obtain ⟨W3, hW3⟩ : ∃ W3, Hid (w2.drewN nq = W3) := ⟨_, Lib.hid rfl⟩
            have HV3 : Hid (QvtV (w2.drewN nq) h base M A v L p room (.slice X D.length c) D) := Lib.hid (HV2.out.past (below_drewN (Below.refl _ _) nq))
            have HX3 : Hid (Blk (w2.drewN nq) xb 60 #[.int .i64 f.k, .int .i64 f.m, .int .i64 f.a, .int .i64 f.z]) := Lib.hid (HX2.out.drewN nq)
            have HB3 := Lib.hid (below_drewN HB2.out nq)
            rw [hW3.out] at HV3 HX3 HB3
            rw [hW3.out]
            clear p4 p5
            go_upto_region 9 with fail
            have hdr := Below.drew (Below.refl W3.heap.size W3)
            have HX4 := Lib.hid (HX3.out.past hdr)
            have HB4 := Lib.hid (Below.past HB3.out hdr HB3.out.size)
            have HV4 := Lib.hid (HV3.out.past hdr)
            have hS0 : W3.drew.cell? ⟨xb, 0, none⟩ = some (.int .i64 f.k) ∧ W3.drew.cell? ⟨xb, 1, none⟩ = some (.int .i64 f.m) ∧ W3.drew.cell? ⟨xb, 2, none⟩ = some (.int .i64 f.a) ∧ W3.drew.cell? ⟨xb, 3, none⟩ = some (.int .i64 f.z) := ⟨HX4.out.cell 0, HX4.out.cell 1, HX4.out.cell 2, HX4.out.cell 3⟩
            refine wp_region_held_drew (S := fun w' => w'.cell? ⟨xb, 0, none⟩ = some (.int .i64 f.k) ∧ w'.cell? ⟨xb, 1, none⟩ = some (.int .i64 f.m) ∧ w'.cell? ⟨xb, 2, none⟩ = some (.int .i64 f.a) ∧ w'.cell? ⟨xb, 3, none⟩ = some (.int .i64 f.z)) (by kernel_rfl) hS0 (fun hHeld => ?_)
            clear hS0 hdr
            refine wpAnyH_take (i := 0) (v := ?_) rfl (by kernel_rfl) (by kernel_rfl) (by kernel_rfl) (fun _ _ _ h => h) (Or.inl ⟨by rfl, ?_⟩) (by assumption) ?_
            rotate_left
            · (intro w' hSw; (try dsimp only at hSw); first | (go_simp; done) | (go_simp; with_reducible rfl))
            try simp only [Act.put, List.getElem_toArray, List.getElem_cons_zero, List.getElem_cons_succ, List.setIfInBounds_toArray, List.set_cons_zero, List.set_cons_succ]
            refine wpAnyH_take (i := 1) (v := ?_) rfl (by kernel_rfl) (by kernel_rfl) (by kernel_rfl) (fun _ _ _ h => h) (Or.inl ⟨by rfl, ?_⟩) (by assumption) ?_
            rotate_left
            · (intro w' hSw; (try dsimp only at hSw); first | (go_simp; done) | (go_simp; with_reducible rfl))
            try simp only [Act.put, List.getElem_toArray, List.getElem_cons_zero, List.getElem_cons_succ, List.setIfInBounds_toArray, List.set_cons_zero, List.set_cons_succ]
            refine wpAnyH_take (i := 2) (v := ?_) rfl (by kernel_rfl) (by kernel_rfl) (by kernel_rfl) (fun _ _ _ h => h) (Or.inl ⟨by rfl, ?_⟩) (by assumption) ?_
            rotate_left
            · (intro w' hSw; (try dsimp only at hSw); first | (go_simp; done) | (go_simp; with_reducible rfl))
            try simp only [Act.put, List.getElem_toArray, List.getElem_cons_zero, List.getElem_cons_succ, List.setIfInBounds_toArray, List.set_cons_zero, List.set_cons_succ]
            refine wpAnyH_take (i := 3) (v := ?_) rfl (by kernel_rfl) (by kernel_rfl) (by kernel_rfl) (fun _ _ _ h => h) (Or.inl ⟨by rfl, ?_⟩) (by assumption) ?_
            rotate_left
            · (intro w' hSw; (try dsimp only at hSw); first | (go_simp; done) | (go_simp; with_reducible rfl))
            try simp only [Act.put, List.getElem_toArray, List.getElem_cons_zero, List.getElem_cons_succ, List.setIfInBounds_toArray, List.set_cons_zero, List.set_cons_succ]
            refine wpAnyH_take (i := 4) (v := ?_) rfl (by kernel_rfl) (by kernel_rfl) (by kernel_rfl) (fun _ _ _ h => h) (Or.inl ⟨by rfl, ?_⟩) (by assumption) ?_
            rotate_left
            · (intro w' hSw; (try dsimp only at hSw); first | (go_simp; done) | (go_simp; with_reducible rfl))
            try simp only [Act.put, List.getElem_toArray, List.getElem_cons_zero, List.getElem_cons_succ, List.setIfInBounds_toArray, List.set_cons_zero, List.set_cons_succ]
            refine wpAnyH_take (i := 5) (v := ?_) rfl (by kernel_rfl) (by kernel_rfl) (by kernel_rfl) (fun _ _ _ h => h) (Or.inl ⟨by rfl, ?_⟩) (by assumption) ?_
            rotate_left
            · (intro w' hSw; (try dsimp only at hSw); first | (go_simp; done) | (go_simp; with_reducible rfl))
            try simp only [Act.put, List.getElem_toArray, List.getElem_cons_zero, List.getElem_cons_succ, List.setIfInBounds_toArray, List.set_cons_zero, List.set_cons_succ]
            refine wpAnyH_take (i := 6) (v := ?_) rfl (by kernel_rfl) (by kernel_rfl) (by kernel_rfl) (fun _ _ _ h => h) (Or.inl ⟨by rfl, ?_⟩) (by assumption) ?_
            rotate_left
            · (intro w' hSw; (try dsimp only at hSw); first | (go_simp; done) | (go_simp; with_reducible rfl))
            try simp only [Act.put, List.getElem_toArray, List.getElem_cons_zero, List.getElem_cons_succ, List.setIfInBounds_toArray, List.set_cons_zero, List.set_cons_succ]
            refine wpAnyH_take (i := 7) (v := ?_) rfl (by kernel_rfl) (by kernel_rfl) (by kernel_rfl) (fun _ _ _ h => h) (Or.inl ⟨by rfl, ?_⟩) (by assumption) ?_
            rotate_left
            · (intro w' hSw; (try dsimp only at hSw); first | (go_simp; done) | (go_simp; with_reducible rfl))
            try simp only [Act.put, List.getElem_toArray, List.getElem_cons_zero, List.getElem_cons_succ, List.setIfInBounds_toArray, List.set_cons_zero, List.set_cons_succ]
            refine wpAnyH_take (i := 8) (v := ?_) rfl (by kernel_rfl) (by kernel_rfl) (by kernel_rfl) (fun _ _ _ h => h) (Or.inl ⟨by rfl, ?_⟩) (by assumption) ?_
            rotate_left
            · (intro w' hSw; (try dsimp only at hSw); first | (go_simp; done) | (go_simp; with_reducible rfl))
            try simp only [Act.put, List.getElem_toArray, List.getElem_cons_zero, List.getElem_cons_succ, List.setIfInBounds_toArray, List.set_cons_zero, List.set_cons_succ]
            refine wpAnyH_take (i := 10) (v := ?_) rfl (by kernel_rfl) (by kernel_rfl) (by kernel_rfl) (fun _ _ _ h => h) (Or.inl ⟨by rfl, ?_⟩) (by assumption) ?_
            rotate_left
            · (intro w' hSw; (try dsimp only at hSw); first | (go_simp; done) | (go_simp; with_reducible rfl))
            try simp only [Act.put, List.getElem_toArray, List.getElem_cons_zero, List.getElem_cons_succ, List.setIfInBounds_toArray, List.set_cons_zero, List.set_cons_succ]
            refine wpAnyH_take (i := 11) (v := ?_) rfl (by kernel_rfl) (by kernel_rfl) (by kernel_rfl) (fun _ _ _ h => h) (Or.inl ⟨by rfl, ?_⟩) (by assumption) ?_
            rotate_left
            · (intro w' hSw; (try dsimp only at hSw); first | (go_simp; done) | (go_simp; with_reducible rfl))
            try simp only [Act.put, List.getElem_toArray, List.getElem_cons_zero, List.getElem_cons_succ, List.setIfInBounds_toArray, List.set_cons_zero, List.set_cons_succ]
            refine wpAnyH_take (i := 12) (v := ?_) rfl (by kernel_rfl) (by kernel_rfl) (by kernel_rfl) (fun _ _ _ h => h) (Or.inl ⟨by rfl, ?_⟩) (by assumption) ?_
            rotate_left
            · (intro w' hSw; (try dsimp only at hSw); first | (go_simp; done) | (go_simp; with_reducible rfl))
            try simp only [Act.put, List.getElem_toArray, List.getElem_cons_zero, List.getElem_cons_succ, List.setIfInBounds_toArray, List.set_cons_zero, List.set_cons_succ]
            refine wpAnyH_take (i := 13) (v := ?_) rfl (by kernel_rfl) (by kernel_rfl) (by kernel_rfl) (fun _ _ _ h => h) (Or.inl ⟨by rfl, ?_⟩) (by assumption) ?_
            rotate_left
            · (intro w' hSw; (try dsimp only at hSw); first | (go_simp; done) | (go_simp; with_reducible rfl))
            try simp only [Act.put, List.getElem_toArray, List.getElem_cons_zero, List.getElem_cons_succ, List.setIfInBounds_toArray, List.set_cons_zero, List.set_cons_succ]
            refine wpAnyH_take (i := 14) (v := ?_) rfl (by kernel_rfl) (by kernel_rfl) (by kernel_rfl) (fun _ _ _ h => h) (Or.inl ⟨by rfl, ?_⟩) (by assumption) ?_
            rotate_left
            · (intro w' hSw; (try dsimp only at hSw); first | (go_simp; done) | (go_simp; with_reducible rfl))
            try simp only [Act.put, List.getElem_toArray, List.getElem_cons_zero, List.getElem_cons_succ, List.setIfInBounds_toArray, List.set_cons_zero, List.set_cons_succ]
            refine wpAnyH_ready (rs := [9]) (by kernel_rfl) (by simp) ?_
            refine AllReadyH.cons rfl (fun K hK => ?_) AllReadyH.nil
            go_simp
            go_at_call 61
            refine (HBL.out _ HV4.out.book).mono ?_
            rintro e w4 ⟨rfl, hb4⟩
            have HX5 := Lib.hid (HX4.out.past hb4)
            have HB5 := Lib.hid (Below.past HB4.out hb4 HB4.out.size)
            have HV5 := Lib.hid (HV4.out.past hb4)
            clear hb4 hHeld
            refine hK.out _ _ (⟨HX5.out.cell 0, HX5.out.cell 1, HX5.out.cell 2, HX5.out.cell 3⟩) (fun hHeld => ?_)
            try simp only [Act.put, List.getElem_toArray, List.getElem_cons_zero, List.getElem_cons_succ, List.setIfInBounds_toArray, List.set_cons_zero, List.set_cons_succ]
            refine wpAnyH_ready (rs := [15]) (by kernel_rfl) (by simp) ?_
            refine AllReadyH.cons rfl (fun K hK => ?_) AllReadyH.nil
            go_simp
            go_at_call 71
            refine (HHD.out _ HV5.out).mono ?_
            rintro e w5 ⟨rfl, hb5⟩
            have HX6 := Lib.hid (HX5.out.past hb5)
            have HB6 := Lib.hid (Below.past HB5.out hb5 HB5.out.size)
            have HV6 := Lib.hid (HV5.out.past hb5)
            clear hb5 hHeld
            refine hK.out _ _ (⟨HX6.out.cell 0, HX6.out.cell 1, HX6.out.cell 2, HX6.out.cell 3⟩) (fun hHeld => ?_)
            try simp only [Act.put, List.getElem_toArray, List.getElem_cons_zero, List.getElem_cons_succ, List.setIfInBounds_toArray, List.set_cons_zero, List.set_cons_succ]
            by_cases hgt : bz - hz' < f.z
            · have HK : Hid (plcK M A bl D room id f = 13) := Lib.hid (by rw [HK4.out, if_pos hgt])
              have hgd := decide_eq_true hgt
              clear hgt
              refine wpAnyH_take (i := 16) (v := ?_) rfl (by kernel_rfl) (by kernel_rfl) (by kernel_rfl) (fun _ _ _ h => h) (Or.inl ⟨by rfl, ?_⟩) (by assumption) ?_
              rotate_left
              · (intro w' hSw; (try dsimp only at hSw); first | (go_simp; done) | (go_simp; with_reducible rfl))
              try simp only [Act.put, List.getElem_toArray, List.getElem_cons_zero, List.getElem_cons_succ, List.setIfInBounds_toArray, List.set_cons_zero, List.set_cons_succ]
              refine wpAnyH_take (i := 17) (v := ?_) rfl (by kernel_rfl) (by kernel_rfl) (by kernel_rfl) (fun _ _ _ h => h) (Or.inl ⟨by rfl, ?_⟩) (by assumption) ?_
              rotate_left
              · (intro w' hSw; (try dsimp only at hSw); first | (go_simp; done) | (go_simp; with_reducible rfl))
              try simp only [Act.put, List.getElem_toArray, List.getElem_cons_zero, List.getElem_cons_succ, List.setIfInBounds_toArray, List.set_cons_zero, List.set_cons_succ]
              refine wpAnyH_done (by kernel_rfl) ?_ _
              clear hHeld
              go_wp2_with fail
              go_ret
              rw [qplD_no HK.out (by decide), HK.out]
              exact QPost.same HV.out HB6.out 13
            · have HK : Hid (plcK M A bl D room id f = 0) := Lib.hid (by rw [HK4.out, if_neg hgt])
              have hgd := decide_eq_false hgt
              clear hgt
              refine wpAnyH_take (i := 16) (v := ?_) rfl (by kernel_rfl) (by kernel_rfl) (by kernel_rfl) (fun _ _ _ h => h) (Or.inl ⟨by rfl, ?_⟩) (by assumption) ?_
              rotate_left
              · (intro w' hSw; (try dsimp only at hSw); first | (go_simp; done) | (go_simp; with_reducible rfl))
              try simp only [Act.put, List.getElem_toArray, List.getElem_cons_zero, List.getElem_cons_succ, List.setIfInBounds_toArray, List.set_cons_zero, List.set_cons_succ]
              refine wpAnyH_take (i := 17) (v := ?_) rfl (by kernel_rfl) (by kernel_rfl) (by kernel_rfl) (fun _ _ _ h => h) (Or.inl ⟨by rfl, ?_⟩) (by assumption) ?_
              rotate_left
              · (intro w' hSw; (try dsimp only at hSw); first | (go_simp; done) | (go_simp; with_reducible rfl))
              try simp only [Act.put, List.getElem_toArray, List.getElem_cons_zero, List.getElem_cons_succ, List.setIfInBounds_toArray, List.set_cons_zero, List.set_cons_succ]
              refine wpAnyH_done (by kernel_rfl) ?_ _
              clear hHeld
              have HRW := Lib.hid HV6.out.row
              have HBK6 := Lib.hid HV6.out.blk
              rw [hn.out] at HRW HBK6
              have p5 := HBK6.out.cell 5
              have x0 := HX6.out.cell 0
              have x1 := HX6.out.cell 1
              have x2 := HX6.out.cell 2
              have x3 := HX6.out.cell 3
              simp at p5 x0 x1 x2 x3
              have hgl := HBK6.out.lt
              have hxl := HX6.out.lt
              have hbz2 : base ≤ w5.heap.size := Nat.le_trans hbase HB6.out.size
              go_upto_region 11 with fail
              go_region_law (refine step_append_blkG rfl (.tmp 60) (.tmp 64) 47 rfl base 124 i0 _ 5 40 Try.underlying47 hi0 hz0 hz1 hz2 rfl (by decide) (.slice X n c) n (D.flatMap TTbH.RowT.cells) (by simp [Act.eval, Act.put]) (by first | exact HRW.out.alloc _ | exact own_drewN (HRW.out.alloc _) 1) w5.heap.size 1 1 #[.int .i64 id, .int .i64 f.k, .int .i64 f.m, .int .i64 f.a, .int .i64 f.z] (by simp [Act.eval, Act.put]) (by exact Blk.new w5 124 _ _ rfl) rfl (by simp [Value.oneCell']) (by omega) (by omega) (by simp; omega) ?_; intro u' w' hown' hg' hd; obtain ⟨A', c', rfl⟩ := own_form hown'; have bz' : Blk w' h 49 #[.int .i64 M, .int .i64 A, v, .int .i64 p, .int .i64 room, .slice X n c] := Blk.grown (by first | exact HBK6.out.alloc _ | exact (HBK6.out.alloc _).drewN 1) hg' (own_blk_ne (w := w5) HRW.out HBK6.out (by decide)); have z1 := bz'.cell 5; have zf := bz'.frozen 5; simp at z1)
              all_goals
                have HFIN : Hid (QPost h base M A v p room (.slice X n c) 0 L (D ++ [⟨id, f⟩]) w (.returned (.int .i64 0)) (w'.setCell ⟨h, 5, none⟩ (.slice A' (n + 1) c'))) := Lib.hid (by
                  have hll : (D ++ [(⟨id, f⟩ : HRow)]).length = n + 1 := by simp [hn.out]
                  have hvr : w'.ownsRow base 110 4 v L.length (L.flatMap Ent.cells) := own_grownN (v := .slice X n c) (by first | exact HV6.out.book.row.alloc _ | exact own_drewN (HV6.out.book.row.alloc _) 1) hg' (fun k e e' => own_neZ HV6.out.book.row HRW.out (by decide) k e e')
                  refine ⟨rfl, v, p, .slice A' (n + 1) c', ⟨⟨HV6.out.book.form, bz'.put 5 _, own_far (p := ⟨h, 5, none⟩) hvr (own_blk_ne hvr bz' (by decide)) _, HV6.out.book.ok, HV6.out.book.len⟩, ⟨A', c', by rw [hll]⟩, ?_, by rw [hll]; omega⟩, ?_, fun k e => .inl e, fun k ek => ?_, .inl rfl⟩
                  · rw [hll, List.flatMap_append]
                    simpa [TTbH.RowT.cells] using own_far (p := ⟨h, 5, none⟩) hown' (own_blk_ne hown' bz' (by decide)) _
                  · exact OnlyS.of_onlyG (g := h) (v := .slice X n c) (OnlyG.setCell (OnlyG.grown (by first | exact OnlyG.of_below (HB6.out.alloc HB6.out.size _) | exact OnlyG.of_below (HB6.out.alloc HB6.out.size _).drew) hg') ⟨h, 5, none⟩ rfl _) (.inl rfl) (fun k e => .inr (.inr e))
                  · rcases hd with e | e
                    · exact .inl (e ▸ ek)
                    · rw [e] at ek; cases ek; exact .inr (by have := HB6.out.size; simp; omega))
                clear z1 zf bz' hown' hg' hd
                go_wp2_with fail
                go_ret
                rw [show qplD M A bl D room id f = D ++ [⟨id, f⟩] from if_pos HK.out, HK.out, hn.out]
                exact HFIN.out
end
end Go.Proofs.Ytelbolhckhdioaa
