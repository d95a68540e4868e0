import Derived.Test.YtjkabmijkbpodabTxtP
import Derived.Test.YtjkabmijkbpodabMonB
import Derived.Test.YtjkabmijkbpodabBas2
import Derived.Test.YtjkabmijkbpodabShelf
import Derived.Laws.IdiomStrings
import Derived.Lib.UnsafeStr
namespace Go.Proofs.Ytjkabmijkbpodab
open Go.RowKit

theorem u8_info : (Try.prog.info? 5).map (fun i => (i.zero, i.size, i.bytes)) = some (some (.int .u8 0), 1, 1) := by kernel_rfl

/-- The digits' cells. -/
def dgC (l : List Nat) : List Value := l.map fun d => Value.int .u8 (48 + d : Nat)
theorem dgC_len (l : List Nat) : (dgC l).length = l.length := by simp [dgC]
theorem dgC_snoc (l : List Nat) (d : Nat) : dgC (l ++ [d]) = dgC l ++ [.int .u8 (48 + d : Nat)] := by simp [dgC]
theorem dgC_get (l : List Nat) (j : Nat) (h : j < l.length) : (dgC l)[j]? = some (.int .u8 (48 + l[j] : Nat)) := by simp [dgC, h]

/-- What one round does to the digits. -/
theorem low_round {n least f m : Nat} {acc : List Nat} (h : acc ++ low f m (least - acc.length) = low 20 n least ∧ m < 10 ^ f ∧ least - acc.length ≤ f ∧ acc.length + f = 20) (hgo : 0 < m ∨ acc.length < least) :
    ∃ f', acc ++ [m % 10] ++ low f' (m / 10) (least - (acc ++ [m % 10]).length) = low 20 n least ∧ m / 10 < 10 ^ f' ∧ least - (acc ++ [m % 10]).length ≤ f' ∧ (acc ++ [m % 10]).length + f' = 20 := by
  obtain ⟨h1, h2, h3, h4⟩ := h
  obtain ⟨f', rfl⟩ : ∃ f', f = f' + 1 := by
    cases f with
    | zero => simp at h2; omega
    | succ f => exact ⟨f, rfl⟩
  refine ⟨f', ?_, ?_, ?_, ?_⟩
  · rw [low_step _ _ _ (by omega)] at h1
    rw [← h1, List.append_assoc, List.length_append, List.length_singleton, Nat.sub_sub]
    rfl
  · rw [Nat.pow_succ] at h2; omega
  · simp; omega
  · simp; omega

set_option maxRecDepth 10000 in
set_option maxHeartbeats 1000000 in
theorem digits_any (n least : Nat) (hn : n < 18446744073709551616) (hl : least ≤ 2) (hl1 : 1 ≤ least) (w : World) :
    Calls Try.prog 67 #[.int .u64 n, .int .i64 least] w fun e w' => e = .returned (.string ⟨(digT n least).toArray⟩) ∧ Below w.heap.size w w' := by
  obtain ⟨i0, hi0, hz0, hz1, hz2⟩ := info_parts u8_info
  go_enter Try.func67, Try.ntmps67
  go_wp2_with fail
  go_loopw [0, 5] (fun x v wr => ∃ (f m : Nat) (acc : List Nat), x = .int .u64 m ∧ m ≤ n ∧ Hid (acc ++ low f m (least - acc.length) = low 20 n least ∧ m < 10 ^ f ∧ least - acc.length ≤ f ∧ acc.length + f = 20) ∧ wr.ownsRow w.heap.size 5 1 v acc.length (dgC acc) ∧ Below w.heap.size w wr) (fun x v _ => 20 - (match v with | .slice _ l _ => l | _ => 0))
  case atStart => exact ⟨20, n, [], rfl, Nat.le_refl _, Lib.hid ⟨rfl, by omega, by simp; omega, rfl⟩, World.ownsRow_nil _ _ _ _, Below.refl _ _⟩
  case round =>
    obtain ⟨f, m, acc, rfl, hmn, hh, hown, hb⟩ := hrel
    obtain ⟨A, c, rfl⟩ := own_form hown
    have hal : acc.length ≤ 20 := by have := hh.out; omega
    have hs := hb.size
    by_cases hgo : 0 < m ∨ acc.length < least
    · have hm10 : m % 10 < 10 := Nat.mod_lt _ (by omega)
      have HR := Lib.hid (low_round hh.out hgo)
      have HF : Hid (acc.length < 20) := Lib.hid (by obtain ⟨f', h⟩ := HR.out; have := h.2.2.2; simp at this; omega)
      by_cases h1 : 0 < m
      · go_wp2_with (at_builtin; refine wpList_append_lit _ _ rfl (.tmp 15) (.tmp 20) 124 rfl w.heap.size 5 i0 _ 1 1 Try.underlying124 hi0 hz0 hz1 hz2 rfl (by decide) _ _ _ rfl hown _ 1 1 rfl (by first | rfl | simp) rfl (by simp [Value.oneCell']) (by omega) (by omega) (by omega) ?_; intro v' w' hown' hg')
        obtain ⟨f', hf'⟩ := HR.out
        obtain ⟨A', c', rfl⟩ := own_form hown'
        go_roundw
        case rel => exact ⟨f', m / 10, acc ++ [m % 10], by first | rfl | go_num, by omega, Lib.hid hf', by rw [dgC_snoc, List.length_append]; simpa using hown', below_own (hb.alloc hs _) hg' hown (by simp; omega) (Nat.le_refl _)⟩
        case measure => have := HF.out; simp; omega
      · have h2 : acc.length < least := by omega
        have q2 : decide (acc.length < least) = true := dec_t h2
        obtain rfl : 0 = m := by omega
        go_wp2_with (at_builtin; refine wpList_append_lit _ _ rfl (.tmp 15) (.tmp 20) 124 rfl w.heap.size 5 i0 _ 1 1 Try.underlying124 hi0 hz0 hz1 hz2 rfl (by decide) _ _ _ rfl hown _ 1 1 rfl (by first | rfl | simp) rfl (by simp [Value.oneCell']) (by omega) (by omega) (by omega) ?_; intro v' w' hown' hg')
        obtain ⟨f', hf'⟩ := HR.out
        obtain ⟨A', c', rfl⟩ := own_form hown'
        go_roundw
        case rel => exact ⟨f', 0, acc ++ [0], by first | rfl | simp, by omega, Lib.hid (by simpa using hf'), by rw [dgC_snoc, List.length_append]; simpa using hown', below_own (hb.alloc hs _) hg' hown (by simp; omega) (Nat.le_refl _)⟩
        case measure => have := HF.out; simp; omega
    · have h1 : ¬ 0 < m := by omega
      have q1 : decide (0 < m) = false := dec_f h1
      have hle : least ≤ acc.length := by omega
      have hd : acc = low 20 n least := by
        have := hh.out.1
        rw [low_done _ _ _ (by omega)] at this
        simpa using this
      have HD := Lib.hid hd
      have q2 : decide (acc.length < least) = false := dec_f (by omega)
      clear hd hgo hh
      go_wp2_with fail
      obtain ⟨L, hL⟩ : ∃ L, Hid (acc.length = L) := ⟨_, rfl⟩
      rw [hL.out] at hown hal q2 hle ⊢
      have hL1 : 1 ≤ L := by omega
      clear q2 hle
      go_loopw [27] (fun i wq => ∃ k : Nat, k ≤ L / 2 ∧ i = .int .i64 k ∧ wq.ownsRow w.heap.size 5 1 (.slice A L c) L (turnK k (dgC acc)) ∧ Below w.heap.size w wq) (fun i _ => L / 2 - (intOf i).toNat)
      case atStart => exact ⟨0, by omega, rfl, hown, hb⟩
      case round =>
        clear hown hb hs
        obtain ⟨k, hk, rfl, hown, hb⟩ := hrel
        have hs := hb.size
        by_cases hlt : k < L / 2
        · obtain ⟨g, cap, hv, hgb, hgl⟩ := hown.form (by omega)
          injection hv with hv1 hv2 hv3
          subst hv1 hv3
          have c1 := hown.cellAt k (by omega)
          have c2 := hown.cellAt (L - 1 - k) (by omega)
          have z1 := hown.frozenAt k
          have z2 := hown.frozenAt (L - 1 - k)
          have hx1 := (turnK_get k (dgC acc) (by rw [dgC_len, hL.out]; omega) k (by rw [dgC_len, hL.out]; omega))
          have hx2 := (turnK_get k (dgC acc) (by rw [dgC_len, hL.out]; omega) (L - 1 - k) (by rw [dgC_len, hL.out]; omega))
          rw [dgC_len, hL.out, if_neg (by omega), dgC_get acc _ (by rw [hL.out]; omega)] at hx1 hx2
          rw [hx1] at c1
          rw [hx2] at c2
          generalize acc[k]'(by rw [hL.out]; omega) = a1 at *
          generalize acc[L - 1 - k]'(by rw [hL.out]; omega) = a2 at *
          have HT : Hid (turnK (k + 1) (dgC acc) = ((turnK k (dgC acc)).set k (.int .u8 (48 + a2 : Nat))).set (L - 1 - k) (.int .u8 (48 + a1 : Nat))) := Lib.hid (by simp only [turnK, dgC_len, hL.out, hx1, hx2])
          clear hx1 hx2
          go_wp2_with fail
          have d1 : 0 ≤ (k : Int) := by omega
          have d2 : (k : Int) < L := by omega
          have d3 : 0 ≤ (L : Int) - 1 - k := by omega
          have d4 : (L : Int) - 1 - k < L := by omega
          have d5 : ((L : Int) - 1 - k).toNat = L - 1 - k := by omega
          have hne : ¬ k = L - 1 - k := by omega
          have hne' : ¬ L - 1 - k = k := by omega
          have e1 : IntKind.i64.wrap ((L : Int) - 1) = (L : Int) - 1 := IntWalk.i64_in _ (by omega)
          have e2 : IntKind.i64.wrap ((L : Int) - 1 - k) = (L : Int) - 1 - k := IntWalk.i64_in _ (by omega)
          have HO := Lib.hid hown
          have HB := Lib.hid hb
          clear hown hb
          go_region
          clear d1 d2 d3 d4 d5 hne hne' e1 e2
          go_wp2_with fail
          go_roundw
          case rel =>
            refine ⟨k + 1, by omega, by go_num, ?_, ?_⟩
            · rw [HT.out]; exact (((HO.out.stored k _).1.stored (L - 1 - k) _).1).drew
            · exact (((HB.out).setCell (by exact hgb) _).setCell (by exact hgb) _).drew
          case measure => simp [intOf]; omega
        · obtain rfl : k = L / 2 := by omega
          obtain ⟨g, cap, hv, hgb, hgl⟩ := hown.form (by omega)
          injection hv with hv1 hv2 hv3
          subst hv1 hv3
          have hT : turnK (L / 2) (dgC acc) = Lib.byteCells (digT n least) := by
            have := turnK_all (dgC acc)
            rw [dgC_len, hL.out] at this
            rw [this, digT, ← HD.out, dgC, Lib.byteCells, List.map_reverse, List.map_map]
            congr 1
            apply List.map_congr_left
            intro d hd
            simp only [Function.comp]
            rw [dg_toNat d (low_lt 20 n least d (by rw [← HD.out]; exact hd))]
          have hlen : (digT n least).length = L := by rw [digT, List.length_reverse, List.length_map, ← HD.out, hL.out]
          rw [hT] at hown
          have hcv : (convert 124 9 (.slice (some ⟨g, 0, none⟩) L c)).run Try.prog wr = .ok (.string ⟨(digT n least).toArray⟩) wr := by
            have := run_convert_bytes_back (P := Try.prog) wr 124 9 5 ⟨g, 0, none⟩ c (digT n least) Try.underlying124 Try.underlying5 Try.underlying9 (fun j hj => by
              have h1 := hown.cellAt j (by omega)
              have h2 : (⟨g, 0, none⟩ : Addr).add j = ⟨g, j, none⟩ := by
                unfold Addr.add; split
                · rename_i h0; rw [h0]
                · simp
              rw [h2, h1]
              simp [Lib.byteCells, List.getElem?_eq_getElem hj])
            rw [hlen] at this
            exact this
          have Hb := Lib.hid hb
          clear hT hlen hown hb hs hlt
          go_wp2_with fail
          go_ret
          exact ⟨rfl, Hb.out⟩
end Go.Proofs.Ytjkabmijkbpodab
