import Derived.Test.YtkdiongmegnicaaTabK
namespace Go.Proofs.Ytkdiongmegnicaa
open Go.RowKit

/-! ### The document's Near -/
theorem nearP_skip {L : List RowT} {id i : Int} {k : Nat} {f : RowT} (hT : L.take (k + 1) = L.take k ++ [f]) (h : NearP (L.take k) id i) (hf : f.id < id) : NearP (L.take (k + 1)) id i := by
  rw [hT]
  rcases h with ⟨rfl, h⟩ | ⟨j, r, rfl, h1, h2, h3⟩
  · exact .inl ⟨rfl, fun r hr => by
      rcases List.mem_append.1 hr with hr | hr
      · exact h r hr
      · rw [List.mem_singleton.1 hr]; exact hf⟩
  · exact .inr ⟨j, r, rfl, by rw [List.getElem?_append_left (List.getElem?_eq_some_iff.1 h1).1]; exact h1, h2, fun q hq hqi => by
      rcases List.mem_append.1 hq with hq | hq
      · exact h3 q hq hqi
      · rw [List.mem_singleton.1 hq] at hqi; omega⟩
theorem nearP_first {L : List RowT} {id : Int} {k : Nat} {f : RowT} (hT : L.take (k + 1) = L.take k ++ [f]) (hl : (L.take k).length = k) (h : NearP (L.take k) id (-1)) (hf : id ≤ f.id) : NearP (L.take (k + 1)) id (k : Nat) := by
  rw [hT]
  rcases h with ⟨_, h⟩ | ⟨j, r, e, _⟩
  · exact .inr ⟨k, f, rfl, by rw [List.getElem?_append_right (by omega), hl, Nat.sub_self]; rfl, hf, fun q hq hqi => by
      rcases List.mem_append.1 hq with hq | hq
      · have := h q hq; omega
      · rw [List.mem_singleton.1 hq]; exact Int.le_refl _⟩
  · omega
theorem nearP_less {L : List RowT} {id : Int} {k : Nat} {f r : RowT} (hT : L.take (k + 1) = L.take k ++ [f]) (hl : (L.take k).length = k) (h3 : ∀ q ∈ L.take k, id ≤ q.id → r.id ≤ q.id) (hf : id ≤ f.id) (hlt : f.id < r.id) : NearP (L.take (k + 1)) id (k : Nat) := by
  rw [hT]
  exact .inr ⟨k, f, rfl, by rw [List.getElem?_append_right (by omega), hl, Nat.sub_self]; rfl, hf, fun q hq hqi => by
      rcases List.mem_append.1 hq with hq | hq
      · have := h3 q hq hqi; omega
      · rw [List.mem_singleton.1 hq]; exact Int.le_refl _⟩
theorem nearP_keep {L : List RowT} {id : Int} {j k : Nat} {f r : RowT} (hT : L.take (k + 1) = L.take k ++ [f]) (h1 : (L.take k)[j]? = some r) (h2 : id ≤ r.id) (h3 : ∀ q ∈ L.take k, id ≤ q.id → r.id ≤ q.id) (hge : ¬ f.id < r.id) : NearP (L.take (k + 1)) id (j : Nat) := by
  rw [hT]
  exact .inr ⟨j, r, rfl, by rw [List.getElem?_append_left (List.getElem?_eq_some_iff.1 h1).1]; exact h1, h2, fun q hq hqi => by
      rcases List.mem_append.1 hq with hq | hq
      · exact h3 q hq hqi
      · rw [List.mem_singleton.1 hq]; omega⟩
set_option maxHeartbeats 4000000 in
set_option maxRecDepth 100000 in
theorem refNearT_any (h base : Nat) (room : Int) (u : Value) (L : List RowT) (id : Int) (w : World) (hx : QtbV w h base room u L) :
    Calls Try.prog 27 #[.pointer (some ⟨h, 0, none⟩), .int .i64 id] w fun e w' => (∃ i : Int, e = .returned (.int .i64 i) ∧ NearP L id i) ∧ Below w.heap.size w w' := by
  obtain ⟨X, c, hv⟩ := hx.form
  subst hv
  have hl := hx.len
  have HBK := Lib.hid hx.blk
  have HR := Lib.hid (Rd.of_own hx.row)
  obtain ⟨n, hn⟩ : ∃ n, Hid (L.length = n) := ⟨_, Lib.hid rfl⟩
  rw [hn.out] at HBK HR hl
  clear hx
  go_enter Try.func27, Try.ntmps27
  go_wp2_with fail
  go_loopw [5, 6] (fun b i wr => ∃ (k : Nat) (bi : Int), k ≤ n ∧ i = .int .i64 k ∧ b = .int .i64 bi ∧ Hid (NearP (L.take k) id bi) ∧ Hid (Below w.heap.size w wr)) (fun _ i _ => n - (intOf i).toNat)
  case atStart => exact ⟨0, -1, Nat.zero_le _, rfl, rfl, Lib.hid (.inl ⟨rfl, by simp⟩), Lib.hid (Below.refl _ _)⟩
  case round =>
    obtain ⟨k, bi, hk, rfl, rfl, HN, HB⟩ := hrel
    have p1 := (HBK.out.past HB.out).cell 1
    simp at p1
    by_cases hlt : k < n
    · have hlz : (k : Int) < (n : Int) := by omega
      have hlk : Hid ((L.take k).length = k) := Lib.hid (by rw [List.length_take, hn.out]; omega)
      have hg_f : L[k]? = some (L[k]'(by have := hn.out; omega)) := List.getElem?_eq_getElem _
      obtain ⟨b_f, off_f, rfl, hbb_f, hc_f⟩ := (HR.out.past HB.out).elem RowT.cells_len hg_f hlt
      have HT_f := Lib.hid (show L.take (k + 1) = L.take k ++ [(L[k]'(by have := hn.out; omega))] from List.take_succ_eq_append_getElem (by have := hn.out; omega))
      have HM_f := Lib.hid (show (L[k]'(by have := hn.out; omega)) ∈ L from List.getElem_mem _)
      generalize (L[k]'(by have := hn.out; omega)) = f at *
      have c0 := hc_f 0 _ rfl
      have c1 := hc_f 1 _ rfl
      clear hc_f hg_f
      simp only [Nat.add_zero] at c0
      by_cases he : f.id < id
      · have HN2 := Lib.hid (nearP_skip HT_f.out HN.out he)
        have q0 : ¬ id ≤ f.id := by omega
        have q1 : decide (id ≤ f.id) = false := decide_eq_false q0
        go_wp2_with fail
        go_quiet (fail)
        go_wp2_with fail
        go_roundw
        case rel => exact ⟨k + 1, bi, by omega, by go_num, rfl, HN2, Lib.hid (below_drewN HB.out nq)⟩
        case measure => simp [intOf]; omega
      · have q0 : id ≤ f.id := by omega
        have q1 : decide (id ≤ f.id) = true := decide_eq_true q0
        by_cases hb1 : bi < 0
        · obtain rfl : bi = -1 := by
            rcases HN.out with ⟨e, _⟩ | ⟨j, r, e, _⟩
            · exact e
            · omega
          have HN2 := Lib.hid (nearP_first HT_f.out hlk.out HN.out q0)
          have q2 : decide ((-1 : Int) < 0) = true := rfl
          go_wp2_with fail
          go_quiet (fail)
          go_wp2_with fail
          go_roundw
          case rel => exact ⟨k + 1, k, by omega, by go_num, rfl, HN2, Lib.hid (below_drewN HB.out nq)⟩
          case measure => simp [intOf]; omega
        · obtain ⟨j, r, e, h1, h2, h3⟩ : ∃ (j : Nat) (r : RowT), bi = (j : Nat) ∧ (L.take k)[j]? = some r ∧ id ≤ r.id ∧ ∀ q ∈ L.take k, id ≤ q.id → r.id ≤ q.id := by
            rcases HN.out with ⟨e, _⟩ | h
            · omega
            · exact h
          subst e
          have hjk : j < k := by have := (List.getElem?_eq_some_iff.1 h1).1; rw [hlk.out] at this; exact this
          have hjn : j < n := by omega
          have hjz : (j : Int) < (n : Int) := by omega
          have hLj : L[j]? = some r := by rw [List.getElem?_take, if_pos hjk] at h1; exact h1
          obtain ⟨b2, o2, e2, hb2, hc2⟩ := (HR.out.past HB.out).elem RowT.cells_len hLj hjn
          cases e2
          have d0 := hc2 0 _ rfl
          simp only [Nat.add_zero] at d0
          have q2 : decide ((j : Int) < 0) = false := decide_eq_false hb1
          by_cases hlt2 : f.id < r.id
          · have HN2 := Lib.hid (nearP_less HT_f.out hlk.out h3 q0 hlt2)
            have q3 : decide (f.id < r.id) = true := decide_eq_true hlt2
            clear h1 h2 h3 hc2 hLj
            go_wp2_with fail
            go_quiet (fail)
            go_wp2_with fail
            go_roundw
            case rel => exact ⟨k + 1, k, by omega, by go_num, rfl, HN2, Lib.hid (below_drewN HB.out nq)⟩
            case measure => simp [intOf]; omega
          · have HN2 := Lib.hid (nearP_keep HT_f.out h1 h2 h3 hlt2)
            have q3 : decide (f.id < r.id) = false := decide_eq_false hlt2
            clear h1 h2 h3 hc2 hLj
            go_wp2_with fail
            go_quiet (fail)
            go_wp2_with fail
            go_roundw
            case rel => exact ⟨k + 1, j, by omega, by go_num, rfl, HN2, Lib.hid (below_drewN HB.out nq)⟩
            case measure => simp [intOf]; omega
    · have hlz : ¬ (k : Int) < (n : Int) := by omega
      obtain rfl : n = k := by omega
      have hT : L.take n = L := List.take_of_length_le (by rw [hn.out]; exact Nat.le_refl _)
      rw [hT] at HN
      clear hT
      go_wp2_with fail
      go_ret
      exact ⟨⟨_, rfl, HN.out⟩, HB.out⟩
end Go.Proofs.Ytkdiongmegnicaa
