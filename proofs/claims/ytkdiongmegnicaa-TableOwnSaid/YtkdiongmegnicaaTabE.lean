import Derived.Test.YtkdiongmegnicaaTabD
namespace Go.Proofs.Ytkdiongmegnicaa
open Go.RowKit

/-! ### The document's table: Find, Put -/
structure QtbV (w : World) (h base : Nat) (room : Int) (u : Value) (L : List RowT) : Prop where
  form : ∃ X c, u = .slice X L.length c
  blk : Blk w h 47 #[.int .i64 room, u]
  row : w.ownsRow base 57 2 u L.length (L.flatMap RowT.cells)
  len : L.length ≤ 1000
  rm : 0 ≤ room ∧ room ≤ 9223372036854775807
theorem QtbV.past {w w' : World} {h base : Nat} {room : Int} {u : Value} {L : List RowT} (H : QtbV w h base room u L) (hb : Below w.heap.size w w') : QtbV w' h base room u L :=
  ⟨H.form, H.blk.past hb, own_pastT H.row hb, H.len, H.rm⟩
/-- Where a number stands in a list; -1: nowhere. -/
def FindP (L : List RowT) (id i : Int) : Prop := (i = -1 ∧ isT L id = false) ∨ ∃ (k : Nat) (r : RowT), i = (k : Nat) ∧ L[k]? = some r ∧ r.id = id
theorem FindP.is {L : List RowT} {id i : Int} (h : FindP L id i) : (isT L id = true ↔ 0 ≤ i) := by
  rcases h with ⟨rfl, h⟩ | ⟨k, r, rfl, h1, h2⟩
  · rw [h]; simp
  · constructor
    · intro _; omega
    · intro _; exact List.any_eq_true.2 ⟨r, List.mem_of_getElem? h1, by simpa using h2⟩
set_option maxHeartbeats 4000000 in
theorem refFindT_any (h base : Nat) (room : Int) (u : Value) (L : List RowT) (id : Int) (w : World) (hx : QtbV w h base room u L) :
    Calls Try.prog 80 #[.pointer (some ⟨h, 0, none⟩), .int .i64 id] w fun e w' => (∃ i : Int, e = .returned (.int .i64 i) ∧ FindP L id i) ∧ w = w' := by
  obtain ⟨X, c, hv⟩ := hx.form
  subst hv
  have hl := hx.len
  have p1 := hx.blk.cell 1
  simp at p1
  have HR := Lib.hid (Rd.of_own hx.row)
  obtain ⟨n, hn⟩ : ∃ n, Hid (L.length = n) := ⟨_, Lib.hid rfl⟩
  rw [hn.out] at p1 HR hl
  clear hx
  go_enter Try.func80, Try.ntmps80
  go_wp2_with fail
  go_loopw [5] (fun i wr => ∃ k : Nat, k ≤ n ∧ i = .int .i64 k ∧ Hid (isT (L.take k) id = false) ∧ w = wr) (fun i _ => n - (intOf i).toNat)
  case atStart => exact ⟨0, Nat.zero_le _, rfl, Lib.hid rfl, rfl⟩
  case round =>
    obtain ⟨k, hk, rfl, HN, rfl⟩ := hrel
    by_cases hlt : k < n
    · have hlz : (k : Int) < (n : Int) := by omega
      have hg_f : L[k]? = some (L[k]'(by have := hn.out; omega)) := List.getElem?_eq_getElem _
      obtain ⟨b_f, off_f, rfl, hbb_f, hc_f⟩ := (HR.out).elem RowT.cells_len hg_f hlt
      have HT_f := Lib.hid (show L.take (k + 1) = L.take k ++ [(L[k]'(by have := hn.out; omega))] from List.take_succ_eq_append_getElem (by have := hn.out; omega))
      have HM_f := Lib.hid (show (L[k]'(by have := hn.out; omega)) ∈ L from List.getElem_mem _)
      have HG_f := Lib.hid hg_f
      generalize (L[k]'(by have := hn.out; omega)) = f at *
      have c0 := hc_f 0 _ rfl
      have c1 := hc_f 1 _ rfl
      clear hc_f hg_f
      simp only [Nat.add_zero] at c0
      by_cases he : f.id = id
      · have HP : Hid (FindP L id (k : Nat)) := Lib.hid (.inr ⟨k, f, rfl, HG_f.out, he⟩)
        have hq : (f.id == id) = true := by simpa using he
        clear he
        go_wp2_with fail
        go_ret
        exact ⟨⟨_, rfl, HP.out⟩, rfl⟩
      · have HN2 : Hid (isT (L.take (k + 1)) id = false) := Lib.hid (by
          have := HN.out
          unfold isT at this ⊢
          rw [HT_f.out, List.any_append, this]; simp [he])
        have hq : (f.id == id) = false := by simpa using he
        go_wp2_with fail
        go_roundw
        case rel => exact ⟨k + 1, by omega, by go_num, HN2, (by first | rfl | trivial)⟩
        case measure => simp [intOf]; omega
    · have hlz : ¬ (k : Int) < (n : Int) := by omega
      obtain rfl : n = k := by omega
      have HP : Hid (FindP L id (-1)) := Lib.hid (.inl ⟨rfl, by have := HN.out; rwa [List.take_of_length_le (by rw [hn.out]; exact Nat.le_refl _)] at this⟩)
      go_wp2_with fail
      go_ret
      exact ⟨⟨_, rfl, HP.out⟩, rfl⟩
end Go.Proofs.Ytkdiongmegnicaa
