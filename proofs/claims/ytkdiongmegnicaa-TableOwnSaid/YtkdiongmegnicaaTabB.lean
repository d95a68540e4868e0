import Derived.Test.YtkdiongmegnicaaTabA
import Derived.Test.YtkdiongmegnicaaAppRd
import Derived.IntWalk
import Derived.StillTailTactics
namespace Go.Proofs.Ytkdiongmegnicaa
open Go.RowKit

theorem BisT.ex {S : List RowT} {id : Int} (hr : RisT S) : ∀ (d i j : Nat), j = i + d → BisT S id i j → ∃ k, BisT S id k k
  | 0, i, j, e, H => by obtain rfl : j = i := by omega
                        exact ⟨_, H⟩
  | d + 1, i, j, e, H => by
    have hi : i < S.length := by have := H.len; omega
    have ei : S[i]? = some S[i] := List.getElem?_eq_getElem hi
    by_cases hl : S[i].id < id
    · exact BisT.ex hr d (i + 1) j (by omega) (H.up hr (by omega) ei hl)
    · exact ⟨i, H.down hr (Nat.le_refl _) (by omega) ei hl⟩
theorem bisT_pos {S : List RowT} (hr : RisT S) (id : Int) : BisT S id (posT S id) (posT S id) := by
  obtain ⟨k, H⟩ := BisT.ex hr S.length 0 S.length (by omega) (BisT.start S id)
  rw [H.pos]; exact H
theorem posT_le (S : List RowT) (id : Int) : posT S id ≤ S.length := List.countP_le_length
theorem at_is {S : List RowT} {id : Int} (hr : RisT S) (h : isT S id = true) : ∃ r, S[posT S id]? = some r ∧ r.id = id := by
  rw [(bisT_pos hr id).found hr] at h
  cases e : S[posT S id]? with
  | none => rw [e] at h; cases h
  | some r => rw [e] at h; exact ⟨r, rfl, by simpa using h⟩
theorem own_pastT {w w' : World} {base : Nat} {e : TypeId} {size : Nat} {v : Value} {n : Nat} {xs : List Value} (h : w.ownsRow base e size v n xs) (hb : Below w.heap.size w w') : w'.ownsRow base e size v n xs := by
  refine ⟨h.1, ?_⟩
  rcases h.2 with h0 | ⟨g, cap, cur, rfl, hg, hh, h1⟩
  · exact .inl h0
  · refine .inr ⟨g, cap, cur, rfl, hg, ?_, h1⟩
    have hlt : g < w.heap.size := by
      rcases Nat.lt_or_ge g w.heap.size with hlt | hge
      · exact hlt
      · rw [Array.getElem?_eq_none hge] at hh; cases hh
    rw [hb.block g hlt]; exact hh
theorem TabV.past {w w' : World} {g base : Nat} {room : Int} {v : Value} {S : List RowT} (h : TabV w g base room v S) (hb : Below w.heap.size w w') : TabV w' g base room v S :=
  ⟨h.form, h.blk.past hb, own_pastT h.row hb, h.ris, h.len, h.rm⟩
theorem undrewT {w w' : World} (h : Below w.drew.heap.size w.drew w') : Below w.heap.size w w' := ⟨h.os, h.tape, h.output, h.size, h.block⟩

/-! ### New, Len, Left, Get, Near -/
set_option maxHeartbeats 1000000 in
theorem newT_any (room : Int) (hro : -9223372036854775808 ≤ room ∧ room ≤ 9223372036854775807) (w : World) : Calls Try.prog 23 #[.int .i64 room] w fun e w' => ∃ g, e = .returned (.pointer (some ⟨g, 0, none⟩)) ∧ w.heap.size ≤ g ∧ TabV w' g w.heap.size (max room 0) (.slice none 0 0) [] ∧ Below w.heap.size w w' := by
  have hm : (if 0 ≤ room then room else 0) = max room 0 := by split <;> omega
  obtain ⟨R, hR⟩ : ∃ R, Hid (max room 0 = R) := ⟨_, Lib.hid rfl⟩
  have hR0 : 0 ≤ R ∧ R ≤ 9223372036854775807 := by have := hR.out; omega
  have HV : Hid (TabV (w.alloc (.cells #[.int .i64 R, .slice none 0 0] 144)) w.heap.size w.heap.size R (.slice none 0 0) []) := Lib.hid ⟨⟨none, 0, rfl⟩, Blk.new w 144 _ _ rfl, World.ownsRow_nil _ _ _ _, (fun i j a b _ e => by simp at e), by simp, hR0⟩
  have HB := Lib.hid ((Below.refl w.heap.size w).alloc (Nat.le_refl _) (.cells #[.int .i64 R, .slice none 0 0] 144))
  rw [hR.out] at hm ⊢
  by_cases h0 : 0 ≤ room
  · obtain rfl : room = R := by rw [if_pos h0] at hm; exact hm
    clear hm hR
    go_enter Try.func23, Try.ntmps23
    go_wp2_with fail
    go_ret
    exact ⟨_, rfl, Nat.le_refl _, HV.out, HB.out⟩
  · obtain rfl : 0 = R := by rw [if_neg h0] at hm; exact hm
    clear hm hR
    go_enter Try.func23, Try.ntmps23
    go_wp2_with fail
    go_ret
    exact ⟨_, rfl, Nat.le_refl _, HV.out, HB.out⟩
set_option maxHeartbeats 1000000 in
theorem lenT_any (g base : Nat) (room : Int) (v : Value) (S : List RowT) (w : World) (hx : TabV w g base room v S) : Calls Try.prog 34 #[.pointer (some ⟨g, 0, none⟩)] w fun e w' => e = .returned (.int .i64 (S.length : Nat)) ∧ w = w' := by
  obtain ⟨X, c, hv⟩ := hx.form
  subst hv
  have p1 := hx.blk.cell 1
  simp at p1
  generalize S.length = n at p1 ⊢
  clear hx
  go_enter Try.func34, Try.ntmps34
  go_wp2_with fail
  go_ret
  exact ⟨rfl, rfl⟩
set_option maxHeartbeats 1000000 in
theorem leftT_any (g base : Nat) (room : Int) (v : Value) (S : List RowT) (w : World) (hx : TabV w g base room v S) : Calls Try.prog 35 #[.pointer (some ⟨g, 0, none⟩)] w fun e w' => e = .returned (.int .i64 (room - (S.length : Nat))) ∧ Below w.heap.size w w' := by
  obtain ⟨X, c, hv⟩ := hx.form
  subst hv
  have p0 := hx.blk.cell 0
  have p1 := hx.blk.cell 1
  simp at p0 p1
  have hr := hx.rm
  have hl := hx.len
  generalize S.length = n at p1 hl ⊢
  have hw : IntKind.i64.wrap (room - (n : Int)) = room - (n : Int) := IntWalk.i64_in _ (by omega)
  have hd := Below.drew (Below.refl w.heap.size w)
  clear hx
  go_enter Try.func35, Try.ntmps35
  go_wp2_with fail
  go_region
  all_goals
    go_wp2_with fail
    go_ret
    exact ⟨rfl, hd⟩
theorem lenT_nil (w : World) : Calls Try.prog 34 #[.pointer none] w fun e w' => e = .returned (.int .i64 0) ∧ w = w' := by
  go_enter Try.func34, Try.ntmps34
  go_wp2_with fail
  go_ret
  exact ⟨rfl, rfl⟩
theorem leftT_nil (w : World) : Calls Try.prog 35 #[.pointer none] w fun e w' => e = .returned (.int .i64 0) ∧ w = w' := by
  go_enter Try.func35, Try.ntmps35
  go_wp2_with fail
  go_ret
  exact ⟨rfl, rfl⟩
set_option maxHeartbeats 2000000 in
theorem getT_yes (g base : Nat) (room : Int) (v : Value) (S : List RowT) (id : Int) (w : World) (hx : TabV w g base room v S) (hi : isT S id = true) (r : RowT) (hr : S[posT S id]? = some r) :
    Calls Try.prog 30 #[.pointer (some ⟨g, 0, none⟩), .int .i64 id] w fun e w' => e = .returned (.tuple #[.string r.v, .int .i64 0]) ∧ Below w.heap.size w w' := by
  have HF := Lib.hid (findT_any g base room v S id w hx)
  rw [hi] at HF
  have HX := Lib.hid hx
  have HL := (List.getElem?_eq_some_iff.1 hr).1
  obtain ⟨I, hI⟩ : ∃ I, Hid (posT S id = I) := ⟨_, Lib.hid rfl⟩
  have HR := Lib.hid hr
  rw [hI.out] at HF HR HL
  clear hx hi hr
  go_enter Try.func30, Try.ntmps30
  go_wp2_with fail
  refine HF.out.mono ?_
  rintro e w1 ⟨rfl, hb⟩
  have hx1 := HX.out.past hb
  obtain ⟨X, c, hv⟩ := hx1.form
  subst hv
  have p1 := hx1.blk.cell 1
  simp at p1
  obtain ⟨b, off, he, _, hc⟩ := (Rd.of_own hx1.row).elem RowT.cells_len HR.out HL
  cases he
  have c1 := hc 1 _ rfl
  have hz : (I : Int) < (S.length : Int) := by omega
  have HB := Lib.hid hb
  clear hx1 hc hb HF
  go_wp2_with fail
  go_ret2
  exact ⟨rfl, HB.out⟩
set_option maxHeartbeats 2000000 in
theorem getT_no (g base : Nat) (room : Int) (v : Value) (S : List RowT) (id : Int) (w : World) (hx : TabV w g base room v S) (hi : isT S id = false) :
    Calls Try.prog 30 #[.pointer (some ⟨g, 0, none⟩), .int .i64 id] w fun e w' => e = .returned (.tuple #[.string ⟨#[]⟩, .int .i64 8]) ∧ Below w.heap.size w w' := by
  have HF := Lib.hid (findT_any g base room v S id w hx)
  rw [hi] at HF
  clear hx hi
  go_enter Try.func30, Try.ntmps30
  go_wp2_with fail
  refine HF.out.mono ?_
  rintro e w1 ⟨rfl, hb⟩
  go_wp2_with fail
  go_ret2
  exact ⟨rfl, hb⟩
theorem getT_nil (id : Int) (w : World) : Calls Try.prog 30 #[.pointer none, .int .i64 id] w fun e w' => e = .returned (.tuple #[.string ⟨#[]⟩, .int .i64 8]) ∧ w = w' := by
  go_enter Try.func30, Try.ntmps30
  go_wp2_with fail
  refine (findT_nil _ _).mono ?_
  rintro e w1 ⟨rfl, rfl⟩
  go_wp2_with fail
  go_ret2
  exact ⟨rfl, rfl⟩
end Go.Proofs.Ytkdiongmegnicaa
