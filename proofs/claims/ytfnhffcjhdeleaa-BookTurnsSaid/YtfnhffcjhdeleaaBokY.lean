import Derived.Test.YtfnhffcjhdeleaaBokP
import Derived.Test.YtfnhffcjhdeleaaBokI
import Derived.Test.YtfnhffcjhdeleaaAppRd
namespace Go.Proofs.Ytfnhffcjhdeleaa
open Go.RowKit

/-! ### Entries turned (plain) -/
def turnE (e : Ent) : Ent := ⟨e.k, e.m, e.a, -e.z⟩
def minZ (e : Ent) : Bool := decide (e.z = -9223372036854775808)
def turnTo (l : List Ent) (k : Nat) : List Ent := (l.take k).map turnE ++ l.drop k
theorem turnTo_zero (l : List Ent) : turnTo l 0 = l := by simp [turnTo]
theorem turnTo_all (l : List Ent) : turnTo l l.length = l.map turnE := by simp [turnTo]
theorem turnTo_get {l : List Ent} {k : Nat} {f : Ent} (h : l[k]? = some f) : (turnTo l k)[k]? = some f := by
  have hk := (List.getElem?_eq_some_iff.1 h).1
  have hl : ((l.take k).map turnE).length = k := by simp; omega
  unfold turnTo
  rw [List.getElem?_append_right (by omega), hl, Nat.sub_self, List.getElem?_drop, Nat.add_zero, h]
theorem turnTo_set {l : List Ent} {k : Nat} {f : Ent} (h : l[k]? = some f) : (turnTo l k).set k (turnE f) = turnTo l (k + 1) := by
  obtain ⟨hk, he⟩ := List.getElem?_eq_some_iff.1 h
  have hl : ((l.take k).map turnE).length = k := by simp; omega
  unfold turnTo
  rw [List.set_append, if_neg (by omega), hl, Nat.sub_self, List.drop_eq_getElem_cons hk, List.set_cons_zero, List.take_succ_eq_append_getElem hk, List.map_append, List.append_assoc, he]
  rfl
theorem set_ent : ∀ (l : List Ent) (i : Nat) (f : Ent), l[i]? = some f → ∀ z : Int, (l.flatMap Ent.cells).set (i * 4 + 2 + 1) (.int .i64 z) = (l.set i ⟨f.k, f.m, f.a, z⟩).flatMap Ent.cells
  | [], i, f, h, z => by simp at h
  | x :: l, 0, f, h, z => by
    simp at h; subst h
    simp [Ent.cells]
  | x :: l, i + 1, f, h, z => by
    have ih := set_ent l i f (by simpa using h) z
    rw [List.set_cons_succ, List.flatMap_cons, List.flatMap_cons, ← ih]
    simp only [Ent.cells, List.cons_append, List.nil_append, show (i + 1) * 4 + 2 + 1 = i * 4 + 2 + 1 + 4 from by omega, List.set_cons_succ]
theorem neg_min (z : Int) (h : inI z) : over (-z) = (if z = -9223372036854775808 then 2 else 0) ∧ (z ≠ -9223372036854775808 → amount (-z) = -z) := by
  unfold over amount inI at *
  by_cases hz : z = -9223372036854775808
  · subst hz; exact ⟨by decide, fun h => absurd rfl h⟩
  · rw [if_neg hz]
    exact ⟨if_pos (by omega), fun _ => if_pos (by omega)⟩
theorem atB_turn (l : List Ent) (s : Spt) : (atB (l.map turnE) s).sum = -(atB l s).sum := by
  induction l with
  | nil => rfl
  | cons x l ih =>
    have h1 : atB (x :: l) s = (if x.spt = s then [x.z] else []) ++ atB l s := by unfold atB; by_cases h : x.spt = s <;> simp [h]
    have h2 : atB (turnE x :: l.map turnE) s = (if x.spt = s then [-x.z] else []) ++ atB (l.map turnE) s := by
      have hs : (turnE x).spt = x.spt := rfl
      have hz : (turnE x).z = -x.z := rfl
      unfold atB; by_cases h : x.spt = s <;> simp [h, hs, hz]
    rw [List.map_cons, h1, h2, List.sum_append, List.sum_append, ih]
    by_cases h : x.spt = s <;> simp [h] <;> omega
theorem ofK_turn (l : List Ent) (j : Nat) : (ofK (l.map turnE) j).sum = -(ofK l j).sum := by
  induction l with
  | nil => rfl
  | cons x l ih =>
    have h1 : ofK (x :: l) j = (if x.a = (j : Int) then [x.z] else []) ++ ofK l j := by unfold ofK; by_cases h : x.a = (j : Int) <;> simp [h]
    have h2 : ofK (turnE x :: l.map turnE) j = (if x.a = (j : Int) then [-x.z] else []) ++ ofK (l.map turnE) j := by
      unfold ofK; by_cases h : x.a = (j : Int) <;> simp [h, turnE]
    rw [List.map_cons, h1, h2, List.sum_append, List.sum_append, ih]
    by_cases h : x.a = (j : Int) <;> simp [h] <;> omega
/-- The same posting turned lacks funds or room, if anything. -/
theorem turn_back {M A : Nat} {bl bl2 : List Int} {x : List Ent} (h : postK M A bl x = 0) : postK M A bl2 (x.map turnE) = 0 ∨ postK M A bl2 (x.map turnE) = 13 ∨ postK M A bl2 (x.map turnE) = 2 := by
  obtain ⟨_, _, _, hok, hz, _⟩ := post_ok h
  have h8 : ((x.map turnE).all fun e => okP M A e.spt) = true := List.all_eq_true.2 fun e he => by
    obtain ⟨f, hf, rfl⟩ := List.mem_map.1 he
    exact hok f hf
  have h17 : (List.range 9).any (badJ (x.map turnE)) = false := by
    rw [Bool.eq_false_iff]
    intro hh
    obtain ⟨j, hj, hb⟩ := List.any_eq_true.1 hh
    have hj9 : j < 9 := List.mem_range.1 hj
    unfold badJ at hb
    rw [ofK_turn, hz j hj9] at hb
    simp at hb
  have hc : chgK M A bl2 (x.map turnE) = 0 ∨ chgK M A bl2 (x.map turnE) = 2 := by
    unfold chgK
    rw [if_pos h8, h17, if_neg (by simp)]
    split
    · exact .inr rfl
    · exact .inl rfl
  unfold postK
  rcases hc with hc | hc
  · rw [if_pos hc]
    split
    · exact .inr (.inl rfl)
    · exact .inl rfl
  · rw [hc]; exact .inr (.inr (by simp))
/-- Behind both, all is as it was. -/
theorem Inv.turned {M A : Nat} {bl bl3 : List Int} {L x : List Ent} (h0 : Inv M A bl L) (h3 : Inv M A bl3 ((L ++ x) ++ x.map turnE)) : Inv M A bl3 L :=
  ⟨h3.len, h3.inn, fun s hs => by
    rw [h3.bal s hs, atB_app, atB_app, List.sum_append, List.sum_append, atB_turn]
    congr 1; omega, h0.ok, h0.zero, h0.pos⟩

/-! ### A copy of any entries; Turned -/
set_option maxRecDepth 100000 in
set_option maxHeartbeats 1000000 in
theorem cloneN_nil (cp : Nat) (w : World) : Calls Try.prog 80 #[.slice none 0 cp] w fun e w' => e = .returned (.slice none 0 0) ∧ w = w' := by
  have hq := fun w => Lib.run_eql_slice_nil (P := Try.prog) w 32 51 none 0 cp 0 0 Try.underlying32
  go_enter Try.func80, Try.ntmps80
  go_wp2_with fail
  go_ret
  exact ⟨rfl, rfl⟩
set_option maxRecDepth 100000 in
set_option maxHeartbeats 1000000 in
theorem cloneN_some (A : Addr) (n cp : Nat) (l : List Ent) (w : World) (hr : Rd w w.heap.size 4 (some A) n (l.flatMap Ent.cells)) (hn : n ≤ 1000) : Calls Try.prog 80 #[.slice (some A) n cp] w fun e w' => ∃ v, e = .returned v ∧ w'.ownsRow w.heap.size 51 4 v n (l.flatMap Ent.cells) ∧ Below w.heap.size w w' := by
  have hq := fun w => Lib.run_eql_slice_nil (P := Try.prog) w 32 51 (some A) n cp 0 0 Try.underlying32
  have hB0 := (Below.refl w.heap.size w).alloc (Nat.le_refl _) (.cells #[] 51)
  have hr0 := hr.past hB0
  have hown : (w.alloc (.cells #[] 51)).ownsRow w.heap.size 51 4 (.slice (some ⟨w.heap.size, 0, none⟩) 0 0) 0 [] := ⟨rfl, .inr ⟨w.heap.size, 0, #[], rfl, Nat.le_refl _, heap_alloc_new w _, Nat.le_refl _, Nat.zero_le _, rfl, rfl⟩⟩
  obtain ⟨j0, hj0, jz0, jz1, jz2⟩ := info_parts entInfo
  have hone : ∀ u ∈ l.flatMap Ent.cells, u.oneCell' = true := by
    intro u hu
    obtain ⟨f, _, h2⟩ := List.mem_flatMap.1 hu
    simp [Ent.cells] at h2
    rcases h2 with rfl | rfl | rfl | rfl <;> rfl
  go_enter Try.func80, Try.ntmps80
  go_wp2_with (at_builtin; refine wpList_append_rd _ rfl (.tmp 5) (.tmp 6) 32 rfl w.heap.size 51 j0 _ 4 32 Try.underlying32 hj0 jz0 jz1 jz2 rfl (by decide) _ _ _ rfl hown (some A) n cp _ rfl hr0 (fun e => by cases e) hone (by omega) (by omega) (by simp) hB0 (Nat.le_refl _) ?_; intro v' w' hown' hb'; rw [Nat.zero_add, List.nil_append] at hown')
  go_ret
  exact ⟨_, rfl, hown', hb'⟩
theorem cloneN_any (A : Option Addr) (n cp : Nat) (l : List Ent) (w : World) (hr : Rd w w.heap.size 4 A n (l.flatMap Ent.cells)) (hn : n ≤ 1000) (hA : A = none → n = 0) : Calls Try.prog 80 #[.slice A n cp] w fun e w' => ∃ v, e = .returned v ∧ w'.ownsRow w.heap.size 51 4 v n (l.flatMap Ent.cells) ∧ Below w.heap.size w w' := by
  cases A with
  | none =>
    obtain rfl := hA rfl
    have hl : l = [] := List.length_eq_zero_iff.1 (hr.len (fun _ => rfl) (by omega))
    subst hl
    refine (cloneN_nil cp w).mono ?_
    rintro e w' ⟨rfl, rfl⟩
    exact ⟨_, rfl, World.ownsRow_nil _ _ _ _, Below.refl _ _⟩
  | some A1 => exact cloneN_some A1 n cp l w hr hn
def TurnPost (l : List Ent) (w : World) (e : Ending) (w' : World) : Prop :=
  Below w.heap.size w w' ∧ ((l.any minZ = true ∧ e = .returned (.tuple #[.slice none 0 0, .int .i64 2])) ∨ (l.any minZ = false ∧ ∃ v, e = .returned (.tuple #[v, .int .i64 0]) ∧ w'.ownsRow w.heap.size 51 4 v l.length ((l.map turnE).flatMap Ent.cells)))
theorem rd_noneE {w : World} {B sz n : Nat} {xs : List Value} (h : Rd w B sz none n xs) : n = 0 := by
  rcases Nat.eq_zero_or_pos n with h0 | h0
  · exact h0
  · obtain ⟨_, _, he, _⟩ := h.2 h0
    cases he
set_option maxHeartbeats 4000000 in
set_option maxRecDepth 100000 in
theorem turned_any (P : Option Addr) (n c : Nat) (l : List Ent) (w : World) (hr : Rd w w.heap.size 4 P n (l.flatMap Ent.cells)) (hn : n ≤ 1000) (hok : ∀ e ∈ l, EntOk e) :
    Calls Try.prog 34 #[.slice P n c] w (TurnPost l w) := by
  have HL := Lib.hid (hr.len Ent.cells_len (by omega))
  have HC := Lib.hid (cloneN_any P n c l w hr hn (fun e => by subst e; exact rd_noneE hr))
  have HG := Lib.hid hok
  clear hr hok
  go_enter Try.func34, Try.ntmps34
  go_wp2_with fail
  refine HC.out.mono ?_
  rintro e w1 ⟨v, rfl, hov, hb1⟩
  obtain ⟨A2, c2, rfl⟩ := own_form hov
  have HO1 : Hid (w1.ownsRow w.heap.size 51 4 (.slice A2 n c2) n ((turnTo l 0).flatMap Ent.cells)) := Lib.hid (by rw [turnTo_zero]; exact hov)
  have HB1 := Lib.hid hb1
  clear hov hb1 HC
  go_wp2_with fail
  go_loopw [12] (fun i wr => ∃ k : Nat, k ≤ n ∧ i = .int .i64 (k : Nat) ∧ Hid ((l.take k).any minZ = false) ∧ Hid (wr.ownsRow w.heap.size 51 4 (.slice A2 n c2) n ((turnTo l k).flatMap Ent.cells)) ∧ Hid (Below w.heap.size w wr)) (fun i _ => n - (intOf i).toNat)
  case atStart => exact ⟨0, by omega, rfl, Lib.hid rfl, HO1, HB1⟩
  case round =>
    obtain ⟨k, hk, rfl, HN, HO, HB⟩ := hrel
    by_cases hlt : k < n
    · have hlz : (k : Int) < (n : Int) := by omega
      obtain ⟨f, hf⟩ : ∃ f, l[k]? = some f := ⟨_, List.getElem?_eq_getElem (by rw [HL.out]; exact hlt)⟩
      have hfm : f ∈ l := List.mem_of_getElem? hf
      have hfz := (HG.out f hfm).z
      have HT : Hid (l.take (k + 1) = l.take k ++ [f]) := Lib.hid (by rw [List.take_add_one, hf]; rfl)
      obtain ⟨gv, cs, rfl, hbg, hbk⟩ := own_someK HO.out (by omega)
      obtain ⟨b, off, he, _, hc⟩ := (Rd.of_own HO.out).elem Ent.cells_len (turnTo_get hf) hlt
      cases he
      have d3 := hc 3 _ rfl
      simp only [Nat.zero_add] at d3
      have z3 := hbk.frozen (k * 4 + 3)
      have HNG := Lib.hid (fun w => neg_any f.z hfz w)
      obtain ⟨h1, h2⟩ := neg_min f.z hfz
      rw [h1] at HNG
      by_cases hz : f.z = -9223372036854775808
      · rw [if_pos hz] at HNG
        have HM : Hid (l.any minZ = true) := Lib.hid (List.any_eq_true.2 ⟨f, hfm, by simp [minZ, hz]⟩)
        clear hbk hc hf h1 h2 hz hbg
        go_wp2_with fail
        refine (HNG.out _).mono ?_
        rintro e w3 ⟨rfl, rfl⟩
        go_wp2_with fail
        go_ret2
        exact ⟨HB.out, .inl ⟨HM.out, rfl⟩⟩
      · rw [if_neg hz, h2 hz] at HNG
        have HN2 : Hid ((l.take (k + 1)).any minZ = false) := Lib.hid (by rw [HT.out, List.any_append, HN.out]; simp [minZ, hz])
        have HO2 : Hid ((wr.setCell ⟨gv, k * 4 + 3, none⟩ (.int .i64 (-f.z))).ownsRow w.heap.size 51 4 (.slice (some ⟨gv, 0, none⟩) n c2) n ((turnTo l (k + 1)).flatMap Ent.cells)) := Lib.hid (by
          rw [← turnTo_set hf]
          have := set_ent (turnTo l k) k f (turnTo_get hf) (-f.z)
          show World.ownsRow _ _ _ _ _ _ (((turnTo l k).set k ⟨f.k, f.m, f.a, -f.z⟩).flatMap Ent.cells)
          rw [← this]
          exact own_setK HO.out (by omega) _)
        have HB2 := Lib.hid (HB.out.setCell (p := ⟨gv, k * 4 + 3, none⟩) hbg (.int .i64 (-f.z)))
        clear hbk hc hf h1 h2 hz hbg
        go_wp2_with fail
        refine (HNG.out _).mono ?_
        rintro e w3 ⟨rfl, rfl⟩
        go_wp2_with fail
        go_roundw
        case rel => exact ⟨k + 1, by omega, by go_num, HN2, HO2, HB2⟩
        case measure => simp [intOf]; omega
    · have hlz : ¬ (k : Int) < (n : Int) := by omega
      obtain rfl : n = k := by omega
      have HF : Hid (l.any minZ = false) := Lib.hid (by have h := HN.out; rwa [List.take_of_length_le (by rw [HL.out]; exact Nat.le_refl _)] at h)
      have HE : Hid (wr.ownsRow w.heap.size 51 4 (.slice A2 n c2) n ((l.map turnE).flatMap Ent.cells)) := Lib.hid (by have h := HO.out; rw [← HL.out, turnTo_all] at h; rw [← HL.out]; exact h)
      go_wp2_with fail
      go_ret2
      exact ⟨HB.out, .inr ⟨HF.out, _, rfl, by rw [HL.out]; exact HE.out⟩⟩
end Go.Proofs.Ytfnhffcjhdeleaa
