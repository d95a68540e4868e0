import Derived.Test.YtfilpmmimpkfmabDoorPhaC
namespace Go.Proofs.YtfilpmmimpkfmabDoor
open Go.RowKit

/-- append(out, literals..), and where the new row lies. -/
theorem wpList_append_lit_at {P : Program} {ops : Array Oper} {rest : List Oper} {o : Oper} {a : Act} {Q : Exit → Act → World → Prop} (W : World) (arr : Array Value) (hgd : o.guard = none) (s x : Operand) (t : TypeId)
    (ho : o.op = .call { callee := .builtin .append, args := #[s, x], argTypes := #[t, t] })
    (base : Nat) (e : TypeId) (i : TypeInfo) (z : Value) (size bytes : Nat) (ht : P.underlying t = some (.slice e)) (hi : P.info? e = some i) (hz : i.zero = some z)
    (hsize : i.size = size) (hby : i.bytes = bytes) (hzs : z.cells.size = size) (hsz : 0 < size)
    (v : Value) (n : Nat) (xs : List Value) (hs : a.eval s = v) (hown : W.ownsRow base e size v n xs)
    (g m c : Nat) (hx : a.eval x = .slice (some ⟨g, 0, none⟩) m c) (hg : g = W.heap.size) (hl : arr.size = m * size) (h1 : ∀ u ∈ arr.toList, u.oneCell' = true)
    (h63 : n + m ≤ 1000000) (hsz2 : bytes ≤ 1000000) (hbase : base ≤ W.heap.size)
    (h : ∀ v' w', w'.ownsRow base e size v' (n + m) (xs ++ arr.toList) → (W.alloc (.cells arr e)).grownBy w' v.ownBlock → (v'.ownBlock = v.ownBlock ∨ v'.ownBlock = some (W.heap.size + 1)) → wpList P ops Q rest (a.put o.dst v') w') : wpList P ops Q (o :: rest) a (W.alloc (.cells arr e)) := by
  subst hg
  refine wpList_append_own_at _ hgd s x t ho base e i z size bytes ht hi hz hsize hby hzs hsz v n xs hs (hown.alloc _) ⟨W.heap.size, 0, none⟩ m c arr.toList hx (by simpa using hl) ?_ h1 (by simp only [maxLen]; omega) ?_ (by simp; omega) (fun v' w' a b _ d => h v' w' a b (by simpa using d))
  · intro j u hu
    have hj : (⟨W.heap.size, 0, none⟩ : Addr).add j = ⟨W.heap.size, j, none⟩ := by
      unfold Addr.add; split
      · rename_i h0; rw [h0]
      · simp
    rw [hj, cell_of_row _ W.heap.size j arr e (0, 0) (heap_alloc_new W _)]
    simpa using hu
  · have : (n + m) * bytes ≤ 1000000 * 1000000 := Nat.mul_le_mul h63 hsz2
    omega

theorem own_past {w w' : World} {base : Nat} {e : TypeId} {size : Nat} {v : Value} {n : Nat} {xs : List Value} (h : w.ownsRow base e size v n xs) (hb : Below w.heap.size w w') : w'.ownsRow base e size v n xs := by
  refine ⟨h.1, ?_⟩
  rcases h.2 with h0 | ⟨g, cap, cur, rfl, hg, hh, h1⟩
  · exact .inl h0
  · refine .inr ⟨g, cap, cur, rfl, hg, ?_, h1⟩
    have hlt : g < w.heap.size := by
      rcases Nat.lt_or_ge g w.heap.size with hlt | hge
      · exact hlt
      · rw [Array.getElem?_eq_none hge] at hh; cases hh
    rw [hb.block g hlt]; exact hh

/-- Where a day stands behind m timers of a cycle, and what it has told by then. -/
def atK (s l : Bool) : Nat → Int
  | 0 => 1
  | 1 => 2
  | 2 => if s then 3 else 4
  | 3 => 4
  | _ => if l then 5 else 1
def tmK : Nat → Int
  | 0 => 1
  | 1 => 3
  | 2 => 4
  | _ => 5
def outK (s : Bool) : Nat → List Int
  | 0 => []
  | 1 => [1]
  | 2 => [1, 2]
  | 3 => if s then [1, 2, 3] else [1, 2]
  | _ => dayL s
theorem four {m : Nat} (h : m < 4) : m = 0 ∨ m = 1 ∨ m = 2 ∨ m = 3 := by omega
theorem step_pv (s l : Bool) (m : Nat) (h : m < 4) : pv s l (atK s l m) (tmK m) = atK s l (m + 1) := by
  rcases four h with rfl | rfl | rfl | rfl <;> cases s <;> cases l <;> decide
theorem step_out (s l : Bool) (m : Nat) (h : m < 4) : outK s (m + 1) = if atK s l (m + 1) != atK s l m then outK s m ++ [atK s l m] else outK s m := by
  rcases four h with rfl | rfl | rfl | rfl <;> cases s <;> cases l <;> decide
theorem wf_at (s l : Bool) (m : Nat) : (Lit.int .i64 (atK s l m)).wf = true := by
  unfold atK; split <;> cases s <;> cases l <;> decide
theorem wf_tm (m : Nat) : (Lit.int .i64 (tmK m)).wf = true := by unfold tmK; split <;> decide
theorem tm_cell (m : Nat) (h : m < 4) : (#[.int .i64 1, .int .i64 3, .int .i64 4, .int .i64 5] : Array Value)[m]? = some (.int .i64 (tmK m)) := by
  rcases four h with rfl | rfl | rfl | rfl <;> rfl
theorem outK_len (s : Bool) (m : Nat) : (outK s m).length ≤ 4 := by unfold outK; split <;> cases s <;> decide

set_option maxHeartbeats 4000000 in
theorem path_some (A : Option Addr) (n cp : Nat) (ss : List Bool) (w : World) (hw : WdOk w) (hn : n ≤ 1000) (hn0 : 0 < n) (hr : Rd w w.heap.size 1 A n (ss.flatMap boolC)) :
    Calls Tryd.prog 17 #[.slice A n cp] w fun e w' => ∃ v, e = .returned v ∧ w'.ownsRow w.heap.size 3 1 v ((pathL ss).length + 1) ((pathL ss).flatMap intC ++ [.int .i64 5]) ∧ Below w.heap.size w w' := by
  have HL := Lib.hid (hr.len boolC_len (by omega))
  obtain ⟨i0, hi0, hz0, hz1, hz2⟩ := info_parts int_info29
  have own0 : (w.alloc (.cells #[.int .i64 0] 3)).ownsRow w.heap.size 3 1 (.slice (some ⟨w.heap.size, 0, none⟩) 1 1) 1 ((pathL []).flatMap intC) := World.ownsRow_lit w #[.int .i64 0] 1 (Nat.le_refl _) (by unfold maxLen; omega) rfl
  have hB0 := (Below.refl w.heap.size w).alloc (Nat.le_refl _) (.cells #[.int .i64 0] 3)
  have q0 : ((n : Int) == 0) = false := by simp; omega
  go_enter Tryd.func17, Tryd.ntmps17
  go_wp2_with fail
  go_loopw [3, 4, 20] (fun v a i wr => ∃ k : Nat, k ≤ n ∧ i = .int .i64 k ∧ a = .int .i64 (if k < n then 1 else 5) ∧ wr.ownsRow w.heap.size 3 1 v (pathL (ss.take k)).length ((pathL (ss.take k)).flatMap intC) ∧ Below w.heap.size w wr) (fun _ _ i _ => n - (intOf i).toNat)
  case atStart => exact ⟨0, Nat.zero_le _, rfl, by rw [if_pos hn0], by simpa [pathL] using own0, hB0⟩
  case round =>
    obtain ⟨k, hk, rfl, rfl, hown, hb⟩ := hrel
    have hpl := pathL_len (ss.take k)
    have htl : (ss.take k).length ≤ k := List.length_take_le _ _
    by_cases hlt : k < n
    · have q1 : decide ((k : Int) < (n : Int)) = true := dct (by omega)
      rw [if_pos hlt]
      have hg_f : ss[k]? = some (ss[k]'(by have := HL.out; omega)) := List.getElem?_eq_getElem _
      obtain ⟨b_f, off_f, rfl, hbb_f, hc_f⟩ := (hr).elem boolC_len hg_f hlt
      have HT_f := Lib.hid (show ss.take (k + 1) = ss.take k ++ [(ss[k]'(by have := HL.out; omega))] from List.take_succ_eq_append_getElem (by have := HL.out; omega))
      have HM_f := Lib.hid (show (ss[k]'(by have := HL.out; omega)) ∈ ss from List.getElem_mem _)
      generalize (ss[k]'(by have := HL.out; omega)) = f at *
      have c0 := hc_f 0 _ rfl
      clear hc_f hg_f
      simp only [Nat.add_zero, Nat.mul_one] at c0
      have c1 := (hb.cell (p := ⟨b_f, off_f + k, none⟩) hbb_f).trans c0
      clear c0
      obtain ⟨N, HN⟩ : ∃ N, Hid ((pathL (ss.take k)).length = N) := ⟨_, Lib.hid rfl⟩
      rw [HN.out] at hown hpl
      obtain ⟨xs, HX⟩ : ∃ xs, Hid ((pathL (ss.take k)).flatMap intC = xs) := ⟨_, Lib.hid rfl⟩
      rw [HX.out] at hown
      obtain ⟨lst, HLS⟩ : ∃ b : Bool, Hid (((k : Int) == (n : Int) - 1) = b) := ⟨_, Lib.hid rfl⟩
      have qL := HLS.out
      obtain ⟨wo, hwo⟩ : ∃ wo : World, Hid (wo = wr) := ⟨_, Lib.hid rfl⟩
      obtain rfl := hwo.out
      have hbt := hb.alloc hb.size (.cells #[.int .i64 1, .int .i64 3, .int .i64 4, .int .i64 5] 3)
      have bt0 := Blk.new wo 3 #[.int .i64 1, .int .i64 3, .int .i64 4, .int .i64 5] wo.heap.size rfl
      go_wp2_with fail
      go_loopw [3, 4, 27] (fun v a i wr => ∃ m : Nat, m ≤ 4 ∧ i = .int .i64 m ∧ a = .int .i64 (atK f lst m) ∧ wr.ownsRow w.heap.size 3 1 v (N + (outK f m).length) (xs ++ (outK f m).flatMap intC) ∧ v.ownBlock ≠ some wo.heap.size ∧ Blk wr wo.heap.size 3 #[.int .i64 1, .int .i64 3, .int .i64 4, .int .i64 5] ∧ Below w.heap.size w wr) (fun _ _ i _ => 4 - (intOf i).toNat)
      case atStart => exact ⟨0, by omega, rfl, rfl, by simpa [outK] using hown.alloc _, fun e => by have := (hown.lt _ e).2; omega, bt0, hbt⟩
      case round =>
        obtain ⟨m, hm, rfl, rfl, hown, hne, bt, hb⟩ := hrel
        by_cases hm4 : m < 4
        · have q2 : decide ((m : Int) < 4) = true := dct (by omega)
          have d0 := (bt.cell m).trans (tm_cell m hm4)
          have hol := outK_len f m
          have HSO := Lib.hid (step_out f lst m hm4)
          have T := Lib.hid (fun w h => pnext_any (atK f lst m) (tmK m) f lst (wf_at f lst m) (wf_tm m) w h)
          rw [step_pv f lst m hm4] at T
          obtain ⟨E, HE⟩ : ∃ E, Hid (pe f lst (atK f lst m) (tmK m) = E) := ⟨_, Lib.hid rfl⟩
          rw [HE.out] at T
          obtain ⟨X, HXm⟩ : ∃ X, Hid (atK f lst m = X) := ⟨_, Lib.hid rfl⟩
          rw [HXm.out] at T HSO ⊢
          obtain ⟨Y, HYm⟩ : ∃ Y, Hid (atK f lst (m + 1) = Y) := ⟨_, Lib.hid rfl⟩
          rw [HYm.out] at T HSO
          obtain ⟨tm, HTM⟩ : ∃ t, Hid (tmK m = t) := ⟨_, Lib.hid rfl⟩
          rw [HTM.out] at T d0
          clear qL
          have qL := HLS.out
          go_wp2_with fail
          refine (T.out _ (hw.past hb)).mono ?_
          rintro e w3 ⟨rfl, hb3⟩
          have hb4 := Below.next hb hb3
          have bt4 := bt.past hb3
          have hown4 := own_past hown hb3
          obtain ⟨vA, vc, rfl⟩ := own_form hown
          by_cases hap : Y = X
          · have q3 : (Y != X) = false := by simp [hap]
            have HS2 : Hid (outK f (m + 1) = outK f m) := Lib.hid (by rw [HSO.out, q3]; rfl)
            have HY2 : Hid (X = atK f lst (m + 1)) := Lib.hid (by rw [HYm.out, hap])
            clear hap hb hb3 bt d0 hown hbt bt0
            go_wp2_with fail
            go_roundw
            case rel => exact ⟨m + 1, by omega, by go_num, by rw [← HY2.out], by rw [HS2.out]; exact hown4, hne, bt4, hb4⟩
            case measure => simp [intOf]; omega
          · have q3 : (Y != X) = true := by simp [hap]
            have HS2 : Hid (outK f (m + 1) = outK f m ++ [X]) := Lib.hid (by rw [HSO.out, q3]; rfl)
            clear hap hb hb3 bt d0 hown hbt bt0
            go_wp2_with (at_builtin; refine wpList_append_lit_at _ _ rfl (.tmp 46) (.tmp 48) 41 rfl w.heap.size 3 i0 _ 1 8 Tryd.underlying41 hi0 hz0 hz1 hz2 rfl (by decide) _ _ _ rfl hown4 _ 1 1 rfl (by simp) rfl (by simp [Value.oneCell']) (by omega) (by omega) hb4.size ?_; intro v5 w5 o5 g5 a5)
            have hb5 := below_own (hb4.alloc hb4.size _) g5 hown4 (Nat.le_trans hb4.size (by simp)) (Nat.le_refl _)
            have bt5 : Blk w5 wo.heap.size 3 #[.int .i64 1, .int .i64 3, .int .i64 4, .int .i64 5] := (bt4.alloc _).grown g5 hne
            have hne5 : v5.ownBlock ≠ some wo.heap.size := by
              rcases a5 with e | e
              · rw [e]; exact hne
              · rw [e]; intro h; have := bt4.lt; simp at h; omega
            go_roundw
            case rel => exact ⟨m + 1, by omega, by go_num, by rw [HYm.out], by rw [HS2.out]; simpa [intC, Nat.add_assoc] using o5, hne5, bt5, hb5⟩
            case measure => simp [intOf]; omega
        · obtain rfl : 4 = m := by omega
          clear hm4 hm hbt bt0 c1 qL
          have HAK : Hid (atK f lst 4 = if k + 1 < n then 1 else 5) := Lib.hid (by
            have := HLS.out
            cases lst
            · have : ¬ (k : Int) = n - 1 := by simpa using this
              rw [if_pos (by omega)]; rfl
            · have : (k : Int) = n - 1 := by simpa using this
              rw [if_neg (by omega)]; rfl)
          rw [HAK.out]
          go_wp2_with fail
          go_roundw
          case rel => refine ⟨k + 1, by omega, by go_num, rfl, ?_, hb⟩; rw [HT_f.out, pathL_snoc, List.flatMap_append, HX.out, List.length_append, HN.out]; exact hown
          case measure => simp [intOf]; omega
    · have q1 : decide ((k : Int) < (n : Int)) = false := dcf (by omega)
      obtain rfl : n = k := by omega
      have HA : Hid (ss.take n = ss) := Lib.hid (List.take_of_length_le (by have := HL.out; omega))
      rw [HA.out] at hown hpl htl
      rw [if_neg (by omega)]
      clear hlt hk
      go_wp2_with (at_builtin; refine wpList_append_lit _ _ rfl (.tmp 53) (.tmp 55) 41 rfl w.heap.size 3 i0 _ 1 8 Tryd.underlying41 hi0 hz0 hz1 hz2 rfl (by decide) _ _ _ rfl hown _ 1 1 rfl (by simp) rfl (by simp [Value.oneCell']) (by omega) (by omega) hb.size ?_; intro v5 w5 o5 g5)
      go_ret
      exact ⟨_, rfl, by simpa using o5, below_own (hb.alloc hb.size _) g5 hown (Nat.le_trans hb.size (by simp)) (Nat.le_refl _)⟩

set_option maxHeartbeats 1000000 in
theorem path_none (A : Option Addr) (cp : Nat) (w : World) :
    Calls Tryd.prog 17 #[.slice A 0 cp] w fun e w' => ∃ v, e = .returned v ∧ w'.ownsRow w.heap.size 3 1 v ((pathL []).length + 1) ((pathL []).flatMap intC ++ [.int .i64 5]) ∧ Below w.heap.size w w' := by
  obtain ⟨i0, hi0, hz0, hz1, hz2⟩ := info_parts int_info29
  have own0 : (w.alloc (.cells #[.int .i64 0] 3)).ownsRow w.heap.size 3 1 (.slice (some ⟨w.heap.size, 0, none⟩) 1 1) 1 [.int .i64 0] := World.ownsRow_lit w #[.int .i64 0] 1 (Nat.le_refl _) (by unfold maxLen; omega) rfl
  have hB0 := (Below.refl w.heap.size w).alloc (Nat.le_refl _) (.cells #[.int .i64 0] 3)
  go_enter Tryd.func17, Tryd.ntmps17
  go_wp2_with (at_builtin; refine wpList_append_lit _ _ rfl (.tmp 15) (.tmp 16) 41 rfl w.heap.size 3 i0 _ 1 8 Tryd.underlying41 hi0 hz0 hz1 hz2 rfl (by decide) _ _ _ rfl own0 _ 1 1 rfl (by simp) rfl (by simp [Value.oneCell']) (by omega) (by omega) (by simp) ?_; intro v5 w5 o5 g5)
  go_ret
  exact ⟨_, rfl, by simpa [pathL, intC] using o5, below_own (hB0.alloc hB0.size _) g5 own0 (by simp; omega) (Nat.le_refl _)⟩
theorem path_any (A : Option Addr) (n cp : Nat) (ss : List Bool) (w : World) (hw : WdOk w) (hn : n ≤ 1000) (hr : Rd w w.heap.size 1 A n (ss.flatMap boolC)) :
    Calls Tryd.prog 17 #[.slice A n cp] w fun e w' => ∃ v, e = .returned v ∧ w'.ownsRow w.heap.size 3 1 v ((pathL ss).length + 1) ((pathL ss).flatMap intC ++ [.int .i64 5]) ∧ Below w.heap.size w w' := by
  by_cases h0 : 0 < n
  · exact path_some A n cp ss w hw hn h0 hr
  · obtain rfl : n = 0 := by omega
    obtain rfl : ss = [] := by have := hr.len boolC_len (by omega); exact List.length_eq_zero_iff.1 this
    exact path_none A cp w

set_option maxHeartbeats 1000000 in
theorem awake29 (w : World) (hw : WdOk w) : Calls Tryd.prog 16 #[] w fun e w' => e = .returned (.bool true) ∧ Below w.heap.size w w' := by
  have hB0 := (Below.refl w.heap.size w).alloc (Nat.le_refl _) (.cells #[.bool false] 4)
  have hr0 := Rd.lit (n := 1) (sz := 1) w #[.bool false] 4 w.heap.size rfl rfl
  have TP := Lib.hid (path_any (some ⟨w.heap.size, 0, none⟩) 1 1 [false] _ (hw.past hB0) (by omega) hr0)
  have M1 : Hid (mayI 2 4 = true) := Lib.hid rfl
  have M2 : Hid (mayI 2 7 = false) := Lib.hid rfl
  go_enter Tryd.func16, Tryd.ntmps16
  go_wp2_with fail
  refine TP.out.mono ?_
  rintro e w1 ⟨v, rfl, hown, hb1⟩
  obtain ⟨A, cc, rfl⟩ := own_form hown
  have hB1 := Below.past hB0 hb1 hB0.size
  have hrd := (Rd.of_own hown).alloc (.cells #[.int .i64 0, .int .i64 1, .int .i64 2, .int .i64 4, .int .i64 5] 3)
  have hrl := Rd.lit (n := 5) (sz := 1) w1 #[.int .i64 0, .int .i64 1, .int .i64 2, .int .i64 4, .int .i64 5] 3 w1.heap.size rfl rfl
  have TS := Lib.hid (same28_eq A (some ⟨w1.heap.size, 0, none⟩) 5 cc 5 [0, 1, 2, 4, 5] _ (by omega) hrd hrl)
  have hBa := hB1.alloc hB1.size (.cells #[.int .i64 0, .int .i64 1, .int .i64 2, .int .i64 4, .int .i64 5] 3)
  clear hrd hrl hown
  go_wp2_with fail
  refine TS.out.mono ?_
  rintro e w2 ⟨rfl, hb2⟩
  have hB2 := Below.next hBa hb2
  go_wp2_with fail
  refine (may_any 2 4 _).mono ?_
  rw [M1.out]
  rintro e w3 ⟨rfl, rfl⟩
  go_wp2_with fail
  refine (may_any 2 7 _).mono ?_
  rw [M2.out]
  rintro e w3 ⟨rfl, rfl⟩
  go_wp2_with fail
  go_ret
  exact ⟨rfl, hB2⟩
end Go.Proofs.YtfilpmmimpkfmabDoor
