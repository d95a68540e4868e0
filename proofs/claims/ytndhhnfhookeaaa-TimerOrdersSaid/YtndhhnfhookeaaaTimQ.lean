import Derived.Test.YtndhhnfhookeaaaTimO
namespace Go.Proofs.Ytndhhnfhookeaaa
open Go.RowKit

theorem Beside.far {w : World} {g base : Nat} {e : TypeId} {size n m c : Nat} {A : Option Addr} {xs : List Value} (h : w.ownsRow base e size (.slice A m c) n xs) (hg : g < base) (m' : Nat) : Beside g (.slice none 0 0) A m' := by
  intro _ p hp
  subst hp
  rcases h.2 with ⟨h1, _⟩ | ⟨b, cap, cur, hv, hb, _, _⟩
  · cases h1
  · cases hv
    exact ⟨by simp; omega, by simp [Value.ownBlock]⟩
theorem filt_take_yes {l : List Tim} {p : Tim → Bool} {f : Tim} {k : Nat} (hT : l.take (k + 1) = l.take k ++ [f]) (he : p f = true) : (l.take (k + 1)).filter p = (l.take k).filter p ++ [f] := by
  rw [hT, List.filter_append]; simp [he]
theorem filt_take_no {l : List Tim} {p : Tim → Bool} {f : Tim} {k : Nat} (hT : l.take (k + 1) = l.take k ++ [f]) (he : p f = false) : (l.take (k + 1)).filter p = (l.take k).filter p := by
  rw [hT, List.filter_append]; simp [he]

/-! ### does: the arm of Drop -/
def keepB (k m : Int) (f : Tim) : Bool := !dropB k m f
set_option maxHeartbeats 8000000 in
set_option maxRecDepth 100000 in
theorem does_drop (B g : Nat) (room rm : Int) (A : Option Addr) (n c : Nat) (ts : List Tim) (t : Tim) (w : World) (hq : WQ w B g room A n c ts) (hn : n ≤ 100) (hg : B ≤ g) (hB : B ≤ w.heap.size) :
    Calls Try.prog 23 #[.pointer (some ⟨g, 0, none⟩), .slice A n c, .int .i64 rm, .agg #[.int .i64 2, .int .i64 t.due, .int .i64 t.kind, .int .i64 t.mem, .int .i64 t.lev]] w (DoesPost B g room w n) := by
  have hlen := hq.len
  obtain ⟨⟨v, hv, hbs⟩, hrd, hcap, honce⟩ := hq
  have hgw := hv.wh.lt
  have hB0 := (Below.refl w.heap.size w).alloc (Nat.le_refl _) (.cells #[.int .i64 2, .int .i64 t.due, .int .i64 t.kind, .int .i64 t.mem, .int .i64 t.lev] 43)
  have bx0 := Blk.new w 43 #[.int .i64 2, .int .i64 t.due, .int .i64 t.kind, .int .i64 t.mem, .int .i64 t.lev] w.heap.size rfl
  obtain ⟨W, hW⟩ : ∃ W, Hid (w.alloc (.cells #[.int .i64 2, .int .i64 t.due, .int .i64 t.kind, .int .i64 t.mem, .int .i64 t.lev] 43) = W) := ⟨_, Lib.hid rfl⟩
  rw [hW.out] at hB0 bx0
  have x0 := bx0.cell 0
  simp at x0
  have HL := Lib.hid (show (sortT ts).length = n by rw [sortT_len, hlen])
  have hr : Rd w w.heap.size 4 A n ((sortT ts).flatMap Tim.cells) := hrd
  have HV := Lib.hid hv
  have HO := Lib.hid honce
  have HTL := Lib.hid hlen
  have HP := Lib.hid (part_len (dropB t.kind t.mem) ts)
  have HS := Lib.hid (sortT_filter ts (keepB t.kind t.mem))
  clear hv honce hrd hbs hlen
  generalize sortT ts = l at HL hr HS
  obtain ⟨j0, hj0, jz0, jz1, jz2⟩ := info_parts timInfo
  go_enter Try.func23, Try.ntmps23
  go_upto_region 1 with fail
  rw [hW.out]
  go_wp2_with fail
  go_loopw [12, 13] (fun v i wr => ∃ k m : Nat, k ≤ n ∧ m ≤ k ∧ i = .int .i64 k ∧ Hid (m = ((l.take k).filter (keepB t.kind t.mem)).length) ∧ wr.ownsRow (w.heap.size + 1) 29 4 v m (((l.take k).filter (keepB t.kind t.mem)).flatMap Tim.cells) ∧ Blk wr w.heap.size 43 #[.int .i64 2, .int .i64 t.due, .int .i64 t.kind, .int .i64 t.mem, .int .i64 t.lev] ∧ Below w.heap.size w wr) (fun _ i _ => n - (intOf i).toNat)
  case atStart => exact ⟨0, 0, Nat.zero_le _, Nat.le_refl _, rfl, Lib.hid rfl, World.ownsRow_nil _ _ _ _, bx0, hB0⟩
  case round =>
    clear bx0 hB0 x0
    obtain ⟨k, m, hk, hmk, rfl, HM, hown, bx, hb⟩ := hrel
    have x0 := bx.cell 0
    have x1 := bx.cell 1
    have x2 := bx.cell 2
    have x3 := bx.cell 3
    have x4 := bx.cell 4
    simp at x0 x1 x2 x3 x4
    by_cases hlt : k < n
    · have hlz : (k : Int) < (n : Int) := by omega
      have hg_f : l[k]? = some (l[k]'(by have := HL.out; omega)) := List.getElem?_eq_getElem _
      obtain ⟨b_f, off_f, rfl, hbb_f, hc_f⟩ := (hr.below hb).elem Tim.cells_len hg_f hlt
      have HT_f := Lib.hid (show l.take (k + 1) = l.take k ++ [(l[k]'(by have := HL.out; omega))] from List.take_succ_eq_append_getElem (by have := HL.out; omega))
      have HM_f := Lib.hid (show (l[k]'(by have := HL.out; omega)) ∈ l from List.getElem_mem _)
      generalize (l[k]'(by have := HL.out; omega)) = f at *
      have c0 := hc_f 0 _ rfl
      have c1 := hc_f 1 _ rfl
      have c2 := hc_f 2 _ rfl
      have c3 := hc_f 3 _ rfl
      clear hc_f hg_f
      simp only [Nat.add_zero] at c0
      by_cases h1 : f.kind = t.kind
      · by_cases h2 : f.mem = t.mem
        · have q1 : (f.kind != t.kind) = false := by simp [h1]
          have q2 : (f.mem != t.mem) = false := by simp [h2]
          have HV2 := Lib.hid (filt_take_no HT_f.out (show keepB t.kind t.mem f = false by simp [keepB, dropB, h1, h2]))
          clear h1 h2
          go_wp2_with fail
          go_quiet (fail)
          have hbV := below_drewN hb nq
          have bxV := bx.drewN nq
          have hoV := own_drewN hown nq
          go_wp2_with fail
          go_roundw
          case rel => exact ⟨k + 1, m, by omega, by omega, by go_num, Lib.hid (by rw [HV2.out]; exact HM.out), by rw [HV2.out]; exact hoV, bxV, hbV⟩
          case measure => simp [intOf]; omega
        · have q1 : (f.kind != t.kind) = false := by simp [h1]
          have q2 : (f.mem != t.mem) = true := by simp [h2]
          have HV2 := Lib.hid (filt_take_yes HT_f.out (show keepB t.kind t.mem f = true by simp [keepB, dropB, h1, h2]))
          clear h1 h2
          go_wp2_with fail
          go_quiet (fail)
          have hbV := below_drewN hb nq
          have bxV := bx.drewN nq
          have hoV := own_drewN hown nq
          have d0 : (wr.drewN nq).cell? _ = _ := c0
          have d1 : (wr.drewN nq).cell? _ = _ := c1
          have d2 : (wr.drewN nq).cell? _ = _ := c2
          have d3 : (wr.drewN nq).cell? _ = _ := c3
          clear c0 c1 c2 c3 x0 x1 x2 x3 x4 bx hown q1 q2
          generalize wr.drewN nq = V at hbV bxV hoV d0 d1 d2 d3 ⊢
          have hs := hbV.size
          have hwl := bxV.lt
          go_wp2_with (at_builtin; refine wpList_append_lit _ _ rfl (.tmp 93) (.tmp 98) 22 rfl (w.heap.size + 1) 29 j0 _ 4 32 Try.underlying22 hj0 jz0 jz1 jz2 rfl (by decide) _ _ _ rfl hoV _ 1 1 rfl (by first | rfl | simp) rfl (by simp [Value.oneCell']) (by omega) (by omega) (by omega) ?_; intro v' w' hown' hg'; have hbw := below_own (hbV.alloc hs _) hg' hoV (by simp; omega) (by omega); have bxw := (bxV.alloc (.cells #[.int .i64 f.due, .int .i64 f.kind, .int .i64 f.mem, .int .i64 f.lev] 29)).grown hg' (fun e => by have := (hoV.lt _ e).1; omega))
          go_roundw
          case rel => exact ⟨k + 1, m + 1, by omega, by omega, by go_num, Lib.hid (by rw [HV2.out, List.length_append, ← HM.out]; rfl), by rw [HV2.out, List.flatMap_append]; exact hown', bxw, hbw⟩
          case measure => simp [intOf]; omega
      · have q1 : (f.kind != t.kind) = true := by simp [h1]
        have HV2 := Lib.hid (filt_take_yes HT_f.out (show keepB t.kind t.mem f = true by simp [keepB, dropB, h1]))
        clear h1
        go_wp2_with fail
        go_quiet (fail)
        have hbV := below_drewN hb nq
        have bxV := bx.drewN nq
        have hoV := own_drewN hown nq
        have d0 : (wr.drewN nq).cell? _ = _ := c0
        have d1 : (wr.drewN nq).cell? _ = _ := c1
        have d2 : (wr.drewN nq).cell? _ = _ := c2
        have d3 : (wr.drewN nq).cell? _ = _ := c3
        clear c0 c1 c2 c3 x0 x1 x2 x3 x4 bx hown q1
        generalize wr.drewN nq = V at hbV bxV hoV d0 d1 d2 d3 ⊢
        have hs := hbV.size
        have hwl := bxV.lt
        go_wp2_with (at_builtin; refine wpList_append_lit _ _ rfl (.tmp 93) (.tmp 98) 22 rfl (w.heap.size + 1) 29 j0 _ 4 32 Try.underlying22 hj0 jz0 jz1 jz2 rfl (by decide) _ _ _ rfl hoV _ 1 1 rfl (by first | rfl | simp) rfl (by simp [Value.oneCell']) (by omega) (by omega) (by omega) ?_; intro v' w' hown' hg'; have hbw := below_own (hbV.alloc hs _) hg' hoV (by simp; omega) (by omega); have bxw := (bxV.alloc (.cells #[.int .i64 f.due, .int .i64 f.kind, .int .i64 f.mem, .int .i64 f.lev] 29)).grown hg' (fun e => by have := (hoV.lt _ e).1; omega))
        go_roundw
        case rel => exact ⟨k + 1, m + 1, by omega, by omega, by go_num, Lib.hid (by rw [HV2.out, List.length_append, ← HM.out]; rfl), by rw [HV2.out, List.flatMap_append]; exact hown', bxw, hbw⟩
        case measure => simp [intOf]; omega
    · have hlz : ¬ (k : Int) < (n : Int) := by omega
      have HT : Hid (l.take k = l) := Lib.hid (List.take_of_length_le (by have := HL.out; omega))
      rw [HT.out] at hown HM
      have hsb := hb.size
      have HD := Lib.hid (dropv_any g room B ts t.kind t.mem wr (HV.out.past hb).wh (by have := HTL.out; omega))
      obtain ⟨x, hx⟩ : ∃ x, Hid ((ts.filter (dropB t.kind t.mem)).length = x) := ⟨_, Lib.hid rfl⟩
      have hxm : x + m = n := by
        have h1 := HP.out
        have h2 : (ts.filter (keepB t.kind t.mem)).length = m := by rw [← sortT_len, HS.out, HM.out]
        have h3 : (ts.filter fun f => !dropB t.kind t.mem f) = ts.filter (keepB t.kind t.mem) := rfl
        rw [h3, h2, hx.out, HTL.out] at h1; exact h1
      rw [hx.out] at HD
      obtain ⟨A2, c2, rfl⟩ := own_form hown
      have hcp := own_cap hown
      have HR2 := Lib.hid (Rd.of_own hown)
      have HB2 := Lib.hid (Beside.far hown (show g < w.heap.size + 1 by omega) m)
      have HBb := Lib.hid hb
      have q3 : ((x : Int) == (n : Int) - (m : Int)) = true := by simp; omega
      have q4 : (x : Int) = (n : Int) - (m : Int) := by omega
      clear hown hb hxm
      go_wp2_with fail
      refine HD.out.mono ?_
      rintro e w2 ⟨rfl, v', hv2, hon⟩
      have HW := Lib.hid (hv2.mono (show B ≤ wr.heap.size by omega))
      have HR3 := Lib.hid (HR2.out.only hon HB2.out)
      have HB3 := Lib.hid (HB2.out.parted HR2.out hv2)
      have HF := Lib.hid (hon.frame2 HBb.out hg hB (by simp [Value.ownBlock]))
      clear hv2 hon
      go_wp2_with fail
      refine bodyPost_ret (v := .tuple #[.slice (A2) (m) (c2), .bool true]) (by simp [results, Try.results23, go_sem]) rfl ⟨A2, m, c2, ts.filter (keepB t.kind t.mem), rfl, ⟨⟨v', HW.out, HB3.out⟩, by rw [HS.out]; exact HR3.out, hcp, once_filter HO.out _⟩, by omega, HF.out⟩
end Go.Proofs.Ytndhhnfhookeaaa
