import Derived.Test.YtndhhnfhookeaaaTimE
import Derived.Maps.AppendAt
namespace Go.Proofs.Ytndhhnfhookeaaa
open Go.RowKit

/-! ### Two rows of one type beside each other -/
def ApartV (v u : Value) : Prop := ∀ k, v.ownBlock = some k → u.ownBlock ≠ some k
theorem ApartV.symm {v u : Value} (h : ApartV v u) : ApartV u v := fun k h1 h2 => h k h2 h1
theorem apart_nil (u : Value) : ApartV (.slice none 0 0) u := fun k h => by cases h
theorem own_grown {w w' : World} {base : Nat} {e : TypeId} {size n : Nat} {v u : Value} {xs : List Value} (h : w.ownsRow base e size u n xs) (hg : w.grownBy w' v.ownBlock) (ha : ApartV v u) : w'.ownsRow base e size u n xs := by
  refine ⟨h.1, ?_⟩
  rcases h.2 with h0 | ⟨g, cap, cur, rfl, hb, hh, h1⟩
  · exact .inl h0
  · refine .inr ⟨g, cap, cur, rfl, hb, ?_, h1⟩
    have hlt : g < w.heap.size := by
      rcases Nat.lt_or_ge g w.heap.size with hlt | hge
      · exact hlt
      · rw [Array.getElem?_eq_none hge] at hh; cases hh
    rw [hg.block g hlt (fun e' => ha g e'.symm rfl)]; exact hh

/-- append(out, literals..), with where the new row lies. -/
theorem wpList_append_lit_at {P : Program} {ops : Array Oper} {rest : List Oper} {o : Oper} {a : Act} {Q : Exit → Act → World → Prop} (W : World) (arr : Array Value) (hgd : o.guard = none) (s x : Operand) (t : TypeId)
    (ho : o.op = .call { callee := .builtin .append, args := #[s, x], argTypes := #[t, t] })
    (base : Nat) (e : TypeId) (i : TypeInfo) (z : Value) (size bytes : Nat) (ht : P.underlying t = some (.slice e)) (hi : P.info? e = some i) (hz : i.zero = some z)
    (hsize : i.size = size) (hby : i.bytes = bytes) (hzs : z.cells.size = size) (hsz : 0 < size)
    (v : Value) (n : Nat) (xs : List Value) (hs : a.eval s = v) (hown : W.ownsRow base e size v n xs)
    (g m c : Nat) (hx : a.eval x = .slice (some ⟨g, 0, none⟩) m c) (hg : g = W.heap.size) (hl : arr.size = m * size) (h1 : ∀ u ∈ arr.toList, u.oneCell' = true)
    (h63 : n + m ≤ 1000000) (hsz2 : bytes ≤ 1000000) (hbase : base ≤ W.heap.size)
    (h : ∀ v' w', w'.ownsRow base e size v' (n + m) (xs ++ arr.toList) → (W.alloc (.cells arr e)).grownBy w' v.ownBlock → (v'.ownBlock = v.ownBlock ∨ v'.ownBlock = some (W.heap.size + 1)) → wpList P ops Q rest (a.put o.dst v') w') : wpList P ops Q (o :: rest) a (W.alloc (.cells arr e)) := by
  subst hg
  refine wpList_append_own_at _ hgd s x t ho base e i z size bytes ht hi hz hsize hby hzs hsz v n xs hs (hown.alloc _) ⟨W.heap.size, 0, none⟩ m c arr.toList hx (by simpa using hl) ?_ h1 (by simp only [maxLen]; omega) ?_ (by simp; omega) (fun v' w' a b _ d => h v' w' a b (by simpa using d))
  · intro j u hu
    have hj : (⟨W.heap.size, 0, none⟩ : Addr).add j = ⟨W.heap.size, j, none⟩ := by
      unfold Addr.add; split
      · rename_i h0; rw [h0]
      · simp
    rw [hj, cell_of_row _ W.heap.size j arr e (0, 0) (heap_alloc_new W _)]
    simpa using hu
  · have : (n + m) * bytes ≤ 1000000 * 1000000 := Nat.mul_le_mul h63 hsz2
    omega

/-- The row that grew is apart from another that stayed. -/
theorem apart_grown {W : World} {base n : Nat} {e : TypeId} {size : Nat} {v v' u : Value} {xs : List Value} (ha : ApartV v u) (hu : W.ownsRow base e size u n xs) (hd : v'.ownBlock = v.ownBlock ∨ v'.ownBlock = some (W.heap.size + 1)) : ApartV v' u := fun k h1 h2 => by
  rcases hd with hd | hd
  · exact ha k (hd ▸ h1) h2
  · have := (hu.lt k h2).2
    rw [hd] at h1
    have := Option.some.inj h1
    omega

/-- What is asked of a test of timers: it answers p, whatever is laid beside. -/
def PredT (gf : Nat) (cb : Array Value) (p : Tim → Bool) (w : World) (B0 : Nat) : Prop :=
  ∀ W, Below B0 w W → ∀ f : Tim, Calls Try.prog gf (#[.agg #[.int .i64 f.due, .int .i64 f.kind, .int .i64 f.mem, .int .i64 f.lev]] ++ cb) W fun e w' => e = .returned (.bool (p f)) ∧ Below W.heap.size W w'

/-- What holds at the head of each round of the parting. -/
def PartRel (w : World) (ts : List Tim) (p : Tim → Bool) (k : Nat) (v5 v6 : Value) (wr : World) : Prop :=
  wr.ownsRow w.heap.size 29 4 v5 ((ts.take k).filter p).length (((ts.take k).filter p).flatMap Tim.cells) ∧
  wr.ownsRow w.heap.size 29 4 v6 ((ts.take k).filter fun x => !p x).length (((ts.take k).filter fun x => !p x).flatMap Tim.cells) ∧ ApartV v5 v6 ∧ Below w.heap.size w wr

theorem filt_yes {ts : List Tim} {p : Tim → Bool} {k : Nat} {f : Tim} (hT : ts.take (k + 1) = ts.take k ++ [f]) (hf : p f = true) : (ts.take (k + 1)).filter p = (ts.take k).filter p ++ [f] ∧ ((ts.take (k + 1)).filter fun x => !p x) = (ts.take k).filter fun x => !p x := by
  rw [hT, List.filter_append, List.filter_append]; simp [hf]
theorem filt_no {ts : List Tim} {p : Tim → Bool} {k : Nat} {f : Tim} (hT : ts.take (k + 1) = ts.take k ++ [f]) (hf : p f = false) : (ts.take (k + 1)).filter p = (ts.take k).filter p ∧ ((ts.take (k + 1)).filter fun x => !p x) = ((ts.take k).filter fun x => !p x) ++ [f] := by
  rw [hT, List.filter_append, List.filter_append]; simp [hf]
theorem filt_len (ts : List Tim) (p : Tim → Bool) (k : Nat) : ((ts.take k).filter p).length ≤ k := by
  have h1 := List.length_filter_le p (ts.take k)
  rw [List.length_take] at h1
  omega

/-- What parting leaves. -/
def PartPost (B : Nat) (a : World) (g : Nat) (room : Int) (base : Nat) (gone left : List Tim) (e : Ending) (w' : World) : Prop :=
  ∃ v, e = .returned v ∧ w'.ownsRow base 29 4 v gone.length ((sortT gone).flatMap Tim.cells) ∧ Wh w' g room base left ∧ Below B a w'

set_option maxHeartbeats 8000000 in
set_option maxRecDepth 100000 in
theorem part_any (g : Nat) (room : Int) (base : Nat) (ts : List Tim) (gf : Nat) (cb : Array Value) (p : Tim → Bool) (w : World) (hw : Wh w g room base ts) (hl : ts.length ≤ 1000)
    (eg : ∀ args w, (callFunc gf args).run Try.prog w = .ok (.enter gf args) w) (hp : PredT gf cb p w w.heap.size) (B : Nat) (a : World) (hB : Below B a w) (hBw : B ≤ w.heap.size) (hBg : B ≤ g) :
    Calls Try.prog 61 #[.pointer (some ⟨g, 0, none⟩), .func (.func gf) #[] cb] w (PartPost B a g room w.heap.size (ts.filter p) (ts.filter fun x => !p x)) := by
  obtain ⟨A, c, bl, hown0⟩ := hw
  have hgw := bl.lt
  have hr := Rd.of_own hown0
  have HP := Lib.hid hp
  obtain ⟨n, hn⟩ : ∃ n, Hid (ts.length = n) := ⟨_, Lib.hid rfl⟩
  rw [hn.out] at bl hr hl
  have l0 := bl.cell 0
  have l1 := bl.cell 1
  simp at l0 l1
  obtain ⟨j0, hj0, jz0, jz1, jz2⟩ := info_parts timInfo
  clear hp hown0
  go_enter Try.func61, Try.ntmps61
  go_wp2_with fail
  go_loopw [5, 6, 8, 16] (fun v5 v6 _ i wr => ∃ k : Nat, k ≤ n ∧ i = .int .i64 k ∧ Hid (PartRel w ts p k v5 v6 wr)) (fun _ _ _ i _ => n - (intOf i).toNat)
  case atStart => exact ⟨0, Nat.zero_le _, rfl, Lib.hid ⟨World.ownsRow_nil _ _ _ _, World.ownsRow_nil _ _ _ _, apart_nil _, Below.refl _ _⟩⟩
  case round =>
    obtain ⟨k, hk, rfl, HR⟩ := hrel
    by_cases hlt : k < n
    · as_aux_lemma =>
      have hlz : (k : Int) < (n : Int) := by omega
      obtain ⟨ho5, ho6, hap, hb⟩ := HR.out
      have hs0 := hb.size
      obtain ⟨f, hgf⟩ : ∃ f, ts[k]? = some f := ⟨_, List.getElem?_eq_getElem (by rw [hn.out]; exact hlt)⟩
      obtain ⟨b_f, off_f, rfl, hbb, hc⟩ := (hr.below hb).elem Tim.cells_len hgf hlt
      have c0 := hc 0 _ rfl
      have c1 := hc 1 _ rfl
      have c2 := hc 2 _ rfl
      have c3 := hc 3 _ rfl
      simp only [Nat.add_zero] at c0
      have HT : Hid (ts.take (k + 1) = ts.take k ++ [f]) := Lib.hid (by rw [List.take_add_one, hgf]; rfl)
      have hbA := hb.alloc hs0 (.cells #[.int .i64 f.due, .int .i64 f.kind, .int .i64 f.mem, .int .i64 f.lev] 29)
      have btA := Blk.new wr 29 #[.int .i64 f.due, .int .i64 f.kind, .int .i64 f.mem, .int .i64 f.lev] wr.heap.size rfl
      have h5A := ho5.alloc (.cells #[.int .i64 f.due, .int .i64 f.kind, .int .i64 f.mem, .int .i64 f.lev] 29)
      have h6A := ho6.alloc (.cells #[.int .i64 f.due, .int .i64 f.kind, .int .i64 f.mem, .int .i64 f.lev] 29)
      have HCL := Lib.hid (HP.out _ hbA f)
      clear hgf hc
      have hfl5 := filt_len ts p k
      have hfl6 := filt_len ts (fun x => !p x) k
      cases hpf : p f with
      | true =>
        have HF := Lib.hid (filt_yes HT.out hpf)
        rw [hpf] at HCL
        clear hpf
        go_wp2_with fail
        refine HCL.out.mono ?_
        rintro e w2 ⟨rfl, hb2⟩
        have bt2 := btA.past hb2
        have u0 := bt2.cell 0
        have u1 := bt2.cell 1
        have u2 := bt2.cell 2
        have u3 := bt2.cell 3
        simp at u0 u1 u2 u3
        have h52 := own_past h5A hb2
        have h62 := own_past h6A hb2
        have hbB := Below.past hbA hb2 hbA.size
        have hs := hbB.size
        have hwl : wr.heap.size < w2.heap.size := bt2.lt
        clear c0 c1 c2 c3 h5A h6A hbA btA bt2 hb ho5 ho6 hb2 HCL
        go_wp2_with (at_builtin; refine wpList_append_lit_at _ _ rfl (.tmp 23) (.tmp 25) 22 rfl w.heap.size 29 j0 _ 4 32 Try.underlying22 hj0 jz0 jz1 jz2 rfl (by decide) _ _ _ rfl h52 _ 1 1 rfl (by first | rfl | simp) rfl (by simp [Value.oneCell']) (by omega) (by omega) (by omega) ?_; intro v' w' hown' hg' hd; have hbw := below_own (hbB.alloc hs _) hg' h52 (by simp; omega) (Nat.le_refl _); have hoth := own_grown (h62.alloc _) hg' hap; have hapn := apart_grown hap h62 hd)
        go_roundw
        case rel => exact ⟨k + 1, by omega, by go_num, Lib.hid ⟨by rw [HF.out.1, List.flatMap_append, List.length_append]; exact hown', by rw [HF.out.2]; exact hoth, hapn, hbw⟩⟩
        case measure => simp [intOf]; omega
      | false =>
        have HF := Lib.hid (filt_no HT.out hpf)
        rw [hpf] at HCL
        clear hpf
        go_wp2_with fail
        refine HCL.out.mono ?_
        rintro e w2 ⟨rfl, hb2⟩
        have bt2 := btA.past hb2
        have u0 := bt2.cell 0
        have u1 := bt2.cell 1
        have u2 := bt2.cell 2
        have u3 := bt2.cell 3
        simp at u0 u1 u2 u3
        have h52 := own_past h5A hb2
        have h62 := own_past h6A hb2
        have hbB := Below.past hbA hb2 hbA.size
        have hs := hbB.size
        have hwl : wr.heap.size < w2.heap.size := bt2.lt
        clear c0 c1 c2 c3 h5A h6A hbA btA bt2 hb ho5 ho6 hb2 HCL
        go_wp2_with (at_builtin; refine wpList_append_lit_at _ _ rfl (.tmp 27) (.tmp 29) 22 rfl w.heap.size 29 j0 _ 4 32 Try.underlying22 hj0 jz0 jz1 jz2 rfl (by decide) _ _ _ rfl h62 _ 1 1 rfl (by first | rfl | simp) rfl (by simp [Value.oneCell']) (by omega) (by omega) (by omega) ?_; intro v' w' hown' hg' hd; have hbw := below_own (hbB.alloc hs _) hg' h62 (by simp; omega) (Nat.le_refl _); have hoth := own_grown (h52.alloc _) hg' hap.symm; have hapn := (apart_grown hap.symm h52 hd).symm)
        go_roundw
        case rel => exact ⟨k + 1, by omega, by go_num, Lib.hid ⟨by rw [HF.out.1]; exact hoth, by rw [HF.out.2, List.flatMap_append, List.length_append]; exact hown', hapn, hbw⟩⟩
        case measure => simp [intOf]; omega
    · as_aux_lemma =>
      have hlz : ¬ (k : Int) < (n : Int) := by omega
      obtain rfl : n = k := by omega
      obtain ⟨ho5, ho6, hap, hb⟩ := HR.out
      rw [List.take_of_length_le (by rw [hn.out]; exact Nat.le_refl _)] at ho5 ho6
      have hfl5 : (ts.filter p).length ≤ n := by have := List.length_filter_le p ts; rw [hn.out] at this; exact this
      obtain ⟨A5, c5, rfl⟩ := own_form ho5
      obtain ⟨A6, c6, rfl⟩ := own_form ho6
      have blx := bl.below hb hgw
      have l1' := blx.cell 1
      have lf := blx.frozen 1
      simp at l1'
      have hne5 : (Value.slice A5 (ts.filter p).length c5).ownBlock ≠ some g := fun e => by have := (ho5.lt g e).1; omega
      have hne6 : (Value.slice A6 (ts.filter fun x => !p x).length c6).ownBlock ≠ some g := fun e => by have := (ho6.lt g e).1; omega
      have bly := blx.put 1 (.slice A6 (ts.filter fun x => !p x).length c6)
      have o5 := own_far (p := ⟨g, 1, none⟩) ho5 hne5 (.slice A6 (ts.filter fun x => !p x).length c6)
      have o6 := own_far (p := ⟨g, 1, none⟩) ho6 hne6 (.slice A6 (ts.filter fun x => !p x).length c6)
      have hBx : Below B a (wr.setCell ⟨g, 1, none⟩ (.slice A6 (ts.filter fun x => !p x).length c6)) := (Below.trans hB (hb.mono hBw)).setCell (p := ⟨g, 1, none⟩) hBg _
      have hws : w.heap.size ≤ (wr.setCell ⟨g, 1, none⟩ (.slice A6 (ts.filter fun x => !p x).length c6)).heap.size := by simpa using hb.size
      have HW : Hid (Wh (wr.setCell ⟨g, 1, none⟩ (.slice A6 (ts.filter fun x => !p x).length c6)) g room w.heap.size (ts.filter fun x => !p x)) := Lib.hid ⟨A6, c6, bly, o6⟩
      have HS := Lib.hid (sorted_any A5 (ts.filter p).length c5 (ts.filter p) _ (Rd.of_own o5) (by omega))
      have HBX := Lib.hid hBx
      have HWS := Lib.hid hws
      clear bly o5 o6 hBx hws hne5 hne6 ho5 ho6 hap hb HR
      go_wp2_with fail
      refine HS.out.mono ?_
      rintro e w3 ⟨v, rfl, hov, hb3⟩
      have HV := Lib.hid (own_mono hov HWS.out)
      obtain ⟨A7, c7, hb7, ho7⟩ := HW.out
      have HW3 : Hid (Wh w3 g room w.heap.size (ts.filter fun x => !p x)) := Lib.hid ⟨A7, c7, hb7.past hb3, own_past ho7 hb3⟩
      have HB3 := Lib.hid (Below.past HBX.out hb3 (Nat.le_trans hBw HWS.out))
      clear hov hb3 hb7 ho7
      go_wp2_with fail
      go_ret
      exact ⟨_, rfl, HV.out, HW3.out, HB3.out⟩
end Go.Proofs.Ytndhhnfhookeaaa
