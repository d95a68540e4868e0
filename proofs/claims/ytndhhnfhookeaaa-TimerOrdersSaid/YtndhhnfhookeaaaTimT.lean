import Derived.Test.YtndhhnfhookeaaaTimF
import Derived.Test.YtndhhnfhookeaaaTimM
namespace Go.Proofs.Ytndhhnfhookeaaa
open Go.RowKit

theorem Whv.past {w w' : World} {g : Nat} {room : Int} {base : Nat} {v : Value} {ts : List Tim} (h : Whv w g room base v ts) (hb : Below w.heap.size w w') : Whv w' g room base v ts := by
  obtain ⟨A, c, h0, h1, h2⟩ := h
  exact ⟨A, c, h0, h1.past hb, own_past h2 hb⟩
theorem Whv.mono {w : World} {g : Nat} {room : Int} {base base' : Nat} {v : Value} {ts : List Tim} (h : Whv w g room base v ts) (hb : base' ≤ base) : Whv w g room base' v ts := by
  obtain ⟨A, c, h0, h1, h2⟩ := h
  exact ⟨A, c, h0, h1, own_mono h2 hb⟩

/-- What parting leaves, and all that lies beside the wheel. -/
def PartVPost (g : Nat) (room : Int) (w : World) (gone left : List Tim) (e : Ending) (w' : World) : Prop :=
  ∃ v, e = .returned v ∧ w'.ownsRow w.heap.size 29 4 v gone.length ((sortT gone).flatMap Tim.cells) ∧ ∃ v', Whv w' g room w.heap.size v' left ∧ Only g (.slice none 0 0) w w'

set_option maxHeartbeats 8000000 in
set_option maxRecDepth 100000 in
theorem partv_any (g : Nat) (room : Int) (base : Nat) (ts : List Tim) (gf : Nat) (cb : Array Value) (p : Tim → Bool) (w : World) (hw : Wh w g room base ts) (hl : ts.length ≤ 1000)
    (eg : ∀ args w, (callFunc gf args).run Try.prog w = .ok (.enter gf args) w) (hp : PredT gf cb p w w.heap.size) :
    Calls Try.prog 61 #[.pointer (some ⟨g, 0, none⟩), .func (.func gf) #[] cb] w (PartVPost g room w (ts.filter p) (ts.filter fun x => !p x)) := by
  obtain ⟨A, c, bl, hown0⟩ := hw
  have hgw := bl.lt
  have hr := Rd.of_own hown0
  have HP := Lib.hid hp
  obtain ⟨n, hn⟩ : ∃ n, Hid (ts.length = n) := ⟨_, Lib.hid rfl⟩
  rw [hn.out] at bl hr hl
  have l0 := bl.cell 0
  have l1 := bl.cell 1
  simp at l0 l1
  obtain ⟨j0, hj0, jz0, jz1, jz2⟩ := info_parts timInfo
  clear hp hown0
  go_enter Try.func61, Try.ntmps61
  go_wp2_with fail
  go_loopw [5, 6, 8, 16] (fun v5 v6 _ i wr => ∃ k : Nat, k ≤ n ∧ i = .int .i64 k ∧ Hid (PartRel w ts p k v5 v6 wr)) (fun _ _ _ i _ => n - (intOf i).toNat)
  case atStart => exact ⟨0, Nat.zero_le _, rfl, Lib.hid ⟨World.ownsRow_nil _ _ _ _, World.ownsRow_nil _ _ _ _, apart_nil _, Below.refl _ _⟩⟩
  case round =>
    obtain ⟨k, hk, rfl, HR⟩ := hrel
    by_cases hlt : k < n
    · as_aux_lemma =>
      have hlz : (k : Int) < (n : Int) := by omega
      obtain ⟨ho5, ho6, hap, hb⟩ := HR.out
      have hs0 := hb.size
      obtain ⟨f, hgf⟩ : ∃ f, ts[k]? = some f := ⟨_, List.getElem?_eq_getElem (by rw [hn.out]; exact hlt)⟩
      obtain ⟨b_f, off_f, rfl, hbb, hc⟩ := (hr.below hb).elem Tim.cells_len hgf hlt
      have c0 := hc 0 _ rfl
      have c1 := hc 1 _ rfl
      have c2 := hc 2 _ rfl
      have c3 := hc 3 _ rfl
      simp only [Nat.add_zero] at c0
      have HT : Hid (ts.take (k + 1) = ts.take k ++ [f]) := Lib.hid (by rw [List.take_add_one, hgf]; rfl)
      have hbA := hb.alloc hs0 (.cells #[.int .i64 f.due, .int .i64 f.kind, .int .i64 f.mem, .int .i64 f.lev] 29)
      have btA := Blk.new wr 29 #[.int .i64 f.due, .int .i64 f.kind, .int .i64 f.mem, .int .i64 f.lev] wr.heap.size rfl
      have h5A := ho5.alloc (.cells #[.int .i64 f.due, .int .i64 f.kind, .int .i64 f.mem, .int .i64 f.lev] 29)
      have h6A := ho6.alloc (.cells #[.int .i64 f.due, .int .i64 f.kind, .int .i64 f.mem, .int .i64 f.lev] 29)
      have HCL := Lib.hid (HP.out _ hbA f)
      clear hgf hc
      have hfl5 := filt_len ts p k
      have hfl6 := filt_len ts (fun x => !p x) k
      cases hpf : p f with
      | true =>
        have HF := Lib.hid (filt_yes HT.out hpf)
        rw [hpf] at HCL
        clear hpf
        go_wp2_with fail
        refine HCL.out.mono ?_
        rintro e w2 ⟨rfl, hb2⟩
        have bt2 := btA.past hb2
        have u0 := bt2.cell 0
        have u1 := bt2.cell 1
        have u2 := bt2.cell 2
        have u3 := bt2.cell 3
        simp at u0 u1 u2 u3
        have h52 := own_past h5A hb2
        have h62 := own_past h6A hb2
        have hbB := Below.past hbA hb2 hbA.size
        have hs := hbB.size
        have hwl : wr.heap.size < w2.heap.size := bt2.lt
        clear c0 c1 c2 c3 h5A h6A hbA btA bt2 hb ho5 ho6 hb2 HCL
        go_wp2_with (at_builtin; refine wpList_append_lit_at _ _ rfl (.tmp 23) (.tmp 25) 22 rfl w.heap.size 29 j0 _ 4 32 Try.underlying22 hj0 jz0 jz1 jz2 rfl (by decide) _ _ _ rfl h52 _ 1 1 rfl (by first | rfl | simp) rfl (by simp [Value.oneCell']) (by omega) (by omega) (by omega) ?_; intro v' w' hown' hg' hd; have hbw := below_own (hbB.alloc hs _) hg' h52 (by simp; omega) (Nat.le_refl _); have hoth := own_grown (h62.alloc _) hg' hap; have hapn := apart_grown hap h62 hd)
        go_roundw
        case rel => exact ⟨k + 1, by omega, by go_num, Lib.hid ⟨by rw [HF.out.1, List.flatMap_append, List.length_append]; exact hown', by rw [HF.out.2]; exact hoth, hapn, hbw⟩⟩
        case measure => simp [intOf]; omega
      | false =>
        have HF := Lib.hid (filt_no HT.out hpf)
        rw [hpf] at HCL
        clear hpf
        go_wp2_with fail
        refine HCL.out.mono ?_
        rintro e w2 ⟨rfl, hb2⟩
        have bt2 := btA.past hb2
        have u0 := bt2.cell 0
        have u1 := bt2.cell 1
        have u2 := bt2.cell 2
        have u3 := bt2.cell 3
        simp at u0 u1 u2 u3
        have h52 := own_past h5A hb2
        have h62 := own_past h6A hb2
        have hbB := Below.past hbA hb2 hbA.size
        have hs := hbB.size
        have hwl : wr.heap.size < w2.heap.size := bt2.lt
        clear c0 c1 c2 c3 h5A h6A hbA btA bt2 hb ho5 ho6 hb2 HCL
        go_wp2_with (at_builtin; refine wpList_append_lit_at _ _ rfl (.tmp 27) (.tmp 29) 22 rfl w.heap.size 29 j0 _ 4 32 Try.underlying22 hj0 jz0 jz1 jz2 rfl (by decide) _ _ _ rfl h62 _ 1 1 rfl (by first | rfl | simp) rfl (by simp [Value.oneCell']) (by omega) (by omega) (by omega) ?_; intro v' w' hown' hg' hd; have hbw := below_own (hbB.alloc hs _) hg' h62 (by simp; omega) (Nat.le_refl _); have hoth := own_grown (h52.alloc _) hg' hap.symm; have hapn := (apart_grown hap.symm h52 hd).symm)
        go_roundw
        case rel => exact ⟨k + 1, by omega, by go_num, Lib.hid ⟨by rw [HF.out.1]; exact hoth, by rw [HF.out.2, List.flatMap_append, List.length_append]; exact hown', hapn, hbw⟩⟩
        case measure => simp [intOf]; omega
    · as_aux_lemma =>
      have hlz : ¬ (k : Int) < (n : Int) := by omega
      obtain rfl : n = k := by omega
      obtain ⟨ho5, ho6, hap, hb⟩ := HR.out
      rw [List.take_of_length_le (by rw [hn.out]; exact Nat.le_refl _)] at ho5 ho6
      have hfl5 : (ts.filter p).length ≤ n := by have := List.length_filter_le p ts; rw [hn.out] at this; exact this
      obtain ⟨A5, c5, rfl⟩ := own_form ho5
      obtain ⟨A6, c6, rfl⟩ := own_form ho6
      have blx := bl.below hb hgw
      have l1' := blx.cell 1
      have lf := blx.frozen 1
      simp at l1'
      have hne5 : (Value.slice A5 (ts.filter p).length c5).ownBlock ≠ some g := fun e => by have := (ho5.lt g e).1; omega
      have hne6 : (Value.slice A6 (ts.filter fun x => !p x).length c6).ownBlock ≠ some g := fun e => by have := (ho6.lt g e).1; omega
      have bly := blx.put 1 (.slice A6 (ts.filter fun x => !p x).length c6)
      have o5 := own_far (p := ⟨g, 1, none⟩) ho5 hne5 (.slice A6 (ts.filter fun x => !p x).length c6)
      have o6 := own_far (p := ⟨g, 1, none⟩) ho6 hne6 (.slice A6 (ts.filter fun x => !p x).length c6)
      have hBx : Only g (.slice none 0 0) w (wr.setCell ⟨g, 1, none⟩ (.slice A6 (ts.filter fun x => !p x).length c6)) := (Only.of_below hb).setCell ⟨g, 1, none⟩ rfl _
      have hws : w.heap.size ≤ (wr.setCell ⟨g, 1, none⟩ (.slice A6 (ts.filter fun x => !p x).length c6)).heap.size := by simpa using hb.size
      have HW : Hid (Whv (wr.setCell ⟨g, 1, none⟩ (.slice A6 (ts.filter fun x => !p x).length c6)) g room w.heap.size (.slice A6 (ts.filter fun x => !p x).length c6) (ts.filter fun x => !p x)) := Lib.hid ⟨A6, c6, rfl, bly, o6⟩
      have HS := Lib.hid (sorted_any A5 (ts.filter p).length c5 (ts.filter p) _ (Rd.of_own o5) (by omega))
      have HBX := Lib.hid hBx
      have HWS := Lib.hid hws
      clear bly o5 o6 hBx hws hne5 hne6 ho5 ho6 hap hb HR
      go_wp2_with fail
      refine HS.out.mono ?_
      rintro e w3 ⟨v, rfl, hov, hb3⟩
      have HV := Lib.hid (own_mono hov HWS.out)
      have HW3 := Lib.hid (HW.out.past hb3)
      have HB3 := Lib.hid (HBX.out.below hb3)
      clear hov hb3
      go_wp2_with fail
      go_ret
      exact ⟨_, rfl, HV.out, _, HW3.out, HB3.out⟩
end Go.Proofs.Ytndhhnfhookeaaa
