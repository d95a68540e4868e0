import Derived.Test.YtkdiongmegnicaaTabF
namespace Go.Proofs.Ytkdiongmegnicaa
open Go.RowKit

/-! ### The document's Drop -/
def notF (id : Int) (r : RowT) : Bool := !decide (r.id = id)
def dropTL (L : List RowT) (id : Int) : List RowT := L.filter (notF id)
def DropQPost (h base : Nat) (room : Int) (u : Value) (L : List RowT) (id : Int) (w w' : World) : Prop :=
  ∃ u', QtbV w' h base room u' (dropTL L id) ∧ OnlyG h u w w' ∧ (∀ k, u'.ownBlock = some k → w.heap.size ≤ k)
set_option maxHeartbeats 4000000 in
set_option maxRecDepth 100000 in
theorem refDropT_any (h base : Nat) (room : Int) (u : Value) (L : List RowT) (id : Int) (w : World) (hx : QtbV w h base room u L) (hbase : base ≤ w.heap.size) :
    Calls Try.prog 82 #[.pointer (some ⟨h, 0, none⟩), .int .i64 id] w fun e w' => e = .returned (.tuple #[]) ∧ DropQPost h base room u L id w w' := by
  have HX := Lib.hid hx
  obtain ⟨i0, hi0, hz0, hz1, hz2⟩ := info_parts qrowInfo
  obtain ⟨X, c, hv⟩ := hx.form
  subst hv
  obtain ⟨n, hn⟩ : ∃ n, Hid (L.length = n) := ⟨_, Lib.hid rfl⟩
  have HBK := Lib.hid hx.blk
  have HR := Lib.hid (Rd.of_own hx.row)
  have hl := hx.len
  rw [hn.out] at HBK HR hl
  clear hx
  rw [hn.out]
  go_enter Try.func82, Try.ntmps82
  go_wp2_with fail
  go_loopw [4, 5] (fun v i wr => ∃ k : Nat, k ≤ n ∧ i = .int .i64 k ∧ Hid (wr.ownsRow w.heap.size 57 2 v (dropTL (L.take k) id).length ((dropTL (L.take k) id).flatMap RowT.cells)) ∧ Hid (Below w.heap.size w wr)) (fun _ i _ => n - (intOf i).toNat)
  case atStart => exact ⟨0, Nat.zero_le _, rfl, Lib.hid (World.ownsRow_nil _ _ _ _), Lib.hid (Below.refl _ _)⟩
  case round =>
    obtain ⟨k, hk, rfl, HO, HB⟩ := hrel
    have hbs := HB.out.size
    have p1 := (HBK.out.past HB.out).cell 1
    simp at p1
    by_cases hlt : k < n
    · have hlz : (k : Int) < (n : Int) := by omega
      have hg_f : L[k]? = some (L[k]'(by have := hn.out; omega)) := List.getElem?_eq_getElem _
      obtain ⟨b_f, off_f, rfl, hbb_f, hc_f⟩ := (HR.out.past HB.out).elem RowT.cells_len hg_f hlt
      have HT_f := Lib.hid (show L.take (k + 1) = L.take k ++ [(L[k]'(by have := hn.out; omega))] from List.take_succ_eq_append_getElem (by have := hn.out; omega))
      have HM_f := Lib.hid (show (L[k]'(by have := hn.out; omega)) ∈ L from List.getElem_mem _)
      generalize (L[k]'(by have := hn.out; omega)) = f at *
      have c0 := hc_f 0 _ rfl
      have c1 := hc_f 1 _ rfl
      clear hc_f hg_f
      simp only [Nat.add_zero] at c0
      obtain ⟨m, hm⟩ : ∃ m, Hid ((dropTL (L.take k) id).length = m) := ⟨_, Lib.hid rfl⟩
      have hmk : m ≤ 1000 := by
        rw [← hm.out]
        exact Nat.le_trans (List.length_filter_le _ _) (by rw [List.length_take]; omega)
      rw [hm.out] at HO
      by_cases he : f.id = id
      · have HT : Hid (dropTL (L.take (k + 1)) id = dropTL (L.take k) id) := Lib.hid (by rw [HT_f.out]; unfold dropTL; rw [List.filter_append]; simp [notF, he])
        have hq : (f.id != id) = false := by simpa using he
        go_wp2_with fail
        go_roundw
        case rel => exact ⟨k + 1, by omega, by go_num, by rw [HT.out, hm.out]; exact HO, HB⟩
        case measure => simp [intOf]; omega
      · have HT : Hid (dropTL (L.take (k + 1)) id = dropTL (L.take k) id ++ [f]) := Lib.hid (by rw [HT_f.out]; unfold dropTL; rw [List.filter_append]; simp [notF, he])
        have hq : (f.id != id) = true := by simpa using he
        go_wp2_with (at_builtin; refine wpList_append_lit_atN _ _ rfl (.tmp 25) (.tmp 33) 45 rfl w.heap.size 57 i0 _ 2 24 Try.underlying45 hi0 hz0 hz1 hz2 rfl (by decide) _ _ _ rfl HO.out _ 1 1 rfl (by first | rfl | simp) rfl (by simp [Value.oneCell']) (by omega) (by omega) (by omega) ?_; intro u' w' hown' hg' hdd; have HOWN := Lib.hid hown'; have HBW := Lib.hid (below_own (HB.out.alloc hbs _) hg' HO.out (by simp; omega) (Nat.le_refl _)); clear hown' hg' hdd)
        have HO2 : Hid (w'.ownsRow w.heap.size 57 2 u' (dropTL (L.take (k + 1)) id).length ((dropTL (L.take (k + 1)) id).flatMap RowT.cells)) := Lib.hid (by
          rw [HT.out, List.length_append, hm.out, List.flatMap_append]
          simpa [RowT.cells] using HOWN.out)
        clear HOWN
        go_wp2_with fail
        go_roundw
        case rel => exact ⟨k + 1, by omega, by go_num, HO2, HBW⟩
        case measure => simp [intOf]; omega
    · have hlz : ¬ (k : Int) < (n : Int) := by omega
      obtain rfl : n = k := by omega
      have hT : L.take n = L := List.take_of_length_le (by rw [hn.out]; exact Nat.le_refl _)
      rw [hT] at HO
      clear hT
      have hlen : (dropTL L id).length ≤ 1000 := Nat.le_trans (List.length_filter_le _ _) HX.out.len
      obtain ⟨m, hm⟩ : ∃ m, Hid ((dropTL L id).length = m) := ⟨_, Lib.hid rfl⟩
      rw [hm.out] at HO hlen
      obtain ⟨A', c', hv'⟩ := own_form HO.out
      subst hv'
      have bz := HBK.out.past HB.out
      have z1 := bz.frozen 1
      have HV : Hid (QtbV (wr.setCell ⟨h, 1, none⟩ (.slice A' m c')) h base room (.slice A' m c') (dropTL L id)) := Lib.hid (by
        refine ⟨⟨A', c', by rw [hm.out]⟩, bz.put 1 _, ?_, by rw [hm.out]; exact hlen, HX.out.rm⟩
        rw [hm.out]
        exact own_monoT (own_far (p := ⟨h, 1, none⟩) HO.out (own_blk_ne HO.out bz (by decide)) _) hbase)
      have HOO : Hid (OnlyG h (.slice X n c) w (wr.setCell ⟨h, 1, none⟩ (.slice A' m c'))) := Lib.hid ((OnlyG.of_below HB.out).setCell ⟨h, 1, none⟩ rfl _)
      have HOW : Hid (∀ k, (Value.slice A' m c').ownBlock = some k → w.heap.size ≤ k) := Lib.hid fun k e => (HO.out.lt k e).1
      clear bz
      go_wp2_with fail
      refine bodyPost_end (v := .tuple #[]) (by simp [results, Try.results82, go_sem]) rfl ⟨rfl, .slice A' m c', HV.out, HOO.out, HOW.out⟩
end Go.Proofs.Ytkdiongmegnicaa
