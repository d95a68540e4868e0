import Derived.Test.YtkdiongmegnicaaTabE
import Derived.Test.YtkdiongmegnicaaTwoR
namespace Go.Proofs.Ytkdiongmegnicaa
open Go.RowKit

/-! ### The document's Put -/
theorem qrowInfo : (Try.prog.info? 57).map (fun i => (i.zero, i.size, i.bytes)) = some (some (.agg #[.int .i64 0, .string ⟨#[]⟩]), 2, 24) := by kernel_rfl
def putTK (room : Int) (L : List RowT) (id : Int) : Int := if isT L id = true then 7 else if room ≤ (L.length : Nat) then 6 else 0
def putTL (room : Int) (L : List RowT) (id : Int) (s : ByteArray) : List RowT := if putTK room L id = 0 then L ++ [⟨id, s⟩] else L
def PutQPost (h base : Nat) (room : Int) (u : Value) (L : List RowT) (id : Int) (s : ByteArray) (w : World) (e : Ending) (w' : World) : Prop :=
  e = .returned (.int .i64 (putTK room L id)) ∧ ∃ u', QtbV w' h base room u' (putTL room L id s) ∧ OnlyG h u w w' ∧ (u'.ownBlock = u.ownBlock ∨ ∃ k, u'.ownBlock = some k ∧ w.heap.size ≤ k)
theorem putQ_no {h base : Nat} {room : Int} {u : Value} {L : List RowT} {id : Int} {s : ByteArray} {w w' : World} {K : Int} (hx : QtbV w h base room u L) (hk : putTK room L id = K) (h0 : K ≠ 0) (hb : Below w.heap.size w w') : PutQPost h base room u L id s w (.returned (.int .i64 K)) w' :=
  ⟨by rw [hk], u, by rw [putTL, hk, if_neg h0]; exact hx.past hb, OnlyG.of_below hb, .inl rfl⟩
set_option maxHeartbeats 4000000 in
set_option maxRecDepth 100000 in
theorem refPutT_any (h base : Nat) (room : Int) (u : Value) (L : List RowT) (id : Int) (s : ByteArray) (w : World) (hx : QtbV w h base room u L) (hl9 : L.length ≤ 900) (hbase : base ≤ w.heap.size) :
    Calls Try.prog 81 #[.pointer (some ⟨h, 0, none⟩), .int .i64 id, .string s] w (PutQPost h base room u L id s w) := by
  have HF := Lib.hid (refFindT_any h base room u L id w hx)
  have HX := Lib.hid hx
  obtain ⟨i0, hi0, hz0, hz1, hz2⟩ := info_parts qrowInfo
  obtain ⟨X, c, hv⟩ := hx.form
  subst hv
  obtain ⟨n, hn⟩ : ∃ n, Hid (L.length = n) := ⟨_, Lib.hid rfl⟩
  have HBK := Lib.hid hx.blk
  have HRW := Lib.hid hx.row
  rw [hn.out] at HBK HRW hl9
  have p0 := HBK.out.cell 0
  have p1 := HBK.out.cell 1
  have z1 := HBK.out.frozen 1
  simp at p0 p1
  clear hx
  rw [hn.out]
  go_enter Try.func81, Try.ntmps81
  go_wp2_with fail
  refine HF.out.mono ?_
  rintro e w1 ⟨⟨i, rfl, hp⟩, rfl⟩
  by_cases hi : 0 ≤ i
  · have HK : Hid (putTK room L id = 7) := Lib.hid (by rw [putTK, if_pos (hp.is.2 hi)])
    clear hp
    go_wp2_with fail
    go_ret
    rw [← hn.out]
    exact putQ_no HX.out HK.out (by decide) (Below.refl _ _)
  · have hIS : isT L id = false := by rw [Bool.eq_false_iff]; exact fun e => hi (hp.is.1 e)
    have HIS := Lib.hid hIS
    have hd := Below.drew (Below.refl w.heap.size w)
    clear hp hIS HF
    by_cases hr : room ≤ (n : Int)
    · have HK : Hid (putTK room L id = 6) := Lib.hid (by rw [putTK, HIS.out, if_neg (by simp), hn.out, if_pos hr])
      go_wp2_with fail
      go_region
      all_goals
        go_wp2_with fail
        go_ret
        rw [← hn.out]
        exact putQ_no HX.out HK.out (by decide) hd
    · have HK : Hid (putTK room L id = 0) := Lib.hid (by rw [putTK, HIS.out, if_neg (by simp), hn.out, if_neg hr])
      go_wp2_with fail
      go_region
      have HRW2 := Lib.hid (own_pastT HRW.out hd)
      have HBK2 := Lib.hid (HBK.out.past hd)
      go_upto_region 5 with fail
      obtain ⟨W1, hW1⟩ : ∃ W1, Hid (w.drew = W1) := ⟨_, Lib.hid rfl⟩
      rw [hW1.out] at hd HRW2 HBK2
      rw [hW1.out]
      have hbz : base ≤ W1.heap.size := by have := hd.size; omega
      clear p0 p1 z1
      have p1 := HBK2.out.cell 1
      simp at p1
      have hne := own_blk_ne HRW2.out HBK2.out (by decide)
      have HD := Lib.hid hd
      clear hd
      go_wp2_with (at_builtin; refine wpList_append_lit_atN _ _ rfl (.tmp 25) (.tmp 29) 45 rfl base 57 i0 _ 2 24 Try.underlying45 hi0 hz0 hz1 hz2 rfl (by decide) _ _ _ rfl HRW2.out _ 1 1 rfl (by first | rfl | simp) rfl (by simp [Value.oneCell']) (by omega) (by omega) (by omega) ?_; intro u' w' hown' hg' hdd; obtain ⟨A', c', rfl⟩ := own_form hown'; have bz : Blk w' h 47 #[.int .i64 room, .slice X n c] := Blk.grown (HBK2.out.alloc _) hg' hne; have y1 := bz.cell 1; have f1 := bz.frozen 1; simp at y1)
      have HV : Hid (QtbV (w'.setCell ⟨h, 1, none⟩ (.slice A' (n + 1) c')) h base room (.slice A' (n + 1) c') (L ++ [⟨id, s⟩])) := Lib.hid (by
        have hll : (L ++ [(⟨id, s⟩ : RowT)]).length = n + 1 := by simp [hn.out]
        refine ⟨⟨A', c', by rw [hll]⟩, bz.put 1 _, ?_, by rw [hll]; omega, HX.out.rm⟩
        rw [hll, List.flatMap_append]
        simpa [RowT.cells] using own_far (p := ⟨h, 1, none⟩) hown' (own_blk_ne hown' bz (by decide)) _)
      have HO : Hid (OnlyG h (.slice X n c) w (w'.setCell ⟨h, 1, none⟩ (.slice A' (n + 1) c'))) := Lib.hid (((OnlyG.of_below (HD.out.alloc HD.out.size _)).grown hg').setCell ⟨h, 1, none⟩ rfl _)
      have HOW : Hid ((Value.slice A' (n + 1) c').ownBlock = (Value.slice X n c).ownBlock ∨ ∃ k, (Value.slice A' (n + 1) c').ownBlock = some k ∧ w.heap.size ≤ k) := Lib.hid (hdd.imp (fun e => e) fun e => ⟨_, e, by have := HD.out.size; omega⟩)
      clear hown' hg' hdd bz y1 f1
      go_wp2_with fail
      go_ret
      refine ⟨by rw [HK.out]; rfl, .slice A' (n + 1) c', ?_, HO.out, HOW.out⟩
      rw [putTL, HK.out, if_pos rfl]
      exact HV.out
end Go.Proofs.Ytkdiongmegnicaa
