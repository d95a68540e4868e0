import Derived.Test.YtkdiongmegnicaaTabL
namespace Go.Proofs.Ytkdiongmegnicaa
open Go.RowKit

/-! ### does: a call of both -/
def DoesTPost (W : World) (g h : Nat) (room : Int) (n : Nat) (e : Ending) (w' : World) : Prop :=
  e = .returned (.bool true) ∧ ∃ v' u' S' L', TwoT W g h room v' u' S' L' w' ∧ S'.length ≤ n + 1
theorem RelT.putBoth {S L : List RowT} (h : RelT S L) (room id : Int) (s : ByteArray) : putTK room L id = putTK room S id ∧ RelT (putTS room S id s) (putTL room L id s) ∧ (putTS room S id s).length ≤ S.length + 1 := by
  have hk : putTK room L id = putTK room S id := by unfold putTK; rw [h.is id, h.len]
  refine ⟨hk, ?_, ?_⟩
  · unfold putTS putTL
    rw [hk]
    split
    · rename_i h0
      refine h.put (x := ⟨id, s⟩) ?_
      unfold putTK at h0
      cases e : isT S id with
      | false => rfl
      | true => rw [if_pos e] at h0; omega
    · exact h
  · unfold putTS
    split
    · rw [insT_len]; exact Nat.le_refl _
    · omega
theorem xstay {W w w1 : World} {g h xb : Nat} {room : Int} {v u : Value} {S L : List RowT} {arr : Array Value} (H : TwoT W g h room v u S L w) (hx : Blk w xb 49 arr) (ho : OnlyG g v w w1) : Blk w1 xb 49 arr :=
  ho.blkT hx (blk_neT hx H.tab.blk (by decide)) (own_blk_ne H.tab.row hx (by decide))
theorem xstayD {W w w1 : World} {g h xb : Nat} {room : Int} {v u : Value} {S L : List RowT} {arr : Array Value} (H : TwoT W g h room v u S L w) (hx : Blk w xb 49 arr) (ho : OnlyG h u w w1) : Blk w1 xb 49 arr :=
  ho.blkT hx (blk_neT hx H.doc.blk (by decide)) (own_blk_ne H.doc.row hx (by decide))
theorem TwoT.is {W w : World} {g h : Nat} {room : Int} {v u : Value} {S L : List RowT} (H : TwoT W g h room v u S L w) {id : Int} (hp : isT L id = false) : isT S id = false := by rw [H.rel.is]; exact hp
theorem isT_of {L : List RowT} {k : Nat} {r : RowT} {id : Int} (hk : L[k]? = some r) (hid : r.id = id) : isT L id = true := List.any_eq_true.2 ⟨r, List.mem_of_getElem? hk, by simpa using hid⟩

set_option maxHeartbeats 4000000 in
set_option maxRecDepth 100000 in
theorem doesT_put (W : World) (g h : Nat) (room : Int) (v u : Value) (S L : List RowT) (id : Int) (s : ByteArray) (w : World) (H : TwoT W g h room v u S L w) (hS : S.length ≤ 900) :
    Calls Try.prog 24 #[.pointer (some ⟨g, 0, none⟩), .pointer (some ⟨h, 0, none⟩), .agg #[.int .i64 0, .int .i64 id, .string s]] w (DoesTPost W g h room S.length) := by
  have HLL := Lib.hid H.rel.len
  have hB0 := (Below.refl w.heap.size w).alloc (Nat.le_refl _) (.cells #[.int .i64 0, .int .i64 id, .string s] 49)
  have bx := Blk.new w 49 #[.int .i64 0, .int .i64 id, .string s] w.heap.size rfl
  obtain ⟨xb, hxb⟩ : ∃ xb, Hid (w.heap.size = xb) := ⟨_, Lib.hid rfl⟩
  obtain ⟨W0, hW0⟩ : ∃ W0, Hid (w.alloc (.cells #[.int .i64 0, .int .i64 id, .string s] 49) = W0) := ⟨_, Lib.hid rfl⟩
  rw [hW0.out] at hB0 bx
  rw [hxb.out] at bx
  have HH := Lib.hid (H.past hB0)
  have HX := Lib.hid bx
  have HFD := Lib.hid (refFindT_any h W.heap.size room u L id W0 HH.out.doc)
  obtain ⟨X, c, hu⟩ := HH.out.doc.form
  have q1 := HH.out.doc.blk.cell 1
  simp at q1
  have x0 := (HX.out).cell 0
  have x1 := (HX.out).cell 1
  have x2 := (HX.out).cell 2
  simp at x0 x1 x2
  have hxl := HX.out.lt
  clear H hB0 bx
  go_enter Try.func24, Try.ntmps24
  go_upto_region 1 with fail
  rw [hW0.out, hxb.out]
  go_wp2_with fail
  refine HFD.out.mono ?_
  rintro e w1 ⟨⟨i, rfl, hp⟩, rfl⟩
  clear HFD
  rcases hp with ⟨rfl, hp⟩ | ⟨k, r, rfl, hk, hid⟩
  · subst hu
    go_upto_region 8 with fail
    obtain ⟨hKK, hRP, hLP⟩ := HH.out.rel.putBoth room id s
    have HRP := Lib.hid hRP
    have hdr := Below.drew (Below.refl W0.heap.size W0)
    have HH0 := Lib.hid (HH.out.past hdr)
    have HX0 := Lib.hid (HX.out.past hdr)
    have HPT := Lib.hid (putT_any g W.heap.size room v S id s W0.drew HH0.out.tab hS HH0.out.below.size)
    obtain ⟨Kp, hKp⟩ : ∃ Kp, Hid (putTK room S id = Kp) := ⟨_, Lib.hid rfl⟩
    have hCC : (Kp == Kp) = true := by simp
    have hS0 : W0.drew.cell? ⟨xb, 1, none⟩ = some (.int .i64 id) ∧ W0.drew.cell? ⟨xb, 2, none⟩ = some (.string s) := ⟨by simpa using HX0.out.cell 1, by simpa using HX0.out.cell 2⟩
    refine wp_region_held_drew (S := fun w' => w'.cell? ⟨xb, 1, none⟩ = some (.int .i64 id) ∧ w'.cell? ⟨xb, 2, none⟩ = some (.string s)) (by kernel_rfl) hS0 (fun hHeld => ?_)
    clear hS0 hdr hRP
    refine wpAnyH_take (i := 0) (v := ?_) rfl (by kernel_rfl) (by kernel_rfl) (by kernel_rfl) (fun _ _ _ h => h) (Or.inl ⟨by rfl, ?_⟩) (by assumption) ?_
    rotate_left
    · (intro w' hSw; (try dsimp only at hSw); first | (go_simp; done) | (go_simp; with_reducible rfl))
    try simp only [Act.put, List.getElem_toArray, List.getElem_cons_zero, List.getElem_cons_succ, List.setIfInBounds_toArray, List.set_cons_zero, List.set_cons_succ]
    refine wpAnyH_take (i := 1) (v := ?_) rfl (by kernel_rfl) (by kernel_rfl) (by kernel_rfl) (fun _ _ _ h => h) (Or.inl ⟨by rfl, ?_⟩) (by assumption) ?_
    rotate_left
    · (intro w' hSw; (try dsimp only at hSw); first | (go_simp; done) | (go_simp; with_reducible rfl))
    try simp only [Act.put, List.getElem_toArray, List.getElem_cons_zero, List.getElem_cons_succ, List.setIfInBounds_toArray, List.set_cons_zero, List.set_cons_succ]
    refine wpAnyH_take (i := 2) (v := ?_) rfl (by kernel_rfl) (by kernel_rfl) (by kernel_rfl) (fun _ _ _ h => h) (Or.inl ⟨by rfl, ?_⟩) (by assumption) ?_
    rotate_left
    · (intro w' hSw; (try dsimp only at hSw); first | (go_simp; done) | (go_simp; with_reducible rfl))
    try simp only [Act.put, List.getElem_toArray, List.getElem_cons_zero, List.getElem_cons_succ, List.setIfInBounds_toArray, List.set_cons_zero, List.set_cons_succ]
    refine wpAnyH_take (i := 3) (v := ?_) rfl (by kernel_rfl) (by kernel_rfl) (by kernel_rfl) (fun _ _ _ h => h) (Or.inl ⟨by rfl, ?_⟩) (by assumption) ?_
    rotate_left
    · (intro w' hSw; (try dsimp only at hSw); first | (go_simp; done) | (go_simp; with_reducible rfl))
    try simp only [Act.put, List.getElem_toArray, List.getElem_cons_zero, List.getElem_cons_succ, List.setIfInBounds_toArray, List.set_cons_zero, List.set_cons_succ]
    refine wpAnyH_take (i := 4) (v := ?_) rfl (by kernel_rfl) (by kernel_rfl) (by kernel_rfl) (fun _ _ _ h => h) (Or.inl ⟨by rfl, ?_⟩) (by assumption) ?_
    rotate_left
    · (intro w' hSw; (try dsimp only at hSw); first | (go_simp; done) | (go_simp; with_reducible rfl))
    try simp only [Act.put, List.getElem_toArray, List.getElem_cons_zero, List.getElem_cons_succ, List.setIfInBounds_toArray, List.set_cons_zero, List.set_cons_succ]
    refine wpAnyH_take (i := 6) (v := ?_) rfl (by kernel_rfl) (by kernel_rfl) (by kernel_rfl) (fun _ _ _ h => h) (Or.inl ⟨by rfl, ?_⟩) (by assumption) ?_
    rotate_left
    · (intro w' hSw; (try dsimp only at hSw); first | (go_simp; done) | (go_simp; with_reducible rfl))
    try simp only [Act.put, List.getElem_toArray, List.getElem_cons_zero, List.getElem_cons_succ, List.setIfInBounds_toArray, List.set_cons_zero, List.set_cons_succ]
    refine wpAnyH_take (i := 7) (v := ?_) rfl (by kernel_rfl) (by kernel_rfl) (by kernel_rfl) (fun _ _ _ h => h) (Or.inl ⟨by rfl, ?_⟩) (by assumption) ?_
    rotate_left
    · (intro w' hSw; (try dsimp only at hSw); first | (go_simp; done) | (go_simp; with_reducible rfl))
    try simp only [Act.put, List.getElem_toArray, List.getElem_cons_zero, List.getElem_cons_succ, List.setIfInBounds_toArray, List.set_cons_zero, List.set_cons_succ]
    refine wpAnyH_take (i := 8) (v := ?_) rfl (by kernel_rfl) (by kernel_rfl) (by kernel_rfl) (fun _ _ _ h => h) (Or.inl ⟨by rfl, ?_⟩) (by assumption) ?_
    rotate_left
    · (intro w' hSw; (try dsimp only at hSw); first | (go_simp; done) | (go_simp; with_reducible rfl))
    try simp only [Act.put, List.getElem_toArray, List.getElem_cons_zero, List.getElem_cons_succ, List.setIfInBounds_toArray, List.set_cons_zero, List.set_cons_succ]
    refine wpAnyH_take (i := 9) (v := ?_) rfl (by kernel_rfl) (by kernel_rfl) (by kernel_rfl) (fun _ _ _ h => h) (Or.inl ⟨by rfl, ?_⟩) (by assumption) ?_
    rotate_left
    · (intro w' hSw; (try dsimp only at hSw); first | (go_simp; done) | (go_simp; with_reducible rfl))
    try simp only [Act.put, List.getElem_toArray, List.getElem_cons_zero, List.getElem_cons_succ, List.setIfInBounds_toArray, List.set_cons_zero, List.set_cons_succ]
    refine wpAnyH_take (i := 10) (v := ?_) rfl (by kernel_rfl) (by kernel_rfl) (by kernel_rfl) (fun _ _ _ h => h) (Or.inl ⟨by rfl, ?_⟩) (by assumption) ?_
    rotate_left
    · (intro w' hSw; (try dsimp only at hSw); first | (go_simp; done) | (go_simp; with_reducible rfl))
    try simp only [Act.put, List.getElem_toArray, List.getElem_cons_zero, List.getElem_cons_succ, List.setIfInBounds_toArray, List.set_cons_zero, List.set_cons_succ]
    refine wpAnyH_ready (rs := [5]) (by kernel_rfl) (by simp) ?_
    refine AllReadyH.cons rfl (fun K hK => ?_) AllReadyH.nil
    go_simp
    go_at_call 32
    refine HPT.out.mono ?_
    rintro e w2 ⟨rfl, v2, ht2, ho2, _⟩
    have HX2 := Lib.hid (xstay HH0.out HX0.out ho2)
    have HM2 := Lib.hid (HH0.out.midT ho2)
    have HT2 := Lib.hid ht2
    have HO2 := Lib.hid ho2
    have HPD := Lib.hid (refPutT_any h W.heap.size room (.slice X L.length c) L id s w2 HM2.out.1 (by rw [← HLL.out]; exact hS) HM2.out.2.size)
    clear ht2 ho2 hHeld HPT
    refine hK.out _ _ (⟨by simpa using HX2.out.cell 1, by simpa using HX2.out.cell 2⟩) (fun hHeld => ?_)
    try simp only [Act.put, List.getElem_toArray, List.getElem_cons_zero, List.getElem_cons_succ, List.setIfInBounds_toArray, List.set_cons_zero, List.set_cons_succ]
    refine wpAnyH_ready (rs := [11]) (by kernel_rfl) (by simp) ?_
    refine AllReadyH.cons rfl (fun K hK => ?_) AllReadyH.nil
    go_simp
    go_at_call 81
    refine HPD.out.mono ?_
    rintro e w3 ⟨rfl, u3, hd3, ho3, _⟩
    have HX3 := Lib.hid ((ho3.blkT HX2.out (blk_neT HX2.out HM2.out.1.blk (by decide)) (own_blk_ne HM2.out.1.row HX2.out (by decide))))
    have HF := Lib.hid (HH0.out.nextT HT2.out HO2.out hd3 ho3 HRP.out)
    clear hd3 ho3 hHeld HPD
    refine hK.out _ _ (⟨by simpa using HX3.out.cell 1, by simpa using HX3.out.cell 2⟩) (fun hHeld => ?_)
    try simp only [Act.put, List.getElem_toArray, List.getElem_cons_zero, List.getElem_cons_succ, List.setIfInBounds_toArray, List.set_cons_zero, List.set_cons_succ]
    rw [hKK, hKp.out]
    refine wpAnyH_take (i := 12) (v := ?_) rfl (by kernel_rfl) (by kernel_rfl) (by kernel_rfl) (fun _ _ _ h => h) (Or.inl ⟨by rfl, ?_⟩) (by assumption) ?_
    rotate_left
    · (intro w' hSw; (try dsimp only at hSw); first | (go_simp; done) | (go_simp; with_reducible rfl))
    try simp only [Act.put, List.getElem_toArray, List.getElem_cons_zero, List.getElem_cons_succ, List.setIfInBounds_toArray, List.set_cons_zero, List.set_cons_succ]
    refine wpAnyH_take (i := 13) (v := ?_) rfl (by kernel_rfl) (by kernel_rfl) (by kernel_rfl) (fun _ _ _ h => h) (Or.inl ⟨by rfl, ?_⟩) (by assumption) ?_
    rotate_left
    · (intro w' hSw; (try dsimp only at hSw); first | (go_simp; done) | (go_simp; with_reducible rfl))
    try simp only [Act.put, List.getElem_toArray, List.getElem_cons_zero, List.getElem_cons_succ, List.setIfInBounds_toArray, List.set_cons_zero, List.set_cons_succ]
    refine wpAnyH_done (by kernel_rfl) ?_ _
    clear hHeld
    go_wp2_with fail
    go_ret
    exact ⟨rfl, _, _, _, _, HF.out, hLP⟩
  · have _ := hid
    have hkl : k < L.length := (List.getElem?_eq_some_iff.1 hk).1
    have hkz : (k : Int) < (L.length : Int) := by omega
    have hk0 : ¬ (k : Int) < 0 := by omega
    have hk1 : (0 : Int) ≤ (k : Int) := by omega
    have HK := Lib.hid hk
    have HID := Lib.hid hid
    subst hu
    obtain ⟨b, off, rfl, _, hc⟩ := (Rd.of_own HH.out.doc.row).elem RowT.cells_len hk hkl
    have c1 := hc 1 _ rfl
    clear hc hk hid
    go_upto_region 8 with fail
    obtain ⟨hKK, hRP, hLP⟩ := HH.out.rel.putBoth room id s
    have HRP := Lib.hid hRP
    have hdr := Below.drew (Below.refl W0.heap.size W0)
    have HH0 := Lib.hid (HH.out.past hdr)
    have HX0 := Lib.hid (HX.out.past hdr)
    have HPT := Lib.hid (putT_any g W.heap.size room v S id s W0.drew HH0.out.tab hS HH0.out.below.size)
    obtain ⟨Kp, hKp⟩ : ∃ Kp, Hid (putTK room S id = Kp) := ⟨_, Lib.hid rfl⟩
    have hCC : (Kp == Kp) = true := by simp
    have hS0 : W0.drew.cell? ⟨xb, 1, none⟩ = some (.int .i64 id) ∧ W0.drew.cell? ⟨xb, 2, none⟩ = some (.string s) := ⟨by simpa using HX0.out.cell 1, by simpa using HX0.out.cell 2⟩
    refine wp_region_held_drew (S := fun w' => w'.cell? ⟨xb, 1, none⟩ = some (.int .i64 id) ∧ w'.cell? ⟨xb, 2, none⟩ = some (.string s)) (by kernel_rfl) hS0 (fun hHeld => ?_)
    clear hS0 hdr hRP
    refine wpAnyH_take (i := 0) (v := ?_) rfl (by kernel_rfl) (by kernel_rfl) (by kernel_rfl) (fun _ _ _ h => h) (Or.inl ⟨by rfl, ?_⟩) (by assumption) ?_
    rotate_left
    · (intro w' hSw; (try dsimp only at hSw); first | (go_simp; done) | (go_simp; with_reducible rfl))
    try simp only [Act.put, List.getElem_toArray, List.getElem_cons_zero, List.getElem_cons_succ, List.setIfInBounds_toArray, List.set_cons_zero, List.set_cons_succ]
    refine wpAnyH_take (i := 1) (v := ?_) rfl (by kernel_rfl) (by kernel_rfl) (by kernel_rfl) (fun _ _ _ h => h) (Or.inl ⟨by rfl, ?_⟩) (by assumption) ?_
    rotate_left
    · (intro w' hSw; (try dsimp only at hSw); first | (go_simp; done) | (go_simp; with_reducible rfl))
    try simp only [Act.put, List.getElem_toArray, List.getElem_cons_zero, List.getElem_cons_succ, List.setIfInBounds_toArray, List.set_cons_zero, List.set_cons_succ]
    refine wpAnyH_take (i := 2) (v := ?_) rfl (by kernel_rfl) (by kernel_rfl) (by kernel_rfl) (fun _ _ _ h => h) (Or.inl ⟨by rfl, ?_⟩) (by assumption) ?_
    rotate_left
    · (intro w' hSw; (try dsimp only at hSw); first | (go_simp; done) | (go_simp; with_reducible rfl))
    try simp only [Act.put, List.getElem_toArray, List.getElem_cons_zero, List.getElem_cons_succ, List.setIfInBounds_toArray, List.set_cons_zero, List.set_cons_succ]
    refine wpAnyH_take (i := 3) (v := ?_) rfl (by kernel_rfl) (by kernel_rfl) (by kernel_rfl) (fun _ _ _ h => h) (Or.inl ⟨by rfl, ?_⟩) (by assumption) ?_
    rotate_left
    · (intro w' hSw; (try dsimp only at hSw); first | (go_simp; done) | (go_simp; with_reducible rfl))
    try simp only [Act.put, List.getElem_toArray, List.getElem_cons_zero, List.getElem_cons_succ, List.setIfInBounds_toArray, List.set_cons_zero, List.set_cons_succ]
    refine wpAnyH_take (i := 4) (v := ?_) rfl (by kernel_rfl) (by kernel_rfl) (by kernel_rfl) (fun _ _ _ h => h) (Or.inl ⟨by rfl, ?_⟩) (by assumption) ?_
    rotate_left
    · (intro w' hSw; (try dsimp only at hSw); first | (go_simp; done) | (go_simp; with_reducible rfl))
    try simp only [Act.put, List.getElem_toArray, List.getElem_cons_zero, List.getElem_cons_succ, List.setIfInBounds_toArray, List.set_cons_zero, List.set_cons_succ]
    refine wpAnyH_take (i := 6) (v := ?_) rfl (by kernel_rfl) (by kernel_rfl) (by kernel_rfl) (fun _ _ _ h => h) (Or.inl ⟨by rfl, ?_⟩) (by assumption) ?_
    rotate_left
    · (intro w' hSw; (try dsimp only at hSw); first | (go_simp; done) | (go_simp; with_reducible rfl))
    try simp only [Act.put, List.getElem_toArray, List.getElem_cons_zero, List.getElem_cons_succ, List.setIfInBounds_toArray, List.set_cons_zero, List.set_cons_succ]
    refine wpAnyH_take (i := 7) (v := ?_) rfl (by kernel_rfl) (by kernel_rfl) (by kernel_rfl) (fun _ _ _ h => h) (Or.inl ⟨by rfl, ?_⟩) (by assumption) ?_
    rotate_left
    · (intro w' hSw; (try dsimp only at hSw); first | (go_simp; done) | (go_simp; with_reducible rfl))
    try simp only [Act.put, List.getElem_toArray, List.getElem_cons_zero, List.getElem_cons_succ, List.setIfInBounds_toArray, List.set_cons_zero, List.set_cons_succ]
    refine wpAnyH_take (i := 8) (v := ?_) rfl (by kernel_rfl) (by kernel_rfl) (by kernel_rfl) (fun _ _ _ h => h) (Or.inl ⟨by rfl, ?_⟩) (by assumption) ?_
    rotate_left
    · (intro w' hSw; (try dsimp only at hSw); first | (go_simp; done) | (go_simp; with_reducible rfl))
    try simp only [Act.put, List.getElem_toArray, List.getElem_cons_zero, List.getElem_cons_succ, List.setIfInBounds_toArray, List.set_cons_zero, List.set_cons_succ]
    refine wpAnyH_take (i := 9) (v := ?_) rfl (by kernel_rfl) (by kernel_rfl) (by kernel_rfl) (fun _ _ _ h => h) (Or.inl ⟨by rfl, ?_⟩) (by assumption) ?_
    rotate_left
    · (intro w' hSw; (try dsimp only at hSw); first | (go_simp; done) | (go_simp; with_reducible rfl))
    try simp only [Act.put, List.getElem_toArray, List.getElem_cons_zero, List.getElem_cons_succ, List.setIfInBounds_toArray, List.set_cons_zero, List.set_cons_succ]
    refine wpAnyH_take (i := 10) (v := ?_) rfl (by kernel_rfl) (by kernel_rfl) (by kernel_rfl) (fun _ _ _ h => h) (Or.inl ⟨by rfl, ?_⟩) (by assumption) ?_
    rotate_left
    · (intro w' hSw; (try dsimp only at hSw); first | (go_simp; done) | (go_simp; with_reducible rfl))
    try simp only [Act.put, List.getElem_toArray, List.getElem_cons_zero, List.getElem_cons_succ, List.setIfInBounds_toArray, List.set_cons_zero, List.set_cons_succ]
    refine wpAnyH_ready (rs := [5]) (by kernel_rfl) (by simp) ?_
    refine AllReadyH.cons rfl (fun K hK => ?_) AllReadyH.nil
    go_simp
    go_at_call 32
    refine HPT.out.mono ?_
    rintro e w2 ⟨rfl, v2, ht2, ho2, _⟩
    have HX2 := Lib.hid (xstay HH0.out HX0.out ho2)
    have HM2 := Lib.hid (HH0.out.midT ho2)
    have HT2 := Lib.hid ht2
    have HO2 := Lib.hid ho2
    have HPD := Lib.hid (refPutT_any h W.heap.size room (.slice (some ⟨b, off, none⟩) L.length c) L id s w2 HM2.out.1 (by rw [← HLL.out]; exact hS) HM2.out.2.size)
    clear ht2 ho2 hHeld HPT
    refine hK.out _ _ (⟨by simpa using HX2.out.cell 1, by simpa using HX2.out.cell 2⟩) (fun hHeld => ?_)
    try simp only [Act.put, List.getElem_toArray, List.getElem_cons_zero, List.getElem_cons_succ, List.setIfInBounds_toArray, List.set_cons_zero, List.set_cons_succ]
    refine wpAnyH_ready (rs := [11]) (by kernel_rfl) (by simp) ?_
    refine AllReadyH.cons rfl (fun K hK => ?_) AllReadyH.nil
    go_simp
    go_at_call 81
    refine HPD.out.mono ?_
    rintro e w3 ⟨rfl, u3, hd3, ho3, _⟩
    have HX3 := Lib.hid ((ho3.blkT HX2.out (blk_neT HX2.out HM2.out.1.blk (by decide)) (own_blk_ne HM2.out.1.row HX2.out (by decide))))
    have HF := Lib.hid (HH0.out.nextT HT2.out HO2.out hd3 ho3 HRP.out)
    clear hd3 ho3 hHeld HPD
    refine hK.out _ _ (⟨by simpa using HX3.out.cell 1, by simpa using HX3.out.cell 2⟩) (fun hHeld => ?_)
    try simp only [Act.put, List.getElem_toArray, List.getElem_cons_zero, List.getElem_cons_succ, List.setIfInBounds_toArray, List.set_cons_zero, List.set_cons_succ]
    rw [hKK, hKp.out]
    refine wpAnyH_take (i := 12) (v := ?_) rfl (by kernel_rfl) (by kernel_rfl) (by kernel_rfl) (fun _ _ _ h => h) (Or.inl ⟨by rfl, ?_⟩) (by assumption) ?_
    rotate_left
    · (intro w' hSw; (try dsimp only at hSw); first | (go_simp; done) | (go_simp; with_reducible rfl))
    try simp only [Act.put, List.getElem_toArray, List.getElem_cons_zero, List.getElem_cons_succ, List.setIfInBounds_toArray, List.set_cons_zero, List.set_cons_succ]
    refine wpAnyH_take (i := 13) (v := ?_) rfl (by kernel_rfl) (by kernel_rfl) (by kernel_rfl) (fun _ _ _ h => h) (Or.inl ⟨by rfl, ?_⟩) (by assumption) ?_
    rotate_left
    · (intro w' hSw; (try dsimp only at hSw); first | (go_simp; done) | (go_simp; with_reducible rfl))
    try simp only [Act.put, List.getElem_toArray, List.getElem_cons_zero, List.getElem_cons_succ, List.setIfInBounds_toArray, List.set_cons_zero, List.set_cons_succ]
    refine wpAnyH_done (by kernel_rfl) ?_ _
    clear hHeld
    go_wp2_with fail
    go_ret
    exact ⟨rfl, _, _, _, _, HF.out, hLP⟩

set_option maxHeartbeats 4000000 in
set_option maxRecDepth 100000 in
theorem doesT_set (W : World) (g h : Nat) (room : Int) (v u : Value) (S L : List RowT) (id : Int) (s : ByteArray) (w : World) (H : TwoT W g h room v u S L w) :
    Calls Try.prog 24 #[.pointer (some ⟨g, 0, none⟩), .pointer (some ⟨h, 0, none⟩), .agg #[.int .i64 1, .int .i64 id, .string s]] w (DoesTPost W g h room S.length) := by
  have HLL := Lib.hid H.rel.len
  have hB0 := (Below.refl w.heap.size w).alloc (Nat.le_refl _) (.cells #[.int .i64 1, .int .i64 id, .string s] 49)
  have bx := Blk.new w 49 #[.int .i64 1, .int .i64 id, .string s] w.heap.size rfl
  obtain ⟨xb, hxb⟩ : ∃ xb, Hid (w.heap.size = xb) := ⟨_, Lib.hid rfl⟩
  obtain ⟨W0, hW0⟩ : ∃ W0, Hid (w.alloc (.cells #[.int .i64 1, .int .i64 id, .string s] 49) = W0) := ⟨_, Lib.hid rfl⟩
  rw [hW0.out] at hB0 bx
  rw [hxb.out] at bx
  have HH := Lib.hid (H.past hB0)
  have HX := Lib.hid bx
  have HFD := Lib.hid (refFindT_any h W.heap.size room u L id W0 HH.out.doc)
  obtain ⟨X, c, hu⟩ := HH.out.doc.form
  have q1 := HH.out.doc.blk.cell 1
  simp at q1
  have x0 := (HX.out).cell 0
  have x1 := (HX.out).cell 1
  have x2 := (HX.out).cell 2
  simp at x0 x1 x2
  have hxl := HX.out.lt
  clear H hB0 bx
  go_enter Try.func24, Try.ntmps24
  go_upto_region 1 with fail
  rw [hW0.out, hxb.out]
  go_wp2_with fail
  refine HFD.out.mono ?_
  rintro e w1 ⟨⟨i, rfl, hp⟩, rfl⟩
  clear HFD
  rcases hp with ⟨rfl, hp⟩ | ⟨k, r, rfl, hk, hid⟩
  · subst hu
    have HST := Lib.hid (setT_no g W.heap.size room v S id s W0 HH.out.tab (HH.out.is hp))
    go_wp2_with fail
    refine HST.out.mono ?_
    rintro e w2 ⟨rfl, hb⟩
    go_wp2_with fail
    go_ret
    exact ⟨rfl, _, _, _, _, HH.out.past hb, Nat.le_succ _⟩
  · subst hid
    have hkl : k < L.length := (List.getElem?_eq_some_iff.1 hk).1
    have hkz : (k : Int) < (L.length : Int) := by omega
    have hk0 : ¬ (k : Int) < 0 := by omega
    have hk1 : (0 : Int) ≤ (k : Int) := by omega
    have HK := Lib.hid hk
    subst hu
    obtain ⟨gu, cs, hX, hbg, hbk⟩ := own_someT HH.out.doc.row (by have := (List.getElem?_eq_some_iff.1 hk).1; omega)
    subst hX
    obtain ⟨b, off, he, _, hc⟩ := (Rd.of_own HH.out.doc.row).elem RowT.cells_len hk hkl
    cases he
    have c1 := hc 1 _ rfl
    simp only [Nat.zero_add] at c1
    have z1 := hbk.frozen (k * 2 + 1)
    clear hc hk
    have hll : (L.set k ⟨r.id, s⟩).length = L.length := by simp
    have HQ : Hid (QtbV (W0.setCell ⟨gu, k * 2 + 1, none⟩ (.string s)) h W.heap.size room (.slice (some ⟨gu, 0, none⟩) L.length c) (L.set k ⟨r.id, s⟩)) := Lib.hid (by
      refine ⟨⟨_, c, by rw [hll]⟩, HH.out.doc.blk.far (p := ⟨gu, k * 2 + 1, none⟩) (fun e => own_blk_ne HH.out.doc.row HH.out.doc.blk (by decide) (by rw [e]; rfl)) _, ?_, by rw [hll]; exact HH.out.doc.len, HH.out.doc.rm⟩
      rw [hll, ← set_row L k r HK.out s]
      exact own_setT HH.out.doc.row (by omega) _)
    have HO := Lib.hid ((OnlyG.of_below (g := h) (v := .slice (some ⟨gu, 0, none⟩) L.length c) (Below.refl W0.heap.size W0)).setOwnT ⟨gu, k * 2 + 1, none⟩ rfl (.string s))
    have hdr := Below.drew (Below.refl (W0.setCell ⟨gu, k * 2 + 1, none⟩ (.string s)).heap.size (W0.setCell ⟨gu, k * 2 + 1, none⟩ (.string s)))
    have HTT := Lib.hid ((HH.out.midD HO.out).1.past hdr)
    have hx1 := (HH.out.midD HO.out).1
    have HX2 := Lib.hid (xstayD HH.out HX.out HO.out)
    have y1 := HX2.out.cell 1
    have y2 := HX2.out.cell 2
    simp at y1 y2
    have HS := Lib.hid (HH.out.rel.at_ HK.out)
    have HIS : Hid (isT S r.id = true) := Lib.hid (by rw [HH.out.rel.is]; exact isT_of HK.out rfl)
    have HST := Lib.hid (setT_yes g W.heap.size room v S r.id s _ HTT.out HIS.out r HS.out)
    have HRS := Lib.hid (HH.out.rel.set HK.out s)
    clear hx1 hbk hbg hll
    go_wp2_with fail
    go_region
    obtain ⟨W3, hW3⟩ : ∃ W3, Hid ((W0.setCell ⟨gu, k * 2 + 1, none⟩ (.string s)).drew = W3) := ⟨_, Lib.hid rfl⟩
    have HQ3 := Lib.hid (HQ.out.past hdr)
    have HO3 := Lib.hid (HO.out.drewT)
    have Y1 : W3.cell? ⟨xb, 1, none⟩ = some (.int .i64 r.id) := by rw [← hW3.out]; exact y1
    have Y2 : W3.cell? ⟨xb, 2, none⟩ = some (.string s) := by rw [← hW3.out]; exact y2
    rw [hW3.out] at HST HQ3 HO3
    rw [hW3.out]
    clear hdr y1 y2 c1 z1 q1
    go_wp2_with fail
    refine HST.out.mono ?_
    rintro e w4 ⟨rfl, ht4, ho4⟩
    have HF := Lib.hid (HH.out.nextD HQ3.out HO3.out ht4 ho4 HRS.out)
    clear ht4 ho4
    go_wp2_with fail
    go_ret
    exact ⟨rfl, _, _, _, _, HF.out, by rw [List.length_set]; exact Nat.le_succ _⟩

set_option maxHeartbeats 4000000 in
set_option maxRecDepth 100000 in
theorem doesT_get (W : World) (g h : Nat) (room : Int) (v u : Value) (S L : List RowT) (id : Int) (s : ByteArray) (w : World) (H : TwoT W g h room v u S L w) :
    Calls Try.prog 24 #[.pointer (some ⟨g, 0, none⟩), .pointer (some ⟨h, 0, none⟩), .agg #[.int .i64 2, .int .i64 id, .string s]] w (DoesTPost W g h room S.length) := by
  have HLL := Lib.hid H.rel.len
  have hB0 := (Below.refl w.heap.size w).alloc (Nat.le_refl _) (.cells #[.int .i64 2, .int .i64 id, .string s] 49)
  have bx := Blk.new w 49 #[.int .i64 2, .int .i64 id, .string s] w.heap.size rfl
  obtain ⟨xb, hxb⟩ : ∃ xb, Hid (w.heap.size = xb) := ⟨_, Lib.hid rfl⟩
  obtain ⟨W0, hW0⟩ : ∃ W0, Hid (w.alloc (.cells #[.int .i64 2, .int .i64 id, .string s] 49) = W0) := ⟨_, Lib.hid rfl⟩
  rw [hW0.out] at hB0 bx
  rw [hxb.out] at bx
  have HH := Lib.hid (H.past hB0)
  have HX := Lib.hid bx
  have HFD := Lib.hid (refFindT_any h W.heap.size room u L id W0 HH.out.doc)
  obtain ⟨X, c, hu⟩ := HH.out.doc.form
  have q1 := HH.out.doc.blk.cell 1
  simp at q1
  have x0 := (HX.out).cell 0
  have x1 := (HX.out).cell 1
  have x2 := (HX.out).cell 2
  simp at x0 x1 x2
  have hxl := HX.out.lt
  clear H hB0 bx
  go_enter Try.func24, Try.ntmps24
  go_upto_region 1 with fail
  rw [hW0.out, hxb.out]
  go_wp2_with fail
  refine HFD.out.mono ?_
  rintro e w1 ⟨⟨i, rfl, hp⟩, rfl⟩
  clear HFD
  rcases hp with ⟨rfl, hp⟩ | ⟨k, r, rfl, hk, hid⟩
  · subst hu
    have HGT := Lib.hid (getT_no g W.heap.size room v S id W0 HH.out.tab (HH.out.is hp))
    go_wp2_with fail
    refine HGT.out.mono ?_
    rintro e w2 ⟨rfl, hb⟩
    have HB := Lib.hid hb
    clear hb
    go_wp2_with fail
    go_ret
    exact ⟨rfl, _, _, _, _, HH.out.past HB.out, Nat.le_succ _⟩
  · subst hid
    have hkl : k < L.length := (List.getElem?_eq_some_iff.1 hk).1
    have hkz : (k : Int) < (L.length : Int) := by omega
    have hk0 : ¬ (k : Int) < 0 := by omega
    have hk1 : (0 : Int) ≤ (k : Int) := by omega
    have HK := Lib.hid hk
    subst hu
    obtain ⟨b, off, rfl, _, hc⟩ := (Rd.of_own HH.out.doc.row).elem RowT.cells_len hk hkl
    have c1 := hc 1 _ rfl
    clear hc hk
    have HS := Lib.hid (HH.out.rel.at_ HK.out)
    have HIS : Hid (isT S r.id = true) := Lib.hid (by rw [HH.out.rel.is]; exact isT_of HK.out rfl)
    have HGT := Lib.hid (getT_yes g W.heap.size room v S r.id W0 HH.out.tab HIS.out r HS.out)
    go_wp2_with fail
    refine HGT.out.mono ?_
    rintro e w2 ⟨rfl, hb⟩
    have HB := Lib.hid hb
    clear hb
    go_wp2_with fail
    go_ret
    exact ⟨rfl, _, _, _, _, HH.out.past HB.out, Nat.le_succ _⟩

set_option maxHeartbeats 4000000 in
set_option maxRecDepth 100000 in
theorem doesT_drop (W : World) (g h : Nat) (room : Int) (v u : Value) (S L : List RowT) (kd : Int) (id : Int) (s : ByteArray) (w : World) (H : TwoT W g h room v u S L w) (h0 : (kd == 0) = false) (h1 : (kd == 1) = false) (h2 : (kd == 2) = false) :
    Calls Try.prog 24 #[.pointer (some ⟨g, 0, none⟩), .pointer (some ⟨h, 0, none⟩), .agg #[.int .i64 kd, .int .i64 id, .string s]] w (DoesTPost W g h room S.length) := by
  have HLL := Lib.hid H.rel.len
  have hB0 := (Below.refl w.heap.size w).alloc (Nat.le_refl _) (.cells #[.int .i64 kd, .int .i64 id, .string s] 49)
  have bx := Blk.new w 49 #[.int .i64 kd, .int .i64 id, .string s] w.heap.size rfl
  obtain ⟨xb, hxb⟩ : ∃ xb, Hid (w.heap.size = xb) := ⟨_, Lib.hid rfl⟩
  obtain ⟨W0, hW0⟩ : ∃ W0, Hid (w.alloc (.cells #[.int .i64 kd, .int .i64 id, .string s] 49) = W0) := ⟨_, Lib.hid rfl⟩
  rw [hW0.out] at hB0 bx
  rw [hxb.out] at bx
  have HH := Lib.hid (H.past hB0)
  have HX := Lib.hid bx
  have HFD := Lib.hid (refFindT_any h W.heap.size room u L id W0 HH.out.doc)
  obtain ⟨X, c, hu⟩ := HH.out.doc.form
  have q1 := HH.out.doc.blk.cell 1
  simp at q1
  have x0 := (HX.out).cell 0
  have x1 := (HX.out).cell 1
  have x2 := (HX.out).cell 2
  simp at x0 x1 x2
  have hxl := HX.out.lt
  clear H hB0 bx
  go_enter Try.func24, Try.ntmps24
  go_upto_region 1 with fail
  rw [hW0.out, hxb.out]
  go_wp2_with fail
  refine HFD.out.mono ?_
  rintro e w1 ⟨⟨i, rfl, hp⟩, rfl⟩
  clear HFD
  rcases hp with ⟨rfl, hp⟩ | ⟨k, r, rfl, hk, hid⟩
  · subst hu
    have HDQ := Lib.hid (refDropT_any h W.heap.size room (.slice X L.length c) L id W0 HH.out.doc HH.out.below.size)
    go_wp2_with fail
    refine HDQ.out.mono ?_
    rintro e w2 ⟨rfl, u2, hd2, ho2, _⟩
    have HX2 := Lib.hid (xstayD HH.out HX.out ho2)
    have y1 := HX2.out.cell 1
    simp at y1
    have HM2 := Lib.hid (HH.out.midD ho2)
    have HD2 := Lib.hid hd2
    have HO2 := Lib.hid ho2
    clear hd2 ho2 HDQ x0 x1 x2 q1
    rw [dropT_none hp] at HD2
    have HGT := Lib.hid (dropT_no g W.heap.size room v S id w2 HM2.out.1 (HH.out.is hp))
    go_wp2_with fail
    refine HGT.out.mono ?_
    rintro e w3 ⟨rfl, hb⟩
    have HF := Lib.hid (HH.out.nextD HD2.out HO2.out (HM2.out.1.past hb) (OnlyG.of_below hb) HH.out.rel)
    clear hb
    go_wp2_with fail
    go_ret
    exact ⟨rfl, _, _, _, _, HF.out, Nat.le_succ _⟩
  · subst hid
    have hkl : k < L.length := (List.getElem?_eq_some_iff.1 hk).1
    have hkz : (k : Int) < (L.length : Int) := by omega
    have hk0 : ¬ (k : Int) < 0 := by omega
    have hk1 : (0 : Int) ≤ (k : Int) := by omega
    have HK := Lib.hid hk
    subst hu
    obtain ⟨b, off, rfl, _, hc⟩ := (Rd.of_own HH.out.doc.row).elem RowT.cells_len hk hkl
    have c1 := hc 1 _ rfl
    clear hc hk
    have HDQ := Lib.hid (refDropT_any h W.heap.size room (.slice (some ⟨b, off, none⟩) L.length c) L r.id W0 HH.out.doc HH.out.below.size)
    go_wp2_with fail
    refine HDQ.out.mono ?_
    rintro e w2 ⟨rfl, u2, hd2, ho2, _⟩
    have HX2 := Lib.hid (xstayD HH.out HX.out ho2)
    have y1 := HX2.out.cell 1
    simp at y1
    have HM2 := Lib.hid (HH.out.midD ho2)
    have HD2 := Lib.hid hd2
    have HO2 := Lib.hid ho2
    clear hd2 ho2 HDQ x0 x1 x2 q1
    have HS := Lib.hid (HH.out.rel.at_ HK.out)
    have HIS : Hid (isT S r.id = true) := Lib.hid (by rw [HH.out.rel.is]; exact isT_of HK.out rfl)
    have HGT := Lib.hid (dropT_yes g W.heap.size room v S r.id w2 HM2.out.1 HIS.out r HS.out)
    have HRD := Lib.hid (HH.out.rel.drop HK.out)
    have HLN : Hid ((outT S (posT S r.id)).length ≤ S.length + 1) := Lib.hid (by simp [outT]; omega)
    clear c1
    go_wp2_with fail
    refine HGT.out.mono ?_
    rintro e w3 ⟨rfl, v3, ht3, ho3, _⟩
    have HF := Lib.hid (HH.out.nextD HD2.out HO2.out ht3 ho3 HRD.out)
    clear ht3 ho3
    go_wp2_with fail
    go_ret
    exact ⟨rfl, _, _, _, _, HF.out, HLN.out⟩
theorem doesT_any (W : World) (g h : Nat) (room : Int) (v u : Value) (S L : List RowT) (kd id : Int) (s : ByteArray) (w : World) (H : TwoT W g h room v u S L w) (hS : S.length ≤ 900) :
    Calls Try.prog 24 #[.pointer (some ⟨g, 0, none⟩), .pointer (some ⟨h, 0, none⟩), .agg #[.int .i64 kd, .int .i64 id, .string s]] w (DoesTPost W g h room S.length) := by
  by_cases h0 : kd = 0
  · subst h0; exact doesT_put W g h room v u S L id s w H hS
  · by_cases h1 : kd = 1
    · subst h1; exact doesT_set W g h room v u S L id s w H
    · by_cases h2 : kd = 2
      · subst h2; exact doesT_get W g h room v u S L id s w H
      · exact doesT_drop W g h room v u S L kd id s w H (by simpa using h0) (by simpa using h1) (by simpa using h2)
end Go.Proofs.Ytkdiongmegnicaa
