import Derived.Test.YtelbolhckhdioaaHkB
/-! ## from HolI -/
namespace Go.Proofs.Ytelbolhckhdioaa
open Go.RowKit

/-! ### What holds behind each call (plain) -/
section
variable {M A : Nat} {bl : List Int} {S : List HRow} {L : List Ent}
theorem HInv.move (hM : M ≤ 16) (hI : Inv M A bl L) (h : HInv M A bl S) (x y : Acc) (a z : Int) : Inv M A (hmB M A bl S x y a z) (hmL M A bl S L x y a z) ∧ HInv M A (hmB M A bl S x y a z) S := by
  unfold hmB hmL
  split
  · exact ⟨hI, h⟩
  · exact h.post hM hI
theorem plcK_zero {room id : Int} {h : HoldV} (hk : plcK M A bl S room id h = 0) : 0 ≤ h.z ∧ frB h.spt = false ∧ okP M A h.spt = true ∧ TTbH.isT S id = false ∧ (S.length : Int) < room ∧ h.z ≤ bl.getD (ixS M h.spt) 0 - heldH S h.spt := by
  unfold plcK at hk
  split at hk
  · omega
  · rename_i h1
    split at hk
    · omega
    · rename_i h2
      split at hk
      · omega
      · rename_i h3
        split at hk
        · omega
        · rename_i h4
          split at hk
          · omega
          · rename_i h5
            refine ⟨by omega, ?_, ?_, ?_, by omega, by omega⟩
            · cases e : frB h.spt with
              | false => rfl
              | true => exact absurd (.inr e) h1
            · simpa using h2
            · simpa using h3
theorem insT_permH (S : List HRow) (x : HRow) : (TTbH.insT S x).Perm (x :: S) := by
  unfold TTbH.insT
  refine List.perm_middle.trans ?_
  rw [List.take_append_drop]
theorem heldH_cons (x : HRow) (l : List HRow) (s : Spt) : heldH (x :: l) s = (if x.v.spt = s then x.v.z else 0) + heldH l s := by
  unfold heldH
  rw [List.filter_cons]
  by_cases h : x.v.spt = s
  · simp [atH, h]
  · simp [atH, h]
theorem HInv.place (hi : HInv M A bl S) {room id : Int} {h : HoldV} (hk : plcK M A bl S room id h = 0) : HInv M A bl (TTbH.insT S ⟨id, h⟩) := by
  obtain ⟨h1, h2, h3, h4, h5, h6⟩ := plcK_zero hk
  have hp := insT_permH S ⟨id, h⟩
  refine ⟨fun r hr => ?_, fun r hr => ?_, fun s hs hf => ?_⟩
  · rcases List.mem_cons.1 (hp.mem_iff.1 hr) with rfl | hr
    · exact h1
    · exact hi.z r hr
  · rcases List.mem_cons.1 (hp.mem_iff.1 hr) with rfl | hr
    · exact ⟨h3, h2⟩
    · exact hi.ok r hr
  · rw [heldH_perm hp, heldH_cons]
    have hle := hi.le s hs hf
    by_cases e : h.spt = s
    · subst e
      rw [if_pos rfl]
      show h.z + _ ≤ _
      omega
    · rw [if_neg e]; omega
theorem mem_outT {S : List HRow} {p : Nat} {r : HRow} (h : r ∈ TTbH.outT S p) : r ∈ S := by
  unfold TTbH.outT at h
  rcases List.mem_append.1 h with h | h
  · exact List.mem_of_mem_take h
  · exact List.mem_of_mem_drop h
theorem HInv.release (hi : HInv M A bl S) (id : Int) : HInv M A bl (relS S id) := by
  unfold relS
  split
  · rename_i h
    refine ⟨fun r hr => hi.z r (mem_outT hr), fun r hr => hi.ok r (mem_outT hr), fun s hs hf => ?_⟩
    have hle := hi.le s hs hf
    have h1 : heldH (TTbH.outT S (TTbH.posT S id)) s ≤ heldH S s := by
      unfold TTbH.outT
      rw [heldH_app]
      have h2 := heldH_app (S.take (TTbH.posT S id)) (S.drop (TTbH.posT S id)) s
      rw [List.take_append_drop] at h2
      have h3 : heldH (S.drop (TTbH.posT S id + 1)) s ≤ heldH (S.drop (TTbH.posT S id)) s := by
        have h4 := heldH_app ((S.drop (TTbH.posT S id)).take 1) ((S.drop (TTbH.posT S id)).drop 1) s
        rw [List.take_append_drop, List.drop_drop] at h4
        have h5 := heldH_nonneg (S := (S.drop (TTbH.posT S id)).take 1) (fun r hr => hi.z r (List.mem_of_mem_drop (List.mem_of_mem_take hr))) s
        omega
      omega
    omega
  · exact hi
def HOk (S : List HRow) : Prop := ∀ r ∈ S, (inI r.v.k ∧ inI r.v.m) ∧ inI r.v.a ∧ inI r.v.z
end
/-- What holds at the head of each round. -/
structure KeepI (M A : Nat) (bl : List Int) (S : List HRow) (L : List Ent) : Prop where
  inv : Inv M A bl L
  hinv : HInv M A bl S
  ok : HOk S
structure KeepSt (W : World) (gv gt M A : Nat) (room : Int) (k : Nat) (w : World) (gb : Nat) (vb : Value) (bl : List Int) (p : Int) (vt : Value) (S : List HRow) (L : List Ent) : Prop where
  v : VltV w gv gb gt W.heap.size M A vb bl p room vt S
  i : KeepI M A bl S L
  len : (S.length : Int) ≤ room
  p0 : 0 ≤ p ∧ p ≤ (k : Nat)
  below : Below W.heap.size W w
theorem KeepSt.past {W w w1 : World} {gv gt M A k gb : Nat} {room : Int} {vb : Value} {bl : List Int} {p : Int} {vt : Value} {S : List HRow} {L : List Ent} (h : KeepSt W gv gt M A room k w gb vb bl p vt S L) (hb : Below w.heap.size w w1) : KeepSt W gv gt M A room k w1 gb vb bl p vt S L :=
  ⟨h.v.past hb, h.i, h.len, h.p0, Below.past h.below hb h.below.size⟩
def KeepNx (W : World) (gv gt M A : Nat) (room : Int) (k : Nat) (w : World) (bl : List Int) (S : List HRow) : Prop := ∃ gb vb p vt L, KeepSt W gv gt M A room k w gb vb bl p vt S L
theorem KeepSt.next {W w w1 w' : World} {gv gt M A k gb : Nat} {room : Int} {vb : Value} {bl : List Int} {p : Int} {vt : Value} {S : List HRow} {L : List Ent} (h : KeepSt W gv gt M A room k w gb vb bl p vt S L) (hb : Below w.heap.size w w1) {K : Int} {bl' : List Int} {S' : List HRow} {L' : List Ent} {e : Ending} (hv : VPost gv gt W.heap.size M A p room vt K bl' S' w1 e w') (hi : KeepI M A bl' S' L') (hl : (S'.length : Int) ≤ room) : KeepNx W gv gt M A room (k + 1) w' bl' S' := by
  obtain ⟨_, gb', vb', p', vt', h1, h2, h3, h4⟩ := hv
  have hst := h.past hb
  refine ⟨gb', vb', p', vt', L', h1, hi, hl, ?_, ?_⟩
  · have := h.p0
    rcases h4 with rfl | rfl <;> omega
  · refine Below.trans hst.below (h2.frame hst.below.size fun j _ hj => ?_)
    rcases hj with rfl | rfl | hj
    · exact hst.v.hv
    · exact hst.v.ht
    · exact (hst.v.tab.row.lt j hj).1
/-! ### awake -/
set_option maxHeartbeats 8000000 in
set_option maxRecDepth 100000 in
theorem awake15 (w : World) : Calls Try.prog 21 #[] w fun e w' => e = .returned (.bool true) ∧ Below w.heap.size w w' := by
  have HN := Lib.hid (newV_yes 2 1 (by omega) (by omega) (by omega) 3 (by omega) w)
  unfold NewVPost at HN
  rw [show max (3 : Int) 0 = 3 from rfl, show List.replicate (1 * cnt 2) (0 : Int) = awL0 from rfl] at HN
  have HI0 : Hid (Inv 2 1 awL0 [] ∧ HInv 2 1 awL0 []) := Lib.hid ⟨Inv.start (by omega), HInv.start⟩
  have HI1 : Hid (Inv 2 1 awL1 (hmL 2 1 awL0 [] [] ⟨7, 1⟩ ⟨8, 1⟩ 0 10) ∧ HInv 2 1 awL1 []) := Lib.hid (HI0.out.2.move (by omega) HI0.out.1 ⟨7, 1⟩ ⟨8, 1⟩ 0 10)
  have HI2 : Hid (HInv 2 1 awL1 awS1) := Lib.hid (by
    have := HI1.out.2.place awh2
    exact this)
  have HI3 : Hid (Inv 2 1 awL2 (hmL 2 1 awL1 awS1 (hmL 2 1 awL0 [] [] ⟨7, 1⟩ ⟨8, 1⟩ 0 10) ⟨8, 1⟩ ⟨7, 1⟩ 0 3) ∧ HInv 2 1 awL2 awS1) := Lib.hid (HI2.out.move (by omega) HI1.out.1 ⟨8, 1⟩ ⟨7, 1⟩ 0 3)
  go_enter Try.func21, Try.ntmps21
  go_wp2_with fail
  refine HN.out.mono ?_
  rintro e w1 ⟨gv, gb, gt, vb, rfl, hv, hb⟩
  have HS1 : Hid (KeepSt w gv gt 2 1 3 0 w1 gb vb awL0 0 (.slice none 0 0) [] []) := Lib.hid ⟨hv, ⟨HI0.out.1, HI0.out.2, fun r hr => by simp at hr⟩, by simp, by omega, hb⟩
  clear hv hb HN
  go_wp2_with fail
  refine (own15 1 _).mono ?_
  rintro e w2 ⟨rfl, hb2⟩
  go_wp2_with fail
  refine (coll15 1 _).mono ?_
  rintro e w3 ⟨rfl, hb3⟩
  have HS3 := Lib.hid ((HS1.out.past hb2).past hb3)
  have HM := Lib.hid (moveV_any ⟨7, 1⟩ ⟨8, 1⟩ 0 10 w3 HS3.out.v HS3.out.i.hinv HS3.out.i.inv.inn (by decide) (by decide) (by decide) (by decide) (by decide) HS3.out.below.size)
  rw [awh1, show hmB 2 1 awL0 [] ⟨7, 1⟩ ⟨8, 1⟩ 0 10 = awL1 from rfl] at HM
  clear hb2 hb3 HS1
  go_wp2_with fail
  refine HM.out.mono ?_
  rintro e w4 hvp
  obtain rfl := hvp.1
  obtain ⟨gb4, vb4, p4, vt4, L4, hs4⟩ : KeepNx w gv gt 2 1 3 1 w4 awL1 [] := HS3.out.next (Below.refl _ _) hvp (L' := hmL 2 1 awL0 [] [] ⟨7, 1⟩ ⟨8, 1⟩ 0 10) ⟨HI1.out.1, HI1.out.2, fun r hr => by simp at hr⟩ (by simp)
  have HS4 := Lib.hid hs4
  clear hvp hs4 HM HS3
  go_wp2_with fail
  refine (coll15 1 _).mono ?_
  rintro e w5 ⟨rfl, hb5⟩
  have HS5 := Lib.hid (HS4.out.past hb5)
  have HM := Lib.hid (placeV_any 5 ⟨8, 1, 0, 7⟩ w5 HS5.out.v HI1.out.2 HI1.out.1.inn (by simp) (by simp) HS5.out.below.size)
  rw [awh2, awh6] at HM
  clear hb5 HS4
  go_wp2_with fail
  refine HM.out.mono ?_
  rintro e w6 hvp
  obtain rfl := hvp.1
  obtain ⟨gb6, vb6, p6, vt6, L6, hs6⟩ : KeepNx w gv gt 2 1 3 2 w6 awL1 awS1 := HS5.out.next (Below.refl _ _) hvp ⟨HI1.out.1, HI2.out, fun r hr => by simp [awS1] at hr; subst hr; decide⟩ (by simp [awS1])
  have HS6 := Lib.hid hs6
  clear hvp hs6 HM HS5
  go_wp2_with fail
  refine (coll15 1 _).mono ?_
  rintro e w7 ⟨rfl, hb7⟩
  go_wp2_with fail
  refine (own15 1 _).mono ?_
  rintro e w8 ⟨rfl, hb8⟩
  have HS8 := Lib.hid ((HS6.out.past hb7).past hb8)
  have HM := Lib.hid (moveV_any ⟨8, 1⟩ ⟨7, 1⟩ 0 4 w8 HS8.out.v HI2.out HI1.out.1.inn (by decide) (by decide) (by decide) (by decide) (by have := HS8.out.p0; omega) HS8.out.below.size)
  rw [awh3.1, awh3.2] at HM
  clear hb7 hb8 HS6
  go_wp2_with fail
  refine HM.out.mono ?_
  rintro e w9 hvp
  obtain rfl := hvp.1
  obtain ⟨gb9, vb9, p9, vt9, L9, hs9⟩ : KeepNx w gv gt 2 1 3 3 w9 awL1 awS1 := HS8.out.next (Below.refl _ _) hvp ⟨HI1.out.1, HI2.out, HS8.out.i.ok⟩ (by simp [awS1])
  have HS9 := Lib.hid hs9
  clear hvp hs9 HM HS8
  go_wp2_with fail
  refine (coll15 1 _).mono ?_
  rintro e w10 ⟨rfl, hb10⟩
  go_wp2_with fail
  refine (own15 1 _).mono ?_
  rintro e w11 ⟨rfl, hb11⟩
  have HS11 := Lib.hid ((HS9.out.past hb10).past hb11)
  have HM := Lib.hid (moveV_any ⟨8, 1⟩ ⟨7, 1⟩ 0 3 w11 HS11.out.v HI2.out HI1.out.1.inn (by decide) (by decide) (by decide) (by decide) (by have := HS11.out.p0; omega) HS11.out.below.size)
  rw [awh4, show hmB 2 1 awL1 awS1 ⟨8, 1⟩ ⟨7, 1⟩ 0 3 = awL2 from rfl] at HM
  clear hb10 hb11 HS9
  go_wp2_with fail
  refine HM.out.mono ?_
  rintro e w12 hvp
  obtain rfl := hvp.1
  obtain ⟨gb12, vb12, p12, vt12, L12, hs12⟩ : KeepNx w gv gt 2 1 3 4 w12 awL2 awS1 := HS11.out.next (Below.refl _ _) hvp ⟨HI3.out.1, HI3.out.2, HS11.out.i.ok⟩ (by simp [awS1])
  have HS12 := Lib.hid hs12
  clear hvp hs12 HM HS11
  go_wp2_with fail
  refine (coll15 1 _).mono ?_
  rintro e w13 ⟨rfl, hb13⟩
  have HS13 := Lib.hid (HS12.out.past hb13)
  have HU := Lib.hid (unheldB_any ⟨8, 1, 0⟩ w13 HS13.out.v HI3.out.2 HI3.out.1.inn)
  rw [awh5] at HU
  clear hb13 HS12
  go_wp2_with fail
  refine HU.out.mono ?_
  rintro e w14 ⟨rfl, hb14⟩
  have HB := Lib.hid (HS13.out.past hb14).below
  clear hb14
  go_wp2_with fail
  go_ret
  exact ⟨rfl, HB.out⟩
end Go.Proofs.Ytelbolhckhdioaa

/-! ## from HolK -/
namespace Go.Proofs.Ytelbolhckhdioaa
open Go.RowKit

/-! ### HoldKeeps: a round -/
def CapX (gv gt base M A : Nat) (p room : Int) (vt : Value) (S : List HRow) (w : World) (e : Ending) (w' : World) : Prop :=
  ∃ K bl' S' L', VPost gv gt base M A p room vt K bl' S' w e w' ∧ KeepI M A bl' S' L' ∧ S'.length = S.length
theorem hok_set {S : List HRow} (h : HOk S) {i : Nat} {r : HRow} (hr : S[i]? = some r) {z : Int} (h0 : 0 ≤ z) (h1 : z ≤ r.v.z) : HOk (S.set i ⟨r.id, lessH r z⟩) := fun x hx => by
  rcases List.mem_or_eq_of_mem_set hx with hx | rfl
  · exact h x hx
  · have := h r (List.mem_of_getElem? hr)
    refine ⟨this.1, this.2.1, ?_⟩
    have h2 := this.2.2
    unfold inI at h2 ⊢
    simp only [lessH]
    omega
theorem capX_any {gv gb gt base M A : Nat} {vb : Value} {bl : List Int} {p room : Int} {vt : Value} {S : List HRow} {L : List Ent} (hM : M ≤ 16) (id : Int) (y : Acc) (z : Int) (w : World) (hx : VltV w gv gb gt base M A vb bl p room vt S) (hi : KeepI M A bl S L) (hiy : inI y.kind ∧ inI y.member) (hiz : inI z) (hp : 0 ≤ p ∧ p ≤ 1000000) (hbase : base ≤ w.heap.size) :
    Calls Try.prog 31 #[.pointer (some ⟨gv, 0, none⟩), .int .i64 id, .agg #[.int .i64 y.kind, .int .i64 y.member], .int .i64 z] w (CapX gv gt base M A p room vt S w) := by
  cases his : TTbH.isT S id with
  | false => exact (capV_no id y z w hx his).mono fun e w' h => ⟨_, _, _, L, h, hi, rfl⟩
  | true =>
    obtain ⟨r, hr, _⟩ := isT_at hx.tab.ris his
    by_cases hz : z < 0
    · exact (capV_neg id y z r w hx his hr hz).mono fun e w' h => ⟨_, _, _, L, h, hi, rfl⟩
    · by_cases hm : r.v.z < z
      · exact (capV_much id y z r w hx his hr hz hm).mono fun e w' h => ⟨_, _, _, L, h, hi, rfl⟩
      · have ho := hi.ok r (List.mem_of_getElem? hr)
        have h1 := hi.hinv.less hr (z := z) (by omega) (by omega)
        have h2 := h1.move hM hi.inv ⟨r.v.k, r.v.m⟩ y r.v.a z
        refine (capV_go id y z r w hx his hr hz hm hi.hinv hi.inv.inn ho.1 hiy ho.2.1 hiz ho.2.2 hp hbase).mono fun e w' h => ⟨_, _, _, hmL M A bl (S.set (TTbH.posT S id) ⟨r.id, lessH r z⟩) L ⟨r.v.k, r.v.m⟩ y r.v.a z, h, ?_, ?_⟩
        · by_cases hk : hmK M A bl (S.set (TTbH.posT S id) ⟨r.id, lessH r z⟩) ⟨r.v.k, r.v.m⟩ y r.v.a z = 0
          · rw [if_pos hk]
            exact ⟨h2.1, h2.2, hok_set hi.ok hr (by omega) (by omega)⟩
          · rw [if_neg hk]
            refine ⟨h2.1, ?_, hi.ok⟩
            have hb : hmB M A bl (S.set (TTbH.posT S id) ⟨r.id, lessH r z⟩) ⟨r.v.k, r.v.m⟩ y r.v.a z = bl := by
              unfold hmB
              unfold hmK at hk
              split
              · rfl
              · rename_i hzz
                rw [if_neg hzz] at hk
                unfold hpB
                rw [if_neg hk]
            rw [hb]
            exact hi.hinv
        · split
          · rw [List.length_set]
          · rfl
def RoundP (w : World) (gv gt k : Nat) (S : List HRow) (id kd : Int) (B : Nat) (va : Value) (xs : List Value) (xb : Nat) (arr : Array Value) (w' : World) : Prop :=
  ∃ bl' S', KeepNx w gv gt 3 2 10 (k + 1) w' bl' S' ∧ (TTbH.isT S id = true → 0 ≤ kd → kd < 3 → S' = S) ∧ w'.ownsRow B 52 2 va 15 xs ∧ Blk w' xb 60 arr
theorem roundP {w w1 w2 w' : World} {gv gt k gb : Nat} {vb : Value} {bl bl' : List Int} {p K : Int} {vt va : Value} {S S' : List HRow} {L L' : List Ent} {id kd : Int} {B xb : Nat} {xs : List Value} {arr : Array Value} {e : Ending} (hst : KeepSt w gv gt 3 2 10 k w1 gb vb bl p vt S L) (hb : Below w1.heap.size w1 w2) (hv : VPost gv gt w.heap.size 3 2 p 10 vt K bl' S' w2 e w') (hi : KeepI 3 2 bl' S' L') (hl : (S'.length : Int) ≤ 10) (hs : TTbH.isT S id = true → 0 ≤ kd → kd < 3 → S' = S) (ho : w1.ownsRow B 52 2 va 15 xs) (hx : Blk w1 xb 60 arr) : RoundP w gv gt k S id kd B va xs xb arr w' := by
  refine ⟨bl', S', hst.next hb hv hi hl, hs, ?_, ?_⟩
  · obtain ⟨_, gb', vb', p', vt', h1, h2, h3, h4⟩ := hv
    have hst2 := hst.past hb
    have ho2 := own_pastZ ho hb
    refine h2.own ho2 fun j hj hbad => ?_
    rcases hbad with e1 | e1 | e1
    · exact own_blk_ne ho2 hst2.v.blk (by decide) (e1 ▸ hj)
    · exact own_blk_ne ho2 hst2.v.tab.blk (by decide) (e1 ▸ hj)
    · exact own_neZ ho2 hst2.v.tab.row (by decide) j e1 hj
  · obtain ⟨_, gb', vb', p', vt', h1, h2, h3, h4⟩ := hv
    have hst2 := hst.past hb
    have hx2 := hx.past hb
    refine h2.blk hx2 fun hbad => ?_
    rcases hbad with e1 | e1 | e1
    · exact blk_neZ hx2 hst2.v.blk (by decide) e1
    · exact blk_neZ hx2 hst2.v.tab.blk (by decide) e1
    · exact own_blk_ne hst2.v.tab.row hx2 (by decide) e1
theorem same_hp {M A : Nat} {bl : List Int} {S : List HRow} {room id : Int} {h : HoldV} (hi : TTbH.isT S id = true) : plcS M A bl S room id h = S := by
  unfold plcS
  split
  · rename_i hk
    have := (plcK_zero hk).2.2.2.1
    rw [hi] at this; cases this
  · rfl
theorem keep_place {M A : Nat} {bl : List Int} {S : List HRow} {L : List Ent} {room id : Int} {h : HoldV} (hi : KeepI M A bl S L) (hl : (S.length : Int) ≤ room) (h1 : (inI h.k ∧ inI h.m) ∧ inI h.a ∧ inI h.z) : KeepI M A bl (plcS M A bl S room id h) L ∧ ((plcS M A bl S room id h).length : Int) ≤ room := by
  unfold plcS
  split
  · rename_i hk
    refine ⟨⟨hi.inv, hi.hinv.place hk, fun r hr => ?_⟩, ?_⟩
    · rcases List.mem_cons.1 ((insT_permH S ⟨id, h⟩).mem_iff.1 hr) with rfl | hr
      · exact h1
      · exact hi.ok r hr
    · have := (plcK_zero hk).2.2.2.2.1
      rw [TTbH.insT_len]; omega
  · exact ⟨hi, hl⟩
theorem keep_rel {M A : Nat} {bl : List Int} {S : List HRow} {L : List Ent} {room id : Int} (hi : KeepI M A bl S L) (hl : (S.length : Int) ≤ room) : KeepI M A bl (relS S id) L ∧ ((relS S id).length : Int) ≤ room := by
  refine ⟨⟨hi.inv, hi.hinv.release id, fun r hr => ?_⟩, ?_⟩
  · unfold relS at hr
    split at hr
    · exact hi.ok r (mem_outT hr)
    · exact hi.ok r hr
  · unfold relS
    split
    · have h1 : (TTbH.outT S (TTbH.posT S id)).length ≤ S.length := by simp [TTbH.outT]; omega
      omega
    · exact hl
/-- What the law asks of each account. -/
theorem keep_acc {M A : Nat} {bl : List Int} {S : List HRow} {L : List Ent} (h : KeepI M A bl S L) {s : Spt} (hs : okP M A s = true) : 0 ≤ heldH S s ∧ (frB s = false → heldH S s ≤ bl.getD (ixS M s) 0) ∧ (frB s = true → heldH S s = 0) :=
  ⟨heldH_nonneg h.hinv.z s, h.hinv.le s hs, h.hinv.free⟩
theorem okP_acc {x : Acc} {j : Nat} (hx : x ∈ accs 3) (hj : j < 2) : okP 3 2 ⟨x.kind, x.member, (j : Int)⟩ = true := by
  have : ∀ x ∈ accs 3, (numA 3 x).2 = 0 := by decide
  rw [okP_iff]
  exact ⟨this x hx, by simp only; omega, by simp only; omega⟩
end Go.Proofs.Ytelbolhckhdioaa
