import Derived.Test.YtfnhffcjhdeleaaNetD
namespace Go.Proofs.Ytfnhffcjhdeleaa
open Go.RowKit Go.ChangeShapes

theorem sid_shape {key : Value} {kl : Lit} (h : keyOf Try.prog 160 key = some kl) : ∃ s : Sid, key = .agg #[.int .i64 s.m, .int .i64 s.a] ∧ inI s.m ∧ inI s.a :=
  sid_inv (e := 3) Try.underlying160 rfl rfl rfl rfl (by kernel_rfl) Try.underlying3 (by kernel_rfl) (of_decide_eq_true (by kernel_rfl)) h
/-- The step of the range over sides. -/
theorem wpList_next_sides {ops : Array Oper} {rest : List Oper} {o : Oper} {a : Act} {Q : Exit → Act → World → Prop} (w : World) (hg : o.guard = none) (it : Operand) (hop : o.op = Op.next it false) (R : Value → Option (DataW Unit × List MemPlace)) (b r n : Nat) (D : DataW Unit) (left : Lit → Bool) (cnt : Nat)
    (hit : a.eval it = .pointer (some ⟨r, 0, none⟩)) (h : w.ranges Try.prog 160 R b r n D left cnt)
    (hDone : cnt = 0 → (∀ kl, left kl = false) → wpList Try.prog ops Q rest (a.put o.dst (.tuple #[.bool false])) w)
    (hMore : ∀ (s : Sid) (c : Value) (kl : Lit) (w' : World) (cnt' : Nat), keyOf Try.prog 160 (sdv s) = some kl → inI s.m → inI s.a → left kl = true → w'.ranges Try.prog 160 R b r n D (fun z => left z && !z.sameKey kl) cnt' → cnt' < cnt →
      w.grownBy w' (some r) → w'.heap.size = w.heap.size → (Instr.entry (.pointer (some ⟨r, 0, none⟩))).run Try.prog w' = .ok (.tuple #[.agg #[.int .i64 s.m, .int .i64 s.a], c]) w' → wpList Try.prog ops Q rest (a.put o.dst (.tuple #[.bool true, .agg #[.int .i64 s.m, .int .i64 s.a], c])) w') :
    wpList Try.prog ops Q (o :: rest) a w :=
  wpList_next_ranges w hg it hop 160 sidLaw R sdv (fun v : Value => v) (fun key kl hk => by obtain ⟨s, hs, _⟩ := sid_shape hk; exact ⟨s, hs⟩) (fun v y _ => ⟨v, rfl⟩) b r n D left cnt hit h hDone
    (fun s c kl y w' cnt' hkey hlk _ _ hrg hlt hgr hsz hen => by
      obtain ⟨s', hs', h1, h2⟩ := sid_shape hkey
      have : s = s' := sdv_inj hs'
      subst this
      exact hMore s c kl w' cnt' hkey h1 h2 hlk hrg hlt hgr hsz hen)

set_option maxHeartbeats 8000000 in
set_option maxRecDepth 100000 in
theorem netOrder_any (b n base : Nat) (D : DataW Unit) (f : Sid → List Int) (w : World) (hown : w.ownsGroups Try.prog 160 base 2 .i64 b n D) (hD : GrpIs D f) (hn : n ≤ 1000) :
    Calls Try.prog 93 #[.map (some b)] w (OrdNet w f n) := by
  have hblt : b < w.heap.size := groups_lt hown
  obtain ⟨R, hR⟩ : ∃ R, Hid ((rowElem (H := Unit) w base 2 .i64) = R) := ⟨_, Lib.hid rfl⟩
  have hom : w.ownsMap Try.prog 160 R b n D := by
    obtain ⟨es, clock, hb0, F, hs, hDe, _⟩ := hown
    rw [hR.out] at F hDe
    exact ⟨es, clock, hb0, F, hs, hDe⟩
  have hsz : Maps.size D ≤ n := by
    obtain ⟨es, clock, hb0, F, hs, hDe⟩ := hom
    rw [hDe]
    simp [Maps.size, length_sorted]
    exact hs
  have HDD := Lib.hid hD
  have HOM := Lib.hid hom
  obtain ⟨i0, hi0, hz0, hz1, hz2⟩ := info_parts ksInfoN
  obtain ⟨j0, hj0, jz0, jz1, jz2⟩ := info_parts sidInfo
  clear hown hD hom
  go_enter Try.func93, Try.ntmps93
  go_wp2_with (at_range; refine wpList_range_own _ rfl _ 157 rfl 160 35 sidLaw Try.underlying157 R b n D rfl HOM.out ?_; intro w0 hrg0 hg0 hs0)
  go_frame
  have HO0 : Hid (OrdRel w R b n D (.slice none 0 0) (.slice none 0 0) [] [] w0) := Lib.hid ⟨⟨Maps.has D, Maps.size D, hrg0, by simpa using hsz, LeftRel.start D⟩, rfl, rfl, (fun v hv => by cases hv), World.ownsRow_nil _ _ _ _, World.ownsRow_nil _ _ _ _, (Below.refl w.heap.size w).grown hg0 (Nat.le_refl _) (fun j hj => by cases hj), by omega⟩
  clear hrg0 hg0
  go_loopw [3, 4, 11, 12] (fun v3 v4 _ _ wr => ∃ done kv, Hid (OrdRel w R b n D v3 v4 done kv wr)) (fun _ _ _ _ wr => wr.rangeLeft b w.heap.size)
  case atStart => exact ⟨[], [], HO0⟩
  case round =>
    obtain ⟨done, kv, HR⟩ := hrel
    obtain ⟨left, cnt, hrg, hcnt, hlr⟩ := HR.out.rg
    have HRG := Lib.hid hrg
    have HLR := Lib.hid hlr
    clear hrg hlr
    go_wp2_with (at_next; refine wpList_next_sides _ rfl _ rfl R b w.heap.size n D left cnt rfl HRG.out ?_ ?_)
    · intro hc0 hl0
      have HEX : Hid (∀ s : Sid, inI s.m → inI s.a → f s ≠ [] → s ∈ done) := Lib.hid fun s h1 h2 h3 => by
        obtain ⟨kl, hkl⟩ := sid_key s h1 h2
        refine HLR.out.all hl0 hkl ?_
        rw [(HDD.out.2 s kl hkl).1]
        cases hfs : f s with
        | nil => exact absurd hfs h3
        | cons => rfl
      have HIN : Hid (∀ s ∈ done, inI s.m ∧ inI s.a ∧ f s ≠ []) := Lib.hid fun s hs => by
        obtain ⟨h1, h2, kl, hkl, hh, _⟩ := HLR.out.2.1 s hs
        refine ⟨h1, h2, fun e => ?_⟩
        rw [(HDD.out.2 s kl hkl).1, e] at hh
        cases hh
      have HND := Lib.hid HLR.out.2.2.2
      obtain ⟨_, hlen, hkeys, hkb, hrow, hkrow, hb, hsz2⟩ := HR.out
      obtain ⟨m, hm⟩ : ∃ m, Hid (done.length = m) := ⟨_, Lib.hid rfl⟩
      have HM := hm
      rw [hm.out] at hlen hrow hkrow hcnt
      obtain ⟨A5, c5, rfl⟩ := own_form hrow
      obtain ⟨A7, c7, rfl⟩ := own_form hkrow
      have HO := Lib.hid (order_any A7 m c7 kv wr (Rd.of_own hkrow) hkb.keys (by omega))
      have HR5 := Lib.hid (Rd.of_own hrow)
      have HKS := Lib.hid hkeys
      have hs := hb.size
      clear hlen hkeys hkb hrow hkrow HR hl0 hc0 HRG HLR
      go_wp2_with fail
      refine HO.out.mono ?_
      rintro e w2 ⟨A2, c2, rfl, ho, hb2, _⟩
      rw [HKS.out] at ho
      have hbB := Below.past hb hb2 hs
      have HLO := Lib.hid (show (ordK (done.map Sid.key)).length = m by rw [ordK_len, List.length_map, hm.out])
      have hr2 := HR5.out.past hb2
      clear HO hb2 hb
      go_wp2_with fail
      go_loopw [6, 8, 30] (fun v _ i wz => ∃ k : Nat, k ≤ m ∧ i = .int .i64 k ∧ wz.ownsRow w2.heap.size 160 2 v k ((((ordK (done.map Sid.key)).take k).map fun i => done.getD i dS).flatMap Sid.cells) ∧ Below w2.heap.size w2 wz) (fun _ _ i _ => m - (intOf i).toNat)
      case atStart => exact ⟨0, Nat.zero_le _, rfl, World.ownsRow_nil _ _ _ _, Below.refl _ _⟩
      case round =>
        obtain ⟨k, hk, rfl, hown, hb⟩ := hrel
        have hs := hb.size
        by_cases hlt : k < m
        · have hlz : (k : Int) < (m : Int) := by omega
          obtain ⟨x, hxg⟩ : ∃ x, (ordK (done.map Sid.key))[k]? = some x := ⟨_, List.getElem?_eq_getElem (by rw [HLO.out]; exact hlt)⟩
          have hxn := ordK_mem.1 (List.mem_of_getElem? hxg)
          rw [List.length_map, hm.out] at hxn
          obtain ⟨b3, o3, rfl, hbb3, hc3⟩ := (ho.below hb).elem nC_len hxg hlt
          have x0 := hc3 0 _ rfl
          simp only [Nat.mul_one, Nat.add_zero] at x0
          have hxz : (x : Int) < (m : Int) := by omega
          have HT : Hid ((ordK (done.map Sid.key)).take (k + 1) = (ordK (done.map Sid.key)).take k ++ [x]) := Lib.hid (by rw [List.take_add_one, hxg]; rfl)
          have hg_f : done[x]? = some (done[x]'(by have := HM.out; omega)) := List.getElem?_eq_getElem _
          obtain ⟨b_f, off_f, rfl, hbb_f, hc_f⟩ := (hr2.below hb).elem Sid.cells_len hg_f hxn
          have HT_f := Lib.hid (show done.take (x + 1) = done.take x ++ [(done[x]'(by have := HM.out; omega))] from List.take_succ_eq_append_getElem (by have := HM.out; omega))
          have HM_f := Lib.hid (show (done[x]'(by have := HM.out; omega)) ∈ done from List.getElem_mem _)
          have HG_f := Lib.hid hg_f
          generalize (done[x]'(by have := HM.out; omega)) = f at *
          have c0 := hc_f 0 _ rfl
          have c1 := hc_f 1 _ rfl
          clear hc_f hg_f
          simp only [Nat.add_zero] at c0
          have HF : Hid (done.getD x dS = f) := Lib.hid (by simp [List.getD, HG_f.out])
          clear hc3 hxg
          go_wp2_with (at_builtin; refine wpList_append_lit _ _ rfl (.tmp 34) (.tmp 39) 161 rfl w2.heap.size 160 j0 _ 2 16 Try.underlying161 hj0 jz0 jz1 jz2 rfl (by decide) _ _ _ rfl hown _ 1 1 rfl (by first | rfl | simp) rfl (by simp [Value.oneCell']) (by omega) (by omega) (by omega) ?_; intro v' w' hown' hg'; have hbw := below_own (hb.alloc hs _) hg' hown (by simp; omega) (Nat.le_refl _))
          go_roundw
          case rel => exact ⟨k + 1, by omega, by go_num, by rw [HT.out, List.map_append, List.flatMap_append, List.map_cons, HF.out]; exact hown', hbw⟩
          case measure => simp [intOf]; omega
        · have hlz : ¬ (k : Int) < (m : Int) := by omega
          obtain rfl : m = k := by omega
          rw [List.take_of_length_le (by rw [HLO.out]; exact Nat.le_refl _)] at hown
          have hs2 := hbB.size
          have HOW : Hid (wr.ownsRow w.heap.size 160 2 _ _ _) := Lib.hid (own_mono' hown (show w.heap.size ≤ w2.heap.size by omega))
          have hbz := Below.past hbB hb hs2
          clear hown
          go_wp2_with fail
          go_ret
          exact ⟨_, done, rfl, by rw [hm.out]; exact HOW.out, by rw [hm.out]; omega, HND.out, HIN.out, HEX.out, hbz⟩
    · intro s c kl w1 cnt1 hkey hi1 hi2 hlk hrg1 hlt hg1 hs1 hen
      have HKY := Lib.hid hkey
      have HLK := Lib.hid hlk
      have HRG1 := Lib.hid hrg1
      have hr0 : ∀ {v : Value} {t : TypeId} {sz m : Nat} {xs : List Value}, wr.ownsRow (w.heap.size + 1) t sz v m xs → v.ownBlock ≠ some w.heap.size := fun h e => by have := (h.lt _ e).1; omega
      have hBw1 : Below w.heap.size w w1 := HR.out.below.grown hg1 (by have := HR.out.size; omega) (fun j hj => by cases hj; exact Nat.le_refl _)
      have HRA1 := Lib.hid (HR.out.row.kept hg1 (.inr (hr0 HR.out.row)))
      have HKA1 := Lib.hid (HR.out.krow.kept hg1 (.inr (hr0 HR.out.krow)))
      have HBA1 : Hid (KBlkN w1 (w.heap.size + 1) kv) := Lib.hid fun v hv => by
        obtain ⟨g, h1, hA, hbk, hl⟩ := HR.out.blk v hv
        exact ⟨g, h1, hA, hbk.grown hg1 (fun e => by cases e; omega), hl⟩
      have HLN := Lib.hid HR.out.len
      have HKS := Lib.hid HR.out.keys
      have hsz1 : w.heap.size + 1 ≤ w1.heap.size := by have := HR.out.size; omega
      clear hs1
      have hbo := (Below.refl w1.heap.size w1).alloc (Nat.le_refl _) (.cells #[.int .i64 s.m, .int .i64 s.a] 160)
      have HBO := Lib.hid hbo
      have HB1 := Lib.hid hBw1
      have HRA := Lib.hid (own_past' HRA1.out hbo)
      have HKA := Lib.hid (own_past' HKA1.out hbo)
      have HBA := Lib.hid (HBA1.out.past hbo)
      have HRGW := Lib.hid (HRG1.out.alloc (.cells #[.int .i64 s.m, .int .i64 s.a] 160))
      have HBX := Lib.hid (Blk.new w1 160 #[.int .i64 s.m, .int .i64 s.a] w1.heap.size rfl)
      obtain ⟨m, hm⟩ : ∃ m, Hid (done.length = m) := ⟨_, Lib.hid rfl⟩
      rw [hm.out] at HRA HKA HLN hcnt
      have HNX : Hid (u3.ownBlock ≠ some w1.heap.size) := Lib.hid fun e => by have := (HRA1.out.lt _ e).2; omega
      clear hkey hlk hrg1 hg1 hr0 hBw1 hbo HR HRA1 HKA1 HBA1
      obtain ⟨W, hW⟩ : ∃ W, Hid (w1.alloc (.cells #[.int .i64 s.m, .int .i64 s.a] 160) = W) := ⟨_, Lib.hid rfl⟩
      rw [hW.out] at HBX HRA HKA HBA HBO HRGW
      have hsW := HBO.out.size
      have a0 := HBX.out.cell 0
      have a1 := HBX.out.cell 1
      simp at a0 a1
      go_upto_region 6 with fail
      rw [hW.out]
      go_wp2_with (at_builtin; first
          | (refine wpList_append_lit _ _ rfl (.tmp 15) (.tmp 17) 161 rfl (w.heap.size + 1) 160 j0 _ 2 16 Try.underlying161 hj0 jz0 jz1 jz2 rfl (by decide) _ _ _ rfl HRA.out _ 1 1 rfl (by first | rfl | simp) rfl (by simp [Value.oneCell']) (by omega) (by omega) (by omega) ?_; intro v' w' hown' hg'; have HO1 := Lib.hid hown'; have HG1 := Lib.hid hg'; have HX1 : Hid (Blk w' w1.heap.size 160 #[.int .i64 s.m, .int .i64 s.a]) := Lib.hid (Blk.grown (HBX.out.alloc _) hg' HNX.out); clear hown' hg'; have t0 := HX1.out.cell 0; have t1 := HX1.out.cell 1; simp at t0 t1; have HK1 : Hid (w'.ownsRow (w.heap.size + 1) 35 1 u4 m (kv.flatMap KeyV.cells)) := Lib.hid (World.ownsRow.kept (HKA.out.alloc _) HG1.out (own_ne HKA.out HRA.out (by decide))); have HB2 : Hid (KBlkN w' (w.heap.size + 1) kv) := Lib.hid ((HBA.out.past ((Below.refl _ _).alloc (Nat.le_refl _) (.cells #[.int .i64 s.m, .int .i64 s.a] 160))).grown HG1.out (fun g' cs hb' => own_blk_ne (HRA.out.alloc _) hb' (by decide))); have HBW1 : Hid (Below w.heap.size w w') := Lib.hid (below_own ((Below.past HB1.out HBO.out (by omega)).alloc (by omega) _) HG1.out HRA.out (by simp; omega) (Nat.le_succ _)); have hs2 := HG1.out.size; simp at hs2; have HRG2 := Lib.hid (range_grown (HRGW.out.alloc (.cells #[.int .i64 s.m, .int .i64 s.a] 160)) HG1.out (fun j hj => by have := (HRA.out.lt j hj).1; omega)))
          | (refine wpList_append_lit _ _ rfl (.tmp 19) (.tmp 25) 176 rfl (w.heap.size + 1) 35 i0 _ 1 24 Try.underlying176 hi0 hz0 hz1 hz2 rfl (by decide) _ _ _ rfl (HK1.out.alloc (.cells #[.int .i64 s.m, .int .i64 s.a] 2)) _ 1 1 rfl (by first | rfl | simp) rfl (by simp [Value.oneCell']) (by omega) (by omega) (by simp; omega) ?_; intro v2 w2 hown2 hg2; have HO2 := Lib.hid hown2; have HG2 := Lib.hid hg2; clear hown2 hg2))
      have hg2 := HG2.out
      have hRG3 := range_grown ((HRG2.out.alloc (.cells #[.int .i64 s.m, .int .i64 s.a] 2)).alloc (.cells #[.slice (some ⟨w'.heap.size, 0, none⟩) 2 2] 35)) hg2 (fun j hj => by have := (HK1.out.lt j hj).1; omega)
      have HREL : Hid (OrdRel w R b n D v' v2 (done ++ [s]) (kv ++ [⟨some ⟨w'.heap.size, 0, none⟩, 2, s.key⟩]) w2) := by
        have hBK := (Blk.new w' 2 #[.int .i64 s.m, .int .i64 s.a] w'.heap.size rfl).alloc (.cells #[.slice (some ⟨w'.heap.size, 0, none⟩) 2 2] 35)
        have hne : ∀ g' cs, Blk ((w'.alloc (.cells #[.int .i64 s.m, .int .i64 s.a] 2)).alloc (.cells #[.slice (some ⟨w'.heap.size, 0, none⟩) 2 2] 35)) g' 2 cs → u4.ownBlock ≠ some g' := fun g' cs hb' => own_blk_ne ((HK1.out.alloc _).alloc _) hb' (by decide)
        refine Lib.hid ⟨⟨_, cnt1, hRG3, by rw [List.length_append, hm.out]; simp; omega, HLR.out.step HKY.out HLK.out hi1 hi2⟩, by rw [List.length_append, List.length_append, HLN.out, hm.out]; rfl, ?_, ?_, ?_, ?_, ?_, ?_⟩
        · rw [List.map_append, ← HKS.out]; simp [keysOf]
        · intro v hv
          rcases List.mem_append.1 hv with hv | hv
          · exact ((HB2.out.past (((Below.refl _ _).alloc (Nat.le_refl _) (.cells #[.int .i64 s.m, .int .i64 s.a] 2)).alloc (by simp) (.cells #[.slice (some ⟨w'.heap.size, 0, none⟩) 2 2] 35))).grown hg2 hne) v hv
          · rw [List.mem_singleton.1 hv]
            exact ⟨w'.heap.size, by omega, rfl, hBK.grown hg2 (hne _ _ hBK), by simp [Sid.key]⟩
        · rw [List.length_append, hm.out, List.flatMap_append]
          exact World.ownsRow.kept ((HO1.out.alloc _).alloc _) hg2 (own_ne HO1.out HK1.out (by decide))
        · rw [List.length_append, hm.out, List.flatMap_append]
          simpa [KeyV.cells, KeyV.val, Sid.key] using HO2.out
        · exact below_own ((HBW1.out.alloc (by omega) _).alloc (by simp; omega) _) hg2 (HK1.out.alloc (.cells #[.int .i64 s.m, .int .i64 s.a] 2)) (by simp; omega) (Nat.le_succ _)
        · have := hg2.size; simp at this; omega
      have HLE := Lib.hid (show w2.rangeLeft b w.heap.size < wr.rangeLeft b w.heap.size by rw [hRG3.left_eq, HRG.out.left_eq]; exact hlt)
      clear hRG3 hg2
      go_wp2_with fail
      go_roundw
      case rel => exact ⟨_, _, HREL⟩
      case measure => exact HLE.out
end Go.Proofs.Ytfnhffcjhdeleaa
