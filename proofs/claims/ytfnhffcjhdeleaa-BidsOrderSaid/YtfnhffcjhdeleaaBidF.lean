import Derived.Test.YtfnhffcjhdeleaaBidE
namespace Go.Proofs.Ytfnhffcjhdeleaa
open Go.RowKit

theorem ksInfoB : (Try.prog.info? 35).map (fun i => (i.zero, i.size, i.bytes)) = some (some (.slice none 0 0), 1, 24) := by kernel_rfl

set_option maxHeartbeats 8000000 in
set_option maxRecDepth 100000 in
theorem secB_any (g base : Nat) (B1 : Option Addr) (n1 d1 : Nat) (B2 : Option Addr) (n2 d2 : Nat) (B3 : Option Addr) (n3 d3 : Nat) (cf : Conf) (v : Value) (l : List BidV) (sec : Int) (w : World) (hx : BoxV w g base B1 n1 d1 B2 n2 d2 B3 n3 d3 cf v l) (hl : l.length ≤ 1000) :
    Calls Try.prog 58 #[.pointer (some ⟨g, 0, none⟩), .int .i64 sec] w fun e w' => ∃ v, e = .returned v ∧ w'.ownsRow w.heap.size 103 5 v (l.filter (secF sec)).length ((sortB (l.filter (secF sec))).flatMap BidV.cells) ∧ Below w.heap.size w w' := by
  have HA := Lib.hid (allB_any g base B1 n1 d1 B2 n2 d2 B3 n3 d3 cf v l w hx hl)
  obtain ⟨n, hn⟩ : ∃ n, Hid (l.length = n) := ⟨_, Lib.hid rfl⟩
  rw [hn.out] at HA hl
  obtain ⟨i0, hi0, hz0, hz1, hz2⟩ := info_parts ksInfoB
  obtain ⟨j0, hj0, jz0, jz1, jz2⟩ := info_parts bidInfo
  clear hx
  go_enter Try.func58, Try.ntmps58
  go_wp2_with fail
  refine HA.out.mono ?_
  rintro e w1 ⟨va, rfl, hova, hb1⟩
  obtain ⟨A0, c0, rfl⟩ := own_form hova
  have hrd := Rd.of_own hova
  have hs1 := hb1.size
  have HL := hn
  clear hova HA
  go_wp2_with fail
  go_loopw [5, 7, 9, 15] (fun v5 v7 _ i wr => ∃ (k : Nat) (kv : List KeyV), k ≤ n ∧ i = .int .i64 k ∧ Hid (SecRel w1 sec l k v5 v7 kv wr)) (fun _ _ _ i _ => n - (intOf i).toNat)
  case atStart => exact ⟨0, [], Nat.zero_le _, rfl, Lib.hid ⟨rfl, rfl, (fun v hv => by cases hv), World.ownsRow_nil _ _ _ _, World.ownsRow_nil _ _ _ _, Below.refl _ _⟩⟩
  case round =>
    obtain ⟨k, kv, hk, rfl, HR⟩ := hrel
    by_cases hlt : k < n
    · skip
      have hlz : (k : Int) < (n : Int) := by omega
      have hb := HR.out.below
      have hs := hb.size
      have hg_f : l[k]? = some (l[k]'(by have := HL.out; omega)) := List.getElem?_eq_getElem _
      obtain ⟨b_f, off_f, rfl, hbb_f, hc_f⟩ := (hrd.below hb).elem BidV.cells_len hg_f hlt
      have HT_f := Lib.hid (show l.take (k + 1) = l.take k ++ [(l[k]'(by have := HL.out; omega))] from List.take_succ_eq_append_getElem (by have := HL.out; omega))
      have HM_f := Lib.hid (show (l[k]'(by have := HL.out; omega)) ∈ l from List.getElem_mem _)
      generalize (l[k]'(by have := HL.out; omega)) = f at *
      have c0 := hc_f 0 _ rfl
      have c1 := hc_f 1 _ rfl
      have c2 := hc_f 2 _ rfl
      have c3 := hc_f 3 _ rfl
      have c4 := hc_f 4 _ rfl
      clear hc_f hg_f
      simp only [Nat.add_zero] at c0
      obtain ⟨m, hm⟩ : ∃ m, Hid (((l.take k).filter (secF sec)).length = m) := ⟨_, Lib.hid rfl⟩
      have hmk : m ≤ 1000 := by
        have : ((l.take k).filter (secF sec)).length ≤ k := Nat.le_trans (List.length_filter_le _ _) (by rw [List.length_take]; exact Nat.min_le_left _ _)
        rw [hm.out] at this; omega
      have hbo := (Below.refl wr.heap.size wr).alloc (Nat.le_refl _) (.cells #[.int .i64 f.seq, .int .i64 f.mem, .int .i64 f.sec, .int .i64 f.qty, .int .i64 f.price] 103)
      have HBO := Lib.hid hbo
      have HB := Lib.hid hb
      have HRA := Lib.hid (own_past' HR.out.row hbo)
      have HKA := Lib.hid (own_past' HR.out.krow hbo)
      have HBA := Lib.hid (HR.out.blk.past hbo)
      have HNX : Hid (u5.ownBlock ≠ some wr.heap.size) := Lib.hid fun e => by have := (HR.out.row.lt _ e).2; omega
      have HLE := Lib.hid HR.out.len
      have HKE := Lib.hid HR.out.keys
      rw [hm.out] at HRA HKA HLE
      clear hb hbo HR
      by_cases hsec : f.sec = sec
      · have q1 : (f.sec == sec) = true := by simpa using hsec
        have HF := Lib.hid (filtB_yes HT_f.out (show secF sec f = true from q1))
        have bX := Blk.new wr 103 #[.int .i64 f.seq, .int .i64 f.mem, .int .i64 f.sec, .int .i64 f.qty, .int .i64 f.price] wr.heap.size rfl
        clear hsec
        have HBX := Lib.hid bX
        clear bX
        obtain ⟨W, hW⟩ : ∃ W, Hid (wr.alloc (.cells #[.int .i64 f.seq, .int .i64 f.mem, .int .i64 f.sec, .int .i64 f.qty, .int .i64 f.price] 103) = W) := ⟨_, Lib.hid rfl⟩
        rw [hW.out] at HBX HRA HKA HBA HBO
        have hsW := HBO.out.size
        have a0 := HBX.out.cell 0
        have a1 := HBX.out.cell 1
        have a2 := HBX.out.cell 2
        have a3 := HBX.out.cell 3
        have a4 := HBX.out.cell 4
        simp at a0 a1 a2 a3 a4
        go_upto_region 7 with fail
        rw [hW.out]
        go_wp2_with (at_builtin; first
          | (refine wpList_append_lit _ _ rfl (.tmp 23) (.tmp 25) 99 rfl w1.heap.size 103 j0 _ 5 40 Try.underlying99 hj0 jz0 jz1 jz2 rfl (by decide) _ _ _ rfl HRA.out _ 1 1 rfl (by first | rfl | simp) rfl (by simp [Value.oneCell']) (by omega) (by omega) (by omega) ?_; intro v' w' hown' hg'; have HO1 := Lib.hid hown'; have HG1 := Lib.hid hg'; have HX1 : Hid (Blk w' wr.heap.size 103 #[.int .i64 f.seq, .int .i64 f.mem, .int .i64 f.sec, .int .i64 f.qty, .int .i64 f.price]) := Lib.hid (Blk.grown (HBX.out.alloc _) hg' HNX.out); clear hown' hg'; have t0 := HX1.out.cell 0; have t1 := HX1.out.cell 1; have t2 := HX1.out.cell 2; have t3 := HX1.out.cell 3; have t4 := HX1.out.cell 4; simp at t0 t1 t2 t3 t4; have HK1 : Hid (w'.ownsRow w1.heap.size 35 1 u7 m (kv.flatMap KeyV.cells)) := Lib.hid (World.ownsRow.kept (HKA.out.alloc _) HG1.out (own_ne HKA.out HRA.out (by decide))); have HB1 : Hid (KBlkB w' w1.heap.size kv) := Lib.hid ((HBA.out.past ((Below.refl _ _).alloc (Nat.le_refl _) (.cells #[.int .i64 f.seq, .int .i64 f.mem, .int .i64 f.sec, .int .i64 f.qty, .int .i64 f.price] 103))).grown HG1.out (fun g' cs hb' => own_blk_ne (HRA.out.alloc _) hb' (by decide))); have HBW1 : Hid (Below w1.heap.size w1 w') := Lib.hid (below_own ((Below.past HB.out HBO.out hs).alloc (by omega) _) HG1.out HRA.out (by simp; omega) (Nat.le_refl _)); have hs2 := HBW1.out.size)
          | (refine wpList_append_lit _ _ rfl (.tmp 27) (.tmp 33) 176 rfl w1.heap.size 35 i0 _ 1 24 Try.underlying176 hi0 hz0 hz1 hz2 rfl (by decide) _ _ _ rfl (HK1.out.alloc (.cells #[.int .i64 f.price, .int .i64 f.seq] 2)) _ 1 1 rfl (by first | rfl | simp) rfl (by simp [Value.oneCell']) (by omega) (by omega) (by simp; omega) ?_; intro v2 w2 hown2 hg2; have HO2 := Lib.hid hown2; have HG2 := Lib.hid hg2; clear hown2 hg2))
        have HREL : Hid (SecRel w1 sec l (k + 1) v' v2 (kv ++ [⟨some ⟨w'.heap.size, 0, none⟩, 2, f.key⟩]) w2) := by
          have hg2 := HG2.out
          have hBK := (Blk.new w' 2 #[.int .i64 f.price, .int .i64 f.seq] w'.heap.size rfl).alloc (.cells #[.slice (some ⟨w'.heap.size, 0, none⟩) 2 2] 35)
          have hne : ∀ g' cs, Blk ((w'.alloc (.cells #[.int .i64 f.price, .int .i64 f.seq] 2)).alloc (.cells #[.slice (some ⟨w'.heap.size, 0, none⟩) 2 2] 35)) g' 2 cs → u7.ownBlock ≠ some g' := fun g' cs hb' => own_blk_ne ((HK1.out.alloc _).alloc _) hb' (by decide)
          refine Lib.hid ⟨by rw [HF.out, List.length_append, List.length_append, HLE.out, hm.out]; rfl, ?_, ?_, ?_, ?_, ?_⟩
          · rw [HF.out, List.map_append, ← HKE.out]; simp [keysOf]
          · intro v hv
            rcases List.mem_append.1 hv with hv | hv
            · exact ((HB1.out.past (((Below.refl _ _).alloc (Nat.le_refl _) (.cells #[.int .i64 f.price, .int .i64 f.seq] 2)).alloc (by simp) (.cells #[.slice (some ⟨w'.heap.size, 0, none⟩) 2 2] 35))).grown hg2 hne) v hv
            · rw [List.mem_singleton.1 hv]
              exact ⟨w'.heap.size, hs2, rfl, hBK.grown hg2 (hne _ _ hBK), by simp [BidV.key]⟩
          · rw [HF.out, List.length_append, hm.out, List.flatMap_append]
            exact World.ownsRow.kept ((HO1.out.alloc _).alloc _) hg2 (own_ne HO1.out HK1.out (by decide))
          · rw [HF.out, List.length_append, hm.out, List.flatMap_append]
            simpa [KeyV.cells, KeyV.val, BidV.key] using HO2.out
          · exact below_own ((HBW1.out.alloc hs2 _).alloc (by simp; omega) _) hg2 (HK1.out.alloc (.cells #[.int .i64 f.price, .int .i64 f.seq] 2)) (by simp; omega) (Nat.le_refl _)
        go_wp2_with fail
        go_roundw
        case rel => exact ⟨k + 1, _, by omega, by go_num, HREL⟩
        case measure => simp [intOf]; omega
      · have q1 : (f.sec == sec) = false := by simpa using hsec
        have HF := Lib.hid (filtB_no HT_f.out (show secF sec f = false from q1))
        have HN : Hid (SecRel w1 sec l (k + 1) u5 u7 kv (wr.alloc (.cells #[.int .i64 f.seq, .int .i64 f.mem, .int .i64 f.sec, .int .i64 f.qty, .int .i64 f.price] 103))) :=
          Lib.hid ⟨by rw [HF.out, hm.out]; exact HLE.out, by rw [HF.out]; exact HKE.out, HBA.out, by rw [HF.out, hm.out]; exact HRA.out, by rw [HF.out, hm.out]; exact HKA.out, Below.past HB.out HBO.out hs⟩
        clear hsec
        go_wp2_with fail
        go_roundw
        case rel => exact ⟨k + 1, kv, by omega, by go_num, HN⟩
        case measure => simp [intOf]; omega
    · have hlz : ¬ (k : Int) < (n : Int) := by omega
      obtain rfl : n = k := by omega
      have hrel := HR.out
      have hT : l.take n = l := List.take_of_length_le (by rw [hn.out]; exact Nat.le_refl _)
      obtain ⟨hlen, hkeys, hkb, hrow, hkrow, hb⟩ := hrel
      rw [hT] at hlen hkeys hrow hkrow
      have hfl : (l.filter (secF sec)).length ≤ 1000 := Nat.le_trans (List.length_filter_le _ _) (by rw [hn.out]; exact hl)
      obtain ⟨fl, hfE⟩ : ∃ fl, Hid (l.filter (secF sec) = fl) := ⟨_, Lib.hid rfl⟩
      rw [hfE.out] at hlen hkeys hrow hkrow hfl
      obtain ⟨m, hm⟩ : ∃ m, Hid (fl.length = m) := ⟨_, Lib.hid rfl⟩
      have HM := hm
      rw [hm.out] at hlen hrow hkrow hfl
      obtain ⟨A5, c5, rfl⟩ := own_form hrow
      obtain ⟨A7, c7, rfl⟩ := own_form hkrow
      have HO := Lib.hid (order_any A7 m c7 kv wr (Rd.of_own hkrow) hkb.keys (by omega))
      have HR5 := Lib.hid (Rd.of_own hrow)
      have HKS := Lib.hid hkeys
      have hs := hb.size
      clear hlen hkeys hkb hrow hkrow HR hT
      go_wp2_with fail
      refine HO.out.mono ?_
      rintro e w2 ⟨A2, c2, rfl, ho, hb2, _⟩
      rw [HKS.out] at ho
      have hbB := Below.past hb hb2 hs
      have HLO := Lib.hid (show (ordK (fl.map BidV.key)).length = m by rw [ordK_len, List.length_map, hm.out])
      have hr2 := HR5.out.past hb2
      clear HO hb2 hb
      go_wp2_with fail
      go_loopw [6, 11, 39] (fun v _ i wz => ∃ k : Nat, k ≤ m ∧ i = .int .i64 k ∧ wz.ownsRow w2.heap.size 103 5 v k ((((ordK (fl.map BidV.key)).take k).map fun i => fl.getD i dB).flatMap BidV.cells) ∧ Below w2.heap.size w2 wz) (fun _ _ i _ => m - (intOf i).toNat)
      case atStart => exact ⟨0, Nat.zero_le _, rfl, World.ownsRow_nil _ _ _ _, Below.refl _ _⟩
      case round =>
        obtain ⟨k, hk, rfl, hown, hb⟩ := hrel
        have hs := hb.size
        by_cases hlt : k < m
        · have hlz : (k : Int) < (m : Int) := by omega
          obtain ⟨x, hxg⟩ : ∃ x, (ordK (fl.map BidV.key))[k]? = some x := ⟨_, List.getElem?_eq_getElem (by rw [HLO.out]; exact hlt)⟩
          have hxn := ordK_mem.1 (List.mem_of_getElem? hxg)
          rw [List.length_map, hm.out] at hxn
          obtain ⟨b3, o3, rfl, hbb3, hc3⟩ := (ho.below hb).elem nC_len hxg hlt
          have x0 := hc3 0 _ rfl
          simp only [Nat.mul_one, Nat.add_zero] at x0
          have hxz : (x : Int) < (m : Int) := by omega
          have HT : Hid ((ordK (fl.map BidV.key)).take (k + 1) = (ordK (fl.map BidV.key)).take k ++ [x]) := Lib.hid (by rw [List.take_add_one, hxg]; rfl)
          have hg_f : fl[x]? = some (fl[x]'(by have := HM.out; omega)) := List.getElem?_eq_getElem _
          obtain ⟨b_f, off_f, rfl, hbb_f, hc_f⟩ := (hr2.below hb).elem BidV.cells_len hg_f hxn
          have HT_f := Lib.hid (show fl.take (x + 1) = fl.take x ++ [(fl[x]'(by have := HM.out; omega))] from List.take_succ_eq_append_getElem (by have := HM.out; omega))
          have HM_f := Lib.hid (show (fl[x]'(by have := HM.out; omega)) ∈ fl from List.getElem_mem _)
          have HG_f := Lib.hid hg_f
          generalize (fl[x]'(by have := HM.out; omega)) = f at *
          have c0 := hc_f 0 _ rfl
          have c1 := hc_f 1 _ rfl
          have c2 := hc_f 2 _ rfl
          have c3 := hc_f 3 _ rfl
          have c4 := hc_f 4 _ rfl
          clear hc_f hg_f
          simp only [Nat.add_zero] at c0
          have HF : Hid (fl.getD x dB = f) := Lib.hid (by simp [List.getD, HG_f.out])
          clear hc3 hxg
          go_wp2_with (at_builtin; refine wpList_append_lit _ _ rfl (.tmp 43) (.tmp 48) 99 rfl w2.heap.size 103 j0 _ 5 40 Try.underlying99 hj0 jz0 jz1 jz2 rfl (by decide) _ _ _ rfl hown _ 1 1 rfl (by first | rfl | simp) rfl (by simp [Value.oneCell']) (by omega) (by omega) (by omega) ?_; intro v' w' hown' hg'; have hbw := below_own (hb.alloc hs _) hg' hown (by simp; omega) (Nat.le_refl _))
          go_roundw
          case rel => exact ⟨k + 1, by omega, by go_num, by rw [HT.out, List.map_append, List.flatMap_append, List.map_cons, HF.out]; exact hown', hbw⟩
          case measure => simp [intOf]; omega
        · have hlz : ¬ (k : Int) < (m : Int) := by omega
          obtain rfl : m = k := by omega
          rw [List.take_of_length_le (by rw [HLO.out]; exact Nat.le_refl _)] at hown
          have hb1' := Below.past hb1 hbB hb1.size
          have hs2 := hbB.size
          have HOW : Hid (wr.ownsRow w.heap.size 103 5 _ _ _) := Lib.hid (own_mono' hown (show w.heap.size ≤ w2.heap.size by omega))
          have hbz := Below.past hb1' hb hb1'.size
          clear hown
          go_wp2_with fail
          go_ret
          exact ⟨_, rfl, by rw [hfE.out, hm.out]; exact HOW.out, hbz⟩
end Go.Proofs.Ytfnhffcjhdeleaa
