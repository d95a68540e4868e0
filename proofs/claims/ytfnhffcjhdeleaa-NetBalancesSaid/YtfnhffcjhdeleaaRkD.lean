import Derived.Test.YtfnhffcjhdeleaaRkC
namespace Go.Proofs.Ytfnhffcjhdeleaa
open Go.RowKit Go.Lib Go.Sort Go.Proofs

set_option maxHeartbeats 4000000 in
set_option maxRecDepth 1000000 in
theorem symMerge_right (enc : Nat → Value) (cf : Nat → Nat → Int) (g : Nat) (cb : Array Value) (blk off cap a m N : Nat) (d0 d : Array Nat) (w : World) (q : Nat) (lt : Nat → Nat → Prop) (T : Told enc cf g cb blk off N d0 w lt) (h1 : d.size = N) (b : Nat) (hm : b = m + 1) (h2 : ¬ m = a + 1) (hp : Pre lt d a m b) :
    Calls Try.prog 162 #[.slice (some ⟨blk, off, none⟩) N cap, .int .i64 a, .int .i64 m, .int .i64 b, .func (.func g) #[] cb] ((putRow enc w blk off d).drewN q) (SrtPost enc w blk off (Merged lt d a b)) := by
  have hcl0 := T.hO.cells
  simp only [Value.cells] at hcl0
  have hst := T.hO.store Try.prog
  have eg := T.eg
  have hsz := T.hsz
  have HM := Lib.hid hm
  have e1 : (b : Int) - (m : Int) = 1 := by omega
  have b1 : ((m : Int) - (a : Int) == 1) = false := by have := hp.am; simp; omega
  have ham := hp.am
  have hmb := hp.mb
  have hbN : b ≤ N := by have := hp.sz; omega
  have H1 := Lib.hid h1
  have HP := Lib.hid hp
  have HT := Lib.hid T
  clear hm h1 hp T h2
  obtain ⟨wq, hwq⟩ : ∃ wq, Hid (wq = (putRow enc w blk off d).drewN q) := ⟨_, Lib.hid rfl⟩
  rw [← hwq.out]
  go_enter Try.func162, Try.ntmps162
  go_wp2_with fail
  go_loopg [14, 15] (m - a) (fun gg vi vj wr => ∃ (i j p : Nat), vi = .int .i64 i ∧ vj = .int .i64 j ∧ a ≤ i ∧ i ≤ j ∧ j ≤ m ∧ j - i ≤ gg ∧ Hid (wr = (putRow enc w blk off d).drewN p) ∧ Hid (Bis (fun h => ¬ lt d[m]! d[h]!) a m i j))
  case atStart => exact ⟨a, m, q, rfl, rfl, Nat.le_refl _, by omega, Nat.le_refl _, Nat.le_refl _, hwq, Bis.start (by omega)⟩
  case round =>
    clear e1 b1
    obtain ⟨i, j, p, rfl, rfl, hmi, hij, hjb, hg, HW, HBi⟩ := hrel
    by_cases hlt : i < j
    · have hltz : (i : Int) < (j : Int) := by omega
      obtain ⟨h, hh⟩ : ∃ h : Nat, Hid (h = (i + j) / 2) := ⟨_, Lib.hid rfl⟩
      have e2 : ((i : Int) + (j : Int)) / 2 = (h : Int) := by have := hh.out; omega
      have hih : i ≤ h := by have := hh.out; omega
      have hhj : h < j := by have := hh.out; omega
      obtain ⟨xh, hxh⟩ : ∃ x, Hid (d[h]! = x) := ⟨_, Lib.hid rfl⟩
      obtain ⟨xa, hxa⟩ : ∃ x, Hid (d[m]! = x) := ⟨_, Lib.hid rfl⟩
      have hHd := holds_on enc w blk off d0 d p HT.out.hH (by rw [H1.out, HT.out.h0])
      obtain ⟨ch, fh⟩ := hHd h (by have := H1.out; omega)
      obtain ⟨ca, fa⟩ := hHd m (by have := H1.out; have := HM.out; omega)
      rw [hxh.out] at ch
      rw [hxa.out] at ca
      have hc := HT.out.cmp d H1.out xa xh p
      rw [← HW.out] at ch fh ca fa hc
      clear hHd
      have z1 : (h : Int) < (N : Int) := by omega
      have z2 : (m : Int) < (N : Int) := by have := HM.out; omega
      have hpl : xh < xa := by
        rw [← hxa.out, ← hxh.out]
        exact HP.out.ne h m (by omega) (by omega) (Nat.le_refl _) (by have := HM.out; omega)
      have HL := Lib.hid (HT.out.HB xh xa hpl)
      by_cases hlv : cf xa xh < 0
      · have HLT : Hid (lt d[m]! d[h]!) := Lib.hid (by rw [hxa.out, hxh.out]; exact HL.out.1 (by simpa using hlv))
        go_wp2_with fail
        go_quiet (first | (go_at_fn g; refine Calls.quiet_of (hc _)))
        go_wp2_with fail
        go_roundg (h - i)
        case measure => omega
        case rel => exact ⟨i, h, p + nq, rfl, by go_num, by omega, by omega, by omega, Nat.le_refl _, Lib.hid (by rw [HW.out, World.drewN_drewN]), HBi.out.down hih hhj (fun hn => hn HLT.out)⟩
      · have HLT : Hid (¬ lt d[m]! d[h]!) := Lib.hid (by rw [hxa.out, hxh.out]; exact fun hl => hlv (by simpa using HL.out.2 hl))
        have b2 : decide (cf xa xh < 0) = false := by simpa using hlv
        have b3 : (!decide (cf xa xh < 0)) = true := by simpa using hlv
        go_wp2_with fail
        go_quiet (first | (go_at_fn g; refine Calls.quiet_of (hc _)))
        go_wp2_with fail
        go_roundg (j - (h + 1))
        case measure => omega
        case rel => exact ⟨h + 1, j, p + nq, by go_num, rfl, by omega, by omega, hjb, Nat.le_refl _, Lib.hid (by rw [HW.out, World.drewN_drewN]), HBi.out.up hih hhj HLT.out⟩
    · have hltz : ¬ (i : Int) < (j : Int) := by omega
      obtain rfl : j = i := by omega
      go_wp2_with fail
      go_loopg [17] (m - j) (fun gg vk wr => ∃ (k p : Nat) (dk : Array Nat), vk = .int .i64 k ∧ j ≤ k ∧ k ≤ m ∧ k - j ≤ gg ∧ Hid (dk.size = N) ∧ Hid (wr = (putRow enc w blk off dk).drewN p) ∧ Hid (Sh (rotI k m (m + 1)) d dk))
      case atStart => exact ⟨m, p, d, rfl, hjb, Nat.le_refl _, Nat.le_refl _, H1, HW, Sh.rot_none' d⟩
      case round =>
        clear HW
        obtain ⟨k, p, dk, rfl, hak, hkj, hg, HD, HW, HSh⟩ := hrel
        by_cases hlt2 : j < k
        · obtain ⟨y, hy⟩ : ∃ y : Nat, Hid (y = k - 1) := ⟨_, Lib.hid rfl⟩
          have e3 : (k : Int) - 1 = (y : Int) := by have := hy.out; omega
          have hlz2 : (j : Int) < (k : Int) := by omega
          obtain ⟨xa, hxa⟩ : ∃ u, Hid (dk[k]! = u) := ⟨_, Lib.hid rfl⟩
          obtain ⟨xb, hxb⟩ : ∃ u, Hid (dk[y]! = u) := ⟨_, Lib.hid rfl⟩
          have hHi := holds_on enc w blk off d0 dk p HT.out.hH (by rw [HD.out, HT.out.h0])
          obtain ⟨ca, fa⟩ := hHi k (by have := HD.out; have := HM.out; omega)
          obtain ⟨cb', fb⟩ := hHi y (by have := HD.out; have := hy.out; have := HM.out; omega)
          rw [hxa.out] at ca
          rw [hxb.out] at cb'
          clear hHi
          rw [← HW.out] at ca fa cb' fb
          have z1 : (k : Int) < (N : Int) := by have := HM.out; omega
          have z2 : (y : Int) < (N : Int) := by have := hy.out; have := HM.out; omega
          have cb2 : (wr.setCell ⟨blk, off + k, none⟩ (enc xb)).cell? ⟨blk, off + y, none⟩ = some (enc xb) :=
            (World.cell?_setCell_other _ _ _ _ (by have := hy.out; intro e'; simp only [Addr.mk.injEq] at e'; omega)).trans cb'
          go_wp2_with fail
          go_region
          all_goals go_wp2_with fail
          go_roundg (y - j)
          case measure => have := hy.out; omega
          case rel =>
            refine ⟨y, p + 1, swp dk k y, rfl, by have := hy.out; omega, by have := hy.out; omega, Nat.le_refl _, Lib.hid (by rw [size_swp]; exact HD.out), Lib.hid ?_, Lib.hid ?_⟩
            · rw [HW.out, ← hxa.out, ← hxb.out]
              exact swap_worldC enc w blk off dk p k y (by have := HD.out; have := HM.out; omega) (by have := HD.out; have := hy.out; have := HM.out; omega)
            · have := hy.out
              obtain rfl : k = y + 1 := by omega
              exact HSh.out.left_step (by omega) (by have := H1.out; have := HM.out; omega)
        · have hlz2 : ¬ (j : Int) < (k : Int) := by omega
          go_wp2_with fail
          go_end0
          obtain rfl : k = j := by omega
          refine ⟨rfl, dk, p, ?_, HW.out⟩
          have e := HM.out
          subst e
          exact one_right HT.out.hs HP.out HBi.out HSh.out
end Go.Proofs.Ytfnhffcjhdeleaa
