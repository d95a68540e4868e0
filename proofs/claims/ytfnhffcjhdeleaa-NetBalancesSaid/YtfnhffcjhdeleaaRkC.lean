import Derived.Test.YtfnhffcjhdeleaaRkB
namespace Go.Proofs.Ytfnhffcjhdeleaa
open Go.RowKit Go.Lib Go.Sort Go.Proofs

/-- What the sort is told once: its row, and what its comparison does. -/
structure Told (enc : Nat → Value) (cf : Nat → Nat → Int) (g : Nat) (cb : Array Value) (blk off N : Nat) (d0 : Array Nat) (w : World) (lt : Nat → Nat → Prop) : Prop where
  hO : OneCell enc
  hH : Holds enc w blk off d0
  h0 : d0.size = N
  eg : ∀ args w, (callFunc g args).run Try.prog w = .ok (.enter g args) w
  hc : CmpReads Try.prog g cb enc cf blk off N w
  hs : Str lt
  HB : ∀ x y : Nat, x < y → (decide (cf y x < 0) = true ↔ lt y x)
  hsz : N ≤ 1000000

theorem Told.cmp {enc : Nat → Value} {cf : Nat → Nat → Int} {g : Nat} {cb : Array Value} {blk off N : Nat} {d0 : Array Nat} {w : World} {lt : Nat → Nat → Prop} (T : Told enc cf g cb blk off N d0 w lt) (X : Array Nat) (hX : X.size = N) (x y m n : Nat) :
    Calls Try.prog g (#[enc x, enc y] ++ cb) (((putRow enc w blk off X).drewN m).drewN n) fun e w' => e = .returned (.int .i64 (cf x y)) ∧ ∃ q, w' = (((putRow enc w blk off X).drewN m).drewN n).drewN q := by
  have := T.hc (m + n) #[] X hX x y
  rw [sortWorld_none, ← World.drewN_drewN] at this
  exact this

set_option maxHeartbeats 4000000 in
set_option maxRecDepth 1000000 in
theorem symMerge_left (enc : Nat → Value) (cf : Nat → Nat → Int) (g : Nat) (cb : Array Value) (blk off cap a b N : Nat) (d0 d : Array Nat) (w : World) (q : Nat) (lt : Nat → Nat → Prop) (T : Told enc cf g cb blk off N d0 w lt) (h1 : d.size = N) (m : Nat) (hm : m = a + 1) (hp : Pre lt d a m b) :
    Calls Try.prog 162 #[.slice (some ⟨blk, off, none⟩) N cap, .int .i64 a, .int .i64 m, .int .i64 b, .func (.func g) #[] cb] ((putRow enc w blk off d).drewN q) (SrtPost enc w blk off (Merged lt d a b)) := by
  have hcl0 := T.hO.cells
  simp only [Value.cells] at hcl0
  have hst := T.hO.store Try.prog
  have eg := T.eg
  have hsz := T.hsz
  have HM := Lib.hid hm
  have e1 : (m : Int) - (a : Int) = 1 := by omega
  have hmb := hp.mb
  have hbN : b ≤ N := by have := hp.sz; omega
  have H1 := Lib.hid h1
  have HP := Lib.hid hp
  have HT := Lib.hid T
  clear hm h1 hp T
  obtain ⟨wq, hwq⟩ : ∃ wq, Hid (wq = (putRow enc w blk off d).drewN q) := ⟨_, Lib.hid rfl⟩
  rw [← hwq.out]
  go_enter Try.func162, Try.ntmps162
  go_wp2_with fail
  go_loopg [10, 11] (b - m) (fun gg vi vj wr => ∃ (i j p : Nat), vi = .int .i64 i ∧ vj = .int .i64 j ∧ m ≤ i ∧ i ≤ j ∧ j ≤ b ∧ j - i ≤ gg ∧ Hid (wr = (putRow enc w blk off d).drewN p) ∧ Hid (Bis (fun h => lt d[h]! d[a]!) m b i j))
  case atStart => exact ⟨m, b, q, rfl, rfl, Nat.le_refl _, by omega, Nat.le_refl _, Nat.le_refl _, hwq, Bis.start (by omega)⟩
  case round =>
    obtain ⟨i, j, p, rfl, rfl, hmi, hij, hjb, hg, HW, HBi⟩ := hrel
    by_cases hlt : i < j
    · have hltz : (i : Int) < (j : Int) := by omega
      obtain ⟨h, hh⟩ : ∃ h : Nat, Hid (h = (i + j) / 2) := ⟨_, Lib.hid rfl⟩
      have e2 : ((i : Int) + (j : Int)) / 2 = (h : Int) := by have := hh.out; omega
      have hih : i ≤ h := by have := hh.out; omega
      have hhj : h < j := by have := hh.out; omega
      obtain ⟨xh, hxh⟩ : ∃ x, Hid (d[h]! = x) := ⟨_, Lib.hid rfl⟩
      obtain ⟨xa, hxa⟩ : ∃ x, Hid (d[a]! = x) := ⟨_, Lib.hid rfl⟩
      have hHd := holds_on enc w blk off d0 d p HT.out.hH (by rw [H1.out, HT.out.h0])
      obtain ⟨ch, fh⟩ := hHd h (by have := H1.out; omega)
      obtain ⟨ca, fa⟩ := hHd a (by have := H1.out; have := HM.out; omega)
      rw [hxh.out] at ch
      rw [hxa.out] at ca
      have hc := HT.out.cmp d H1.out xh xa p
      rw [← HW.out] at ch fh ca fa hc
      clear hHd
      have z1 : (h : Int) < (N : Int) := by omega
      have z2 : (a : Int) < (N : Int) := by have := HM.out; omega
      have hpl : xa < xh := by
        rw [← hxa.out, ← hxh.out]
        exact HP.out.ne a h (Nat.le_refl _) (by have := HM.out; omega) (by omega) (by omega)
      have HL := Lib.hid (HT.out.HB xa xh hpl)
      by_cases hlv : cf xh xa < 0
      · have HLT : Hid (lt d[h]! d[a]!) := Lib.hid (by rw [hxa.out, hxh.out]; exact HL.out.1 (by simpa using hlv))
        go_wp2_with fail
        go_quiet (first | (go_at_fn g; refine Calls.quiet_of (hc _)))
        go_wp2_with fail
        go_roundg (j - (h + 1))
        case measure => omega
        case rel => exact ⟨h + 1, j, p + nq, by go_num, rfl, by omega, by omega, hjb, Nat.le_refl _, Lib.hid (by rw [HW.out, World.drewN_drewN]), HBi.out.up hih hhj HLT.out⟩
      · have HLT : Hid (¬ lt d[h]! d[a]!) := Lib.hid (by rw [hxa.out, hxh.out]; exact fun hl => hlv (by simpa using HL.out.2 hl))
        go_wp2_with fail
        go_quiet (first | (go_at_fn g; refine Calls.quiet_of (hc _)))
        go_wp2_with fail
        go_roundg (h - i)
        case measure => omega
        case rel => exact ⟨i, h, p + nq, rfl, by go_num, by omega, by omega, by omega, Nat.le_refl _, Lib.hid (by rw [HW.out, World.drewN_drewN]), HBi.out.down hih hhj HLT.out⟩
    · have hltz : ¬ (i : Int) < (j : Int) := by omega
      obtain rfl : j = i := by omega
      obtain ⟨jp, rfl⟩ : ∃ jp, j = jp + 1 := ⟨j - 1, by have := HM.out; omega⟩
      go_wp2_with fail
      go_loopg [13] (jp - a) (fun gg vk wr => ∃ (k p : Nat) (dk : Array Nat), vk = .int .i64 k ∧ a ≤ k ∧ k ≤ jp ∧ jp - k ≤ gg ∧ Hid (dk.size = N) ∧ Hid (wr = (putRow enc w blk off dk).drewN p) ∧ Hid (Sh (rotI a (a + 1) (k + 1)) d dk))
      case atStart => exact ⟨a, p, d, rfl, Nat.le_refl _, by have := HM.out; omega, Nat.le_refl _, H1, HW, Sh.rot_none d (.inl rfl)⟩
      case round =>
        clear HW
        obtain ⟨k, p, dk, rfl, hak, hkj, hg, HD, HW, HSh⟩ := hrel
        by_cases hlt2 : k < jp
        · have hlz2 : (k : Int) < (jp : Int) := by omega
          obtain ⟨y, hy⟩ : ∃ y : Nat, Hid (y = k + 1) := ⟨_, Lib.hid rfl⟩
          have e3 : (k : Int) + 1 = (y : Int) := by have := hy.out; omega
          obtain ⟨xa, hxa⟩ : ∃ u, Hid (dk[k]! = u) := ⟨_, Lib.hid rfl⟩
          obtain ⟨xb, hxb⟩ : ∃ u, Hid (dk[y]! = u) := ⟨_, Lib.hid rfl⟩
          have hHi := holds_on enc w blk off d0 dk p HT.out.hH (by rw [HD.out, HT.out.h0])
          obtain ⟨ca, fa⟩ := hHi k (by have := HD.out; omega)
          obtain ⟨cb', fb⟩ := hHi y (by have := HD.out; have := hy.out; omega)
          rw [hxa.out] at ca
          rw [hxb.out] at cb'
          clear hHi
          rw [← HW.out] at ca fa cb' fb
          have z1 : (k : Int) < (N : Int) := by omega
          have z2 : (y : Int) < (N : Int) := by have := hy.out; omega
          have cb2 : (wr.setCell ⟨blk, off + k, none⟩ (enc xb)).cell? ⟨blk, off + y, none⟩ = some (enc xb) :=
            (World.cell?_setCell_other _ _ _ _ (by have := hy.out; intro e'; simp only [Addr.mk.injEq] at e'; omega)).trans cb'
          go_wp2_with fail
          go_region
          all_goals go_wp2_with fail
          go_roundg (jp - (k + 1))
          case measure => omega
          case rel =>
            refine ⟨k + 1, p + 1, swp dk k y, by have := hy.out; first | go_num | (congr 1; omega), by omega, by omega, Nat.le_refl _, Lib.hid (by rw [size_swp]; exact HD.out), Lib.hid ?_, Lib.hid ?_⟩
            · rw [HW.out, ← hxa.out, ← hxb.out]
              exact swap_worldC enc w blk off dk p k y (by have := HD.out; omega) (by have := HD.out; have := hy.out; omega)
            · have := hy.out
              subst this
              exact HSh.out.right_step hak (by have := H1.out; omega)
        · have hlz2 : ¬ (k : Int) < (jp : Int) := by omega
          go_wp2_with fail
          go_end0
          obtain rfl : k = jp := by omega
          refine ⟨rfl, dk, p, ?_, HW.out⟩
          have e := HM.out
          subst e
          exact one_left HT.out.hs HP.out HBi.out HSh.out
end Go.Proofs.Ytfnhffcjhdeleaa
