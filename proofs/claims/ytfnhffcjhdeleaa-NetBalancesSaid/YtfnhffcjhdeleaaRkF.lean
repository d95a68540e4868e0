import Derived.Test.YtfnhffcjhdeleaaRkE
import Derived.Test.YtfnhffcjhdeleaaShelf
namespace Go.Proofs.Ytfnhffcjhdeleaa
open Go.RowKit Go.Lib Go.Sort Go.Proofs

theorem insInner_size (B : Nat → Nat → Bool) (a : Nat) : ∀ (j : Nat) (d : Array Nat), (insInner B a j d).size = d.size
  | 0, d => by rw [insInner]
  | j + 1, d => by
    rw [insInner]
    split
    · rw [insInner_size B a j, size_swp]
    · rfl
theorem insOuter_size (B : Nat → Nat → Bool) (a b : Nat) : ∀ (k i : Nat) (d : Array Nat), b - i = k → (insOuter B a b i d).size = d.size
  | 0, i, d, h => by rw [insOuter, if_neg (by omega)]
  | k + 1, i, d, h => by rw [insOuter, if_pos (by omega), insOuter_size B a b k (i + 1) _ (by omega), insInner_size]
theorem insSort_size (B : Nat → Nat → Bool) (d : Array Nat) (a b : Nat) : (insertionSort B d a b).size = d.size := insOuter_size B a b _ (a + 1) d rfl

theorem sortWorld_on (enc : Nat → Value) (w : World) (blk off : Nat) (d dk : Array Nat) (q m : Nat) (os : Array Obj) (h : dk.size = d.size) : sortWorld enc ((putRow enc w blk off d).drewN q) blk off m dk os = sortWorld enc w blk off (q + m) dk os := by
  unfold sortWorld
  show grow (((putRow enc (putRow enc w blk off d) blk off dk).drewN q).drewN m) os = grow ((putRow enc w blk off dk).drewN (q + m)) os
  rw [putRow_putRow _ _ _ _ _ _ h, World.drewN_drewN]

section
variable {enc : Nat → Value} {cf : Nat → Nat → Int} {g : Nat} {cb : Array Value} {blk off N : Nat} {d0 : Array Nat} {w : World} {lt : Nat → Nat → Prop}

theorem insertion_at (T : Told enc cf g cb blk off N d0 w lt) (cap a b : Nat) (d : Array Nat) (q : Nat) (hd : d.size = N) (hab : a ≤ b) (hb : b ≤ N) :
    Calls Try.prog 161 #[.slice (some ⟨blk, off, none⟩) N cap, .int .i64 a, .int .i64 b, .func (.func g) #[] cb] ((putRow enc w blk off d).drewN q) (SrtPost enc w blk off (fun d' => d' = insertionSort (ltOf cf) d a b)) := by
  subst hd
  have hc : CmpReads Try.prog g cb enc cf blk off d.size ((putRow enc w blk off d).drewN q) := fun m os dk hs x y => by
    rw [sortWorld_on _ _ _ _ _ _ _ _ _ hs]
    exact T.hc _ _ _ hs x y
  refine (Try.insertionSortCmpFunc_one enc T.hO cf g cb blk off cap a b d _ T.eg hc (holds_on enc w blk off d0 d q T.hH T.h0.symm) hab hb (by have := T.hsz; omega)).mono ?_
  rintro e w' ⟨rfl, n, rfl⟩
  exact ⟨rfl, _, q + n, rfl, putRow_on enc w blk off d _ q n (insSort_size _ _ _ _)⟩

theorem symMerge_all (T : Told enc cf g cb blk off N d0 w lt) (cap : Nat) : ∀ L, SymIH enc g cb blk off cap N w lt L
  | 0 => fun a m b d q h => by omega
  | L + 1 => fun a m b d q h hd hp => by
    by_cases h1 : m = a + 1
    · exact symMerge_left enc cf g cb blk off cap a b N d0 d w q lt T hd m h1 hp
    · by_cases h2 : b = m + 1
      · exact symMerge_right enc cf g cb blk off cap a m N d0 d w q lt T hd b h2 h1 hp
      · exact symMerge_main enc cf g cb blk off cap a m b N d0 d w q lt T hd h1 h2 hp (fun a' m' b' d' q' h' => symMerge_all T cap L a' m' b' d' q' (by omega))

theorem symMerge_at (T : Told enc cf g cb blk off N d0 w lt) (cap a m b : Nat) (d : Array Nat) (q : Nat) (hd : d.size = N) (hp : Pre lt d a m b) :
    Calls Try.prog 162 #[.slice (some ⟨blk, off, none⟩) N cap, .int .i64 a, .int .i64 m, .int .i64 b, .func (.func g) #[] cb] ((putRow enc w blk off d).drewN q) (SrtPost enc w blk off (Merged lt d a b)) :=
  symMerge_all T cap (b - a + 1) a m b d q (by omega) hd hp

theorem Told.HB' (T : Told enc cf g cb blk off N d0 w lt) : ∀ x y, x < y → (ltOf cf y x = true ↔ lt y x) := T.HB

set_option maxHeartbeats 4000000 in
set_option maxRecDepth 1000000 in
theorem stable_at (T : Told enc cf g cb blk off N d0 w lt) (cap : Nat) (d : Array Nat) (q : Nat) (hd : d.size = N) (hid : ∀ k, k < N → d[k]! = k) :
    Calls Try.prog 144 #[.slice (some ⟨blk, off, none⟩) N cap, .int .i64 N, .func (.func g) #[] cb] ((putRow enc w blk off d).drewN q) (SrtPost enc w blk off (fun d' => d'.size = N ∧ Good lt d' 0 N)) := by
  have hsz := T.hsz
  have HF := Lib.hid (show First lt d 20 0 N from ⟨hd, Nat.zero_le _, Nat.dvd_zero _, fun q _ h => by omega, fun k _ h => hid k h⟩)
  have HT := Lib.hid T
  clear hd hid T
  obtain ⟨wq, hwq⟩ : ∃ wq, Hid (wq = (putRow enc w blk off d).drewN q) := ⟨_, Lib.hid rfl⟩
  rw [← hwq.out]
  go_enter Try.func144, Try.ntmps144
  go_wp2_with fail
  go_loopg [7, 8] N (fun gg va vb wr => ∃ (a b p : Nat) (dk : Array Nat), va = .int .i64 a ∧ vb = .int .i64 b ∧ Hid (b = a + 20) ∧ a ≤ N ∧ N - a ≤ gg ∧ Hid (wr = (putRow enc w blk off dk).drewN p) ∧ Hid (First lt dk 20 a N))
  case atStart => exact ⟨0, 20, q, d, rfl, rfl, Lib.hid rfl, Nat.zero_le _, by omega, hwq, HF⟩
  case round =>
    clear hwq HF
    obtain ⟨a, b, p, dk, rfl, rfl, HB, ha, hg, HW, HF⟩ := hrel
    have hbb : b ≤ N + 20 := by have := HB.out; omega
    by_cases hlt : b ≤ N
    · have hlz : (b : Int) ≤ (N : Int) := by omega
      obtain ⟨b2, hb2⟩ : ∃ b2 : Nat, Hid (b2 = b + 20) := ⟨_, Lib.hid rfl⟩
      have e1 : (b : Int) + 20 = (b2 : Int) := by have := hb2.out; omega
      go_wp2_with fail
      rw [HW.out]
      refine (insertion_at HT.out cap a b dk p HF.out.sz (by have := HB.out; omega) hlt).mono ?_
      rintro e w' ⟨rfl, d', p', hQ, rfl⟩
      have HQ := Lib.hid hQ
      clear hQ
      go_wp2_with fail
      go_roundg (N - b)
      case measure => have := HB.out; omega
      case rel => exact ⟨b, b2, p', d', rfl, rfl, hb2, hlt, Nat.le_refl _, Lib.hid rfl, Lib.hid (by rw [HQ.out]; have := HB.out; subst this; exact HF.out.step HT.out.hs _ HT.out.HB' (by omega) hlt)⟩
    · as_aux_lemma =>
      have hlz : ¬ (b : Int) ≤ (N : Int) := by omega
      go_wp2_with fail
      rw [HW.out]
      refine (insertion_at HT.out cap a N dk p HF.out.sz ha (Nat.le_refl _)).mono ?_
      rintro e w' ⟨rfl, d1, p1, hQ, rfl⟩
      have hL := HF.out.last HT.out.hs _ HT.out.HB' (by omega) (by have := HB.out; omega)
      rw [← hQ] at hL
      have HS := Lib.hid hL.1
      have HBl := Lib.hid hL.2
      clear hL hQ HW HF
      obtain ⟨w1, hw1⟩ : ∃ w1, Hid (w1 = (putRow enc w blk off d1).drewN p1) := ⟨_, Lib.hid rfl⟩
      rw [← hw1.out]
      go_wp2_with fail
      go_loopg [6, 7, 8, 9] N (fun gg vs va vb vm wr => ∃ (s p : Nat) (dk : Array Nat), vs = .int .i64 s ∧ 20 ≤ s ∧ N - s ≤ gg ∧ s ≤ 2000020 ∧ Hid (wr = (putRow enc w blk off dk).drewN p) ∧ Hid (dk.size = N) ∧ Hid (Blks lt dk s 0 N))
      case atStart => exact ⟨20, p1, d1, rfl, by omega, by omega, by omega, hw1, HS, HBl⟩
      case round =>
        clear hw1 HS HBl
        obtain ⟨s, p, dk, rfl, hs20, hg, hs2, HW, HS, HBl⟩ := hrel
        by_cases hsn : s < N
        · have hsz' : (s : Int) < (N : Int) := by omega
          obtain ⟨t, ht⟩ : ∃ t : Nat, Hid (t = 2 * s) := ⟨_, Lib.hid rfl⟩
          have e1 : (2 : Int) * (s : Int) = (t : Int) := by have := ht.out; omega
          have e2 : (s : Int) * (2 : Int) = (t : Int) := by have := ht.out; omega
          have htN : t ≤ 2000000 := by have := ht.out; omega
          obtain ⟨wo, hwo⟩ : ∃ wo : World, Hid (wo = wr) := ⟨_, Lib.hid rfl⟩
          go_wp2_with fail
          go_loopg [7, 8] N (fun gg va vb wi => ∃ (a b p : Nat) (dk : Array Nat), va = .int .i64 a ∧ vb = .int .i64 b ∧ Hid (b = a + t) ∧ a ≤ N ∧ N - a ≤ gg ∧ Hid (wi = (putRow enc w blk off dk).drewN p) ∧ Hid (Second lt dk s a N))
          case atStart => exact ⟨0, t, p, dk, rfl, rfl, Lib.hid (by omega), Nat.zero_le _, by omega, HW, Lib.hid (Second.start HS.out HBl.out)⟩
          case round =>
            clear HW HS HBl
            obtain ⟨a, b, p, dk, rfl, rfl, HB2, ha, hg2, HW, HSe⟩ := hrel
            have hbb : b ≤ N + 2000000 := by have := HB2.out; omega
            obtain ⟨m, hm⟩ : ∃ m : Nat, Hid (m = a + s) := ⟨_, Lib.hid rfl⟩
            have e3 : (a : Int) + (s : Int) = (m : Int) := by have := hm.out; omega
            have hmN : m ≤ N + N := by have := hm.out; omega
            have hbt : b = a + 2 * s := by rw [HB2.out, ht.out]
            have HBT := Lib.hid hbt
            clear hbt
            by_cases hlt : b ≤ N
            · have hlz : (b : Int) ≤ (N : Int) := by omega
              obtain ⟨b2, hb2⟩ : ∃ b2 : Nat, Hid (b2 = b + t) := ⟨_, Lib.hid rfl⟩
              have e4 : (b : Int) + (t : Int) = (b2 : Int) := by have := hb2.out; omega
              have hpre := HSe.out.pre (by omega) (by have := HBT.out; omega)
              rw [← hm.out, ← HBT.out] at hpre
              have HPre := Lib.hid hpre
              clear hpre
              go_wp2_with fail
              rw [HW.out]
              refine (symMerge_at HT.out cap a m b dk p HSe.out.sz HPre.out).mono ?_
              rintro e w' ⟨rfl, d', p', hQ, rfl⟩
              have HQ := Lib.hid hQ
              clear hQ
              go_wp2_with fail
              go_roundg (N - b)
              case measure => have := HBT.out; omega
              case rel => exact ⟨b, b2, p', d', rfl, rfl, hb2, hlt, Nat.le_refl _, Lib.hid rfl, Lib.hid (by have := HQ.out; rw [HBT.out] at this ⊢; exact HSe.out.step (by omega) (by have := HBT.out; omega) this)⟩
            · have hlz : ¬ (b : Int) ≤ (N : Int) := by omega
              by_cases hmn : m < N
              · have hmz : (m : Int) < (N : Int) := by omega
                have hpre := HSe.out.pre_last (by omega) (by have := hm.out; omega) (by have := HBT.out; omega)
                rw [← hm.out] at hpre
                have HPre := Lib.hid hpre
                clear hpre
                go_wp2_with fail
                rw [HW.out]
                refine (symMerge_at HT.out cap a m N dk p HSe.out.sz HPre.out).mono ?_
                rintro e w' ⟨rfl, d', p', hQ, rfl⟩
                have hL := HSe.out.last (by omega) (by have := hm.out; omega) (by have := HBT.out; omega) hQ
                have HL1 := Lib.hid hL.1
                have HL2 := Lib.hid hL.2
                clear hQ hL
                go_wp2_with fail
                go_roundg (N - t)
                case measure => have := ht.out; omega
                case rel => exact ⟨t, p', d', rfl, by have := ht.out; omega, Nat.le_refl _, by omega, Lib.hid rfl, HL1, Lib.hid (by have := HL2.out; rw [← ht.out] at this; exact this)⟩
              · have hmz : ¬ (m : Int) < (N : Int) := by omega
                have hL := HSe.out.last_none (by omega) (by have := hm.out; omega)
                have HL1 := Lib.hid hL.1
                have HL2 := Lib.hid hL.2
                clear hL
                go_wp2_with fail
                go_roundg (N - t)
                case measure => have := ht.out; omega
                case rel => exact ⟨t, p, dk, rfl, by have := ht.out; omega, Nat.le_refl _, by omega, HW, HL1, Lib.hid (by have := HL2.out; rw [← ht.out] at this; exact this)⟩
        · have hsz' : ¬ (s : Int) < (N : Int) := by omega
          go_wp2_with fail
          go_end0
          exact ⟨rfl, dk, p, ⟨HS.out, HBl.out.all (by omega)⟩, HW.out⟩

set_option maxHeartbeats 1000000 in
theorem sortStable_at (T : Told enc cf g cb blk off N d0 w lt) (cap : Nat) (d : Array Nat) (q : Nat) (hd : d.size = N) (hid : ∀ k, k < N → d[k]! = k) :
    Calls Try.prog 130 #[.slice (some ⟨blk, off, none⟩) N cap, .func (.func g) #[] cb] ((putRow enc w blk off d).drewN q) (SrtPost enc w blk off (fun d' => d'.size = N ∧ Good lt d' 0 N)) := by
  have HK := Lib.hid (stable_at T cap d q hd hid)
  clear hd hid T
  generalize (putRow enc w blk off d).drewN q = W at HK ⊢
  go_enter Try.func130, Try.ntmps130
  go_wp2_with fail
  refine HK.out.mono ?_
  rintro e w' ⟨rfl, d', p', hQ, rfl⟩
  have HQ := Lib.hid hQ
  clear hQ
  go_wp2_with fail
  go_end0
  exact ⟨rfl, d', p', HQ.out, rfl⟩
end
end Go.Proofs.Ytfnhffcjhdeleaa
