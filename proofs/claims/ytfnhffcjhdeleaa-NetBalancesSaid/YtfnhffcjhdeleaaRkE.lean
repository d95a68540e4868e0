import Derived.Test.YtfnhffcjhdeleaaRkD
import Derived.Deep.DeepCutAuto
namespace Go.Proofs.Ytfnhffcjhdeleaa
open Go.RowKit Go.Lib Go.Sort Go.Proofs

/-- What the calls of itself do (b - a falls). -/
def SymIH (enc : Nat → Value) (g : Nat) (cb : Array Value) (blk off cap N : Nat) (w : World) (lt : Nat → Nat → Prop) (L : Nat) : Prop :=
  ∀ (a m b : Nat) (d : Array Nat) (q : Nat), b - a < L → d.size = N → Pre lt d a m b →
    Calls Try.prog 162 #[.slice (some ⟨blk, off, none⟩) N cap, .int .i64 a, .int .i64 m, .int .i64 b, .func (.func g) #[] cb] ((putRow enc w blk off d).drewN q) (SrtPost enc w blk off (Merged lt d a b))

/-- Behind the search: the row is rotated, or not. -/
def RotCut (enc : Nat → Value) (blk off N : Nat) (w : World) (s m e : Nat) (d : Array Nat) (wx : World) : Prop := ∃ (d1 : Array Nat) (p : Nat), d1.size = N ∧ wx = (putRow enc w blk off d1).drewN p ∧ Sh (rotI s m e) d d1
/-- Where the search begins and ends. -/
def SymStart (s r : Value) (a m b : Nat) (wx wq : World) : Prop := ∃ lo hi : Nat, s = .int .i64 lo ∧ r = .int .i64 hi ∧ ((m > (a + b) / 2 ∧ lo = (a + b) / 2 + m - b ∧ hi = (a + b) / 2) ∨ (m ≤ (a + b) / 2 ∧ lo = a ∧ hi = m)) ∧ wx = wq
/-- Behind the left half. -/
def LeftCut (enc : Nat → Value) (blk off N : Nat) (w : World) (lt : Nat → Nat → Prop) (a c : Nat) (d : Array Nat) (wx : World) : Prop := ∃ (d1 : Array Nat) (p : Nat), d1.size = N ∧ wx = (putRow enc w blk off d1).drewN p ∧ Merged lt d a c d1

set_option maxHeartbeats 4000000 in
set_option maxRecDepth 1000000 in
theorem symMerge_main (enc : Nat → Value) (cf : Nat → Nat → Int) (g : Nat) (cb : Array Value) (blk off cap a m b N : Nat) (d0 d : Array Nat) (w : World) (q : Nat) (lt : Nat → Nat → Prop) (T : Told enc cf g cb blk off N d0 w lt) (h1 : d.size = N) (h2 : ¬ m = a + 1) (h3 : ¬ b = m + 1) (hp : Pre lt d a m b)
    (IH : SymIH enc g cb blk off cap N w lt (b - a)) :
    Calls Try.prog 162 #[.slice (some ⟨blk, off, none⟩) N cap, .int .i64 a, .int .i64 m, .int .i64 b, .func (.func g) #[] cb] ((putRow enc w blk off d).drewN q) (SrtPost enc w blk off (Merged lt d a b)) := by
  have hcl0 := T.hO.cells
  simp only [Value.cells] at hcl0
  have hst := T.hO.store Try.prog
  have eg := T.eg
  have hsz := T.hsz
  have b1 : ((m : Int) - (a : Int) == 1) = false := by have := hp.am; simp; omega
  have b2 : ((b : Int) - (m : Int) == 1) = false := by have := hp.mb; simp; omega
  have ham := hp.am
  have hmb := hp.mb
  have hbN : b ≤ N := by have := hp.sz; omega
  have H1 := Lib.hid h1
  have HP := Lib.hid hp
  have HT := Lib.hid T
  have HIH := Lib.hid IH
  obtain ⟨mid, hmid⟩ : ∃ mid : Nat, Hid (mid = (a + b) / 2) := ⟨_, Lib.hid rfl⟩
  obtain ⟨nn, hnn⟩ : ∃ nn : Nat, Hid (nn = mid + m) := ⟨_, Lib.hid rfl⟩
  obtain ⟨pp, hpp⟩ : ∃ pp : Nat, Hid (pp = nn - 1) := ⟨_, Lib.hid rfl⟩
  have e1 : ((a : Int) + (b : Int)) / 2 = (mid : Int) := by have := hmid.out; omega
  have e2 : (mid : Int) + (m : Int) = (nn : Int) := by have := hnn.out; omega
  have e3 : (nn : Int) - 1 = (pp : Int) := by have := hpp.out; have := hnn.out; omega
  have hmid1 : mid < b := by have := hmid.out; omega
  have hmid0 : a < mid := by have := hmid.out; omega
  clear h1 hp T h2 h3 IH
  obtain ⟨wq, hwq⟩ : ∃ wq, Hid (wq = (putRow enc w blk off d).drewN q) := ⟨_, Lib.hid rfl⟩
  rw [← hwq.out]
  go_enter Try.func162, Try.ntmps162
  go_upto_if 140 with fail
  go_cut [20, 21] (fun s r wx => SymStart s r a m b wx wq)
  case first =>
    by_cases hgt : m > (a + b) / 2
    · have hgz : (mid : Int) < (m : Int) := by have := hmid.out; omega
      obtain ⟨lo, hlo⟩ : ∃ lo : Nat, Hid (lo = nn - b) := ⟨_, Lib.hid rfl⟩
      have e4 : (nn : Int) - (b : Int) = (lo : Int) := by have := hlo.out; have := hnn.out; have := hmid.out; omega
      go_wp2_with fail
      go_meet
      case rel => exact ⟨lo, mid, rfl, rfl, .inl ⟨hgt, by rw [hlo.out, hnn.out, hmid.out], hmid.out⟩, rfl⟩
    · have hgz : ¬ (mid : Int) < (m : Int) := by have := hmid.out; omega
      go_wp2_with fail
      go_meet
      case rel => exact ⟨a, m, rfl, rfl, .inr ⟨by omega, rfl, rfl⟩, rfl⟩
  case rest =>
  as_aux_lemma =>
  obtain ⟨lo, hi, rfl, rfl, hcc, hwx⟩ := hcut
  have HC0 := Lib.hid hcc
  have HCUT := Lib.hid (fun s (hb : Bis (fun c => ¬ lt d[(a + b) / 2 + m - 1 - c]! d[c]!) lo hi s s) => sym_cut HT.out.hs HP.out HC0.out hb)
  have hlh : lo ≤ hi := by have := hmid.out; omega
  have hal : a ≤ lo := by have := hmid.out; omega
  have hhm : hi ≤ m := by have := hmid.out; omega
  have hhd : hi ≤ mid := by have := hmid.out; omega
  have hlb : mid + m ≤ lo + b := by have := hmid.out; omega
  have HW9 : Hid (wc = (putRow enc w blk off d).drewN q) := Lib.hid (by rw [hwx]; exact hwq.out)
  clear hcc hwx
  go_wp2_with fail
  go_loopg [20, 21] (hi - lo) (fun gg vi vj wr => ∃ (i j p : Nat), vi = .int .i64 i ∧ vj = .int .i64 j ∧ lo ≤ i ∧ i ≤ j ∧ j ≤ hi ∧ j - i ≤ gg ∧ Hid (wr = (putRow enc w blk off d).drewN p) ∧ Hid (Bis (fun c => ¬ lt d[(a + b) / 2 + m - 1 - c]! d[c]!) lo hi i j))
  case atStart => exact ⟨lo, hi, q, rfl, rfl, Nat.le_refl _, hlh, Nat.le_refl _, Nat.le_refl _, HW9, Bis.start hlh⟩
  case round =>
    clear e1 e2 e3 b1 b2
    obtain ⟨i, j, p, rfl, rfl, hmi, hij, hjb, hg, HW, HBi⟩ := hrel
    by_cases hlt : i < j
    · as_aux_lemma =>
      have hltz : (i : Int) < (j : Int) := by omega
      obtain ⟨h, hh⟩ : ∃ h : Nat, Hid (h = (i + j) / 2) := ⟨_, Lib.hid rfl⟩
      have e2 : ((i : Int) + (j : Int)) / 2 = (h : Int) := by have := hh.out; omega
      have hih : i ≤ h := by have := hh.out; omega
      have hhj : h < j := by have := hh.out; omega
      obtain ⟨y, hy⟩ : ∃ y : Nat, Hid (y = pp - h) := ⟨_, Lib.hid rfl⟩
      have e3 : (pp : Int) - (h : Int) = (y : Int) := by have := hy.out; have := hpp.out; have := hnn.out; omega
      have HYE : Hid ((a + b) / 2 + m - 1 - h = y) := Lib.hid (by have := hy.out; have := hpp.out; have := hnn.out; have := hmid.out; omega)
      have hym : m ≤ y := by have := HYE.out; have := hmid.out; omega
      have hyb : y < b := by have := HYE.out; have := hmid.out; have := hnn.out; omega
      obtain ⟨xh, hxh⟩ : ∃ x, Hid (d[h]! = x) := ⟨_, Lib.hid rfl⟩
      obtain ⟨xa, hxa⟩ : ∃ x, Hid (d[y]! = x) := ⟨_, Lib.hid rfl⟩
      have hHd := holds_on enc w blk off d0 d p HT.out.hH (by rw [H1.out, HT.out.h0])
      obtain ⟨ch, fh⟩ := hHd h (by have := H1.out; omega)
      obtain ⟨ca, fa⟩ := hHd y (by have := H1.out; omega)
      rw [hxh.out] at ch
      rw [hxa.out] at ca
      have hc := HT.out.cmp d H1.out xa xh p
      rw [← HW.out] at ch fh ca fa hc
      clear hHd
      have z1 : (h : Int) < (N : Int) := by omega
      have z2 : (y : Int) < (N : Int) := by omega
      have hpl : xh < xa := by
        rw [← hxa.out, ← hxh.out]
        exact HP.out.ne h y (by omega) (by omega) hym hyb
      have HL := Lib.hid (HT.out.HB xh xa hpl)
      by_cases hlv : cf xa xh < 0
      · have HLT : Hid (lt d[(a + b) / 2 + m - 1 - h]! d[h]!) := Lib.hid (by rw [HYE.out, hxa.out, hxh.out]; exact HL.out.1 (by simpa using hlv))
        go_wp2_with fail
        go_quiet (first | (go_at_fn g; refine Calls.quiet_of (hc _)))
        go_wp2_with fail
        go_roundg (h - i)
        case measure => omega
        case rel => exact ⟨i, h, p + nq, rfl, by go_num, by omega, by omega, by omega, Nat.le_refl _, Lib.hid (by rw [HW.out, World.drewN_drewN]), HBi.out.down hih hhj (fun hn => hn HLT.out)⟩
      · have HLT : Hid (¬ lt d[(a + b) / 2 + m - 1 - h]! d[h]!) := Lib.hid (by rw [HYE.out, hxa.out, hxh.out]; exact fun hl => hlv (by simpa using HL.out.2 hl))
        have b2 : decide (cf xa xh < 0) = false := by simpa using hlv
        have b3 : (!decide (cf xa xh < 0)) = true := by simpa using hlv
        go_wp2_with fail
        go_quiet (first | (go_at_fn g; refine Calls.quiet_of (hc _)))
        go_wp2_with fail
        go_roundg (j - (h + 1))
        case measure => omega
        case rel => exact ⟨h + 1, j, p + nq, by go_num, rfl, by omega, by omega, hjb, Nat.le_refl _, Lib.hid (by rw [HW.out, World.drewN_drewN]), HBi.out.up hih hhj HLT.out⟩
    · as_aux_lemma =>
      have hltz : ¬ (i : Int) < (j : Int) := by omega
      obtain rfl : j = i := by omega
      have hcut := HCUT.out j HBi.out
      obtain ⟨e, he⟩ : ∃ e : Nat, Hid (e = nn - j) := ⟨_, Lib.hid rfl⟩
      have HEQ : Hid ((a + b) / 2 + m - j = e) := Lib.hid (by have := he.out; have := hnn.out; have := hmid.out; omega)
      rw [HEQ.out] at hcut
      obtain ⟨q1, q2, q3, q4, q5, q6, q7⟩ := hcut
      have Q6 := Lib.hid q6
      have Q7 := Lib.hid q7
      clear q6 q7
      rw [← hmid.out] at q5
      have HE2 : Hid (j + (e - m) = mid) := Lib.hid (by have := HEQ.out; have := hmid.out; omega)
      have q8 : mid ≤ e := by have := HE2.out; omega
      have e1 : (nn : Int) - (j : Int) = (e : Int) := by have := he.out; have := hnn.out; omega
      go_upto_region 39 with fail
      go_cut [185] (fun v wx => v = .bool (decide (j < m ∧ m < e)) ∧ wx = wr)
      case first =>
        by_cases c1 : j < m
        · by_cases c2 : m < e
          · have d1 : (j : Int) < (m : Int) := by omega
            have d2 : (m : Int) < (e : Int) := by omega
            go_wp2_with fail
            go_meet
            case rel => exact ⟨congrArg Value.bool (by simp; omega), rfl⟩
          · have d1 : (j : Int) < (m : Int) := by omega
            have d2 : ¬ (m : Int) < (e : Int) := by omega
            go_wp2_with fail
            go_meet
            case rel => exact ⟨congrArg Value.bool (by simp; omega), rfl⟩
        · have d1 : ¬ (j : Int) < (m : Int) := by omega
          go_wp2_with fail
          go_meet
          case rel => exact ⟨congrArg Value.bool (by simp; omega), rfl⟩
      case rest =>
        as_aux_lemma =>
        obtain ⟨rfl, hwx⟩ := hcut
        have HW0 : Hid (wc = (putRow enc w blk off d).drewN p) := Lib.hid (by rw [hwx]; exact HW.out)
        clear hwx HW
        go_upto_if 185 with fail
        go_cut [] (fun wx => RotCut enc blk off N w j m e d wx)
        case first =>
          by_cases c1 : j < m ∧ m < e
          · have dd : decide (j < m ∧ m < e) = true := decide_eq_true c1
            rw [dd]
            clear dd
            go_wp2_with fail
            rw [HW0.out]
            refine (rotate_at enc HT.out.hO blk off cap j m e N d0 d (.func (.func g) #[] cb) w p HT.out.hH HT.out.h0 H1.out c1.1 c1.2 (by omega) hsz).mono ?_
            rintro e' w' ⟨rfl, d', p', hQ, rfl⟩
            have HQ := Lib.hid hQ
            clear hQ
            go_wp2_with fail
            go_meet
            case rel => exact ⟨d', p', HQ.out.1.trans H1.out, rfl, HQ.out⟩
          · have dd : decide (j < m ∧ m < e) = false := decide_eq_false c1
            rw [dd]
            clear dd
            go_wp2_with fail
            go_meet
            case rel => exact ⟨d, p, H1.out, HW0.out, Sh.rot_none d (by omega)⟩
        case rest =>
          as_aux_lemma =>
          clear HW0
          obtain ⟨d1, p1, g1, g2, g3⟩ := hcut
          have G1 := Lib.hid g1
          have G3 := Lib.hid g3
          have HH := Lib.hid (halves_of HP.out g3 q1 q2 q3 q4 Q6.out Q7.out)
          rw [HE2.out] at HH
          have HW1 : Hid (wc = (putRow enc w blk off d1).drewN p1) := Lib.hid g2
          clear g1 g2 g3
          go_upto_region 41 with fail
          go_cut [199] (fun v wx => v = .bool (decide (a < j ∧ j < mid)) ∧ wx = wc)
          case first =>
            by_cases c1 : a < j
            · by_cases c2 : j < mid
              · have d1 : (a : Int) < (j : Int) := by omega
                have d2 : (j : Int) < (mid : Int) := by omega
                go_wp2_with fail
                go_meet
                case rel => exact ⟨congrArg Value.bool (by simp; omega), rfl⟩
              · have d1 : (a : Int) < (j : Int) := by omega
                have d2 : ¬ (j : Int) < (mid : Int) := by omega
                go_wp2_with fail
                go_meet
                case rel => exact ⟨congrArg Value.bool (by simp; omega), rfl⟩
            · have d1 : ¬ (a : Int) < (j : Int) := by omega
              go_wp2_with fail
              go_meet
              case rel => exact ⟨congrArg Value.bool (by simp; omega), rfl⟩
          case rest =>
            as_aux_lemma =>
            obtain ⟨rfl, hwx⟩ := hcut
            have HW0 : Hid (wc = (putRow enc w blk off d1).drewN p1) := Lib.hid (by rw [hwx]; exact HW1.out)
            clear hwx HW1
            go_upto_if 199 with fail
            go_cut [] (fun wx => LeftCut enc blk off N w lt a mid d1 wx)
            case first =>
              by_cases c1 : a < j ∧ j < mid
              · have dd : decide (a < j ∧ j < mid) = true := decide_eq_true c1
                rw [dd]
                clear dd
                go_wp2_with fail
                rw [HW0.out]
                refine (HIH.out a j mid d1 p1 (by omega) G1.out (HH.out.left_pre c1.1 c1.2 (by have := G1.out; omega))).mono ?_
                rintro e' w' ⟨rfl, d', p', hQ, rfl⟩
                have HQ := Lib.hid hQ
                clear hQ
                go_wp2_with fail
                go_meet
                case rel => exact ⟨d', p', HQ.out.size.trans G1.out, rfl, HQ.out⟩
              · have dd : decide (a < j ∧ j < mid) = false := decide_eq_false c1
                rw [dd]
                clear dd
                go_wp2_with fail
                go_meet
                case rel => exact ⟨d1, p1, G1.out, HW0.out, HH.out.left_none c1 q1 q5⟩
            case rest =>
              as_aux_lemma =>
              clear HW0
              obtain ⟨d2, p2, g1, g2, g3⟩ := hcut
              have G2 := Lib.hid g1
              have HM2 := Lib.hid g3
              have HN := Lib.hid (HH.out.next g3 q8 q4 (by have := G1.out; omega))
              have HW2 : Hid (wc = (putRow enc w blk off d2).drewN p2) := Lib.hid g2
              clear g1 g2 g3
              have HFIN : Hid (∀ d3, Merged lt d2 mid b d3 → Merged lt d a b d3) := Lib.hid (fun d3 hr => HH.out.join (by omega) (by omega) (by have := H1.out; omega) (by rw [G1.out, H1.out]) (fun k hk hs => (rot_at G3.out q2 q3 (by have := H1.out; omega)).1 k hk (by omega)) (rot_mem G3.out q1 q2 q3 q4 (by have := H1.out; omega)) HM2.out hr)
              go_upto_region 43 with fail
              go_cut [213] (fun v wx => v = .bool (decide (mid < e ∧ e < b)) ∧ wx = wc)
              case first =>
                by_cases c1 : mid < e
                · by_cases c2 : e < b
                  · have d1 : (mid : Int) < (e : Int) := by omega
                    have d2 : (e : Int) < (b : Int) := by omega
                    go_wp2_with fail
                    go_meet
                    case rel => exact ⟨congrArg Value.bool (by simp; omega), rfl⟩
                  · have d1 : (mid : Int) < (e : Int) := by omega
                    have d2 : ¬ (e : Int) < (b : Int) := by omega
                    go_wp2_with fail
                    go_meet
                    case rel => exact ⟨congrArg Value.bool (by simp; omega), rfl⟩
                · have d1 : ¬ (mid : Int) < (e : Int) := by omega
                  go_wp2_with fail
                  go_meet
                  case rel => exact ⟨congrArg Value.bool (by simp; omega), rfl⟩
              case rest =>
                as_aux_lemma =>
                obtain ⟨rfl, hwx⟩ := hcut
                have HW0 : Hid (wc = (putRow enc w blk off d2).drewN p2) := Lib.hid (by rw [hwx]; exact HW2.out)
                clear hwx HW2
                by_cases c1 : mid < e ∧ e < b
                · have dd : decide (mid < e ∧ e < b) = true := decide_eq_true c1
                  rw [dd]
                  clear dd
                  go_wp2_with fail
                  rw [HW0.out]
                  refine (HIH.out mid e b d2 p2 (by omega) G2.out ⟨c1.1, c1.2, by have := G2.out; omega, HN.out.1, HN.out.2.1, HN.out.2.2⟩).mono ?_
                  rintro e' w' ⟨rfl, d', p', hQ, rfl⟩
                  have HQ := Lib.hid hQ
                  clear hQ
                  go_wp2_with fail
                  go_end0
                  exact ⟨rfl, d', p', HFIN.out d' HQ.out, rfl⟩
                · have dd : decide (mid < e ∧ e < b) = false := decide_eq_false c1
                  rw [dd]
                  clear dd
                  go_wp2_with fail
                  go_end0
                  exact ⟨rfl, d2, p2, HFIN.out d2 (HN.out.1.right_none HN.out.2.1 c1 q8 q4), HW0.out⟩
end Go.Proofs.Ytfnhffcjhdeleaa
