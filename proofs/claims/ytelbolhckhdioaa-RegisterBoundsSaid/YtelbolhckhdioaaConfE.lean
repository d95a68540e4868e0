import Derived.Test.YtelbolhckhdioaaConfD
namespace Go.Proofs.Ytelbolhckhdioaa
open Go.RowKit

theorem memb_info : (Try.prog.info? 135).map (fun i => (i.zero, i.size, i.bytes)) = some (some (.agg #[.int .i64 0, .int .i64 0]), 2, 16) := by kernel_rfl
theorem secu_info : (Try.prog.info? 137).map (fun i => (i.zero, i.size, i.bytes)) = some (some (.agg #[.int .i64 0, .int .i64 0]), 2, 16) := by kernel_rfl
theorem cyc_info : (Try.prog.info? 139).map (fun i => (i.zero, i.size, i.bytes)) = some (some (.agg #[.int .i64 0, .int .i64 0, .int .i64 0, .int .i64 0]), 4, 32) := by kernel_rfl

def pMemb : Memb := ⟨1000, 100⟩
def pSec : Secu := ⟨10, 12⟩
def pCyc (i : Nat) : Cyc := ⟨10 * i + 4, 10 * i + 7, 10 * i + 9, 10 * i + 10⟩
/-- A plain config of so many. -/
def plainCf (a b c : Nat) : Conf := ⟨List.replicate a pMemb, List.replicate b pSec, (List.range c).map pCyc, 500, 200, 1, 64, 32⟩
def zeroCfg : Array Value := #[.slice none 0 0, .slice none 0 0, .slice none 0 0, .int .i64 0, .int .i64 0, .int .i64 0, .int .i64 0, .int .i64 0]
def midCfg (a b c : Value) : Array Value := #[a, b, c, .int .i64 500, .int .i64 200, .int .i64 1, .int .i64 64, .int .i64 32]

/-- What holds in the loops that fill a plain config: the result's block, the config's own, the lists. -/
structure PlainW (w wr : World) (a b c : Nat) (va vb vc : Value) : Prop where
  res : Blk wr w.heap.size 78 #[.slice none 0 0, .slice none 0 0, .slice none 0 0, .int .i64 0, .int .i64 0, .int .i64 0, .int .i64 0, .int .i64 0]
  own : Blk wr (w.heap.size + 1) 78 #[va, vb, vc, .int .i64 500, .int .i64 200, .int .i64 1, .int .i64 64, .int .i64 32]
  ra : wr.ownsRow (w.heap.size + 2) 135 2 va a ((List.replicate a pMemb).flatMap Memb.cells)
  rb : wr.ownsRow (w.heap.size + 2) 137 2 vb b ((List.replicate b pSec).flatMap Secu.cells)
  rc : wr.ownsRow (w.heap.size + 2) 139 4 vc c (((List.range c).map pCyc).flatMap Cyc.cells)
  below : Below w.heap.size w wr

theorem PlainW.size {w wr : World} {a b c : Nat} {va vb vc : Value} (h : PlainW w wr a b c va vb vc) : w.heap.size + 2 ≤ wr.heap.size := by have := h.own.lt; omega

theorem own_ne {w : World} {base base' : Nat} {e e' : TypeId} {size size' n n' : Nat} {v v' : Value} {xs xs' : List Value} (h : w.ownsRow base e size v n xs) (h' : w.ownsRow base' e' size' v' n' xs') (hne : e ≠ e') : v.ownBlock = none ∨ v.ownBlock ≠ v'.ownBlock := by
  rcases h.2 with ⟨rfl, _⟩ | ⟨g, cap, cur, rfl, _, hh, _⟩
  · exact .inl rfl
  · rcases h'.2 with ⟨rfl, _⟩ | ⟨g', cap', cur', rfl, _, hh', _⟩
    · exact .inr (by simp [Value.ownBlock])
    · refine .inr fun he => ?_
      have hgg : g = g' := by simpa [Value.ownBlock] using he
      subst hgg
      rw [hh] at hh'
      injection hh' with hh'
      injection hh' with _ ht
      exact hne ht

theorem own_up {w : World} {base g : Nat} {e : TypeId} {size n : Nat} {v : Value} {xs : List Value} (h : w.ownsRow base e size v n xs) (hg : g < base) : v.ownBlock ≠ some g := fun e => by have := (h.lt g e).1; omega

theorem PlainW.stepA {w wr w' : World} {a b c : Nat} {va vb vc v' : Value} {o : Obj} (h : PlainW w wr a b c va vb vc) (hown : w'.ownsRow (w.heap.size + 2) 135 2 v' (a + 1) ((List.replicate (a + 1) pMemb).flatMap Memb.cells)) (hg : (wr.alloc o).grownBy w' va.ownBlock) :
    PlainW w (w'.setCell ⟨w.heap.size + 1, 0, none⟩ v') (a + 1) b c v' vb vc := by
  have hs := h.size
  have b0 : Blk w' w.heap.size _ _ := (h.res.alloc o).grown hg (own_up h.ra (by omega))
  have b1 : Blk w' (w.heap.size + 1) _ _ := (h.own.alloc o).grown hg (own_up h.ra (by omega))
  exact ⟨b0.far (by simp) _, b1.put 0 v', own_far hown (own_up hown (by simp)) _, own_far (((h.rb).alloc o).kept hg (own_ne ((h.rb).alloc o) ((h.ra).alloc o) (by decide))) (own_up h.rb (by simp)) _, own_far (((h.rc).alloc o).kept hg (own_ne ((h.rc).alloc o) ((h.ra).alloc o) (by decide))) (own_up h.rc (by simp)) _, (below_own ((h.below).alloc (by omega) o) hg h.ra (by simp; omega) (by omega)).setCell (by simp) _⟩

theorem PlainW.stepB {w wr w' : World} {a b c : Nat} {va vb vc v' : Value} {o : Obj} (h : PlainW w wr a b c va vb vc) (hown : w'.ownsRow (w.heap.size + 2) 137 2 v' (b + 1) ((List.replicate (b + 1) pSec).flatMap Secu.cells)) (hg : (wr.alloc o).grownBy w' vb.ownBlock) :
    PlainW w (w'.setCell ⟨w.heap.size + 1, 1, none⟩ v') a (b + 1) c va v' vc := by
  have hs := h.size
  have b0 : Blk w' w.heap.size _ _ := (h.res.alloc o).grown hg (own_up h.rb (by omega))
  have b1 : Blk w' (w.heap.size + 1) _ _ := (h.own.alloc o).grown hg (own_up h.rb (by omega))
  exact ⟨b0.far (by simp) _, b1.put 1 v', own_far (((h.ra).alloc o).kept hg (own_ne ((h.ra).alloc o) ((h.rb).alloc o) (by decide))) (own_up h.ra (by simp)) _, own_far hown (own_up hown (by simp)) _, own_far (((h.rc).alloc o).kept hg (own_ne ((h.rc).alloc o) ((h.rb).alloc o) (by decide))) (own_up h.rc (by simp)) _, (below_own ((h.below).alloc (by omega) o) hg h.rb (by simp; omega) (by omega)).setCell (by simp) _⟩

theorem PlainW.stepC {w wr w' : World} {a b c : Nat} {va vb vc v' : Value} {o : Obj} (h : PlainW w wr a b c va vb vc) (hown : w'.ownsRow (w.heap.size + 2) 139 4 v' (c + 1) (((List.range (c + 1)).map pCyc).flatMap Cyc.cells)) (hg : (wr.alloc o).grownBy w' vc.ownBlock) :
    PlainW w (w'.setCell ⟨w.heap.size + 1, 2, none⟩ v') a b (c + 1) va vb v' := by
  have hs := h.size
  have b0 : Blk w' w.heap.size _ _ := (h.res.alloc o).grown hg (own_up h.rc (by omega))
  have b1 : Blk w' (w.heap.size + 1) _ _ := (h.own.alloc o).grown hg (own_up h.rc (by omega))
  exact ⟨b0.far (by simp) _, b1.put 2 v', own_far (((h.ra).alloc o).kept hg (own_ne ((h.ra).alloc o) ((h.rc).alloc o) (by decide))) (own_up h.ra (by simp)) _, own_far (((h.rb).alloc o).kept hg (own_ne ((h.rb).alloc o) ((h.rc).alloc o) (by decide))) (own_up h.rb (by simp)) _, own_far hown (own_up hown (by simp)) _, (below_own ((h.below).alloc (by omega) o) hg h.rc (by simp; omega) (by omega)).setCell (by simp) _⟩

set_option maxRecDepth 100000 in
set_option maxHeartbeats 4000000 in
theorem plain_any (m s c : Int) (w : World) :
    Calls Try.prog 88 #[.int .i64 m, .int .i64 s, .int .i64 c] w fun e w' => ∃ va vb vc, e = .returned (.agg #[va, vb, vc, .int .i64 500, .int .i64 200, .int .i64 1, .int .i64 64, .int .i64 32]) ∧
      w'.ownsRow (w.heap.size + 2) 135 2 va (nearI m 2 16).toNat ((plainCf (nearI m 2 16).toNat (nearI s 1 8).toNat (nearI c 1 4).toNat).members.flatMap Memb.cells) ∧
      w'.ownsRow (w.heap.size + 2) 137 2 vb (nearI s 1 8).toNat ((plainCf (nearI m 2 16).toNat (nearI s 1 8).toNat (nearI c 1 4).toNat).secs.flatMap Secu.cells) ∧
      w'.ownsRow (w.heap.size + 2) 139 4 vc (nearI c 1 4).toNat ((plainCf (nearI m 2 16).toNat (nearI s 1 8).toNat (nearI c 1 4).toNat).cycles.flatMap Cyc.cells) ∧ Below w.heap.size w w' := by
  obtain ⟨im, hm, jm⟩ := info_parts memb_info
  obtain ⟨is, hs, js⟩ := info_parts secu_info
  obtain ⟨ic, hc, jc⟩ := info_parts cyc_info
  have b1 := nearI_bd m 2 16 (by omega)
  have b2 := nearI_bd s 1 8 (by omega)
  have b3 := nearI_bd c 1 4 (by omega)
  obtain ⟨a, ha⟩ : ∃ a : Nat, Hid (nearI m 2 16 = a) := ⟨(nearI m 2 16).toNat, by show _ = _; omega⟩
  obtain ⟨b, hb⟩ : ∃ a : Nat, Hid (nearI s 1 8 = a) := ⟨(nearI s 1 8).toNat, by show _ = _; omega⟩
  obtain ⟨d, hd⟩ : ∃ a : Nat, Hid (nearI c 1 4 = a) := ⟨(nearI c 1 4).toNat, by show _ = _; omega⟩
  rw [ha.out] at b1
  rw [hb.out] at b2
  rw [hd.out] at b3
  rw [ha.out, hb.out, hd.out]
  simp only [Int.toNat_natCast]
  go_enter Try.func88, Try.ntmps88
  go_wp2_with fail
  refine (near_any _ _ _ _ (by omega)).mono ?_
  rw [ha.out]
  rintro e w' ⟨rfl, rfl⟩
  go_wp2_with fail
  go_loopw [12] (fun i wr => ∃ (k : Nat) (va vb vc : Value), k ≤ a ∧ i = .int .i64 k ∧ PlainW w wr k 0 0 va vb vc) (fun i _ => a - (intOf i).toNat)
  case atStart => exact ⟨0, _, _, _, Nat.zero_le _, rfl, ⟨(Blk.new w _ _ _ rfl).alloc _, Blk.new _ _ _ _ (by simp), World.ownsRow_nil _ _ _ _, World.ownsRow_nil _ _ _ _, World.ownsRow_nil _ _ _ _, ((Below.refl _ _).alloc (Nat.le_refl _) _).alloc (by simp) _⟩⟩
  case round =>
    obtain ⟨k, va, vb, vc, hk, rfl, hP⟩ := hrel
    have hsz := hP.size
    have g0 : wr.cell? ⟨w.heap.size + 1, 0, none⟩ = some va := hP.own.cell 0
    by_cases hlt : k < a
    · go_wp2_with (at_builtin; refine wpList_append_lit _ _ rfl (.tmp 15) (.tmp 17) 74 rfl (w.heap.size + 2) 135 im _ 2 16 Try.underlying74 hm jm.1 jm.2.1 jm.2.2 rfl (by decide) _ _ _ rfl hP.ra _ 1 1 rfl (by simp) rfl (by simp [Value.oneCell']) (by omega) (by omega) (by omega) ?_; intro v' w' hown' hg'; obtain ⟨A', c', rfl⟩ := own_form hown'; have q0 : w'.cell? ⟨w.heap.size + 1, 0, none⟩ = some va := ((hP.own.alloc _).grown hg' (own_up hP.ra (by omega))).cell 0; have q1 : w'.frozen? ⟨w.heap.size + 1, 0, none⟩ = false := ((hP.own.alloc _).grown hg' (own_up hP.ra (by omega))).frozen 0)
      go_roundw
      case rel => exact ⟨k + 1, _, _, _, by omega, by go_num, hP.stepA (by simpa [List.replicate_succ', pMemb, Memb.cells] using hown') hg'⟩
      case measure => simp [intOf]; omega
    obtain rfl : a = k := by omega
    clear hlt hk
    go_wp2_with fail
    refine (near_any _ _ _ _ (by omega)).mono ?_
    rw [hb.out]
    rintro e w' ⟨rfl, rfl⟩
    go_wp2_with fail
    go_loopw [23] (fun i wr => ∃ (k : Nat) (va vb vc : Value), k ≤ b ∧ i = .int .i64 k ∧ PlainW w wr a k 0 va vb vc) (fun i _ => b - (intOf i).toNat)
    case atStart => exact ⟨0, _, _, _, Nat.zero_le _, rfl, hP⟩
    clear hP g0 hsz va vb vc
    case round =>
      obtain ⟨k, va, vb, vc, hk, rfl, hP⟩ := hrel
      have hsz := hP.size
      have g1 : wr.cell? ⟨w.heap.size + 1, 1, none⟩ = some vb := hP.own.cell 1
      by_cases hlt : k < b
      · go_wp2_with (at_builtin; refine wpList_append_lit _ _ rfl (.tmp 26) (.tmp 28) 75 rfl (w.heap.size + 2) 137 is _ 2 16 Try.underlying75 hs js.1 js.2.1 js.2.2 rfl (by decide) _ _ _ rfl hP.rb _ 1 1 rfl (by simp) rfl (by simp [Value.oneCell']) (by omega) (by omega) (by omega) ?_; intro v' w' hown' hg'; obtain ⟨A', c', rfl⟩ := own_form hown'; have q0 : w'.cell? ⟨w.heap.size + 1, 1, none⟩ = some vb := ((hP.own.alloc _).grown hg' (own_up hP.rb (by omega))).cell 1; have q1 : w'.frozen? ⟨w.heap.size + 1, 1, none⟩ = false := ((hP.own.alloc _).grown hg' (own_up hP.rb (by omega))).frozen 1)
        go_roundw
        case rel => exact ⟨k + 1, _, _, _, by omega, by go_num, hP.stepB (by simpa [List.replicate_succ', pSec, Secu.cells] using hown') hg'⟩
        case measure => simp [intOf]; omega
      obtain rfl : b = k := by omega
      clear hlt hk
      go_wp2_with fail
      refine (near_any _ _ _ _ (by omega)).mono ?_
      rw [hd.out]
      rintro e w' ⟨rfl, rfl⟩
      go_wp2_with fail
      go_loopw [34] (fun i wr => ∃ (k : Nat) (va vb vc : Value), k ≤ d ∧ i = .int .i64 k ∧ PlainW w wr a b k va vb vc) (fun i _ => d - (intOf i).toNat)
      case atStart => exact ⟨0, _, _, _, Nat.zero_le _, rfl, hP⟩
      clear hP g1 hsz va vb vc
      case round =>
        obtain ⟨k, va, vb, vc, hk, rfl, hP⟩ := hrel
        have hsz := hP.size
        have g2 : wr.cell? ⟨w.heap.size + 1, 2, none⟩ = some vc := hP.own.cell 2
        by_cases hlt : k < d
        · go_wp2_with (at_builtin; refine wpList_append_lit _ _ rfl (.tmp 38) (.tmp 52) 76 rfl (w.heap.size + 2) 139 ic _ 4 32 Try.underlying76 hc jc.1 jc.2.1 jc.2.2 rfl (by decide) _ _ _ rfl hP.rc _ 1 1 rfl (by simp) rfl (by simp [Value.oneCell']) (by omega) (by omega) (by omega) ?_; intro v' w' hown' hg'; obtain ⟨A', c', rfl⟩ := own_form hown'; have q0 : w'.cell? ⟨w.heap.size + 1, 2, none⟩ = some vc := ((hP.own.alloc _).grown hg' (own_up hP.rc (by omega))).cell 2; have q1 : w'.frozen? ⟨w.heap.size + 1, 2, none⟩ = false := ((hP.own.alloc _).grown hg' (own_up hP.rc (by omega))).frozen 2)
          go_roundw
          case rel => exact ⟨k + 1, _, _, _, by omega, by go_num, hP.stepC (by simpa [List.range_succ, pCyc, Cyc.cells] using hown') hg'⟩
          case measure => simp [intOf]; omega
        obtain rfl : d = k := by omega
        clear hlt hk
        obtain ⟨Aa, ca, rfl⟩ := own_form hP.ra
        obtain ⟨Ab, cb, rfl⟩ := own_form hP.rb
        obtain ⟨Ac, cc, rfl⟩ := own_form hP.rc
        clear g2
        have g0 := hP.own.cell 0
        have r0 := hP.res.cell 0
        have z0 := hP.res.frozen 0
        have g1 := hP.own.cell 1
        have r1 := hP.res.cell 1
        have z1 := hP.res.frozen 1
        have g2 := hP.own.cell 2
        have r2 := hP.res.cell 2
        have z2 := hP.res.frozen 2
        have g3 := hP.own.cell 3
        have r3 := hP.res.cell 3
        have z3 := hP.res.frozen 3
        have g4 := hP.own.cell 4
        have r4 := hP.res.cell 4
        have z4 := hP.res.frozen 4
        have g5 := hP.own.cell 5
        have r5 := hP.res.cell 5
        have z5 := hP.res.frozen 5
        have g6 := hP.own.cell 6
        have r6 := hP.res.cell 6
        have z6 := hP.res.frozen 6
        have g7 := hP.own.cell 7
        have r7 := hP.res.cell 7
        have z7 := hP.res.frozen 7
        simp at g0 g1 g2 g3 g4 g5 g6 g7 r0 r1 r2 r3 r4 r5 r6 r7
        go_wp2_with fail
        refine bodyPost_ret (v := .agg #[.slice Aa a ca, .slice Ab b cb, .slice Ac d cc, .int .i64 500, .int .i64 200, .int .i64 1, .int .i64 64, .int .i64 32]) (by simp [results, Try.results88, go_sem, r0, r1, r2, r3, r4, r5, r6, r7]) rfl ⟨_, _, _, rfl, ?_, ?_, ?_, ?_⟩
        · have hu := own_up hP.ra (g := w.heap.size) (by omega)
          iterate 8 refine own_far ?_ hu _
          exact hP.ra
        · have hu := own_up hP.rb (g := w.heap.size) (by omega)
          iterate 8 refine own_far ?_ hu _
          exact hP.rb
        · have hu := own_up hP.rc (g := w.heap.size) (by omega)
          iterate 8 refine own_far ?_ hu _
          exact hP.rc
        · iterate 8 refine Below.setCell (B := w.heap.size) ?_ (by exact Nat.le_refl _) _
          exact hP.below
end Go.Proofs.Ytelbolhckhdioaa
