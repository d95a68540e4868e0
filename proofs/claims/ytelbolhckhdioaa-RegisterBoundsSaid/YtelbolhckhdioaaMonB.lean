import Derived.Test.YtelbolhckhdioaaMonA
namespace Go.Proofs.Ytelbolhckhdioaa
open Go.RowKit

def loW (s : Int) : Int := s % 18446744073709551616
def hiW (s : Int) : Int := s / 18446744073709551616 % 18446744073709551616
theorem loW_bd (s : Int) : 0 ≤ loW s ∧ loW s < 18446744073709551616 := by unfold loW; omega
theorem hiW_bd (s : Int) : 0 ≤ hiW s ∧ hiW s < 18446744073709551616 := by unfold hiW; omega
theorem loW_add (s a : Int) : (loW s + a % 18446744073709551616) % 18446744073709551616 = loW (s + a) := by unfold loW; omega
theorem hiW_add (s a : Int) (ha : inI a) : (hiW s + a / 9223372036854775808 % 18446744073709551616 + (loW s + a % 18446744073709551616) / 18446744073709551616) % 18446744073709551616 = hiW (s + a) := by
  obtain ⟨h1, h2⟩ := ha
  have e : a / 9223372036854775808 = a / 18446744073709551616 := by omega
  have e2 : (s + a) / 18446744073709551616 = s / 18446744073709551616 + a / 18446744073709551616 + (s % 18446744073709551616 + a % 18446744073709551616) / 18446744073709551616 := by omega
  unfold hiW loW
  rw [e, e2]
  generalize s / 18446744073709551616 = x
  generalize a / 18446744073709551616 = y
  generalize (s % 18446744073709551616 + a % 18446744073709551616) / 18446744073709551616 = z
  omega

/-- What the closure does: the two words of the sum. -/
def PutW (w : World) (bl bh : Nat) (s a : Int) (e : Ending) (w' : World) : Prop :=
  e = .returned (.tuple #[]) ∧ w' = (w.setCell ⟨bl, 0, none⟩ (.int .u64 (loW (s + a)))).setCell ⟨bh, 0, none⟩ (.int .u64 (hiW (s + a)))

set_option maxHeartbeats 1000000 in
theorem put_any (a s : Int) (bl bh : Nat) (w : World) (ha : inI a) (hl : Blk w bl 210 #[.int .u64 (loW s)]) (hh : Blk w bh 210 #[.int .u64 (hiW s)]) (hne : bh ≠ bl) :
    Calls Try.prog 139 #[.int .i64 a, .pointer (some ⟨bl, 0, none⟩), .pointer (some ⟨bh, 0, none⟩)] w (PutW w bl bh s a) := by
  have c1 : w.cell? ⟨bl, 0, none⟩ = some (.int .u64 (loW s)) := hl.cell 0
  have f1 := hl.frozen 0
  have c2 : ∀ v, (w.setCell ⟨bl, 0, none⟩ v).cell? ⟨bh, 0, none⟩ = some (.int .u64 (hiW s)) := fun v => (hh.far (p := ⟨bl, 0, none⟩) hne v).cell 0
  have f2 : ∀ v, (w.setCell ⟨bl, 0, none⟩ v).frozen? ⟨bh, 0, none⟩ = false := fun v => (hh.far (p := ⟨bl, 0, none⟩) hne v).frozen 0
  have bl1 := loW_bd s
  have bh1 := hiW_bd s
  have HL := Lib.hid (loW_add s a)
  have HH := Lib.hid (hiW_add s a ha)
  obtain ⟨a1, a2⟩ := ha
  generalize loW s = lo at *
  generalize hiW s = hi at *
  obtain ⟨l0, l1⟩ := bl1
  obtain ⟨h0, h1⟩ := bh1
  have r1 := fun w => add64_run lo (a % 18446744073709551616) 0 l0 (by omega) (by omega) (by omega) w
  have r2 := fun w => add64_run hi (a / 9223372036854775808 % 18446744073709551616) ((lo + a % 18446744073709551616) / 18446744073709551616) h0 (by omega) (by omega) (by omega) w
  simp only [Int.add_zero] at r1
  have hu : ∀ z, IntKind.u64.wrap z = z % 18446744073709551616 := IntKind.wrap_u64
  go_enter Try.func139, Try.ntmps139
  go_wp2
  go_end0
  have e1 : (lo + a) % 18446744073709551616 = loW (s + a) := by rw [← HL.out]; omega
  exact ⟨rfl, by rw [e1, HH.out]⟩

theorem sum_bd (l : List Int) (h : ∀ x ∈ l, inI x) : -(9223372036854775808 * (l.length : Int)) ≤ l.sum ∧ l.sum ≤ 9223372036854775808 * (l.length : Int) := by
  induction l with
  | nil => simp
  | cons x l ih =>
    have hx : inI x := h x (List.mem_cons_self ..)
    obtain ⟨h1, h2⟩ := hx
    have := ih fun y hy => h y (List.mem_cons_of_mem _ hy)
    rw [List.sum_cons, List.length_cons]; omega

theorem hiW_eq (s : Int) (h1 : -9223372036854775808000 ≤ s) (h2 : s ≤ 9223372036854775808000) : (hiW s = wrap64 (loW s) / 9223372036854775808 % 18446744073709551616) ↔ inI s := by
  obtain ⟨q, r, hs, hr0, hr1⟩ : ∃ q r : Int, s = 18446744073709551616 * q + r ∧ 0 ≤ r ∧ r < 18446744073709551616 := ⟨s / 18446744073709551616, s % 18446744073709551616, by omega, by omega, by omega⟩
  have e1 : loW s = r := by unfold loW; omega
  have e2 : s / 18446744073709551616 = q := by omega
  have e3 : hiW s = if 0 ≤ q then q else q + 18446744073709551616 := by unfold hiW; rw [e2]; split <;> omega
  rw [e1, e3]
  by_cases h : r < 9223372036854775808
  · have e4 : wrap64 r = r := by unfold wrap64; omega
    have e5 : r / 9223372036854775808 % 18446744073709551616 = 0 := by omega
    rw [e4, e5]; unfold inI; split <;> omega
  · have e4 : wrap64 r = r - 18446744073709551616 := by unfold wrap64; omega
    have e5 : (r - 18446744073709551616) / 9223372036854775808 = -1 := by omega
    rw [e4, e5]; unfold inI; split <;> omega

def i64Cells (x : Int) : List Value := [.int .i64 x]
theorem i64Cells_len (x : Int) : (i64Cells x).length = 1 := rfl

/-- The words of the sum, in their two variables. -/
structure SumW (w wr : World) (s : Int) : Prop where
  hi : Blk wr w.heap.size 210 #[.int .u64 (hiW s)]
  lo : Blk wr (w.heap.size + 1) 210 #[.int .u64 (loW s)]
  below : Below w.heap.size w wr

set_option maxRecDepth 10000 in
set_option maxHeartbeats 1000000 in
theorem sum_any (A : Option Addr) (n c : Nat) (l : List Int) (w : World) (hr : Rd w w.heap.size 1 A n (l.flatMap i64Cells)) (hn : n ≤ 1000) (hg : ∀ x ∈ l, inI x) :
    Calls Try.prog 104 #[.slice A n c] w fun e w' => e = .returned (.tuple #[.int .i64 (amount l.sum), .int .i64 (over l.sum)]) ∧ Below w.heap.size w w' := by
  have HL := Lib.hid (hr.len i64Cells_len (by omega))
  have hbd := sum_bd l hg
  rw [HL.out] at hbd
  have HE := Lib.hid (hiW_eq l.sum (by omega) (by omega))
  have HG := Lib.hid hg
  clear hg hbd
  go_enter Try.func104, Try.ntmps104
  go_wp2_with fail
  go_loopw [12] (fun i wr => ∃ k : Nat, k ≤ n ∧ i = .int .i64 k ∧ SumW w wr (l.take k).sum) (fun i _ => n - (intOf i).toNat)
  case atStart => exact ⟨0, Nat.zero_le _, rfl, ⟨(Blk.new w _ _ _ rfl).alloc _, Blk.new _ _ _ _ (by simp), ((Below.refl _ _).alloc (Nat.le_refl _) _).alloc (by simp) _⟩⟩
  case round =>
    obtain ⟨k, hk, rfl, hS⟩ := hrel
    by_cases hlt : k < n
    · have hg_f : l[k]? = some (l[k]'(by have := HL.out; omega)) := List.getElem?_eq_getElem _
      obtain ⟨b_f, off_f, rfl, hbb_f, hc_f⟩ := (hr.below hS.below).elem i64Cells_len hg_f hlt
      have HT_f := Lib.hid (show l.take (k + 1) = l.take k ++ [(l[k]'(by have := HL.out; omega))] from List.take_succ_eq_append_getElem (by have := HL.out; omega))
      have HM_f := Lib.hid (show (l[k]'(by have := HL.out; omega)) ∈ l from List.getElem_mem _)
      generalize (l[k]'(by have := HL.out; omega)) = f at *
      have c0 := hc_f 0 _ rfl
      clear hc_f hg_f
      simp only [Nat.add_zero, Nat.mul_one] at c0
      have hf := HG.out f HM_f.out
      go_wp2_with fail
      refine (put_any f _ (w.heap.size + 1) w.heap.size _ hf hS.lo hS.hi (by omega)).mono ?_
      rintro e w2 ⟨rfl, rfl⟩
      have HF : Hid ((l.take (k + 1)).sum = (l.take k).sum + f) := by rw [HT_f.out]; show _ = _; simp
      go_wp2_with fail
      go_roundw
      case rel =>
        refine ⟨k + 1, by omega, by go_num, ?_⟩
        rw [HF.out]
        exact ⟨(hS.hi.far (p := ⟨w.heap.size + 1, 0, none⟩) (by simp) _).put 0 _, (hS.lo.put 0 _).far (p := ⟨w.heap.size, 0, none⟩) (by simp) _, (hS.below.setCell (by simp) _).setCell (by exact Nat.le_refl _) _⟩
      case measure => simp [intOf]; omega
    · have hall : l.take k = l := List.take_of_length_le (by have := HL.out; omega)
      rw [hall] at hS
      clear hall
      have c0 : wr.cell? ⟨w.heap.size, 0, none⟩ = some (.int .u64 (hiW l.sum)) := hS.hi.cell 0
      have c1 : wr.cell? ⟨w.heap.size + 1, 0, none⟩ = some (.int .u64 (loW l.sum)) := hS.lo.cell 0
      have b1 := loW_bd l.sum
      have b2 := hiW_bd l.sum
      by_cases hi : inI l.sum
      · have HA := Lib.hid (amount_in hi)
        have q : (hiW l.sum != IntKind.u64.wrap (wrap64 (loW l.sum) / 9223372036854775808)) = false := by rw [IntKind.wrap_u64, HE.out.2 hi]; simp
        have HW := Lib.hid (show wrap64 (loW l.sum) = l.sum by obtain ⟨h1, h2⟩ := hi; unfold wrap64 loW; omega)
        clear hi
        go_wp2
        go_ret2
        exact ⟨ret2 (by rw [HA.out.1, HW.out]) HA.out.2.symm, hS.below⟩
      · have HA := Lib.hid (amount_out hi)
        have q : (hiW l.sum != IntKind.u64.wrap (wrap64 (loW l.sum) / 9223372036854775808)) = true := by rw [IntKind.wrap_u64]; simpa using fun h => hi (HE.out.1 h)
        clear hi
        go_wp2
        go_ret2
        exact ⟨ret2 HA.out.1.symm HA.out.2.symm, hS.below⟩
end Go.Proofs.Ytelbolhckhdioaa
