import Derived.Test.YtjkabmijkbpodabTxtQ
import Derived.Test.YtjkabmijkbpodabMonV
namespace Go.Proofs.Ytjkabmijkbpodab
open Go.RowKit

/-- 'string([]byte{..})' of one digit. -/
theorem conv_digit (W : World) (m : Nat) :
    (convert 124 9 (.slice (some ⟨W.heap.size, 0, none⟩) 1 1)).run Try.prog (W.alloc (.cells #[.int .u8 (48 + (m : Int) % 10)] 5)) = .ok (.string ⟨[dg (m % 10)].toArray⟩) (W.alloc (.cells #[.int .u8 (48 + (m : Int) % 10)] 5)) := by
  refine run_convert_bytes_back (P := Try.prog) _ 124 9 5 ⟨W.heap.size, 0, none⟩ 1 [dg (m % 10)] Try.underlying124 Try.underlying5 Try.underlying9 (fun j hj => ?_)
  obtain rfl : j = 0 := by simpa using hj
  have h2 : (⟨W.heap.size, 0, none⟩ : Addr).add 0 = ⟨W.heap.size, 0, none⟩ := by unfold Addr.add; rfl
  rw [h2, (Blk.new W 5 #[.int .u8 (48 + (m : Int) % 10)] W.heap.size rfl).cell 0]
  have := dg_toNat (m % 10) (Nat.mod_lt _ (by omega))
  simp only [List.getElem_cons_zero, this]
  simp

theorem app_bytes (a b : List UInt8) : (⟨a.toArray⟩ : ByteArray) ++ ⟨b.toArray⟩ = ⟨(a ++ b).toArray⟩ := by
  apply ByteArray.ext
  simp

set_option maxRecDepth 10000 in
set_option maxHeartbeats 1000000 in
theorem refDigits_any (n : Nat) (hn : n < 18446744073709551616) (w : World) :
    Calls Try.prog 71 #[.int .u64 n] w fun e w' => e = .returned (.string ⟨(digT n 1).toArray⟩) ∧ Below w.heap.size w w' := by
  have hcv := fun W => conv_digit W n
  go_enter Try.func71, Try.ntmps71
  go_wp2_with fail
  clear hcv
  go_loopw [0, 3] (fun x s wr => ∃ (f m : Nat) (acc : List Nat), x = .int .u64 m ∧ m ≤ n ∧ Hid (acc ++ low f (m / 10) 0 = low 20 n 1 ∧ m / 10 < 10 ^ f ∧ acc.length + f = 20) ∧ s = .string ⟨((acc.map dg).reverse).toArray⟩ ∧ Below w.heap.size w wr) (fun x _ _ => (intOf x).toNat)
  case atStart => exact ⟨19, n, [n % 10], rfl, Nat.le_refl _, Lib.hid ⟨(low_step 19 n 1 (by omega)).symm, by omega, rfl⟩, rfl, (Below.refl _ _).alloc (Nat.le_refl _) _⟩
  case round =>
    obtain ⟨f, m, acc, rfl, hmn, hh, rfl, hb⟩ := hrel
    have hs := hb.size
    have hal : acc.length ≤ 20 := by have := hh.out; omega
    by_cases h9 : 9 < m
    · obtain ⟨f', hf'⟩ : ∃ f', f = f' + 1 := by
        cases f with
        | zero => have := hh.out.2.1; simp at this; omega
        | succ f => exact ⟨f, rfl⟩
      subst hf'
      have HN : Hid ((acc ++ [m / 10 % 10]) ++ low f' (m / 10 / 10) 0 = low 20 n 1 ∧ m / 10 / 10 < 10 ^ f' ∧ (acc ++ [m / 10 % 10]).length + f' = 20) := Lib.hid (by
        obtain ⟨h1, h2, h3⟩ := hh.out
        rw [low_step _ _ _ (by omega)] at h1
        rw [Nat.pow_succ] at h2
        refine ⟨by rw [List.append_assoc]; exact h1, by omega, by simp; omega⟩)
      have hcv : ∀ W : World, (convert 124 9 (.slice (some ⟨W.heap.size, 0, none⟩) 1 1)).run Try.prog (W.alloc (.cells #[.int .u8 (48 + (m : Int) / 10 % 10)] 5)) = .ok (.string ⟨[dg (m / 10 % 10)].toArray⟩) (W.alloc (.cells #[.int .u8 (48 + (m : Int) / 10 % 10)] 5)) := fun W => by
        have := conv_digit W (m / 10)
        rw [show ((m / 10 : Nat) : Int) = (m : Int) / 10 by omega] at this
        exact this
      have hd : (acc.map dg).reverse.length ≤ 20 := by simpa using hal
      go_wp2_with fail
      go_roundw
      case rel =>
        refine ⟨f', m / 10, acc ++ [m / 10 % 10], by first | rfl | go_num, by omega, HN, ?_, hb.alloc hs _⟩
        rw [show (List.map dg (acc ++ [m / 10 % 10])).reverse = [dg (m / 10 % 10)] ++ (List.map dg acc).reverse by simp, ← app_bytes]
      case measure => simp [intOf]; omega
    · have HD : Hid (acc = low 20 n 1) := Lib.hid (by
        have := hh.out.1
        rw [low_done _ _ _ (by omega)] at this
        simpa using this)
      go_wp2_with fail
      go_ret
      refine ⟨?_, hb⟩
      rw [digT, ← HD.out]
      rfl

theorem extract_mk (l : List UInt8) (a b : Nat) : (⟨l.toArray⟩ : ByteArray).extract a b = ⟨((l.drop a).take (b - a)).toArray⟩ := by
  apply ByteArray.ext
  simp [ByteArray.data_extract, List.extract_eq_take_drop]

set_option maxRecDepth 10000 in
set_option maxHeartbeats 1000000 in
theorem refText_any (a : Int) (ha : inI a) (w : World) :
    Calls Try.prog 48 #[.int .i64 a] w fun e w' => e = .returned (.string ⟨(textI a).toArray⟩) ∧ Below w.heap.size w w' := by
  obtain ⟨n, hn⟩ : ∃ n, Hid (a.natAbs = n) := ⟨_, rfl⟩
  have hs : Hid (sizeI a = n) := Lib.hid (by rw [← hn.out, sizeI]; split <;> omega)
  have hb : n ≤ 9223372036854775808 := by rw [← hn.out]; have := ha.1; have := ha.2; omega
  have D1 := Lib.hid (refDigits_any n (by omega))
  have HP : Hid (digT n 3 = List.replicate (3 - (digT n 1).length) 48 ++ digT n 1) := Lib.hid (digT_pad n (by omega))
  have HS : Hid (digT n 3 = digT (n / 100) 1 ++ digT (n % 100) 2) := Lib.hid (digT_split n (by omega))
  have l0 := digT_len n 1
  have l2 : Hid ((digT (n % 100) 2).length = 2) := Lib.hid (digT_two n)
  have HT : Hid (textI a = if a < 0 then 45 :: (digT (n / 100) 1 ++ 46 :: digT (n % 100) 2) else digT (n / 100) 1 ++ 46 :: digT (n % 100) 2) := Lib.hid (by rw [textI, textN, hn.out])
  rw [HT.out]
  clear HT hn
  generalize digT (n / 100) 1 = x1 at *
  generalize digT (n % 100) 2 = x2 at *
  generalize digT n 3 = x3 at *
  obtain ⟨u, v, hx2⟩ : ∃ u v, x2 = [u, v] := by
    match x2, l2.out with
    | [u, v], _ => exact ⟨u, v, rfl⟩
  subst hx2
  clear l2
  generalize digT n 1 = x at *
  go_enter Try.func48, Try.ntmps48
  go_wp2_with fail
  refine (refSize_any a ha _).mono ?_
  rw [hs.out]
  rintro e w' ⟨rfl, rfl⟩
  go_wp2_with fail
  refine (D1.out _).mono ?_
  rintro e w1 ⟨rfl, hb1⟩
  go_wp2_with fail
  go_loop [3] (fun s => ∃ k : Nat, k ≤ 3 - x.length ∧ s = .string ⟨(List.replicate k 48 ++ x).toArray⟩) (fun s => 3 - (match s with | .string t => t.size | _ => 0))
  case atStart => exact ⟨0, Nat.zero_le _, rfl⟩
  case round =>
    obtain ⟨k, hk, rfl⟩ := hrel
    have hl : (List.replicate k (48 : UInt8) ++ x).length = k + x.length := by simp
    by_cases h3 : k + x.length < 3
    · go_wp2_with fail
      go_round
      case rel =>
        refine ⟨k + 1, by omega, ?_⟩
        exact congrArg Value.string (app_bytes [48] (List.replicate k 48 ++ x))
      case measure => simp [ByteArray.size]; omega
    · obtain rfl : k = 3 - x.length := by omega
      have q3 := dec_f h3
      rw [← HP.out, HS.out]
      clear hl hk h3 q3
      have hx3 : 3 ≤ (x1 ++ [u, v]).length := by rw [← HS.out, HP.out]; simp; omega
      have hx20 : (x1 ++ [u, v]).length ≤ 22 := by rw [← HS.out, HP.out]; simp; omega
      simp only [List.length_append, List.length_cons, List.length_nil] at hx3 hx20
      have q3 : decide ((x1.length : Int) + 2 < 3) = false := dec_f (by omega)
      have e1 : IntKind.i64.wrap ((x1.length : Int) + 2 - 2) = x1.length := by rw [IntWalk.i64_in _ (by omega)]; omega
      go_wp2_with fail
      go_quiet (fail)
      have hX : (⟨(x1 ++ [u, v]).toArray⟩ : ByteArray).extract 0 x1.length ++ ⟨#[46]⟩ ++ (⟨(x1 ++ [u, v]).toArray⟩ : ByteArray).extract x1.length (x1.length + 2) = ⟨(x1 ++ 46 :: [u, v]).toArray⟩ := by
        have h1 : (⟨(x1 ++ [u, v]).toArray⟩ : ByteArray).extract 0 x1.length = ⟨x1.toArray⟩ := by rw [extract_mk]; simp
        have h2 : (⟨(x1 ++ [u, v]).toArray⟩ : ByteArray).extract x1.length (x1.length + 2) = ⟨[u, v].toArray⟩ := by rw [extract_mk]; simp
        have h3 : (⟨#[46]⟩ : ByteArray) = ⟨[46].toArray⟩ := rfl
        rw [h1, h2, h3, app_bytes, app_bytes]
        simp
      rw [hX]
      clear hX e1 q3
      by_cases h0 : a < 0
      · have hl : (x1 ++ 46 :: [u, v]).length ≤ 30 := by simp; omega
        have hX : (⟨#[45]⟩ : ByteArray) ++ ⟨(x1 ++ 46 :: [u, v]).toArray⟩ = ⟨(45 :: (x1 ++ 46 :: [u, v])).toArray⟩ := app_bytes [45] _
        obtain ⟨y, hy⟩ : ∃ y, Hid (x1 ++ 46 :: [u, v] = y) := ⟨_, rfl⟩
        rw [hy.out] at hl hX
        rw [hy.out]
        go_wp2_with fail
        go_ret
        have e := hy.out
        subst e
        refine ⟨?_, below_drewN hb1 _⟩
        first | rfl | (rw [if_pos h0]; rfl) | (rw [if_neg (by omega)]; rfl)
      · skip
        obtain ⟨y, hy⟩ : ∃ y, Hid (x1 ++ 46 :: [u, v] = y) := ⟨_, rfl⟩
        rw [hy.out]
        go_wp2_with fail
        go_ret
        have e := hy.out
        subst e
        refine ⟨?_, below_drewN hb1 _⟩
        first | rfl | (rw [if_pos h0]; rfl) | (rw [if_neg (by omega)]; rfl)
end Go.Proofs.Ytjkabmijkbpodab
