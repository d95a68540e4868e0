import Derived.Test.YtndhhnfhookeaaaTimK
namespace Go.Proofs.Ytndhhnfhookeaaa
open Go.RowKit

theorem dueN_at {now : Int} {f : Tim} : ∀ {l : List Tim} {k : Nat}, (∀ x ∈ l.take k, dueP now x = true) → l[k]? = some f → dueP now f = false → dueN now l = k
  | [], k, _, h, _ => by simp at h
  | x :: l, 0, _, h, hf => by
    simp at h
    subst h
    simp [dueN, hf]
  | x :: l, k + 1, ha, h, hf => by
    have h1 : dueP now x = true := ha x (by simp)
    have h2 := dueN_at (now := now) (f := f) (l := l) (k := k) (fun y hy => ha y (by simp [hy])) (by simpa using h) hf
    unfold dueN at h2 ⊢
    rw [List.takeWhile_cons, if_pos h1, List.length_cons, h2]
theorem dueN_all {now : Int} : ∀ {l : List Tim}, (∀ x ∈ l, dueP now x = true) → dueN now l = l.length
  | [], _ => rfl
  | x :: l, h => by
    have h2 := dueN_all (now := now) (l := l) (fun y hy => h y (by simp [hy]))
    unfold dueN at h2 ⊢
    rw [List.takeWhile_cons, if_pos (h x (by simp)), List.length_cons, List.length_cons, h2]

set_option maxHeartbeats 2000000 in
theorem refDue_any (A : Option Addr) (n cp : Nat) (l : List Tim) (now : Int) (w : World) (hr : Rd w w.heap.size 4 A n (l.flatMap Tim.cells)) (hn : n ≤ 1000) :
    Calls Try.prog 66 #[.slice A n cp, .int .i64 now] w fun e w' => e = .returned (.int .i64 (dueN now l : Nat)) ∧ Below w.heap.size w w' := by
  have HL := Lib.hid (hr.len Tim.cells_len (by omega))
  go_enter Try.func66, Try.ntmps66
  go_wp2_with fail
  go_loopw [5] (fun i wr => ∃ k : Nat, k ≤ n ∧ i = .int .i64 k ∧ Hid (∀ x ∈ l.take k, dueP now x = true) ∧ Below w.heap.size w wr) (fun i _ => n - (intOf i).toNat)
  case atStart => exact ⟨0, Nat.zero_le _, rfl, Lib.hid (by simp), Below.refl _ _⟩
  case round =>
    obtain ⟨k, hk, rfl, HN, hb⟩ := hrel
    by_cases hlt : k < n
    · have hlz : (k : Int) < (n : Int) := by omega
      obtain ⟨f0, hf0⟩ : ∃ f0, Hid (l[k]? = some f0) := ⟨_, Lib.hid (List.getElem?_eq_getElem (by have := HL.out; omega))⟩
      have hg_f : l[k]? = some (l[k]'(by have := HL.out; omega)) := List.getElem?_eq_getElem _
      obtain ⟨b_f, off_f, rfl, hbb_f, hc_f⟩ := (hr.below hb).elem Tim.cells_len hg_f hlt
      have HT_f := Lib.hid (show l.take (k + 1) = l.take k ++ [(l[k]'(by have := HL.out; omega))] from List.take_succ_eq_append_getElem (by have := HL.out; omega))
      have HM_f := Lib.hid (show (l[k]'(by have := HL.out; omega)) ∈ l from List.getElem_mem _)
      generalize (l[k]'(by have := HL.out; omega)) = f at *
      have c0 := hc_f 0 _ rfl
      have c1 := hc_f 1 _ rfl
      have c2 := hc_f 2 _ rfl
      have c3 := hc_f 3 _ rfl
      clear hc_f hg_f
      simp only [Nat.add_zero] at c0
      have HF : Hid (l.take k ++ [f0] = l.take k ++ [f]) := Lib.hid (by rw [← HT_f.out, List.take_add_one, hf0.out]; rfl)
      have hff : f0 = f := by have := List.append_cancel_left HF.out; simpa using this
      rw [hff] at hf0
      clear HF hff
      by_cases hd : f.due ≤ now
      · have HV := Lib.hid (show ∀ x ∈ l.take (k + 1), dueP now x = true by
          rw [HT_f.out]; intro x hx
          rcases List.mem_append.1 hx with h1 | h1
          · exact HN.out x h1
          · rw [List.mem_singleton.1 h1]; exact decide_eq_true hd)
        go_wp2_with fail
        go_roundw
        case rel => exact ⟨k + 1, by omega, by go_num, HV, hb⟩
        case measure => simp [intOf]; omega
      · have HV := Lib.hid (dueN_at HN.out hf0.out (decide_eq_false hd))
        go_wp2_with fail
        go_ret
        exact ⟨by rw [HV.out]; rfl, hb⟩
    · have hlz : ¬ (k : Int) < (n : Int) := by omega
      have HV := Lib.hid (show dueN now l = k by
        have := HN.out
        rw [List.take_of_length_le (by have := HL.out; omega)] at this
        rw [dueN_all this]; have := HL.out; omega)
      go_wp2_with fail
      go_ret
      exact ⟨by rw [HV.out]; rfl, hb⟩
end Go.Proofs.Ytndhhnfhookeaaa
