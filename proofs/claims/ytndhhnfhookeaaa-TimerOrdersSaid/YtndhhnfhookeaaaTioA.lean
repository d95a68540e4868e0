import Derived.Test.YtndhhnfhookeaaaTimN
import Derived.Test.YtndhhnfhookeaaaTimS
import Derived.Test.YtndhhnfhookeaaaTimY
namespace Go.Proofs.Ytndhhnfhookeaaa
open Go.RowKit

/-! ### Plain law of the orders -/
def turnT (l : List Tim) (k : Nat) : List Tim := l.drop k ++ l.take k
theorem turnT_len (l : List Tim) (k : Nat) : (turnT l k).length = l.length := by simp [turnT]; omega
theorem turnT_mem (l : List Tim) (k : Nat) (x : Tim) : x ∈ turnT l k ↔ x ∈ l := turn_mem l k x
theorem turnT_take {l : List Tim} {k i : Nat} {x : Tim} (hk : k ≤ l.length) (hi : i < l.length) (hx : l[(i + k) % l.length]? = some x) : (turnT l k).take (i + 1) = (turnT l k).take i ++ [x] := by
  rw [List.take_add_one, turnT, turn_get l k i hk hi, hx]; rfl
theorem sort_once {l : List Tim} (h : Once l) : Once (sortT l) := once_perm (sortT_perm l).symm h
theorem dueN_lt {now : Int} : ∀ {m : List Tim} {k : Nat} {x : Tim}, k < dueN now m → m[k]? = some x → x.due ≤ now
  | [], k, x, h, hx => by simp at hx
  | y :: m, 0, x, h, hx => by
    simp at hx; subst hx
    unfold dueN at h
    rw [List.takeWhile_cons] at h
    by_cases hy : dueP now y = true
    · simpa [dueP] using hy
    · rw [if_neg hy] at h; simp at h
  | y :: m, k + 1, x, h, hx => by
    unfold dueN at h
    rw [List.takeWhile_cons] at h
    by_cases hy : dueP now y = true
    · rw [if_pos hy] at h
      exact dueN_lt (m := m) (k := k) (by simpa [dueN] using h) (by simpa using hx)
    · rw [if_neg hy] at h; simp at h
theorem dueN_rest (now : Int) : ∀ m : List Tim, dueN now (m.drop (dueN now m)) = 0
  | [] => rfl
  | y :: m => by
    by_cases hy : dueP now y = true
    · have h : dueN now (y :: m) = dueN now m + 1 := by unfold dueN; rw [List.takeWhile_cons, if_pos hy]; simp
      rw [h, List.drop_succ_cons]; exact dueN_rest now m
    · have h : dueN now (y :: m) = 0 := by unfold dueN; rw [List.takeWhile_cons, if_neg hy]; rfl
      rw [h]; exact h
theorem first_at {now : Int} {ts m : List Tim} {k : Nat} (h : sortT ts = m.drop k) (hk : k < dueN now m) : ∃ x, m[k]? = some x ∧ sortT ts = x :: m.drop (k + 1) ∧ x.due ≤ now := by
  have hlt : k < m.length := Nat.lt_of_lt_of_le hk (dueN_le now m)
  refine ⟨m[k], List.getElem?_eq_getElem hlt, ?_, dueN_lt hk (List.getElem?_eq_getElem hlt)⟩
  rw [h]; exact List.drop_eq_getElem_cons hlt
theorem tB_of {a b : Tim} (h : tLe a b) (hne : a ≠ b) : tB a b = true := by
  cases hb : tB a b with
  | true => rfl
  | false => exact absurd (tLe_anti h (tLe_not hb)) hne
theorem below_at {m : List Tim} (h1 : m.Pairwise tLe) (h2 : Once m) {k : Nat} {a b : Tim} (ha : m[k]? = some a) (hb : m[k + 1]? = some b) : tB a b = true := by
  obtain ⟨i1, e1⟩ := List.getElem?_eq_some_iff.1 ha
  obtain ⟨i2, e2⟩ := List.getElem?_eq_some_iff.1 hb
  have r1 := (List.pairwise_iff_getElem.1 h1) k (k + 1) i1 i2 (by omega)
  have r2 := (List.pairwise_iff_getElem.1 h2) k (k + 1) i1 i2 (by omega)
  rw [e1, e2] at r1 r2
  exact tB_of r1 r2
theorem cut_none (now : Int) (l : List Tim) : (l.filter fun f => !dueP now f).filter (dueP now) = [] := by
  rw [List.filter_filter]
  exact List.filter_eq_nil_iff.2 fun y _ => by cases dueP now y <;> simp

/-! ### Two wheels -/
theorem Whv.beside {w w' : World} {g g2 : Nat} {room room2 : Int} {base base2 : Nat} {v v2 : Value} {ts ts2 : List Tim} (h : Whv w g2 room2 base2 v2 ts2) (h0 : Whv w g room base v ts) (ho : Only g v w w') (hne : g2 ≠ g) (hap : ∀ k, v.ownBlock = some k → v2.ownBlock ≠ some k) : Whv w' g2 room2 base2 v2 ts2 := by
  obtain ⟨A, c, h1, h2, h3⟩ := h
  obtain ⟨A0, c0, e1, e2, e3⟩ := h0
  exact ⟨A, c, h1, ho.blk h2 hne (own_blk_ne e3 h2 (by decide)), ho.own h3 (own_blk_ne h3 e2 (by decide)) hap⟩
theorem Whv.besideN {w w' : World} {g g2 : Nat} {room room2 : Int} {base base2 : Nat} {v2 : Value} {ts ts2 : List Tim} (h : Whv w g2 room2 base2 v2 ts2) (h0 : Wh w g room base ts) (ho : Only g (.slice none 0 0) w w') (hne : g2 ≠ g) : Whv w' g2 room2 base2 v2 ts2 := by
  obtain ⟨A, c, h1, h2, h3⟩ := h
  obtain ⟨A0, c0, e2, e3⟩ := h0
  exact ⟨A, c, h1, ho.blk h2 hne (by simp [Value.ownBlock]), ho.own h3 (own_blk_ne h3 e2 (by decide)) (by simp [Value.ownBlock])⟩
theorem Wh.besideN {w w' : World} {g g2 : Nat} {room room2 : Int} {base base2 : Nat} {ts ts2 : List Tim} (h : Wh w g2 room2 base2 ts2) (h0 : Wh w g room base ts) (ho : Only g (.slice none 0 0) w w') (hne : g2 ≠ g) : Wh w' g2 room2 base2 ts2 := by
  obtain ⟨v, hv⟩ := h.whv
  exact (hv.besideN h0 ho hne).wh
/-- A list of the law's own, over a call that parts a wheel. -/
theorem own_besideN {w w' : World} {g : Nat} {room : Int} {base base2 n : Nat} {ts : List Tim} {u : Value} {xs : List Value} (h : w.ownsRow base2 29 4 u n xs) (h0 : Wh w g room base ts) (ho : Only g (.slice none 0 0) w w') : w'.ownsRow base2 29 4 u n xs := by
  obtain ⟨A0, c0, e2, e3⟩ := h0
  exact ho.own h (own_blk_ne h e2 (by decide)) (by simp [Value.ownBlock])

structure Two (w : World) (B ga gb : Nat) (room : Int) (ta tb : List Tim) : Prop where
  ex : ∃ va vb, Whv w ga room B va ta ∧ Whv w gb room B vb tb ∧ (∀ k, va.ownBlock = some k → vb.ownBlock ≠ some k)
  ne : ga ≠ gb
theorem Two.symm {w : World} {B ga gb : Nat} {room : Int} {ta tb : List Tim} (h : Two w B ga gb room ta tb) : Two w B gb ga room tb ta := by
  obtain ⟨⟨va, vb, h1, h2, h3⟩, hne⟩ := h
  exact ⟨⟨vb, va, h2, h1, fun k e1 e2 => h3 k e2 e1⟩, hne.symm⟩
theorem Two.left {w : World} {B ga gb : Nat} {room : Int} {ta tb : List Tim} (h : Two w B ga gb room ta tb) : Wh w ga room B ta := by
  obtain ⟨⟨va, vb, h1, h2, h3⟩, hne⟩ := h; exact h1.wh
theorem Two.right {w : World} {B ga gb : Nat} {room : Int} {ta tb : List Tim} (h : Two w B ga gb room ta tb) : Wh w gb room B tb := h.symm.left
theorem Two.past {w w' : World} {B ga gb : Nat} {room : Int} {ta tb : List Tim} (h : Two w B ga gb room ta tb) (hb : Below w.heap.size w w') : Two w' B ga gb room ta tb := by
  obtain ⟨⟨va, vb, h1, h2, h3⟩, hne⟩ := h
  exact ⟨⟨va, vb, h1.past hb, h2.past hb, h3⟩, hne⟩

/-- Set on the one wheel of two. -/
theorem setTwo_any (B ga gb : Nat) (room : Int) (ta tb : List Tim) (t : Tim) (w : World) (h : Two w B ga gb room ta tb) (hl : ta.length ≤ 1000) (hr : (ta.length : Int) < room) (hB : B ≤ w.heap.size) (hg : B ≤ ga) :
    Calls Try.prog 15 #[.pointer (some ⟨ga, 0, none⟩), .agg #[.int .i64 t.due, .int .i64 t.kind, .int .i64 t.mem, .int .i64 t.lev]] w fun e w' => ∃ code : Int, e = .returned (.int .i64 code) ∧ Two w' B ga gb room (setT ta t) tb ∧ Below B w w' := by
  obtain ⟨⟨va, vb, h1, h2, h3⟩, hne⟩ := h
  have key : ∀ code ts' e w', SetVPost ga room B va w code ts' e w' → ∃ code : Int, e = .returned (.int .i64 code) ∧ Two w' B ga gb room ts' tb ∧ Below B w w' := by
    rintro code ts' e w' ⟨rfl, v', hv', ho, hd⟩
    refine ⟨code, rfl, ⟨⟨v', vb, hv', h2.beside h1 ho hne.symm h3, ?_⟩, hne⟩, ho.frame hg hB fun k e => (h1.own_le k e).1⟩
    intro k hk
    rcases hd with e | ⟨k', e, hk'⟩
    · exact h3 k (by rw [← e]; exact hk)
    · rw [hk] at e; cases e
      intro e2
      have := (h2.own_le _ e2).2
      omega
  cases hh : hasT ta t with
  | true =>
    have hs : setT ta t = ta := by rw [setT, if_pos hh]
    rw [hs]
    exact (setv_twice ga room B ta t va w h1 hl hh hB).mono fun e w' h => key _ _ e w' h
  | false =>
    have hs : setT ta t = ta ++ [t] := by rw [setT, if_neg (by rw [hh]; simp)]
    rw [hs]
    exact (setv_new ga room B ta t va w h1 hl hh (by omega) hB).mono fun e w' h => key _ _ e w' h
end Go.Proofs.Ytndhhnfhookeaaa
