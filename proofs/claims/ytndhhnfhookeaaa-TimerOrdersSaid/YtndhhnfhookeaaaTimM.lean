import Derived.Test.YtndhhnfhookeaaaTimE
import Derived.Maps.AppendAt
namespace Go.Proofs.Ytndhhnfhookeaaa
open Go.RowKit

/-! ### What a wheel's calls leave of all that lies beside it -/
/-- Nothing that was there is touched, but block g and the row of v. -/
structure Only (g : Nat) (v : Value) (w w' : World) : Prop where
  os : w'.os = w.os
  tape : w'.tape = w.tape
  output : w'.output = w.output
  size : w.heap.size ≤ w'.heap.size
  block : ∀ k, k < w.heap.size → k ≠ g → v.ownBlock ≠ some k → w'.heap[k]? = w.heap[k]?
theorem Only.of_below {g : Nat} {v : Value} {w w' : World} (h : Below w.heap.size w w') : Only g v w w' := ⟨h.os, h.tape, h.output, h.size, fun k hk _ _ => h.block k hk⟩
theorem Only.below {g : Nat} {v : Value} {a w w' : World} (h : Only g v a w) (hb : Below w.heap.size w w') : Only g v a w' :=
  ⟨hb.os.trans h.os, hb.tape.trans h.tape, hb.output.trans h.output, Nat.le_trans h.size hb.size, fun k hk h1 h2 => (hb.block k (Nat.lt_of_lt_of_le hk h.size)).trans (h.block k hk h1 h2)⟩
theorem Only.grown {g : Nat} {v : Value} {a w w' : World} (h : Only g v a w) (hg : w.grownBy w' v.ownBlock) : Only g v a w' :=
  ⟨hg.os.trans h.os, hg.tape.trans h.tape, hg.output.trans h.output, Nat.le_trans h.size hg.size, fun k hk h1 h2 => (hg.block k (Nat.lt_of_lt_of_le hk h.size) (fun e => h2 e.symm)).trans (h.block k hk h1 h2)⟩
theorem Only.setCell {g : Nat} {v : Value} {a w : World} (h : Only g v a w) (p : Addr) (hp : p.block = g) (u : Value) : Only g v a (w.setCell p u) :=
  ⟨h.os, h.tape, h.output, by have := h.size; simpa [World.setCell] using this, fun k hk h1 h2 => (Below.heap_setCell w p u k (by rw [hp]; exact h1)).trans (h.block k hk h1 h2)⟩
/-- What lies below the wheel and its row stays. -/
theorem Only.past {g B : Nat} {v : Value} {a w w' : World} (h : Only g v w w') (hb : Below B a w) (hw : B ≤ w.heap.size) (hg : B ≤ g) (hv : ∀ k, v.ownBlock = some k → B ≤ k) : Below B a w' :=
  Below.trans hb ⟨h.os, h.tape, h.output, h.size, fun k hk => h.block k (by omega) (by omega) (fun e => by have := hv k e; omega)⟩
theorem Only.blk {g : Nat} {v : Value} {w w' : World} (h : Only g v w w') {k : Nat} {t : TypeId} {arr : Array Value} (hb : Blk w k t arr) (hk : k ≠ g) (hv : v.ownBlock ≠ some k) : Blk w' k t arr := by
  have hlt := hb.lt
  unfold Blk at hb ⊢
  rw [h.block k hlt hk hv]; exact hb
theorem Only.own {g : Nat} {v u : Value} {w w' : World} (h : Only g v w w') {base : Nat} {e : TypeId} {size n : Nat} {xs : List Value} (ho : w.ownsRow base e size u n xs) (hg : u.ownBlock ≠ some g) (hv : ∀ k, v.ownBlock = some k → u.ownBlock ≠ some k) : w'.ownsRow base e size u n xs := by
  refine ⟨ho.1, ?_⟩
  rcases ho.2 with h0 | ⟨k, cap, cur, rfl, hb, hh, h1⟩
  · exact .inl h0
  · refine .inr ⟨k, cap, cur, rfl, hb, ?_, h1⟩
    have hlt : k < w.heap.size := by
      rcases Nat.lt_or_ge k w.heap.size with hlt | hge
      · exact hlt
      · rw [Array.getElem?_eq_none hge] at hh; cases hh
    rw [h.block k hlt (fun e => hg (by rw [← e]; rfl)) (fun e => hv k e rfl)]; exact hh

/-- A wheel whose row is named. -/
def Whv (w : World) (g : Nat) (room : Int) (base : Nat) (v : Value) (ts : List Tim) : Prop :=
  ∃ A c, v = .slice A ts.length c ∧ Blk w g 113 #[.int .i64 room, v] ∧ w.ownsRow base 29 4 v ts.length (ts.flatMap Tim.cells)
theorem Whv.wh {w : World} {g : Nat} {room : Int} {base : Nat} {v : Value} {ts : List Tim} (h : Whv w g room base v ts) : Wh w g room base ts := by
  obtain ⟨A, c, rfl, h1, h2⟩ := h; exact ⟨A, c, h1, h2⟩
theorem Wh.whv {w : World} {g : Nat} {room : Int} {base : Nat} {ts : List Tim} (h : Wh w g room base ts) : ∃ v, Whv w g room base v ts := by
  obtain ⟨A, c, h1, h2⟩ := h; exact ⟨_, A, c, rfl, h1, h2⟩

/-- step_append_blk, and where the new row lies. -/
theorem step_append_blk_at {P : Program} {ops : Array Oper} {o : Oper} {a : Act} {W : World} {K : Act → World → Prop} {Q : Exit → Act → World → Prop} {E : Prop}
    (hgd : o.guard = none) (s x : Operand) (t : TypeId) (ho : o.op = .call { callee := .builtin .append, args := #[s, x], argTypes := #[t, t] })
    (base : Nat) (e : TypeId) (i : TypeInfo) (z : Value) (size bytes : Nat) (ht : P.underlying t = some (.slice e)) (hi : P.info? e = some i) (hz : i.zero = some z)
    (hsize : i.size = size) (hby : i.bytes = bytes) (hzs : z.cells.size = size) (hsz : 0 < size)
    (v : Value) (n : Nat) (xs : List Value) (hs : a.eval s = v) (hown : W.ownsRow base e size v n xs)
    (g m c : Nat) (arr : Array Value) (hx : a.eval x = .slice (some ⟨g, 0, none⟩) m c) (hb : Blk W g e arr) (hl : arr.size = m * size) (h1 : ∀ u ∈ arr.toList, u.oneCell' = true)
    (h63 : n + m ≤ 1000000) (hsz2 : bytes ≤ 1000000) (hbase : base ≤ W.heap.size)
    (h : ∀ v' w', w'.ownsRow base e size v' (n + m) (xs ++ arr.toList) → W.grownBy w' v.ownBlock → (v'.ownBlock = v.ownBlock ∨ v'.ownBlock = some W.heap.size) → K (a.put o.dst v') w') :
    if Region.wanted o (yielded ops a.tmps) = true then Oper.wp P o a W K Q else E := by
  have hw : Region.wanted o (yielded ops a.tmps) = true := by simp [Region.wanted, hgd]
  rw [if_pos hw]
  have hbb : (n + m) * bytes ≤ 140737488355328 := by
    have : (n + m) * bytes ≤ 1000000 * 1000000 := Nat.mul_le_mul h63 hsz2
    omega
  have hnews : ∀ (j : Nat) (u : Value), arr.toList[j]? = some u → W.cell? ((⟨g, 0, none⟩ : Addr).add j) = some u := by
    intro j u hu
    have hj : (⟨g, 0, none⟩ : Addr).add j = ⟨g, j, none⟩ := by
      unfold Addr.add; split
      · rename_i h0; rw [h0]
      · simp
    rw [hj, hb.cell j]
    simpa using hu
  obtain ⟨v', w', hr, h2, h3, _, h5⟩ := run_append_own_at (P := P) W base t o.type e i z size bytes ht hi hz hsize hby hzs hsz v n xs hown ⟨g, 0, none⟩ m c arr.toList (by simpa using hl) hnews h1 (by simp only [maxLen]; omega) hbb hbase
  unfold Oper.wp execOp
  simp only [ho, resolve, invoke, builtin, Sem.run_bind, Sem.run_pure, Result.andThen_ok, List.map_toArray, List.map_cons, List.map_nil, hs, hx, hr]
  exact h v' w' h2 h3 h5
end Go.Proofs.Ytndhhnfhookeaaa
