import Derived.Test.YtfnhffcjhdeleaaConfM
import Derived.Test.YtfnhffcjhdeleaaTradB
import Derived.Test.YtfnhffcjhdeleaaBase
import Derived.Maps.AppendAt
import Derived.Deep.RegionLaw
import Derived.Test.YtfnhffcjhdeleaaNbA
import Derived.Test.YtfnhffcjhdeleaaConfD
import Derived.IntWalk
/-! ## from TradM -/
namespace Go.Proofs.Ytfnhffcjhdeleaa
open Go.RowKit

/-- Is a trade too great? -/
def greatB (t : Trad) : Bool := decide (over (t.qty * t.price) ≠ 0) || (decide (288230376151711744 < amount (t.qty * t.price)) || decide (274877906944 < t.qty))

theorem member_ok (A1 A2 A3 : Option Addr) (n1 n2 n3 cp1 cp2 cp3 : Nat) (cf : Conf) (i : Int) (w : World) (hr : CfRd w A1 n1 A2 n2 A3 n3 cf) (h1 : 1 ≤ i) (h2 : i ≤ n1) :
    Calls Try.prog 118 #[.agg #[.slice A1 n1 cp1, .slice A2 n2 cp2, .slice A3 n3 cp3, .int .i64 cf.line, .int .i64 cf.capital, .int .i64 cf.lead, .int .i64 cf.trades, .int .i64 cf.bids], .int .i64 i] w fun e w' => ∃ a b : Int, e = .returned (.tuple #[.agg #[.int .i64 a, .int .i64 b], .int .i64 0]) ∧ Below w.heap.size w w' := by
  have hl := hr.m.len Memb.cells_len (by omega)
  have hx : cf.members[(i - 1).toNat]? = some (cf.members[(i - 1).toNat]'(by omega)) := List.getElem?_eq_getElem _
  refine (member_yes A1 A2 A3 n1 n2 n3 cp1 cp2 cp3 cf i w hr h1 h2 _ hx).mono ?_
  rintro e w' ⟨rfl, hb⟩
  exact ⟨_, _, rfl, hb⟩
theorem sec_ok (A1 A2 A3 : Option Addr) (n1 n2 n3 cp1 cp2 cp3 : Nat) (cf : Conf) (i : Int) (w : World) (hr : CfRd w A1 n1 A2 n2 A3 n3 cf) (h1 : 1 ≤ i) (h2 : i ≤ n2) :
    Calls Try.prog 119 #[.agg #[.slice A1 n1 cp1, .slice A2 n2 cp2, .slice A3 n3 cp3, .int .i64 cf.line, .int .i64 cf.capital, .int .i64 cf.lead, .int .i64 cf.trades, .int .i64 cf.bids], .int .i64 i] w fun e w' => ∃ a b : Int, e = .returned (.tuple #[.agg #[.int .i64 a, .int .i64 b], .int .i64 0]) ∧ Below w.heap.size w w' := by
  have hl := hr.s.len Secu.cells_len (by omega)
  have hx : cf.secs[(i - 1).toNat]? = some (cf.secs[(i - 1).toNat]'(by omega)) := List.getElem?_eq_getElem _
  refine (sec_yes A1 A2 A3 n1 n2 n3 cp1 cp2 cp3 cf i w hr h1 h2 _ hx).mono ?_
  rintro e w' ⟨rfl, hb⟩
  exact ⟨_, _, rfl, hb⟩

def hasB (n : Nat) (i : Int) : Bool := decide (1 ≤ i) && decide (i ≤ n)
theorem hasB_t {n : Nat} {i : Int} (h : hasB n i = true) : 1 ≤ i ∧ i ≤ n := by simpa [hasB] using h
theorem hasB_f {n : Nat} {i : Int} (h : hasB n i = false) : i < 1 ∨ (n : Int) < i := by simp [hasB] at h; omega
def whoC (n : Nat) (t : Trad) : Int := if (hasB n t.buyer && hasB n t.seller) = true then (if t.buyer = t.seller then 1 else 0) else 9

/-- What is wrong with a trade, first. -/
def checkT (n1 n2 : Nat) (t : Trad) : Int :=
  if whoC n1 t = 0 then (if hasB n2 t.sec = true then (if (decide (t.qty < 1) || decide (t.price < 1)) = true then 1 else if greatB t = true then 2 else 0) else 10) else whoC n1 t

end Go.Proofs.Ytfnhffcjhdeleaa

/-! ## from TradN -/
namespace Go.Proofs.Ytfnhffcjhdeleaa
open Go.RowKit

set_option maxHeartbeats 2000000 in
theorem refCheckT_any (A1 A2 A3 : Option Addr) (n1 n2 n3 cp1 cp2 cp3 : Nat) (cf : Conf) (t : Trad) (w : World) (hq : inI t.qty) (hp : inI t.price) :
    Calls Try.prog 133 #[.agg #[.slice A1 n1 cp1, .slice A2 n2 cp2, .slice A3 n3 cp3, .int .i64 cf.line, .int .i64 cf.capital, .int .i64 cf.lead, .int .i64 cf.trades, .int .i64 cf.bids], .agg #[.int .i64 t.id, .int .i64 t.buyer, .int .i64 t.seller, .int .i64 t.sec, .int .i64 t.qty, .int .i64 t.price]] w fun e w' => e = .returned (.int .i64 (checkT n1 n2 t)) ∧ Below w.heap.size w w' := by
  have hB0 : Below w.heap.size w ((w.alloc (.cells #[.slice A1 n1 cp1, .slice A2 n2 cp2, .slice A3 n3 cp3, .int .i64 cf.line, .int .i64 cf.capital, .int .i64 cf.lead, .int .i64 cf.trades, .int .i64 cf.bids] 89)).alloc (.cells #[.int .i64 t.id, .int .i64 t.buyer, .int .i64 t.seller, .int .i64 t.sec, .int .i64 t.qty, .int .i64 t.price] 155)) := ((Below.refl _ _).alloc (Nat.le_refl _) _).alloc (by simp) _
  have bt0 := Blk.new (w.alloc (.cells #[.slice A1 n1 cp1, .slice A2 n2 cp2, .slice A3 n3 cp3, .int .i64 cf.line, .int .i64 cf.capital, .int .i64 cf.lead, .int .i64 cf.trades, .int .i64 cf.bids] 89)) 155 #[.int .i64 t.id, .int .i64 t.buyer, .int .i64 t.seller, .int .i64 t.sec, .int .i64 t.qty, .int .i64 t.price] (w.heap.size + 1) (by simp)
  by_cases a1 : t.buyer < 1
  · have HN : Hid (checkT n1 n2 t = 9) := Lib.hid (by have hz : hasB n1 t.buyer = false := (by simp [hasB]; omega); simp [checkT, whoC, hz])
    have q1 := dec_t a1
    go_enter Try.func133, Try.ntmps133
    go_wp2_with fail
    go_ret
    rw [HN.out]; exact ⟨rfl, hB0⟩
  have q1 := dec_f a1
  by_cases a2 : (n1 : Int) < t.buyer
  · have HN : Hid (checkT n1 n2 t = 9) := Lib.hid (by have hz : hasB n1 t.buyer = false := (by simp [hasB]; omega); simp [checkT, whoC, hz])
    have q2 := dec_t a2
    go_enter Try.func133, Try.ntmps133
    go_wp2_with fail
    go_ret
    rw [HN.out]; exact ⟨rfl, hB0⟩
  have q2 := dec_f a2
  by_cases a3 : t.seller < 1
  · have HN : Hid (checkT n1 n2 t = 9) := Lib.hid (by have hz : hasB n1 t.seller = false := (by simp [hasB]; omega); simp [checkT, whoC, hz])
    have q3 := dec_t a3
    go_enter Try.func133, Try.ntmps133
    go_wp2_with fail
    go_ret
    rw [HN.out]; exact ⟨rfl, hB0⟩
  have q3 := dec_f a3
  by_cases a4 : (n1 : Int) < t.seller
  · have HN : Hid (checkT n1 n2 t = 9) := Lib.hid (by have hz : hasB n1 t.seller = false := (by simp [hasB]; omega); simp [checkT, whoC, hz])
    have q4 := dec_t a4
    go_enter Try.func133, Try.ntmps133
    go_wp2_with fail
    go_ret
    rw [HN.out]; exact ⟨rfl, hB0⟩
  have q4 := dec_f a4
  have b1 : hasB n1 t.buyer = true := by simp [hasB]; omega
  have b2 : hasB n1 t.seller = true := by simp [hasB]; omega
  by_cases a5 : t.buyer = t.seller
  · have HN : Hid (checkT n1 n2 t = 1) := Lib.hid (by rw [a5] at b1; simp [checkT, whoC, b1, a5])
    have q5 : (t.buyer == t.seller) = true := by simpa using a5
    clear a5
    go_enter Try.func133, Try.ntmps133
    go_wp2_with fail
    go_ret
    rw [HN.out]; exact ⟨rfl, hB0⟩
  have q5 : (t.buyer == t.seller) = false := by simpa using a5
  have w0 : Hid (whoC n1 t = 0) := Lib.hid (by simp [whoC, b1, b2, a5])
  clear a1 a2 a3 a4 a5 b1 b2
  by_cases a6 : t.sec < 1
  · have HN : Hid (checkT n1 n2 t = 10) := Lib.hid (by have hz : hasB n2 t.sec = false := (by simp [hasB]; omega); simp [checkT, w0.out, hz])
    have q6 := dec_t a6
    go_enter Try.func133, Try.ntmps133
    go_wp2_with fail
    go_ret
    rw [HN.out]; exact ⟨rfl, hB0⟩
  have q6 := dec_f a6
  by_cases a7 : (n2 : Int) < t.sec
  · have HN : Hid (checkT n1 n2 t = 10) := Lib.hid (by have hz : hasB n2 t.sec = false := (by simp [hasB]; omega); simp [checkT, w0.out, hz])
    have q7 := dec_t a7
    go_enter Try.func133, Try.ntmps133
    go_wp2_with fail
    go_ret
    rw [HN.out]; exact ⟨rfl, hB0⟩
  have q7 := dec_f a7
  have b3 : Hid (hasB n2 t.sec = true) := Lib.hid (by simp [hasB]; omega)
  clear a6 a7
  by_cases a8 : t.qty ≤ 0
  · have HN : Hid (checkT n1 n2 t = 1) := Lib.hid (by have hz : t.qty < 1 := (by omega); simp [checkT, w0.out, b3.out, hz])
    have q8 := dec_t a8
    go_enter Try.func133, Try.ntmps133
    go_wp2_with fail
    go_ret
    rw [HN.out]; exact ⟨rfl, hB0⟩
  have q8 := dec_f a8
  by_cases a9 : t.price ≤ 0
  · have HN : Hid (checkT n1 n2 t = 1) := Lib.hid (by have hz : t.price < 1 := (by omega); simp [checkT, w0.out, b3.out, hz])
    have q9 := dec_t a9
    go_enter Try.func133, Try.ntmps133
    go_wp2_with fail
    go_ret
    rw [HN.out]; exact ⟨rfl, hB0⟩
  have q9 := dec_f a9
  obtain ⟨v, hv⟩ : ∃ v, Hid (amount (t.qty * t.price) = v) := ⟨_, rfl⟩
  obtain ⟨o, ho⟩ : ∃ v, Hid (over (t.qty * t.price) = v) := ⟨_, rfl⟩
  have HC : Hid (checkT n1 n2 t = if (decide (o ≠ 0) || (decide (288230376151711744 < v) || decide (274877906944 < t.qty))) = true then 2 else 0) := Lib.hid (by
    have x1 : ¬ t.qty < 1 := by omega
    have x2 : ¬ t.price < 1 := by omega
    have x3 : greatB t = (decide (o ≠ 0) || (decide (288230376151711744 < v) || decide (274877906944 < t.qty))) := by rw [greatB, hv.out, ho.out]
    rw [← x3, checkT, w0.out, if_pos rfl, if_pos b3.out, if_neg (by simp [x1, x2])])
  clear a8 a9
  by_cases a10 : 274877906944 < t.qty
  · have HN : Hid (checkT n1 n2 t = 2) := Lib.hid (by rw [HC.out]; simp [a10])
    have q10 := dec_t a10
    go_enter Try.func133, Try.ntmps133
    go_wp2_with fail
    refine (refMul_any _ _ hq hp _).mono ?_
    rw [hv.out, ho.out]
    rintro e w1 ⟨rfl, hb1⟩
    have bt1 := bt0.past hb1
    have f0 := (bt1).cell 0
    have f1 := (bt1).cell 1
    have f2 := (bt1).cell 2
    have f3 := (bt1).cell 3
    have f4 := (bt1).cell 4
    have f5 := (bt1).cell 5
    simp at f0 f1 f2 f3 f4 f5
    go_wp2_with fail
    go_ret
    rw [HN.out]; exact ⟨rfl, Below.past hB0 hb1 hB0.size⟩
  have q10 := dec_f a10
  by_cases a11 : o = 0
  · by_cases a12 : 288230376151711744 < v
    · have HN : Hid (checkT n1 n2 t = 2) := Lib.hid (by rw [HC.out]; simp [a12])
      have q12 := dec_t a12
      go_enter Try.func133, Try.ntmps133
      go_wp2_with fail
      refine (refMul_any _ _ hq hp _).mono ?_
      rw [hv.out, ho.out]
      rintro e w1 ⟨rfl, hb1⟩
      have bt1 := bt0.past hb1
      have f0 := (bt1).cell 0
      have f1 := (bt1).cell 1
      have f2 := (bt1).cell 2
      have f3 := (bt1).cell 3
      have f4 := (bt1).cell 4
      have f5 := (bt1).cell 5
      simp at f0 f1 f2 f3 f4 f5
      subst a11
      go_wp2_with fail
      go_ret
      rw [HN.out]; exact ⟨rfl, Below.past hB0 hb1 hB0.size⟩
    · have HN : Hid (checkT n1 n2 t = 0) := Lib.hid (by rw [HC.out]; simp [a10, a11, a12])
      have q12 := dec_f a12
      go_enter Try.func133, Try.ntmps133
      go_wp2_with fail
      refine (refMul_any _ _ hq hp _).mono ?_
      rw [hv.out, ho.out]
      rintro e w1 ⟨rfl, hb1⟩
      have bt1 := bt0.past hb1
      have f0 := (bt1).cell 0
      have f1 := (bt1).cell 1
      have f2 := (bt1).cell 2
      have f3 := (bt1).cell 3
      have f4 := (bt1).cell 4
      have f5 := (bt1).cell 5
      simp at f0 f1 f2 f3 f4 f5
      subst a11
      go_wp2_with fail
      go_ret
      rw [HN.out]; exact ⟨rfl, Below.past hB0 hb1 hB0.size⟩
  · have HN : Hid (checkT n1 n2 t = 2) := Lib.hid (by rw [HC.out]; simp [a11])
    have q11 : (o == 0) = false := by simpa using a11
    go_enter Try.func133, Try.ntmps133
    go_wp2_with fail
    refine (refMul_any _ _ hq hp _).mono ?_
    rw [hv.out, ho.out]
    rintro e w1 ⟨rfl, hb1⟩
    have bt1 := bt0.past hb1
    have f0 := (bt1).cell 0
    have f1 := (bt1).cell 1
    have f2 := (bt1).cell 2
    have f3 := (bt1).cell 3
    have f4 := (bt1).cell 4
    have f5 := (bt1).cell 5
    simp at f0 f1 f2 f3 f4 f5
    go_wp2_with fail
    go_ret
    rw [HN.out]; exact ⟨rfl, Below.past hB0 hb1 hB0.size⟩
end Go.Proofs.Ytfnhffcjhdeleaa

/-! ## from OnlyG -/
namespace Go.Proofs.Ytfnhffcjhdeleaa
open Go.RowKit

/-- Nothing that was there is touched, but block g and the row of v. -/
structure OnlyG (g : Nat) (v : Value) (w w' : World) : Prop where
  os : w'.os = w.os
  tape : w'.tape = w.tape
  output : w'.output = w.output
  size : w.heap.size ≤ w'.heap.size
  block : ∀ k, k < w.heap.size → k ≠ g → v.ownBlock ≠ some k → w'.heap[k]? = w.heap[k]?
theorem OnlyG.of_below {g : Nat} {v : Value} {w w' : World} (h : Below w.heap.size w w') : OnlyG g v w w' := ⟨h.os, h.tape, h.output, h.size, fun k hk _ _ => h.block k hk⟩
theorem OnlyG.below {g : Nat} {v : Value} {a w w' : World} (h : OnlyG g v a w) (hb : Below w.heap.size w w') : OnlyG g v a w' :=
  ⟨hb.os.trans h.os, hb.tape.trans h.tape, hb.output.trans h.output, Nat.le_trans h.size hb.size, fun k hk h1 h2 => (hb.block k (Nat.lt_of_lt_of_le hk h.size)).trans (h.block k hk h1 h2)⟩
theorem OnlyG.grown {g : Nat} {v : Value} {a w w' : World} (h : OnlyG g v a w) (hg : w.grownBy w' v.ownBlock) : OnlyG g v a w' :=
  ⟨hg.os.trans h.os, hg.tape.trans h.tape, hg.output.trans h.output, Nat.le_trans h.size hg.size, fun k hk h1 h2 => (hg.block k (Nat.lt_of_lt_of_le hk h.size) (fun e => h2 e.symm)).trans (h.block k hk h1 h2)⟩
theorem OnlyG.setCell {g : Nat} {v : Value} {a w : World} (h : OnlyG g v a w) (p : Addr) (hp : p.block = g) (u : Value) : OnlyG g v a (w.setCell p u) :=
  ⟨h.os, h.tape, h.output, by have := h.size; simpa [World.setCell] using this, fun k hk h1 h2 => (Below.heap_setCell w p u k (by rw [hp]; exact h1)).trans (h.block k hk h1 h2)⟩
theorem OnlyG.frame {g B : Nat} {v : Value} {w w' : World} (h : OnlyG g v w w') (hg : B ≤ g) (hw : B ≤ w.heap.size) (hv : ∀ k, v.ownBlock = some k → B ≤ k) : Below B w w' :=
  ⟨h.os, h.tape, h.output, h.size, fun k hk => h.block k (by omega) (by omega) (fun e => by have := hv k e; omega)⟩

/-- step_append_blk, and where the new row lies. -/
theorem step_append_blkG {P : Program} {ops : Array Oper} {o : Oper} {a : Act} {W : World} {K : Act → World → Prop} {Q : Exit → Act → World → Prop} {E : Prop}
    (hgd : o.guard = none) (s x : Operand) (t : TypeId) (ho : o.op = .call { callee := .builtin .append, args := #[s, x], argTypes := #[t, t] })
    (base : Nat) (e : TypeId) (i : TypeInfo) (z : Value) (size bytes : Nat) (ht : P.underlying t = some (.slice e)) (hi : P.info? e = some i) (hz : i.zero = some z)
    (hsize : i.size = size) (hby : i.bytes = bytes) (hzs : z.cells.size = size) (hsz : 0 < size)
    (v : Value) (n : Nat) (xs : List Value) (hs : a.eval s = v) (hown : W.ownsRow base e size v n xs)
    (g m c : Nat) (arr : Array Value) (hx : a.eval x = .slice (some ⟨g, 0, none⟩) m c) (hb : Blk W g e arr) (hl : arr.size = m * size) (h1 : ∀ u ∈ arr.toList, u.oneCell' = true)
    (h63 : n + m ≤ 1000000) (hsz2 : bytes ≤ 1000000) (hbase : base ≤ W.heap.size)
    (h : ∀ v' w', w'.ownsRow base e size v' (n + m) (xs ++ arr.toList) → W.grownBy w' v.ownBlock → (v'.ownBlock = v.ownBlock ∨ v'.ownBlock = some W.heap.size) → K (a.put o.dst v') w') :
    if Region.wanted o (yielded ops a.tmps) = true then Oper.wp P o a W K Q else E := by
  have hw : Region.wanted o (yielded ops a.tmps) = true := by simp [Region.wanted, hgd]
  rw [if_pos hw]
  have hbb : (n + m) * bytes ≤ 140737488355328 := by
    have : (n + m) * bytes ≤ 1000000 * 1000000 := Nat.mul_le_mul h63 hsz2
    omega
  have hnews : ∀ (j : Nat) (u : Value), arr.toList[j]? = some u → W.cell? ((⟨g, 0, none⟩ : Addr).add j) = some u := by
    intro j u hu
    have hj : (⟨g, 0, none⟩ : Addr).add j = ⟨g, j, none⟩ := by
      unfold Addr.add; split
      · rename_i h0; rw [h0]
      · simp
    rw [hj, hb.cell j]
    simpa using hu
  obtain ⟨v', w', hr, h2, h3, _, h5⟩ := run_append_own_at (P := P) W base t o.type e i z size bytes ht hi hz hsize hby hzs hsz v n xs hown ⟨g, 0, none⟩ m c arr.toList (by simpa using hl) hnews h1 (by simp only [maxLen]; omega) hbb hbase
  unfold Oper.wp execOp
  simp only [ho, resolve, invoke, builtin, Sem.run_bind, Sem.run_pure, Result.andThen_ok, List.map_toArray, List.map_cons, List.map_nil, hs, hx, hr]
  exact h v' w' h2 h3 h5

end Go.Proofs.Ytfnhffcjhdeleaa

/-! ## from NetU -/
namespace Go.Proofs.Ytfnhffcjhdeleaa
open Go.RowKit

/-! ### The document's register: rows -/
structure RowR where
  t : Trad
  cyc : Int
  gone : Bool
def RowR.cells (r : RowR) : List Value := [.int .i64 r.t.id, .int .i64 r.t.buyer, .int .i64 r.t.seller, .int .i64 r.t.sec, .int .i64 r.t.qty, .int .i64 r.t.price, .int .i64 r.cyc, .bool r.gone]
theorem RowR.cells_len (r : RowR) : r.cells.length = 8 := rfl
def hereR (c : Int) (r : RowR) : Bool := r.cyc == c && !r.gone
def valR (r : RowR) : Int := r.t.qty * r.t.price
def grossR (c : Int) (l : List RowR) : Int := ((l.filter (hereR c)).map valR).sum
def unitsR (c s : Int) (l : List RowR) : Int := ((l.filter fun r => hereR c r && r.t.sec == s).map fun r => r.t.qty).sum
def usedR (i : Int) (l : List RowR) : Bool := l.any fun r => r.t.id == i
def accR (c : Int) (l : List RowR) : Nat := (l.filter fun r => r.cyc == c).length
theorem checkT_ok {n1 n2 : Nat} {t : Trad} (h : checkT n1 n2 t = 0) : OkT n1 n2 t ∧ t.qty * t.price ≤ 288230376151711744 ∧ t.qty ≤ 274877906944 ∧ inI (t.qty * t.price) := by
  unfold checkT at h
  split at h
  · rename_i hw
    split at h
    · rename_i hs
      split at h
      · omega
      · rename_i hq
        split at h
        · omega
        · rename_i hg
          have hw1 : hasB n1 t.buyer = true ∧ hasB n1 t.seller = true := by
            unfold whoC at hw
            split at hw
            · rename_i hb; simpa using hb
            · omega
          have h1 := hasB_t hw1.1; have h2 := hasB_t hw1.2; have h3 := hasB_t hs
          have h4' : 1 ≤ t.qty ∧ 1 ≤ t.price := by simpa [Int.not_lt] using hq
          have h4 : 0 < t.qty ∧ 0 < t.price := ⟨by omega, by omega⟩
          have h5 : over (t.qty * t.price) = 0 ∧ amount (t.qty * t.price) ≤ 288230376151711744 ∧ t.qty ≤ 274877906944 := by simpa [greatB, Int.not_lt] using hg
          have h6 : inI (t.qty * t.price) := by
            have := h5.1; unfold over at this; split at this
            · assumption
            · omega
          have h7 := h5.2.1
          rw [amount, if_pos h6] at h7
          exact ⟨⟨h1.1, h1.2, h2.1, h2.2, h3.1, h3.2, h4.1, h4.2⟩, h7, h5.2.2, h6⟩
    · omega
  · rename_i hw; exact absurd h hw
/-- What all rows of a register keep. -/
structure RowsOk (n1 n2 : Nat) (c : Int) (l : List RowR) : Prop where
  ok : ∀ r ∈ l, checkT n1 n2 r.t = 0
  top : grossR c l ≤ 288230376151711744
theorem sum_take_le {l : List RowR} {f : RowR → Int} (hf : ∀ r ∈ l, 0 ≤ f r) (p : RowR → Bool) (k : Nat) : 0 ≤ (((l.take k).filter p).map f).sum ∧ (((l.take k).filter p).map f).sum ≤ ((l.filter p).map f).sum := by
  have hnn : ∀ m : List RowR, (∀ r ∈ m, 0 ≤ f r) → 0 ≤ ((m.filter p).map f).sum := fun m hm => by
    induction m with
    | nil => simp
    | cons x m ih =>
      have := ih fun r hr => hm r (by simp [hr])
      have := hm x (by simp)
      rw [List.filter_cons]; split
      · rw [List.map_cons, List.sum_cons]; omega
      · assumption
  refine ⟨hnn _ fun r hr => hf r (List.mem_of_mem_take hr), ?_⟩
  have h2 := hnn (l.drop k) fun r hr => hf r (List.mem_of_mem_drop hr)
  have e : l.filter p = (l.take k).filter p ++ (l.drop k).filter p := by rw [← List.filter_append, List.take_append_drop]
  rw [e, List.map_append, List.sum_append]; omega
theorem units_le {n1 n2 : Nat} {c s : Int} : ∀ {l : List RowR}, (∀ r ∈ l, checkT n1 n2 r.t = 0) → unitsR c s l ≤ grossR c l ∧ 0 ≤ unitsR c s l
  | [], _ => by simp [unitsR, grossR]
  | x :: l, h => by
    have ih := units_le (c := c) (s := s) (l := l) fun r hr => h r (by simp [hr])
    have h1 := (checkT_ok (h x (by simp))).1
    have h2 := h1.le; have h3 := h1.q
    unfold unitsR grossR at ih ⊢
    rw [List.filter_cons, List.filter_cons]
    by_cases hh : hereR c x = true
    · rw [if_pos hh, List.map_cons, List.sum_cons]
      by_cases hs : x.t.sec = s
      · rw [if_pos (by simp [hh, hs]), List.map_cons, List.sum_cons]
        unfold valR; unfold valR at ih; omega
      · rw [if_neg (by simp [hs])]
        unfold valR; unfold valR at ih; omega
    · rw [if_neg hh, if_neg (by simp [hh])]; exact ih
section
variable {l : List RowR} {f : RowR} {k : Nat} {c s i : Int}
theorem filtR_yes {p : RowR → Bool} (hT : l.take (k + 1) = l.take k ++ [f]) (he : p f = true) : (l.take (k + 1)).filter p = (l.take k).filter p ++ [f] := by rw [hT, List.filter_append]; simp [he]
theorem filtR_no {p : RowR → Bool} (hT : l.take (k + 1) = l.take k ++ [f]) (he : p f = false) : (l.take (k + 1)).filter p = (l.take k).filter p := by rw [hT, List.filter_append]; simp [he]
theorem gross_yes (hT : l.take (k + 1) = l.take k ++ [f]) (he : hereR c f = true) : grossR c (l.take (k + 1)) = grossR c (l.take k) + valR f := by
  unfold grossR; rw [filtR_yes hT he, List.map_append, List.sum_append]; simp
theorem gross_no (hT : l.take (k + 1) = l.take k ++ [f]) (he : hereR c f = false) : grossR c (l.take (k + 1)) = grossR c (l.take k) := by
  unfold grossR; rw [filtR_no hT he]
theorem units_yes (hT : l.take (k + 1) = l.take k ++ [f]) (he : hereR c f = true) (hs : f.t.sec = s) : unitsR c s (l.take (k + 1)) = unitsR c s (l.take k) + f.t.qty := by
  unfold unitsR; rw [filtR_yes hT (by simp [he, hs]), List.map_append, List.sum_append]; simp
theorem units_no (hT : l.take (k + 1) = l.take k ++ [f]) (he : ¬ (hereR c f = true ∧ f.t.sec = s)) : unitsR c s (l.take (k + 1)) = unitsR c s (l.take k) := by
  unfold unitsR; rw [filtR_no hT (by simpa using he)]
theorem acc_yes (hT : l.take (k + 1) = l.take k ++ [f]) (he : f.cyc = c) : accR c (l.take (k + 1)) = accR c (l.take k) + 1 := by
  unfold accR; rw [filtR_yes hT (by simp [he]), List.length_append]; rfl
theorem acc_no (hT : l.take (k + 1) = l.take k ++ [f]) (he : ¬ f.cyc = c) : accR c (l.take (k + 1)) = accR c (l.take k) := by
  unfold accR; rw [filtR_no hT (by simpa using he)]
end
theorem acc_le (c : Int) (l : List RowR) : accR c l ≤ l.length := List.length_filter_le _ _

structure RegV (w : World) (g base : Nat) (B1 : Option Addr) (n1 d1 : Nat) (B2 : Option Addr) (n2 d2 : Nat) (B3 : Option Addr) (n3 d3 : Nat) (cf : Conf) (c : Int) (v : Value) (l : List RowR) : Prop where
  form : ∃ A c, v = .slice A l.length c
  blk : Blk w g 184 #[.slice B1 n1 d1, .slice B2 n2 d2, .slice B3 n3 d3, .int .i64 cf.line, .int .i64 cf.capital, .int .i64 cf.lead, .int .i64 cf.trades, .int .i64 cf.bids, v, .int .i64 c]
  row : w.ownsRow base 225 8 v l.length (l.flatMap RowR.cells)
theorem RegV.past {w w' : World} {g base : Nat} {B1 : Option Addr} {n1 d1 : Nat} {B2 : Option Addr} {n2 d2 : Nat} {B3 : Option Addr} {n3 d3 : Nat} {cf : Conf} {c : Int} {v : Value} {l : List RowR} (h : RegV w g base B1 n1 d1 B2 n2 d2 B3 n3 d3 cf c v l) (hb : Below w.heap.size w w') : RegV w' g base B1 n1 d1 B2 n2 d2 B3 n3 d3 cf c v l :=
  ⟨h.form, h.blk.past hb, own_past' h.row hb⟩
end Go.Proofs.Ytfnhffcjhdeleaa

/-! ## from NetV -/
namespace Go.Proofs.Ytfnhffcjhdeleaa
open Go.RowKit

/-! ### What a register tells of its rows -/
def RowR.known (_ : RowR) : Bool := true
theorem refValue17_any (t : Trad) (hq : inI t.qty) (hp : inI t.price) (w : World) :
    Calls Try.prog 137 #[.agg #[.int .i64 t.id, .int .i64 t.buyer, .int .i64 t.seller, .int .i64 t.sec, .int .i64 t.qty, .int .i64 t.price]] w fun e w' => e = .returned (.int .i64 (amount (t.qty * t.price))) ∧ Below w.heap.size w w' := by
  have hB0 := (Below.refl w.heap.size w).alloc (Nat.le_refl _) (.cells #[.int .i64 t.id, .int .i64 t.buyer, .int .i64 t.seller, .int .i64 t.sec, .int .i64 t.qty, .int .i64 t.price] 155)
  have bt0 := Blk.new w 155 #[.int .i64 t.id, .int .i64 t.buyer, .int .i64 t.seller, .int .i64 t.sec, .int .i64 t.qty, .int .i64 t.price] w.heap.size rfl
  obtain ⟨W, hW⟩ : ∃ W, Hid (w.alloc (.cells #[.int .i64 t.id, .int .i64 t.buyer, .int .i64 t.seller, .int .i64 t.sec, .int .i64 t.qty, .int .i64 t.price] 155) = W) := ⟨_, Lib.hid rfl⟩
  rw [hW.out] at hB0 bt0
  have e0 := (bt0).cell 0
  have e1 := (bt0).cell 1
  have e2 := (bt0).cell 2
  have e3 := (bt0).cell 3
  have e4 := (bt0).cell 4
  have e5 := (bt0).cell 5
  simp at e0 e1 e2 e3 e4 e5
  have HM := Lib.hid (refMul_any t.qty t.price hq hp W)
  go_enter Try.func137, Try.ntmps137
  go_upto_region 1 with fail
  rw [hW.out]
  go_wp2_with fail
  refine HM.out.mono ?_
  rintro e w1 ⟨rfl, hb1⟩
  have hb2 := Below.past hB0 hb1 hB0.size
  go_wp2_with fail
  go_ret
  exact ⟨rfl, hb2⟩

set_option maxHeartbeats 2000000 in
set_option maxRecDepth 100000 in
theorem hereR_any (g base : Nat) (B1 : Option Addr) (n1 d1 : Nat) (B2 : Option Addr) (n2 d2 : Nat) (B3 : Option Addr) (n3 d3 : Nat) (cf : Conf) (c : Int) (v : Value) (l : List RowR) (k : Nat) (f : RowR) (w : World) (hx : RegV w g base B1 n1 d1 B2 n2 d2 B3 n3 d3 cf c v l) (hf : l[k]? = some f) :
    Calls Try.prog 146 #[.pointer (some ⟨g, 0, none⟩), .int .i64 (k : Int)] w fun e w' => e = .returned (.bool (hereR c f)) ∧ Below w.heap.size w w' := by
  obtain ⟨⟨A, cp, rfl⟩, bg, hrow⟩ := hx
  have hlt : k < l.length := (List.getElem?_eq_some_iff.1 hf).1
  have hrd := Rd.of_own hrow
  obtain ⟨b1, o1, rfl, hb1, hc1⟩ := hrd.elem RowR.cells_len hf hlt
  have c6 := hc1 6 _ rfl
  have c7 := hc1 7 _ rfl
  have p8 := bg.cell 8
  have p9 := bg.cell 9
  simp at p8 p9
  obtain ⟨n, hn⟩ : ∃ n, Hid (l.length = n) := ⟨_, Lib.hid rfl⟩
  rw [hn.out] at p8 hlt
  have hkz : (k : Int) < (n : Int) := by omega
  have hbb := Below.refl w.heap.size w
  obtain ⟨R, hR⟩ : ∃ R, Hid (hereR c f = R) := ⟨_, Lib.hid rfl⟩
  have hR2 : R = (f.cyc == c && !f.gone) := by rw [← hR.out]; rfl
  rw [hR.out]
  clear hrd hc1 hrow bg hf hlt
  cases hcy : f.cyc == c with
  | false =>
    obtain rfl : R = false := by rw [hR2, hcy]; rfl
    clear hR2
    go_enter Try.func146, Try.ntmps146
    go_wp2_with fail
    go_quiet (fail)
    have hb2 := below_drewN hbb nq
    go_wp2_with fail
    go_ret
    exact ⟨rfl, hb2⟩
  | true =>
    obtain rfl : R = !f.gone := by rw [hR2, hcy]; rfl
    clear hR2
    go_enter Try.func146, Try.ntmps146
    go_wp2_with fail
    go_quiet (fail)
    have hb2 := below_drewN hbb nq
    go_wp2_with fail
    go_ret
    exact ⟨rfl, hb2⟩

set_option maxHeartbeats 2000000 in
set_option maxRecDepth 100000 in
theorem grossR_any (g base : Nat) (B1 : Option Addr) (n1 d1 : Nat) (B2 : Option Addr) (n2 d2 : Nat) (B3 : Option Addr) (n3 d3 : Nat) (cf : Conf) (c : Int) (v : Value) (l : List RowR) (w : World) (hx : RegV w g base B1 n1 d1 B2 n2 d2 B3 n3 d3 cf c v l) (hok : RowsOk n1 n2 c l) (hl : l.length ≤ 1000) :
    Calls Try.prog 136 #[.pointer (some ⟨g, 0, none⟩)] w fun e w' => e = .returned (.int .i64 (grossR c l)) ∧ Below w.heap.size w w' := by
  obtain ⟨A, cp, hv⟩ := hx.form
  subst hv
  have HX := Lib.hid hx
  have HO := Lib.hid hok
  obtain ⟨n, hn⟩ : ∃ n, Hid (l.length = n) := ⟨_, Lib.hid rfl⟩
  have HXB := Lib.hid hx.blk
  have HL := hn
  rw [hn.out] at HXB hl
  have HRD := Lib.hid (Rd.of_own hx.row)
  rw [hn.out] at HRD
  clear hx hok
  have HNN : Hid (∀ r ∈ l, 0 ≤ valR r) := Lib.hid fun r hr => by
    have h1 := (checkT_ok (HO.out.ok r hr)).1
    have := h1.le; have := h1.q; unfold valR; omega
  go_enter Try.func136, Try.ntmps136
  go_wp2_with fail
  go_loopw [3, 4] (fun s i wr => ∃ k : Nat, k ≤ n ∧ i = .int .i64 k ∧ s = .int .i64 (grossR c (l.take k)) ∧ Hid (Below w.heap.size w wr)) (fun _ i _ => n - (intOf i).toNat)
  case atStart => exact ⟨0, Nat.zero_le _, rfl, rfl, Lib.hid (Below.refl _ _)⟩
  case round =>
    obtain ⟨k, hk, rfl, rfl, HB⟩ := hrel
    have bg := HXB.out.past HB.out
    have p8 := bg.cell 8
    simp at p8
    by_cases hlt : k < n
    · have hlz : (k : Int) < (n : Int) := by omega
      have hg_f : l[k]? = some (l[k]'(by have := HL.out; omega)) := List.getElem?_eq_getElem _
      obtain ⟨b_f, off_f, rfl, hbb_f, hc_f⟩ := (HRD.out.below HB.out).elem RowR.cells_len hg_f hlt
      have HT_f := Lib.hid (show l.take (k + 1) = l.take k ++ [(l[k]'(by have := HL.out; omega))] from List.take_succ_eq_append_getElem (by have := HL.out; omega))
      have HM_f := Lib.hid (show (l[k]'(by have := HL.out; omega)) ∈ l from List.getElem_mem _)
      have HG_f := Lib.hid hg_f
      generalize (l[k]'(by have := HL.out; omega)) = f at *
      have c0 := hc_f 0 _ rfl
      have c1 := hc_f 1 _ rfl
      have c2 := hc_f 2 _ rfl
      have c3 := hc_f 3 _ rfl
      have c4 := hc_f 4 _ rfl
      have c5 := hc_f 5 _ rfl
      have c6 := hc_f 6 _ rfl
      have c7 := hc_f 7 _ rfl
      clear hc_f hg_f
      simp only [Nat.add_zero] at c0
      have hck := HO.out.ok f HM_f.out
      have hq1 := checkT_ok hck
      have HT := Lib.hid (sum_take_le HNN.out (hereR c) k)
      have hg1 := HO.out.top
      have HH := Lib.hid (hereR_any g base B1 n1 d1 B2 n2 d2 B3 n3 d3 cf c _ l k f wr (HX.out.past HB.out) HG_f.out)
      have HV := Lib.hid (fun w => refValue17_any f.t (by have := hq1.1.q; have := hq1.1.le; have := hq1.2.2.2; unfold inI at *; omega) (by
        have h1 := hq1.1.q; have h2 := hq1.1.p; have h3 := hq1.2.1
        have h4 := Int.mul_le_mul_of_nonneg_right (show 1 ≤ f.t.qty from h1) (show 0 ≤ f.t.price from Int.le_of_lt h2)
        unfold inI; omega) w)
      rw [show amount (f.t.qty * f.t.price) = valR f from if_pos hq1.2.2.2] at HV
      have HVL : Hid (0 ≤ valR f ∧ valR f ≤ 288230376151711744) := Lib.hid ⟨HNN.out f HM_f.out, hq1.2.1⟩
      have HGT : Hid (0 ≤ grossR c (l.take k) ∧ grossR c (l.take k) ≤ 288230376151711744) := Lib.hid ⟨HT.out.1, Int.le_trans HT.out.2 hg1⟩
      have hs := HB.out.size
      clear hck hq1 hg1 HT bg
      go_wp2_with fail
      refine HH.out.mono ?_
      rintro e w2 ⟨rfl, hb2⟩
      have HB2 := Lib.hid (Below.past HB.out hb2 hs)
      cases hh : hereR c f with
      | true =>
        have bg2 := HXB.out.past HB2.out
        obtain ⟨b2, o2, he2, _, hd⟩ := (HRD.out.below HB2.out).elem RowR.cells_len HG_f.out hlt
        cases he2
        clear p8 c0 c1 c2 c3 c4 c5 c6 c7
        have p8 := bg2.cell 8
        simp at p8
        have c0 := hd 0 _ rfl
        have c1 := hd 1 _ rfl
        have c2 := hd 2 _ rfl
        have c3 := hd 3 _ rfl
        have c4 := hd 4 _ rfl
        have c5 := hd 5 _ rfl
        simp only [Nat.add_zero] at c0
        have HE := Lib.hid (gross_yes HT_f.out hh)
        have hw1 : IntKind.i64.wrap (grossR c (l.take k) + valR f) = grossR c (l.take k) + valR f := IntWalk.i64_in _ (by have := HGT.out; have := HVL.out; omega)
        have hs2 := HB2.out.size
        clear hd bg2 hb2
        go_wp2_with fail
        refine (HV.out _).mono ?_
        rintro e w3 ⟨rfl, hb3⟩
        have HB3 := Lib.hid (Below.past HB2.out hb3 hs2)
        clear hb3
        go_wp2_with fail
        go_roundw
        case rel => exact ⟨k + 1, by omega, by go_num, by rw [HE.out], HB3⟩
        case measure => simp [intOf]; omega
      | false =>
        have HE := Lib.hid (gross_no HT_f.out hh)
        clear hb2 p8 c0 c1 c2 c3 c4 c5 c6 c7
        go_wp2_with fail
        go_roundw
        case rel => exact ⟨k + 1, by omega, by go_num, by rw [HE.out], HB2⟩
        case measure => simp [intOf]; omega
    · have hlz : ¬ (k : Int) < (n : Int) := by omega
      have HE : Hid (grossR c (l.take k) = grossR c l) := Lib.hid (by rw [List.take_of_length_le (by rw [hn.out]; omega)])
      rw [HE.out]
      go_wp2_with fail
      go_ret
      exact ⟨rfl, HB.out⟩

set_option maxHeartbeats 2000000 in
set_option maxRecDepth 100000 in
theorem unitsR_any (g base : Nat) (B1 : Option Addr) (n1 d1 : Nat) (B2 : Option Addr) (n2 d2 : Nat) (B3 : Option Addr) (n3 d3 : Nat) (cf : Conf) (c : Int) (v : Value) (l : List RowR) (sec : Int) (w : World) (hx : RegV w g base B1 n1 d1 B2 n2 d2 B3 n3 d3 cf c v l) (hok : RowsOk n1 n2 c l) (hl : l.length ≤ 1000) :
    Calls Try.prog 138 #[.pointer (some ⟨g, 0, none⟩), .int .i64 sec] w fun e w' => e = .returned (.int .i64 (unitsR c sec l)) ∧ Below w.heap.size w w' := by
  obtain ⟨A, cp, hv⟩ := hx.form
  subst hv
  have HX := Lib.hid hx
  have HO := Lib.hid hok
  obtain ⟨n, hn⟩ : ∃ n, Hid (l.length = n) := ⟨_, Lib.hid rfl⟩
  have HXB := Lib.hid hx.blk
  have HL := hn
  rw [hn.out] at HXB hl
  have HRD := Lib.hid (Rd.of_own hx.row)
  rw [hn.out] at HRD
  clear hx hok
  have HNN : Hid (∀ r ∈ l, 0 ≤ r.t.qty) := Lib.hid fun r hr => by
    have h1 := (checkT_ok (HO.out.ok r hr)).1
    have := h1.q; omega
  have HUT : Hid (unitsR c sec l ≤ 288230376151711744) := Lib.hid (Int.le_trans (units_le HO.out.ok).1 HO.out.top)
  go_enter Try.func138, Try.ntmps138
  go_wp2_with fail
  go_loopw [5, 6] (fun s i wr => ∃ k : Nat, k ≤ n ∧ i = .int .i64 k ∧ s = .int .i64 (unitsR c sec (l.take k)) ∧ Hid (Below w.heap.size w wr)) (fun _ i _ => n - (intOf i).toNat)
  case atStart => exact ⟨0, Nat.zero_le _, rfl, rfl, Lib.hid (Below.refl _ _)⟩
  case round =>
    obtain ⟨k, hk, rfl, rfl, HB⟩ := hrel
    have bg := HXB.out.past HB.out
    have p8 := bg.cell 8
    simp at p8
    by_cases hlt : k < n
    · have hlz : (k : Int) < (n : Int) := by omega
      have hg_f : l[k]? = some (l[k]'(by have := HL.out; omega)) := List.getElem?_eq_getElem _
      obtain ⟨b_f, off_f, rfl, hbb_f, hc_f⟩ := (HRD.out.below HB.out).elem RowR.cells_len hg_f hlt
      have HT_f := Lib.hid (show l.take (k + 1) = l.take k ++ [(l[k]'(by have := HL.out; omega))] from List.take_succ_eq_append_getElem (by have := HL.out; omega))
      have HM_f := Lib.hid (show (l[k]'(by have := HL.out; omega)) ∈ l from List.getElem_mem _)
      have HG_f := Lib.hid hg_f
      generalize (l[k]'(by have := HL.out; omega)) = f at *
      have c0 := hc_f 0 _ rfl
      have c1 := hc_f 1 _ rfl
      have c2 := hc_f 2 _ rfl
      have c3 := hc_f 3 _ rfl
      have c4 := hc_f 4 _ rfl
      have c5 := hc_f 5 _ rfl
      have c6 := hc_f 6 _ rfl
      have c7 := hc_f 7 _ rfl
      clear hc_f hg_f
      simp only [Nat.add_zero] at c0
      have hck := HO.out.ok f HM_f.out
      have hq1 := checkT_ok hck
      have HT := Lib.hid (sum_take_le HNN.out (fun r => hereR c r && r.t.sec == sec) k)
      have hg1 := HUT.out
      have HH := Lib.hid (hereR_any g base B1 n1 d1 B2 n2 d2 B3 n3 d3 cf c _ l k f wr (HX.out.past HB.out) HG_f.out)
      have HVL : Hid (0 ≤ f.t.qty ∧ f.t.qty ≤ 274877906944) := Lib.hid ⟨HNN.out f HM_f.out, hq1.2.2.1⟩
      have HGT : Hid (0 ≤ unitsR c sec (l.take k) ∧ unitsR c sec (l.take k) ≤ 288230376151711744) := Lib.hid ⟨HT.out.1, Int.le_trans HT.out.2 hg1⟩
      have hs := HB.out.size
      clear hck hq1 hg1 HT bg
      go_wp2_with fail
      refine HH.out.mono ?_
      rintro e w2 ⟨rfl, hb2⟩
      have HB2 := Lib.hid (Below.past HB.out hb2 hs)
      cases hh : hereR c f with
      | true =>
        have bg2 := HXB.out.past HB2.out
        obtain ⟨b2, o2, he2, _, hd⟩ := (HRD.out.below HB2.out).elem RowR.cells_len HG_f.out hlt
        cases he2
        clear p8 c0 c1 c2 c3 c4 c5 c6 c7
        have p8 := bg2.cell 8
        simp at p8
        have c3 := hd 3 _ rfl
        have c4 := hd 4 _ rfl
        clear hd bg2 hb2
        by_cases hsec : f.t.sec = sec
        · have q1 : (f.t.sec == sec) = true := by simpa using hsec
          have HE := Lib.hid (units_yes HT_f.out hh hsec)
          have hw1 : IntKind.i64.wrap (unitsR c sec (l.take k) + f.t.qty) = unitsR c sec (l.take k) + f.t.qty := IntWalk.i64_in _ (by have := HGT.out; have := HVL.out; omega)
          clear hsec
          go_wp2_with fail
          go_roundw
          case rel => exact ⟨k + 1, by omega, by go_num, by rw [HE.out], HB2⟩
          case measure => simp [intOf]; omega
        · have q1 : (f.t.sec == sec) = false := by simpa using hsec
          have HE := Lib.hid (units_no HT_f.out (s := sec) (c := c) (fun h => hsec h.2))
          clear hsec
          go_wp2_with fail
          go_roundw
          case rel => exact ⟨k + 1, by omega, by go_num, by rw [HE.out], HB2⟩
          case measure => simp [intOf]; omega
      | false =>
        have HE := Lib.hid (units_no HT_f.out (s := sec) (c := c) (fun h => by rw [hh] at h; cases h.1))
        clear hb2 p8 c0 c1 c2 c3 c4 c5 c6 c7
        go_wp2_with fail
        go_roundw
        case rel => exact ⟨k + 1, by omega, by go_num, by rw [HE.out], HB2⟩
        case measure => simp [intOf]; omega
    · have hlz : ¬ (k : Int) < (n : Int) := by omega
      have HE : Hid (unitsR c sec (l.take k) = unitsR c sec l) := Lib.hid (by rw [List.take_of_length_le (by rw [hn.out]; omega)])
      rw [HE.out]
      go_wp2_with fail
      go_ret
      exact ⟨rfl, HB.out⟩

set_option maxHeartbeats 2000000 in
set_option maxRecDepth 100000 in
theorem usedR_any (g base : Nat) (B1 : Option Addr) (n1 d1 : Nat) (B2 : Option Addr) (n2 d2 : Nat) (B3 : Option Addr) (n3 d3 : Nat) (cf : Conf) (c : Int) (v : Value) (l : List RowR) (id : Int) (w : World) (hx : RegV w g base B1 n1 d1 B2 n2 d2 B3 n3 d3 cf c v l) (hl : l.length ≤ 1000) :
    Calls Try.prog 134 #[.pointer (some ⟨g, 0, none⟩), .int .i64 id] w fun e w' => e = .returned (.bool (usedR id l)) ∧ Below w.heap.size w w' := by
  obtain ⟨A, cp, hv⟩ := hx.form
  subst hv
  obtain ⟨n, hn⟩ : ∃ n, Hid (l.length = n) := ⟨_, Lib.hid rfl⟩
  have HL := hn
  have HXB := Lib.hid hx.blk
  rw [hn.out] at HXB hl
  have HRD := Lib.hid (Rd.of_own hx.row)
  rw [hn.out] at HRD
  clear hx
  go_enter Try.func134, Try.ntmps134
  go_wp2_with fail
  go_loopw [5] (fun i wr => ∃ k : Nat, k ≤ n ∧ i = .int .i64 k ∧ Hid (usedR id (l.take k) = false) ∧ Hid (Below w.heap.size w wr)) (fun i _ => n - (intOf i).toNat)
  case atStart => exact ⟨0, Nat.zero_le _, rfl, Lib.hid rfl, Lib.hid (Below.refl _ _)⟩
  case round =>
    obtain ⟨k, hk, rfl, HU, HB⟩ := hrel
    have bg := HXB.out.past HB.out
    have p8 := bg.cell 8
    simp at p8
    clear bg
    by_cases hlt : k < n
    · have hlz : (k : Int) < (n : Int) := by omega
      have hg_f : l[k]? = some (l[k]'(by have := HL.out; omega)) := List.getElem?_eq_getElem _
      obtain ⟨b_f, off_f, rfl, hbb_f, hc_f⟩ := (HRD.out.below HB.out).elem RowR.cells_len hg_f hlt
      have HT_f := Lib.hid (show l.take (k + 1) = l.take k ++ [(l[k]'(by have := HL.out; omega))] from List.take_succ_eq_append_getElem (by have := HL.out; omega))
      have HM_f := Lib.hid (show (l[k]'(by have := HL.out; omega)) ∈ l from List.getElem_mem _)
      generalize (l[k]'(by have := HL.out; omega)) = f at *
      have c0 := hc_f 0 _ rfl
      have c1 := hc_f 1 _ rfl
      have c2 := hc_f 2 _ rfl
      have c3 := hc_f 3 _ rfl
      have c4 := hc_f 4 _ rfl
      have c5 := hc_f 5 _ rfl
      have c6 := hc_f 6 _ rfl
      have c7 := hc_f 7 _ rfl
      clear hc_f hg_f
      simp only [Nat.add_zero] at c0
      clear c1 c2 c3 c4 c5 c6 c7
      by_cases hid : f.t.id = id
      · have q1 : (f.t.id == id) = true := by simpa using hid
        have HE : Hid (usedR id l = true) := Lib.hid (List.any_eq_true.2 ⟨f, HM_f.out, q1⟩)
        clear hid
        go_wp2_with fail
        go_ret
        exact ⟨by rw [HE.out]; rfl, HB.out⟩
      · have q1 : (f.t.id == id) = false := by simpa using hid
        have HE : Hid (usedR id (l.take (k + 1)) = false) := Lib.hid (by
          have h := HU.out
          unfold usedR at h ⊢
          rw [HT_f.out, List.any_append, h]; simp [hid])
        clear hid
        go_wp2_with fail
        go_roundw
        case rel => exact ⟨k + 1, by omega, by go_num, HE, HB⟩
        case measure => simp [intOf]; omega
    · have hlz : ¬ (k : Int) < (n : Int) := by omega
      have HE : Hid (usedR id l = false) := Lib.hid (by have h := HU.out; rwa [List.take_of_length_le (by rw [hn.out]; omega)] at h)
      go_wp2_with fail
      go_ret
      exact ⟨by rw [HE.out]; rfl, HB.out⟩

set_option maxHeartbeats 2000000 in
set_option maxRecDepth 100000 in
theorem accR_any (g base : Nat) (B1 : Option Addr) (n1 d1 : Nat) (B2 : Option Addr) (n2 d2 : Nat) (B3 : Option Addr) (n3 d3 : Nat) (cf : Conf) (c : Int) (v : Value) (l : List RowR) (w : World) (hx : RegV w g base B1 n1 d1 B2 n2 d2 B3 n3 d3 cf c v l) (hl : l.length ≤ 1000) :
    Calls Try.prog 135 #[.pointer (some ⟨g, 0, none⟩)] w fun e w' => e = .returned (.int .i64 (accR c l : Nat)) ∧ Below w.heap.size w w' := by
  obtain ⟨A, cp, hv⟩ := hx.form
  subst hv
  obtain ⟨n, hn⟩ : ∃ n, Hid (l.length = n) := ⟨_, Lib.hid rfl⟩
  have HL := hn
  have HXB := Lib.hid hx.blk
  rw [hn.out] at HXB hl
  have HRD := Lib.hid (Rd.of_own hx.row)
  rw [hn.out] at HRD
  clear hx
  go_enter Try.func135, Try.ntmps135
  go_wp2_with fail
  go_loopw [3, 4] (fun s i wr => ∃ k : Nat, k ≤ n ∧ i = .int .i64 k ∧ s = .int .i64 (accR c (l.take k) : Nat) ∧ Hid (Below w.heap.size w wr)) (fun _ i _ => n - (intOf i).toNat)
  case atStart => exact ⟨0, Nat.zero_le _, rfl, rfl, Lib.hid (Below.refl _ _)⟩
  case round =>
    obtain ⟨k, hk, rfl, rfl, HB⟩ := hrel
    have bg := HXB.out.past HB.out
    have p8 := bg.cell 8
    have p9 := bg.cell 9
    simp at p8 p9
    clear bg
    obtain ⟨a, ha⟩ : ∃ a, Hid (accR c (l.take k) = a) := ⟨_, Lib.hid rfl⟩
    have ha2 : a ≤ 1000 := by rw [← ha.out]; exact Nat.le_trans (acc_le _ _) (by rw [List.length_take]; omega)
    rw [ha.out]
    by_cases hlt : k < n
    · have hlz : (k : Int) < (n : Int) := by omega
      have hg_f : l[k]? = some (l[k]'(by have := HL.out; omega)) := List.getElem?_eq_getElem _
      obtain ⟨b_f, off_f, rfl, hbb_f, hc_f⟩ := (HRD.out.below HB.out).elem RowR.cells_len hg_f hlt
      have HT_f := Lib.hid (show l.take (k + 1) = l.take k ++ [(l[k]'(by have := HL.out; omega))] from List.take_succ_eq_append_getElem (by have := HL.out; omega))
      have HM_f := Lib.hid (show (l[k]'(by have := HL.out; omega)) ∈ l from List.getElem_mem _)
      generalize (l[k]'(by have := HL.out; omega)) = f at *
      have c0 := hc_f 0 _ rfl
      have c1 := hc_f 1 _ rfl
      have c2 := hc_f 2 _ rfl
      have c3 := hc_f 3 _ rfl
      have c4 := hc_f 4 _ rfl
      have c5 := hc_f 5 _ rfl
      have c6 := hc_f 6 _ rfl
      have c7 := hc_f 7 _ rfl
      clear hc_f hg_f
      simp only [Nat.add_zero] at c0
      clear c0 c1 c2 c3 c4 c5 c7
      by_cases hid : f.cyc = c
      · have q1 : (f.cyc == c) = true := by simpa using hid
        have HE := Lib.hid (acc_yes HT_f.out hid)
        rw [ha.out] at HE
        clear hid
        go_wp2_with fail
        go_quiet (fail)
        have HB2 := Lib.hid (below_drewN HB.out nq)
        clear c6 p8 p9
        go_wp2_with fail
        go_roundw
        case rel => exact ⟨k + 1, by omega, by go_num, by rw [HE.out]; go_num, HB2⟩
        case measure => simp [intOf]; omega
      · have q1 : (f.cyc == c) = false := by simpa using hid
        have HE := Lib.hid (acc_no HT_f.out hid)
        rw [ha.out] at HE
        clear hid
        go_wp2_with fail
        go_quiet (fail)
        have HB2 := Lib.hid (below_drewN HB.out nq)
        clear c6 p8 p9
        go_wp2_with fail
        go_roundw
        case rel => exact ⟨k + 1, by omega, by go_num, by rw [HE.out], HB2⟩
        case measure => simp [intOf]; omega
    · have hlz : ¬ (k : Int) < (n : Int) := by omega
      have HE : Hid (a = accR c l) := Lib.hid (by rw [← ha.out, List.take_of_length_le (by rw [hn.out]; omega)])
      go_wp2_with fail
      go_ret
      exact ⟨by rw [HE.out]; rfl, HB.out⟩
end Go.Proofs.Ytfnhffcjhdeleaa
