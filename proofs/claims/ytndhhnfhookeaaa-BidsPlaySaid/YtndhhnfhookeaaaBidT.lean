import Derived.Test.YtndhhnfhookeaaaBidS
namespace Go.Proofs.Ytndhhnfhookeaaa
open Go.RowKit

/-! ### What Add tells and leaves, in one word -/
def addN (cf : Conf) (n1 n2 : Nat) (l : List BidV) (b : BidV) : Int × Int :=
  if checkB cf n1 n2 b ≠ 0 then (0, checkB cf n1 n2 b) else if cf.bids ≤ l.length then (0, 6) else ((l.length : Int) + 1, 0)
def addL (cf : Conf) (n1 n2 : Nat) (l : List BidV) (b : BidV) : List BidV :=
  if checkB cf n1 n2 b ≠ 0 then l else if cf.bids ≤ l.length then l else l ++ [⟨(l.length : Int) + 1, b.mem, b.sec, b.qty, b.price⟩]
theorem addL_len (cf : Conf) (n1 n2 : Nat) (l : List BidV) (b : BidV) : (addL cf n1 n2 l b).length ≤ l.length + 1 := by
  unfold addL; split
  · omega
  · split
    · omega
    · simp
theorem addL_nums {cf : Conf} {n1 n2 : Nat} {l : List BidV} {b : BidV} (h : NumsB l) : NumsB (addL cf n1 n2 l b) := by
  unfold addL; split
  · exact h
  · split
    · exact h
    · exact numsB_snoc h rfl

def AddXPost (g base : Nat) (B1 : Option Addr) (n1 d1 : Nat) (B2 : Option Addr) (n2 d2 : Nat) (B3 : Option Addr) (n3 d3 : Nat) (cf : Conf) (v : Value) (l : List BidV) (b : BidV) (w : World) (e : Ending) (w' : World) : Prop :=
  e = .returned (.tuple #[.int .i64 (addN cf n1 n2 l b).1, .int .i64 (addN cf n1 n2 l b).2]) ∧ ∃ v', BoxV w' g base B1 n1 d1 B2 n2 d2 B3 n3 d3 cf v' (addL cf n1 n2 l b) ∧ OnlyB g v w w' ∧ (v'.ownBlock = v.ownBlock ∨ ∃ k, v'.ownBlock = some k ∧ w.heap.size ≤ k)
theorem addX_any (g base : Nat) (B1 : Option Addr) (n1 d1 : Nat) (B2 : Option Addr) (n2 d2 : Nat) (B3 : Option Addr) (n3 d3 : Nat) (cf : Conf) (v : Value) (l : List BidV) (b : BidV) (w : World) (hx : BoxV w g base B1 n1 d1 B2 n2 d2 B3 n3 d3 cf v l) (hl : l.length ≤ 1000) (hbase : base ≤ w.heap.size) :
    Calls Try.prog 48 #[.pointer (some ⟨g, 0, none⟩), .agg #[.int .i64 b.seq, .int .i64 b.mem, .int .i64 b.sec, .int .i64 b.qty, .int .i64 b.price]] w (AddXPost g base B1 n1 d1 B2 n2 d2 B3 n3 d3 cf v l b w) := by
  unfold AddXPost addN addL
  by_cases hk : checkB cf n1 n2 b = 0
  · have hk' : ¬ checkB cf n1 n2 b ≠ 0 := by simpa using hk
    simp only [if_neg hk']
    by_cases hf : cf.bids ≤ l.length
    · simp only [if_pos hf]
      exact (addB_full g base B1 n1 d1 B2 n2 d2 B3 n3 d3 cf v l b w hx hl hk hf).mono fun e w' ⟨he, hb⟩ => ⟨he, v, hx.past hb, OnlyB.of_below hb, .inl rfl⟩
    · simp only [if_neg hf]
      exact (addB_ok g base B1 n1 d1 B2 n2 d2 B3 n3 d3 cf v l b w hx hl hk hf hbase).mono fun e w' h => h
  · have hk' : checkB cf n1 n2 b ≠ 0 := hk
    simp only [if_pos hk']
    exact (addB_wrong g base B1 n1 d1 B2 n2 d2 B3 n3 d3 cf v l b w hx hl _ rfl hk).mono fun e w' ⟨he, hb⟩ => ⟨he, v, hx.past hb, OnlyB.of_below hb, .inl rfl⟩

def AddQPost (g base : Nat) (B1 : Option Addr) (n1 d1 : Nat) (B2 : Option Addr) (n2 d2 : Nat) (B3 : Option Addr) (n3 d3 : Nat) (cf : Conf) (v : Value) (l : List BidV) (b : BidV) (w : World) (e : Ending) (w' : World) : Prop :=
  e = .returned (.tuple #[.int .i64 (addN cf n1 n2 l b).1, .int .i64 (addN cf n1 n2 l b).2]) ∧ ∃ v', RefV w' g base B1 n1 d1 B2 n2 d2 B3 n3 d3 cf v' (addL cf n1 n2 l b) ∧ OnlyB g v w w' ∧ (v'.ownBlock = v.ownBlock ∨ ∃ k, v'.ownBlock = some k ∧ w.heap.size ≤ k)
theorem addQ_any (g base : Nat) (B1 : Option Addr) (n1 d1 : Nat) (B2 : Option Addr) (n2 d2 : Nat) (B3 : Option Addr) (n3 d3 : Nat) (cf : Conf) (v : Value) (l : List BidV) (b : BidV) (w : World) (hx : RefV w g base B1 n1 d1 B2 n2 d2 B3 n3 d3 cf v l) (hcf : CfRd w B1 n1 B2 n2 B3 n3 cf) (hl : l.length ≤ 1000) (hbase : base ≤ w.heap.size) :
    Calls Try.prog 56 #[.pointer (some ⟨g, 0, none⟩), .agg #[.int .i64 b.seq, .int .i64 b.mem, .int .i64 b.sec, .int .i64 b.qty, .int .i64 b.price]] w (AddQPost g base B1 n1 d1 B2 n2 d2 B3 n3 d3 cf v l b w) := by
  unfold AddQPost addN addL
  by_cases hk : checkB cf n1 n2 b = 0
  · have hk' : ¬ checkB cf n1 n2 b ≠ 0 := by simpa using hk
    simp only [if_neg hk']
    by_cases hf : cf.bids ≤ l.length
    · simp only [if_pos hf]
      exact (addR_full g base B1 n1 d1 B2 n2 d2 B3 n3 d3 cf v l b w hx hcf hl hk hf).mono fun e w' ⟨he, hb⟩ => ⟨he, v, hx.past hb, OnlyB.of_below hb, .inl rfl⟩
    · simp only [if_neg hf]
      exact (addR_ok g base B1 n1 d1 B2 n2 d2 B3 n3 d3 cf v l b w hx hcf hl hk hf hbase).mono fun e w' h => h
  · have hk' : checkB cf n1 n2 b ≠ 0 := hk
    simp only [if_pos hk']
    exact (addR_wrong g base B1 n1 d1 B2 n2 d2 B3 n3 d3 cf v l b w hx hcf hl _ rfl hk).mono fun e w' ⟨he, hb⟩ => ⟨he, v, hx.past hb, OnlyB.of_below hb, .inl rfl⟩

/-! ### A box and the document's box beside each other -/
theorem OnlyB.blk {g : Nat} {v : Value} {w w' : World} (h : OnlyB g v w w') {k : Nat} {t : TypeId} {arr : Array Value} (hb : Blk w k t arr) (hk : k ≠ g) (hv : v.ownBlock ≠ some k) : Blk w' k t arr := by
  have hlt := hb.lt
  unfold Blk at hb ⊢
  rw [h.block k hlt hk hv]; exact hb
theorem OnlyB.own {g : Nat} {v u : Value} {w w' : World} (h : OnlyB g v w w') {base : Nat} {e : TypeId} {size n : Nat} {xs : List Value} (ho : w.ownsRow base e size u n xs) (hg : u.ownBlock ≠ some g) (hv : ∀ k, v.ownBlock = some k → u.ownBlock ≠ some k) : w'.ownsRow base e size u n xs := by
  refine ⟨ho.1, ?_⟩
  rcases ho.2 with h0 | ⟨k, cap, cur, rfl, hb, hh, h1⟩
  · exact .inl h0
  · refine .inr ⟨k, cap, cur, rfl, hb, ?_, h1⟩
    have hlt : k < w.heap.size := by
      rcases Nat.lt_or_ge k w.heap.size with hlt | hge
      · exact hlt
      · rw [Array.getElem?_eq_none hge] at hh; cases hh
    rw [h.block k hlt (fun e => hg (by rw [← e]; rfl)) (fun e => hv k e rfl)]; exact hh
theorem blk_ne_type {w : World} {g k : Nat} {t u : TypeId} {a b : Array Value} (h : Blk w g t a) (h' : Blk w k u b) (hne : t ≠ u) : g ≠ k := by
  rintro rfl
  unfold Blk at h h'
  rw [h] at h'
  injection h' with h'; injection h' with _ h'
  exact hne h'
theorem own_apart {w : World} {base base' : Nat} {e e' : TypeId} {size size' n n' : Nat} {v v' : Value} {xs xs' : List Value} (h : w.ownsRow base e size v n xs) (h' : w.ownsRow base' e' size' v' n' xs') (hne : e ≠ e') : ∀ k, v'.ownBlock = some k → v.ownBlock ≠ some k := fun k e1 e2 => by
  rcases own_ne h h' hne with h0 | h0
  · rw [e2] at h0; cases h0
  · exact h0 (e2.trans e1.symm)
theorem CfOwn.onlyB {base gq : Nat} {vq : Value} {w w' : World} {B1 : Option Addr} {n1 d1 : Nat} {B2 : Option Addr} {n2 d2 : Nat} {B3 : Option Addr} {n3 d3 : Nat} {cf : Conf} (hc : CfOwn w base B1 n1 d1 B2 n2 d2 B3 n3 d3 cf) (h : OnlyB gq vq w w') {t : TypeId} {cs : Array Value} (hb : Blk w gq t cs) (ht : t = 149 ∨ t = 109) {bq n : Nat} {xs : List Value} (hq : w.ownsRow bq 90 5 vq n xs) : CfOwn w' base B1 n1 d1 B2 n2 d2 B3 n3 d3 cf := by
  rcases ht with rfl | rfl
  all_goals exact ⟨h.own hc.m (own_blk_ne hc.m hb (by decide)) (own_apart hc.m hq (by decide)), h.own hc.s (own_blk_ne hc.s hb (by decide)) (own_apart hc.s hq (by decide)), h.own hc.c (own_blk_ne hc.c hb (by decide)) (own_apart hc.c hq (by decide)), hc.hm, hc.hs, hc.hc⟩
theorem BoxV.only {w w' : World} {g base : Nat} {B1 : Option Addr} {n1 d1 : Nat} {B2 : Option Addr} {n2 d2 : Nat} {B3 : Option Addr} {n3 d3 : Nat} {cf : Conf} {v : Value} {l : List BidV} (hx : BoxV w g base B1 n1 d1 B2 n2 d2 B3 n3 d3 cf v l) {gq bq : Nat} {vq : Value} (h : OnlyB gq vq w w') {t : TypeId} {cs : Array Value} (hb : Blk w gq t cs) (ht : t = 149 ∨ t = 109) {n : Nat} {xs : List Value} (hq : w.ownsRow bq 90 5 vq n xs) (hg : g ≠ gq) (ha : ∀ k, vq.ownBlock = some k → v.ownBlock ≠ some k) : BoxV w' g base B1 n1 d1 B2 n2 d2 B3 n3 d3 cf v l :=
  ⟨hx.form, h.blk hx.blk hg (own_blk_ne hq hx.blk (by decide)), h.own hx.row (by rcases ht with rfl | rfl <;> exact own_blk_ne hx.row hb (by decide)) ha, hx.own.onlyB h hb ht hq⟩
theorem RefV.only {w w' : World} {g base : Nat} {B1 : Option Addr} {n1 d1 : Nat} {B2 : Option Addr} {n2 d2 : Nat} {B3 : Option Addr} {n3 d3 : Nat} {cf : Conf} {v : Value} {l : List BidV} (hx : RefV w g base B1 n1 d1 B2 n2 d2 B3 n3 d3 cf v l) {gq bq : Nat} {vq : Value} (h : OnlyB gq vq w w') {cs : Array Value} (hb : Blk w gq 149 cs) {n : Nat} {xs : List Value} (hq : w.ownsRow bq 90 5 vq n xs) (ha : ∀ k, vq.ownBlock = some k → v.ownBlock ≠ some k) : RefV w' g base B1 n1 d1 B2 n2 d2 B3 n3 d3 cf v l :=
  ⟨hx.form, h.blk hx.blk (blk_ne_type hx.blk hb (by decide)) (own_blk_ne hq hx.blk (by decide)), h.own hx.row (own_blk_ne hx.row hb (by decide)) ha⟩

structure TwoB (w : World) (g gq base : Nat) (B1 : Option Addr) (d1 : Nat) (B2 : Option Addr) (d2 : Nat) (B3 : Option Addr) (d3 : Nat) (A1 A2 A3 : Option Addr) (n1 n2 n3 cp1 cp2 cp3 : Nat) (cf : Conf) (v vq : Value) (l lq : List BidV) : Prop where
  x : BoxV w g base B1 n1 d1 B2 n2 d2 B3 n3 d3 cf v l
  q : RefV w gq base A1 n1 cp1 A2 n2 cp2 A3 n3 cp3 cf vq lq
  ap : ∀ k, v.ownBlock = some k → vq.ownBlock ≠ some k
section
variable {w w' : World} {g gq base : Nat} {B1 : Option Addr} {d1 : Nat} {B2 : Option Addr} {d2 : Nat} {B3 : Option Addr} {d3 : Nat} {A1 A2 A3 : Option Addr} {n1 n2 n3 cp1 cp2 cp3 : Nat} {cf : Conf} {v vq : Value} {l lq : List BidV}
theorem TwoB.past (h : TwoB w g gq base B1 d1 B2 d2 B3 d3 A1 A2 A3 n1 n2 n3 cp1 cp2 cp3 cf v vq l lq) (hb : Below w.heap.size w w') : TwoB w' g gq base B1 d1 B2 d2 B3 d3 A1 A2 A3 n1 n2 n3 cp1 cp2 cp3 cf v vq l lq := ⟨h.x.past hb, h.q.past hb, h.ap⟩
theorem TwoB.addX (h : TwoB w g gq base B1 d1 B2 d2 B3 d3 A1 A2 A3 n1 n2 n3 cp1 cp2 cp3 cf v vq l lq) {v' : Value} {l' : List BidV} (hx : BoxV w' g base B1 n1 d1 B2 n2 d2 B3 n3 d3 cf v' l') (ho : OnlyB g v w w') (hd : v'.ownBlock = v.ownBlock ∨ ∃ k, v'.ownBlock = some k ∧ w.heap.size ≤ k) : TwoB w' g gq base B1 d1 B2 d2 B3 d3 A1 A2 A3 n1 n2 n3 cp1 cp2 cp3 cf v' vq l' lq :=
  ⟨hx, h.q.only ho h.x.blk h.x.row h.ap, fun k e1 e2 => by
    rcases hd with hd | ⟨j, hj, hle⟩
    · exact h.ap k (hd ▸ e1) e2
    · rw [hj] at e1; cases e1
      have := (h.q.row.lt _ e2).2; omega⟩
theorem TwoB.addQ (h : TwoB w g gq base B1 d1 B2 d2 B3 d3 A1 A2 A3 n1 n2 n3 cp1 cp2 cp3 cf v vq l lq) {vq' : Value} {lq' : List BidV} (hx : RefV w' gq base A1 n1 cp1 A2 n2 cp2 A3 n3 cp3 cf vq' lq') (ho : OnlyB gq vq w w') (hd : vq'.ownBlock = vq.ownBlock ∨ ∃ k, vq'.ownBlock = some k ∧ w.heap.size ≤ k) : TwoB w' g gq base B1 d1 B2 d2 B3 d3 A1 A2 A3 n1 n2 n3 cp1 cp2 cp3 cf v vq' l lq' :=
  ⟨h.x.only ho h.q.blk (.inr rfl) h.q.row (fun e => blk_ne_type h.x.blk h.q.blk (by decide) e) (fun k e1 e2 => h.ap k e2 e1), hx, fun k e1 e2 => by
    rcases hd with hd | ⟨j, hj, hle⟩
    · exact h.ap k e1 (hd ▸ e2)
    · rw [hj] at e2; cases e2
      have := (h.x.row.lt _ e1).2; omega⟩
theorem TwoB.frameX (h : TwoB w g gq base B1 d1 B2 d2 B3 d3 A1 A2 A3 n1 n2 n3 cp1 cp2 cp3 cf v vq l lq) (ho : OnlyB g v w w') {B : Nat} (h1 : B ≤ g) (h2 : B ≤ base) (h3 : B ≤ w.heap.size) : Below B w w' := ho.frame h1 h3 fun k e => by have := (h.x.row.lt k e).1; omega
theorem TwoB.frameQ (h : TwoB w g gq base B1 d1 B2 d2 B3 d3 A1 A2 A3 n1 n2 n3 cp1 cp2 cp3 cf v vq l lq) (ho : OnlyB gq vq w w') {B : Nat} (h1 : B ≤ gq) (h2 : B ≤ base) (h3 : B ≤ w.heap.size) : Below B w w' := ho.frame h1 h3 fun k e => by have := (h.q.row.lt k e).1; omega
end
end Go.Proofs.Ytndhhnfhookeaaa
