import Derived.Test.YtfnhffcjhdeleaaBidH
namespace Go.Proofs.Ytfnhffcjhdeleaa
open Go.RowKit

/-! ### What Add tells and leaves (as in BidT, for a seat that has no document's box) -/
def addN (cf : Conf) (n1 n2 : Nat) (l : List BidV) (b : BidV) : Int × Int :=
  if checkB cf n1 n2 b ≠ 0 then (0, checkB cf n1 n2 b) else if cf.bids ≤ l.length then (0, 6) else ((l.length : Int) + 1, 0)
def addL (cf : Conf) (n1 n2 : Nat) (l : List BidV) (b : BidV) : List BidV :=
  if checkB cf n1 n2 b ≠ 0 then l else if cf.bids ≤ l.length then l else l ++ [⟨(l.length : Int) + 1, b.mem, b.sec, b.qty, b.price⟩]
theorem addL_len (cf : Conf) (n1 n2 : Nat) (l : List BidV) (b : BidV) : (addL cf n1 n2 l b).length ≤ l.length + 1 := by
  unfold addL; split
  · omega
  · split
    · omega
    · simp
def AddXPost (g base : Nat) (B1 : Option Addr) (n1 d1 : Nat) (B2 : Option Addr) (n2 d2 : Nat) (B3 : Option Addr) (n3 d3 : Nat) (cf : Conf) (v : Value) (l : List BidV) (b : BidV) (w : World) (e : Ending) (w' : World) : Prop :=
  e = .returned (.tuple #[.int .i64 (addN cf n1 n2 l b).1, .int .i64 (addN cf n1 n2 l b).2]) ∧ ∃ v', BoxV w' g base B1 n1 d1 B2 n2 d2 B3 n3 d3 cf v' (addL cf n1 n2 l b) ∧ OnlyB g v w w' ∧ (v'.ownBlock = v.ownBlock ∨ ∃ k, v'.ownBlock = some k ∧ w.heap.size ≤ k)
theorem addX_any (g base : Nat) (B1 : Option Addr) (n1 d1 : Nat) (B2 : Option Addr) (n2 d2 : Nat) (B3 : Option Addr) (n3 d3 : Nat) (cf : Conf) (v : Value) (l : List BidV) (b : BidV) (w : World) (hx : BoxV w g base B1 n1 d1 B2 n2 d2 B3 n3 d3 cf v l) (hl : l.length ≤ 1000) (hbase : base ≤ w.heap.size) :
    Calls Try.prog 57 #[.pointer (some ⟨g, 0, none⟩), .agg #[.int .i64 b.seq, .int .i64 b.mem, .int .i64 b.sec, .int .i64 b.qty, .int .i64 b.price]] w (AddXPost g base B1 n1 d1 B2 n2 d2 B3 n3 d3 cf v l b w) := by
  unfold AddXPost addN addL
  by_cases hk : checkB cf n1 n2 b = 0
  · have hk' : ¬ checkB cf n1 n2 b ≠ 0 := by simpa using hk
    simp only [if_neg hk']
    by_cases hf : cf.bids ≤ l.length
    · simp only [if_pos hf]
      exact (addB_full g base B1 n1 d1 B2 n2 d2 B3 n3 d3 cf v l b w hx hl hk hf).mono fun e w' ⟨he, hb⟩ => ⟨he, v, hx.past hb, OnlyB.of_below hb, .inl rfl⟩
    · simp only [if_neg hf]
      exact (addB_ok g base B1 n1 d1 B2 n2 d2 B3 n3 d3 cf v l b w hx hl hk hf hbase).mono fun e w' h => h
  · have hk' : checkB cf n1 n2 b ≠ 0 := hk
    simp only [if_pos hk']
    exact (addB_wrong g base B1 n1 d1 B2 n2 d2 B3 n3 d3 cf v l b w hx hl _ rfl hk).mono fun e w' ⟨he, hb⟩ => ⟨he, v, hx.past hb, OnlyB.of_below hb, .inl rfl⟩

theorem OnlyB.blk {g : Nat} {v : Value} {w w' : World} (h : OnlyB g v w w') {k : Nat} {t : TypeId} {arr : Array Value} (hb : Blk w k t arr) (hk : k ≠ g) (hv : v.ownBlock ≠ some k) : Blk w' k t arr := by
  have hlt := hb.lt
  unfold Blk at hb ⊢
  rw [h.block k hlt hk hv]; exact hb
theorem OnlyB.own {g : Nat} {v u : Value} {w w' : World} (h : OnlyB g v w w') {base : Nat} {e : TypeId} {size n : Nat} {xs : List Value} (ho : w.ownsRow base e size u n xs) (hg : u.ownBlock ≠ some g) (hv : ∀ k, v.ownBlock = some k → u.ownBlock ≠ some k) : w'.ownsRow base e size u n xs := by
  refine ⟨ho.1, ?_⟩
  rcases ho.2 with h0 | ⟨k, cap, cur, rfl, hb, hh, h1⟩
  · exact .inl h0
  · refine .inr ⟨k, cap, cur, rfl, hb, ?_, h1⟩
    have hlt : k < w.heap.size := by
      rcases Nat.lt_or_ge k w.heap.size with hlt | hge
      · exact hlt
      · rw [Array.getElem?_eq_none hge] at hh; cases hh
    rw [h.block k hlt (fun e => hg (by rw [← e]; rfl)) (fun e => hv k e rfl)]; exact hh
theorem blk_ne_type {w : World} {g k : Nat} {t u : TypeId} {a b : Array Value} (h : Blk w g t a) (h' : Blk w k u b) (hne : t ≠ u) : g ≠ k := by
  rintro rfl
  unfold Blk at h h'
  rw [h] at h'
  injection h' with h'; injection h' with _ h'
  exact hne h'
theorem own_apart {w : World} {base base' : Nat} {e e' : TypeId} {size size' n n' : Nat} {v v' : Value} {xs xs' : List Value} (h : w.ownsRow base e size v n xs) (h' : w.ownsRow base' e' size' v' n' xs') (hne : e ≠ e') : ∀ k, v'.ownBlock = some k → v.ownBlock ≠ some k := fun k e1 e2 => by
  rcases own_ne h h' hne with h0 | h0
  · rw [e2] at h0; cases h0
  · exact h0 (e2.trans e1.symm)
theorem CfOwn.onlyX {base gq : Nat} {vq : Value} {w w' : World} {B1 : Option Addr} {n1 d1 : Nat} {B2 : Option Addr} {n2 d2 : Nat} {B3 : Option Addr} {n3 d3 : Nat} {cf : Conf} (hc : CfOwn w base B1 n1 d1 B2 n2 d2 B3 n3 d3 cf) (h : OnlyB gq vq w w') {cs : Array Value} (hb : Blk w gq 174 cs) {bq n : Nat} {xs : List Value} (hq : w.ownsRow bq 103 5 vq n xs) : CfOwn w' base B1 n1 d1 B2 n2 d2 B3 n3 d3 cf :=
  ⟨h.own hc.m (own_blk_ne hc.m hb (by decide)) (own_apart hc.m hq (by decide)), h.own hc.s (own_blk_ne hc.s hb (by decide)) (own_apart hc.s hq (by decide)), h.own hc.c (own_blk_ne hc.c hb (by decide)) (own_apart hc.c hq (by decide)), hc.hm, hc.hs, hc.hc⟩
theorem BoxV.onlyX {w w' : World} {g base : Nat} {B1 : Option Addr} {n1 d1 : Nat} {B2 : Option Addr} {n2 d2 : Nat} {B3 : Option Addr} {n3 d3 : Nat} {cf : Conf} {v : Value} {l : List BidV} (hx : BoxV w g base B1 n1 d1 B2 n2 d2 B3 n3 d3 cf v l) {gq bq : Nat} {vq : Value} (h : OnlyB gq vq w w') {cs : Array Value} (hb : Blk w gq 174 cs) {n : Nat} {xs : List Value} (hq : w.ownsRow bq 103 5 vq n xs) (hg : g ≠ gq) (ha : ∀ k, vq.ownBlock = some k → v.ownBlock ≠ some k) : BoxV w' g base B1 n1 d1 B2 n2 d2 B3 n3 d3 cf v l :=
  ⟨hx.form, h.blk hx.blk hg (own_blk_ne hq hx.blk (by decide)), h.own hx.row (own_blk_ne hx.row hb (by decide)) ha, hx.own.onlyX h hb hq⟩
def bLe (a b : BidV) : Prop := a.price < b.price ∨ (a.price = b.price ∧ a.seq ≤ b.seq)
theorem bLe_key (a b : BidV) : cmpL a.key b.key ≤ 0 ↔ bLe a b := by
  unfold bLe
  simp only [BidV.key, cmpL]
  repeat' split
  all_goals simp
  all_goals omega
theorem sortB_perm (l : List BidV) : (sortB l).Perm l := by
  unfold sortB ordK
  refine ((ordB_perm _ _).map _).trans ?_
  have : (List.range (l.map BidV.key).length).map (fun i => l.getD i dB) = l := by
    apply List.ext_getElem?
    intro i
    by_cases hi : i < l.length
    · simp [hi, List.getD]
    · rw [List.getElem?_eq_none (by simp; omega), List.getElem?_eq_none (by omega)]
  rw [this]
theorem sortB_sorted (l : List BidV) : (sortB l).Pairwise bLe := by
  unfold sortB
  rw [List.pairwise_iff_getElem]
  intro i j hi hj hij
  have hi' : i < (ordK (l.map BidV.key)).length := by simpa using hi
  have hj' : j < (ordK (l.map BidV.key)).length := by simpa using hj
  have h := ordK_keys (List.getElem?_eq_getElem hi') (List.getElem?_eq_getElem hj') hij
  have hk : ∀ x, x < l.length → (l.map BidV.key).getD x [] = (l.getD x dB).key := fun x hx => by
    simp [List.getD, List.getElem?_eq_getElem hx]
  have m1 := ordK_mem.1 (List.getElem_mem hi')
  have m2 := ordK_mem.1 (List.getElem_mem hj')
  rw [List.length_map] at m1 m2
  rw [hk _ m1, hk _ m2] at h
  rw [← bLe_key]
  simpa using h

/-! ### Bids of unlike prices, in another order -/
/-- A bid without its number. -/
def stripB (b : BidV) : BidV := ⟨0, b.mem, b.sec, b.qty, b.price⟩
/-- The bids a box has behind all of these. -/
def addAll (cf : Conf) (n1 n2 : Nat) (l : List BidV) : List BidV := l.foldl (addL cf n1 n2) []
theorem addAll_snoc (cf : Conf) (n1 n2 : Nat) (l : List BidV) (x : BidV) : addAll cf n1 n2 (l ++ [x]) = addL cf n1 n2 (addAll cf n1 n2 l) x := by
  unfold addAll; rw [List.foldl_append]; rfl
theorem addAll_fold_len (cf : Conf) (n1 n2 : Nat) : ∀ (l acc : List BidV), (l.foldl (addL cf n1 n2) acc).length ≤ acc.length + l.length
  | [], acc => by simp
  | x :: l, acc => by
    have h1 := addAll_fold_len cf n1 n2 l (addL cf n1 n2 acc x)
    have h2 := addL_len cf n1 n2 acc x
    simp only [List.foldl_cons, List.length_cons]; omega
theorem addAll_len (cf : Conf) (n1 n2 : Nat) (l : List BidV) : (addAll cf n1 n2 l).length ≤ l.length := by
  have := addAll_fold_len cf n1 n2 l []
  simpa [addAll] using this
def okB (cf : Conf) (n1 n2 : Nat) (b : BidV) : Bool := decide (checkB cf n1 n2 b = 0)
theorem addAll_fold_strip (cf : Conf) (n1 n2 : Nat) : ∀ (l acc : List BidV), ((acc.length + l.length : Nat) : Int) ≤ cf.bids → (l.foldl (addL cf n1 n2) acc).map stripB = acc.map stripB ++ (l.filter (okB cf n1 n2)).map stripB
  | [], acc, _ => by simp
  | x :: l, acc, h => by
    simp only [List.length_cons] at h
    have hl := addL_len cf n1 n2 acc x
    rw [List.foldl_cons, addAll_fold_strip cf n1 n2 l _ (by omega)]
    by_cases hk : checkB cf n1 n2 x = 0
    · have h2 : ¬ cf.bids ≤ (acc.length : Int) := by omega
      rw [addL, if_neg (by simpa using hk), if_neg h2, List.filter_cons_of_pos (by simpa [okB] using hk)]
      simp [stripB]
    · rw [addL, if_pos hk, List.filter_cons_of_neg (by simpa [okB] using hk)]
theorem addAll_strip {cf : Conf} {n1 n2 : Nat} {l : List BidV} (h : (l.length : Int) ≤ cf.bids) : (addAll cf n1 n2 l).map stripB = (l.filter (okB cf n1 n2)).map stripB := by
  rw [addAll, addAll_fold_strip cf n1 n2 l [] (by simpa using h)]; rfl
theorem filt_strip (sec : Int) (l : List BidV) : (l.filter (secF sec)).map stripB = (l.map stripB).filter (secF sec) := by
  rw [List.filter_map]; rfl
theorem perm_lt_eq : ∀ {a b : List BidV}, a.Perm b → a.Pairwise (fun x y => x.price < y.price) → b.Pairwise (fun x y => x.price < y.price) → a = b
  | [], b, h, _, _ => by simpa using h.symm
  | x :: a, [], h, _, _ => by simp at h
  | x :: a, y :: b, h, ha, hb => by
    obtain ⟨ha1, ha2⟩ := List.pairwise_cons.1 ha
    obtain ⟨hb1, hb2⟩ := List.pairwise_cons.1 hb
    have hx : x ∈ y :: b := h.subset List.mem_cons_self
    have hy : y ∈ x :: a := h.symm.subset List.mem_cons_self
    have hxy : x = y := by
      rcases List.mem_cons.1 hx with e | e
      · exact e
      · rcases List.mem_cons.1 hy with e' | e'
        · exact e'.symm
        · have := hb1 x e
          have := ha1 y e'
          omega
    subst hxy
    rw [perm_lt_eq h.cons_inv ha2 hb2]
def UnlikeB (l : List BidV) : Prop := l.Pairwise fun x y => x.price ≠ y.price
theorem unlike_perm {a b : List BidV} (h : a.Perm b) (ha : UnlikeB a) : UnlikeB b := (h.pairwise_iff (fun h e => h e.symm)).1 ha
theorem unlike_strip {l : List BidV} (h : UnlikeB l) : UnlikeB (l.map stripB) := List.pairwise_map.2 h
theorem unlike_filter {l : List BidV} (p : BidV → Bool) (h : UnlikeB l) : UnlikeB (l.filter p) := List.Pairwise.filter p h
theorem strip_lt {l : List BidV} (hs : l.Pairwise bLe) (hu : UnlikeB (l.map stripB)) : (l.map stripB).Pairwise fun x y => x.price < y.price := by
  have hu' := List.pairwise_map.1 hu
  refine List.pairwise_map.2 ((hs.and hu').imp ?_)
  rintro a b ⟨h1, h2⟩
  have h2' : a.price ≠ b.price := h2
  show a.price < b.price
  rcases h1 with h | ⟨h, _⟩
  · exact h
  · exact absurd h h2'
/-- What the box shows, without the numbers. -/
def seeB (cf : Conf) (n1 n2 : Nat) (l : List BidV) (sec : Int) : List BidV := (sortB ((addAll cf n1 n2 l).filter (secF sec))).map stripB
theorem seeB_perm {cf : Conf} {n1 n2 : Nat} {l : List BidV} (h : (l.length : Int) ≤ cf.bids) (sec : Int) : (seeB cf n1 n2 l sec).Perm (((l.filter (okB cf n1 n2)).map stripB).filter (secF sec)) := by
  unfold seeB
  rw [← addAll_strip h, ← filt_strip]
  exact (sortB_perm _).map _
theorem seeB_lt {cf : Conf} {n1 n2 : Nat} {l : List BidV} (h : (l.length : Int) ≤ cf.bids) (hu : UnlikeB l) (sec : Int) : (seeB cf n1 n2 l sec).Pairwise fun x y => x.price < y.price :=
  strip_lt (sortB_sorted _) (unlike_perm (seeB_perm h sec).symm (unlike_filter _ (unlike_strip (unlike_filter _ hu))))
theorem order_law {cf : Conf} {n1 n2 : Nat} {l l' : List BidV} (hp : l'.Perm l) (hu : UnlikeB l) (hn : (l.length : Int) ≤ cf.bids) (sec : Int) : seeB cf n1 n2 l sec = seeB cf n1 n2 l' sec := by
  have hn' : (l'.length : Int) ≤ cf.bids := by rw [hp.length_eq]; exact hn
  refine perm_lt_eq ((seeB_perm hn sec).trans (?_ : List.Perm _ _) |>.trans (seeB_perm hn' sec).symm) (seeB_lt hn hu sec) (seeB_lt hn' (unlike_perm hp.symm hu) sec)
  exact ((hp.symm.filter _).map _).filter _
theorem see_len (cf : Conf) (n1 n2 : Nat) (l : List BidV) (sec : Int) : (seeB cf n1 n2 l sec).length = ((addAll cf n1 n2 l).filter (secF sec)).length := by
  rw [seeB, List.length_map, sortB_len]

/-! ### Turned at a place -/
def turnB (l : List BidV) (k : Nat) : List BidV := l.drop k ++ l.take k
theorem turnB_len (l : List BidV) (k : Nat) : (turnB l k).length = l.length := by simp [turnB]; omega
theorem turnB_perm (l : List BidV) (k : Nat) : (turnB l k).Perm l := by
  unfold turnB
  exact List.perm_append_comm.trans (by rw [List.take_append_drop])
theorem turnB_get (l : List BidV) (k i : Nat) (hk : k ≤ l.length) (hi : i < l.length) : (turnB l k)[i]? = l[(i + k) % l.length]? := by
  unfold turnB
  by_cases h : i < l.length - k
  · rw [List.getElem?_append_left (by rw [List.length_drop]; omega), List.getElem?_drop, Nat.mod_eq_of_lt (by omega), Nat.add_comm]
  · rw [List.getElem?_append_right (by rw [List.length_drop]; omega), List.length_drop, List.getElem?_take, if_pos (by omega)]
    congr 1
    rw [Nat.mod_eq_sub_mod (by omega), Nat.mod_eq_of_lt (by omega)]
    omega
theorem turnB_take {l : List BidV} {k i : Nat} {x : BidV} (hk : k ≤ l.length) (hi : i < l.length) (hx : l[(i + k) % l.length]? = some x) : (turnB l k).take (i + 1) = (turnB l k).take i ++ [x] := by
  rw [List.take_add_one, turnB_get l k i hk hi, hx]; rfl

/-! ### The first k of a list written anew -/
def wipedB (l : List BidV) (k : Nat) : List BidV := (l.take k).map stripB ++ l.drop k
theorem wipedB_zero (l : List BidV) : wipedB l 0 = l := by simp [wipedB]
theorem wipedB_len (l : List BidV) (k : Nat) : (wipedB l k).length = l.length := by simp [wipedB]; omega
theorem wipedB_get {l : List BidV} {k : Nat} {x : BidV} (h : l[k]? = some x) : (wipedB l k)[k]? = some x := by
  have hlt := (List.getElem?_eq_some_iff.1 h).1
  unfold wipedB
  rw [List.getElem?_append_right (by simp; omega)]
  simp only [List.length_map, List.length_take, List.getElem?_drop]
  rw [show k + (k - min k l.length) = k from by omega]; exact h
theorem wipedB_set {l : List BidV} {k : Nat} {x : BidV} (h : l[k]? = some x) : (wipedB l k).set k (stripB x) = wipedB l (k + 1) := by
  obtain ⟨hlt, e⟩ := List.getElem?_eq_some_iff.1 h
  unfold wipedB
  have h1 : ((l.take k).map stripB).length = k := by simp; omega
  rw [List.set_append, if_neg (by omega), h1, Nat.sub_self, List.drop_eq_getElem_cons hlt, List.set_cons_zero, List.take_add_one, h]
  simp
end Go.Proofs.Ytfnhffcjhdeleaa
