/-
  From a walk to the row, for every law of this seat: an argument whose cells are all integers is opened to its integers; a law whose call leaves all old memory alone meets its row.
-/
import Derived.Test.YtehemhpfdajbdaaDoorBase
import Derived.ProofKit
import Derived.OpenShut
import Derived.Deep.Slices
import Derived.ChangeSame
import Derived.JoinedCond
namespace Go.Proofs.YtehemhpfdajbdaaDoor
open Go.ChangeShapes Go.WideShapes Go.ChangeAt Go.RowKit Go.Deep

theorem Tryd.own : ownKnob Tryd.prog.godebug = none := by kernel_rfl
theorem Tryd.laidOut : laidOutB Tryd.prog = true := by kernel_rfl

/-! ### Types whose cells are all integers -/
def flatFields (F : TypeId → Option (List IntKind)) (C : TypeId → Nat) : List Field → Nat → Option (List IntKind)
  | [], _ => some []
  | f :: fs, off => if f.offset = off then (F f.type).bind fun l => if C f.type = l.length then (flatFields F C fs (off + l.length)).map (l ++ ·) else none else none

/-- The kinds of a type's cells, if all are integers (structs in structs too). -/
def flatOf (P : Program) : Nat → TypeId → Option (List IntKind)
  | 0, _ => none
  | n + 1, t => match P.underlying t with
    | some (.int k) => some [k]
    | some (.struct fs) => (flatFields (flatOf P n) P.cellsOf fs.toList 0).bind fun ks => if P.cellsOf t = ks.length then some ks else none
    | some (.array c e) => (flatOf P n e).bind fun ks => if P.cellsOf e = ks.length ∧ P.cellsOf t = c * ks.length then some (List.replicate c ks).flatten else none
    | _ => none

def intVals (ks : List IntKind) (zs : List Int) : List Value := List.zipWith Value.int ks zs
def IntsOk (ks : List IntKind) (zs : List Int) : Prop := ks.length = zs.length ∧ ∀ (i : Nat) k z, ks[i]? = some k → zs[i]? = some z → (Lit.int k z).wf = true

theorem IntsOk.append {ks ks' : List IntKind} {zs zs' : List Int} (h : IntsOk ks zs) (h' : IntsOk ks' zs') : IntsOk (ks ++ ks') (zs ++ zs') := by
  refine ⟨by simp [h.1, h'.1], fun i k z hk hz => ?_⟩
  by_cases hi : i < ks.length
  · rw [List.getElem?_append_left hi] at hk
    rw [List.getElem?_append_left (by rw [← h.1]; exact hi)] at hz
    exact h.2 i k z hk hz
  · rw [List.getElem?_append_right (by omega)] at hk
    rw [List.getElem?_append_right (by rw [← h.1]; omega), ← h.1] at hz
    exact h'.2 _ k z hk hz

theorem intVals_append (ks ks' : List IntKind) (zs zs' : List Int) (h : ks.length = zs.length) : intVals (ks ++ ks') (zs ++ zs') = intVals ks zs ++ intVals ks' zs' := by
  unfold intVals; exact List.zipWith_append h

section
variable {H : Type} {enc : TypeId × Value → H} {P : Program} {w : World} {base : Nat} {spare : Nat → Bool} {held : Bool}

theorem flatFields_open {F : TypeId → Option (List IntKind)} {T : TypeId → List Value → Option (DataW H × List MemPlace)} (hF : ∀ (t : TypeId) (ks : List IntKind) (cs : List Value) x, F t = some ks → T t cs = some x → ∃ zs, cs = intVals ks zs ∧ IntsOk ks zs)
    (cs : List Value) : ∀ (fs : List Field) (off : Nat) (ks : List IntKind), flatFields F P.cellsOf fs off = some ks → (∀ f ∈ fs, ∃ x, T f.type ((cs.drop f.offset).take (P.cellsOf f.type)) = some x) → off + ks.length ≤ cs.length →
      ∃ zs, (cs.drop off).take ks.length = intVals ks zs ∧ IntsOk ks zs
  | [], off, ks, h, _, _ => by
    simp [flatFields] at h
    subst h
    exact ⟨[], by simp [intVals], rfl, by intro i k z h; simp at h⟩
  | f :: fs, off, ks, h, hx, hle => by
    simp only [flatFields] at h
    split at h
    · rename_i hoff
      obtain ⟨l, hl, h2⟩ := Option.bind_eq_some_iff.1 h
      split at h2
      · rename_i hc
        obtain ⟨r, hr, rfl⟩ := Option.map_eq_some_iff.1 h2
        obtain ⟨x, hx0⟩ := hx f (List.mem_cons_self ..)
        obtain ⟨zs, hz, hok⟩ := hF _ _ _ _ hl hx0
        rw [List.length_append] at hle
        obtain ⟨zs', hz', hok'⟩ := flatFields_open hF cs fs (off + l.length) r hr (fun g hg => hx g (List.mem_cons_of_mem _ hg)) (by omega)
        refine ⟨zs ++ zs', ?_, hok.append hok'⟩
        rw [intVals_append _ _ _ _ hok.1, ← hz, ← hz', hoff, hc, List.length_append, List.take_add, List.drop_drop]
      · cases h2
    · cases h

theorem flatOf_open : ∀ (n : Nat) (t : TypeId) (ks : List IntKind) (fuel : Nat) (cs : List Value) (x : DataW H × List MemPlace), flatOf P n t = some ks → DataW.trod enc P w base spare held fuel t cs = some x → ∃ zs, cs = intVals ks zs ∧ IntsOk ks zs
  | 0, t, ks, fuel, cs, x, h, _ => by simp [flatOf] at h
  | n + 1, t, ks, fuel, cs, x, h, hx => by
    unfold flatOf at h
    split at h
    · rename_i k hk
      cases h
      obtain ⟨z, rfl, _, hw⟩ := DataW.trod_int hk hx
      exact ⟨[z], rfl, rfl, fun i k' z' h1 h2 => by
        cases i with
        | zero => simp at h1 h2; subst h1; subst h2; exact hw
        | succ i => simp at h1⟩
    · rename_i fs hs
      obtain ⟨ks', h1, h2⟩ := Option.bind_eq_some_iff.1 h
      split at h2
      · rename_i hc
        cases h2
        obtain ⟨ys, m, rfl, hy, hlen, hyl, hf⟩ := DataW.trod_struct hs hx
        obtain ⟨zs, hz, hok⟩ := flatFields_open (T := DataW.trod enc P w base spare held m) (fun t ks cs x a b => flatOf_open n t ks m cs x a b) cs fs.toList 0 ks h1 (fun f hfm => by
          obtain ⟨i, hi, hfi⟩ := List.getElem_of_mem hfm
          have hi' : i < fs.size := by simpa using hi
          have := hf i f (by rw [Array.getElem?_eq_getElem hi']; simpa using hfi)
          exact ⟨ys[i]'(by omega), by rw [this]; exact List.getElem?_eq_getElem _⟩) (by omega)
        refine ⟨zs, ?_, hok⟩
        rw [List.drop_zero, List.take_of_length_le (by omega)] at hz
        exact hz
      · cases h2
    · rename_i c e hs
      obtain ⟨ks', h1, h2⟩ := Option.bind_eq_some_iff.1 h
      split at h2
      · rename_i hc
        cases h2
        obtain ⟨ys, m, rfl, hy, hlen, hyl, hf⟩ := DataW.trod_array hs hx
        have hpart : ∀ q, q ≤ c → ∃ zs, cs.take (q * ks'.length) = intVals (List.replicate q ks').flatten zs ∧ IntsOk (List.replicate q ks').flatten zs := by
          intro q
          induction q with
          | zero => exact fun _ => ⟨[], by simp [intVals], rfl, by intro i k z h; simp at h⟩
          | succ q ih =>
            intro hq
            obtain ⟨zs, hz, hok⟩ := ih (by omega)
            have hg := hf q (by omega)
            rw [List.getElem?_eq_getElem (by omega)] at hg
            obtain ⟨zs', hz', hok'⟩ := flatOf_open n e ks' m _ _ h1 hg
            refine ⟨zs ++ zs', ?_, ?_⟩
            · rw [List.replicate_succ', List.flatten_append, intVals_append _ _ _ _ hok.1, ← hz, Nat.add_mul, Nat.one_mul, List.take_add]
              simp only [List.flatten_cons, List.flatten_nil, List.append_nil]
              rw [← hz', hc.1]
            · rw [List.replicate_succ', List.flatten_append]
              simpa using hok.append hok'
        obtain ⟨zs, hz, hok⟩ := hpart c (Nat.le_refl _)
        refine ⟨zs, ?_, hok⟩
        rw [List.take_of_length_le (by omega)] at hz
        exact hz
      · cases h2
    · cases h

theorem okWide_array {r : Reach} {t e : TypeId} {n : Nat} {v : Value} (ht : P.underlying t = some (.array n e)) (h : Value.okWide P w r base t v) : ∃ cs, v = .agg cs ∧ cs.size = P.cellsOf t := by
  simp only [Value.okWide, ht] at h
  obtain ⟨cs, h1, h2, _⟩ := h
  exact ⟨cs, h1, h2⟩

/-- A slice of flat elements: the integers, element by element. -/
theorem open_flat_slice {t e : TypeId} {n fuel : Nat} {ks : List IntKind} {cs : List Value} {x : DataW H × List MemPlace} (ht : P.underlying t = some (.slice e)) (he : flatOf P n e = some ks) (hC : P.cellsOf e = ks.length) (hpos : 0 < ks.length)
    (h : DataW.trod enc P w base (fun _ => true) held fuel t cs = some x) :
    ∃ (A : Option Addr) (len cap : Nat) (Z : Nat → List Int), cs = [.slice A len cap] ∧ len ≤ cap ∧ cap ≤ maxLen ∧ (∀ i, i < len → IntsOk ks (Z i)) ∧ Rd w w.heap.size ks.length A len ((List.range len).flatMap fun i => intVals ks (Z i)) := by
  rcases open_slice ht h with ⟨rfl, _⟩ | ⟨a, len, cap, m, n', D, Pl, rfl, hb, hl, hm, hmm, hx, hi⟩
  · exact ⟨none, 0, 0, fun _ => [], rfl, Nat.le_refl _, by simp [maxLen], fun i hi => by omega, Rd.nil ..⟩
  · rw [if_pos rfl] at hmm
    subst hmm
    obtain ⟨Z, hZ⟩ := choose_lt (α := List Int) (n := len) (p := fun i zs => IntsOk ks zs ∧ ∀ j u, (intVals ks zs)[j]? = some u → w.cell? (a.add (i * ks.length + j)) = some u) (fun i hi' => by
      obtain ⟨cs', hc, htr⟩ := hi i (by omega)
      obtain ⟨zs, rfl, hok⟩ := flatOf_open n e ks _ _ _ he htr
      obtain ⟨_, hlen, hat⟩ := World.cells?_some hc
      rw [hC] at hat hlen hc
      refine ⟨zs, hok, fun j u hu => ?_⟩
      have hj : j < ks.length := by rw [← hlen]; exact (List.getElem?_eq_some_iff.1 hu).1
      have := hat j hj
      rw [Go.Deep.add_add] at this
      rw [this, hu])
    refine ⟨some a, len, m, Z, rfl, hl, hm, fun i hi' => (hZ i hi').1, ?_⟩
    have hln : ∀ i, i < len → (intVals ks (Z i)).length = ks.length := fun i hi' => by simp [intVals, (hZ i hi').1.1.symm]
    have hlen : ∀ k, k ≤ len → ((List.range k).flatMap fun i => intVals ks (Z i)).length = k * ks.length := by
      intro k
      induction k with
      | zero => intro _; simp
      | succ k ih => intro hk; rw [List.range_succ, List.flatMap_append, List.length_append, ih (by omega)]; simp [hln k (by omega), Nat.add_mul]
    have hget : ∀ k, k ≤ len → ∀ i, i < k → ∀ j, j < ks.length → ((List.range k).flatMap fun i => intVals ks (Z i))[i * ks.length + j]? = (intVals ks (Z i))[j]? := by
      intro k
      induction k with
      | zero => intro _ i hi'; omega
      | succ k ih =>
        intro hk i hi' j hj
        rw [List.range_succ, List.flatMap_append]
        by_cases hik : i < k
        · rw [List.getElem?_append_left (by
            rw [hlen k (by omega)]
            have : (i + 1) * ks.length ≤ k * ks.length := Nat.mul_le_mul_right _ hik
            rw [Nat.add_mul] at this; omega), ih (by omega) i hik j hj]
        · obtain rfl : i = k := by omega
          rw [List.getElem?_append_right (by rw [hlen i (by omega)]; omega), hlen i (by omega)]
          simp
    refine ⟨hlen len (Nat.le_refl _), fun hn => ?_⟩
    obtain ⟨b, off, spot⟩ := a
    have h0 := (hZ 0 hn).2 0
    have hl0 := hln 0 hn
    have hex : ∃ u, (intVals ks (Z 0))[0]? = some u := ⟨_, List.getElem?_eq_getElem (by rw [hl0]; exact hpos)⟩
    obtain ⟨u, hu⟩ := hex
    have hc0 := h0 u hu
    have hspot : spot = none := by simpa [Addr.add] using World.cell?_spot hc0
    subst hspot
    have hblt : b < w.heap.size := by
      rcases Nat.lt_or_ge b w.heap.size with hlt | hge
      · exact hlt
      · simp [Addr.add, World.cell?, Array.getElem?_eq_none hge] at hc0
    refine ⟨b, off, rfl, hblt, fun j u hu => ?_⟩
    have hjl : j < len * ks.length := by rw [← hlen len (Nat.le_refl _)]; exact (List.getElem?_eq_some_iff.1 hu).1
    have hdiv : j / ks.length < len := Nat.div_lt_of_lt_mul (by rw [Nat.mul_comm]; exact hjl)
    have hmod : j % ks.length < ks.length := Nat.mod_lt _ hpos
    have hj : j / ks.length * ks.length + j % ks.length = j := by rw [Nat.mul_comm]; exact Nat.div_add_mod j ks.length
    have hg := hget len (Nat.le_refl _) (j / ks.length) hdiv (j % ks.length) hmod
    rw [hj, hu] at hg
    have := (hZ _ hdiv).2 _ u hg.symm
    rw [hj] at this
    rw [← Go.WideShapes.add_plain]
    exact this

/-- The same, as a list of what the elements are. -/
theorem open_flat_list {α : Type} (cells : α → List Value) (Good : α → Prop) {t e : TypeId} {n fuel : Nat} {ks : List IntKind} {cs : List Value} {x : DataW H × List MemPlace} (ht : P.underlying t = some (.slice e)) (he : flatOf P n e = some ks) (hC : P.cellsOf e = ks.length) (hpos : 0 < ks.length)
    (hok : ∀ zs, IntsOk ks zs → ∃ b, intVals ks zs = cells b ∧ Good b) (h : DataW.trod enc P w base (fun _ => true) held fuel t cs = some x) :
    ∃ (A : Option Addr) (len cap : Nat) (bs : List α), cs = [.slice A len cap] ∧ len ≤ cap ∧ cap ≤ maxLen ∧ bs.length = len ∧ (∀ b ∈ bs, Good b) ∧ Rd w w.heap.size ks.length A len (bs.flatMap cells) := by
  obtain ⟨A, len, cap, Z, hcs, hl, hm, hZ, hrd⟩ := open_flat_slice ht he hC hpos h
  have hlist : ∀ k, k ≤ len → ∃ bs : List α, bs.length = k ∧ (∀ b ∈ bs, Good b) ∧ bs.flatMap cells = (List.range k).flatMap fun i => intVals ks (Z i) := by
    intro k
    induction k with
    | zero => exact fun _ => ⟨[], rfl, by simp, by simp⟩
    | succ k ih =>
      intro hk
      obtain ⟨bs, h1, h2, h3⟩ := ih (by omega)
      obtain ⟨b, hb, hg⟩ := hok (Z k) (hZ k (by omega))
      refine ⟨bs ++ [b], by simp [h1], fun c hc => ?_, ?_⟩
      · rcases List.mem_append.1 hc with hc | hc
        · exact h2 c hc
        · rw [List.mem_singleton.1 hc]; exact hg
      · rw [List.range_succ, List.flatMap_append, List.flatMap_append, h3]; simp [hb]
  obtain ⟨bs, h1, h2, h3⟩ := hlist len (Nat.le_refl _)
  exact ⟨A, len, cap, bs, hcs, hl, hm, h1, h2, by rw [h3]; exact hrd⟩

/-! ### The arguments read, behind a call that leaves all old memory alone, as they read before -/
theorem trodAll_keeps (hl : laidOutB P = true) {W W' : World} (hb : Below W.heap.size W W') {sp : Nat → Bool} : ∀ (ts : List TypeId) (vs : List Value) (ds : List (DataW H)) (ps : List MemPlace),
    ts.all (fun t => P.readableRec t && decide (t < P.types.size)) = true → DataW.TrodAll enc P W 0 (fun _ => true) true ts vs ds ps → (∀ x ∈ ps, x.block < W.heap.size) → (∀ x ∈ ps, sp x.block = true) → DataW.TrodAll enc P W' 0 sp true ts vs ds ps
  | [], _, _, _, _, h, _, _ => by
    obtain ⟨rfl, rfl, rfl⟩ := trodAll_nil h
    exact trodAll_mk0
  | t :: ts, vs, ds, ps, hr, h, hlt, hsp => by
    obtain ⟨v, vs1, d, ds1, p, q, rfl, rfl, rfl, h1, h2⟩ := trodAll_cons h
    rw [List.all_cons, Bool.and_eq_true] at hr
    have hr1 := Bool.and_eq_true_iff.1 hr.1
    exact trodAll_cons_mk (WideElems.Trod_stays hl hr1.1 (of_decide_eq_true hr1.2) h1 (fun x hx => hb.same (hlt x (List.mem_append_left _ hx))) (fun x hx => hsp x (List.mem_append_left _ hx)))
      (trodAll_keeps hl hb ts vs1 ds1 q hr.2 h2 (fun x hx => hlt x (List.mem_append_right _ hx)) (fun x hx => hsp x (List.mem_append_right _ hx)))

/-- A law that answers true and leaves all old memory alone meets its row's specification. -/
theorem law_post {f : Func} {s : ChangeSpec} {tb : TypeId} {W W' : World} {args : Array Value} {ds gs : List (DataW H)} {before : List MemPlace} (hl : laidOutB P = true)
    (hts : f.params.toList.all (fun t => P.readableRec t && decide (t < P.types.size)) = true) (hres : f.resultTypes = #[tb]) (htb : P.underlying tb = some .bool) (hvars : s.vars = [])
    (hW : DataW.Whole enc P f.params.toList s.vars false W args.toList ds gs before) (hfn : s.fn H (ds ++ gs) = { results := [.lit (.bool true)], args := ds, vars := [] }) (hb : Below W.heap.size W W') :
    s.post enc P f false true false false W args (.bool true) W' := by
  have hW' := hW
  have hlt : ∀ x ∈ before, x.block < W.heap.size := fun x hx => hW.lt x hx
  obtain ⟨p, q, hA, hV, rfl, hfz, _⟩ := hW
  rw [hvars] at hV
  obtain ⟨rfl, rfl⟩ := trodVars_none hV
  refine ⟨ds, [], p ++ [], [], p, [], hW', ?_, ?_, ?_, ?_, fun h => by cases h⟩
  · rw [hfn, hres]
    exact trodAll_mk1 (shut_bool htb true)
  · rw [hfn]
    exact trodAll_keeps hl hb _ _ _ _ hts hA (fun x hx => hlt x (List.mem_append_left _ hx)) (fun x hx => by simpa using hlt x (List.mem_append_left _ hx))
  · rw [hfn, hvars]
    rfl
  · exact World.keptBut_mono (fun x hx => ⟨hx, .inr (.inl (by simpa using hx))⟩) (hb.frame (· ∈ p ++ []))
end

theorem wf_bd {z : Int} (h : (Lit.int .i64 z).wf = true) : -9223372036854775808 ≤ z ∧ z ≤ 9223372036854775807 := by
  simpa [Lit.wf, IntKind.min, IntKind.max, IntKind.signed, IntKind.bits] using h
theorem wf_bd_u64 {z : Int} (h : (Lit.int .u64 z).wf = true) : 0 ≤ z ∧ z ≤ 18446744073709551615 := by
  simpa [Lit.wf, IntKind.min, IntKind.max, IntKind.signed, IntKind.bits] using h
theorem wf_bd_u8 {z : Int} (h : (Lit.int .u8 z).wf = true) : 0 ≤ z ∧ z ≤ 255 := by
  simpa [Lit.wf, IntKind.min, IntKind.max, IntKind.signed, IntKind.bits] using h
end Go.Proofs.YtehemhpfdajbdaaDoor
