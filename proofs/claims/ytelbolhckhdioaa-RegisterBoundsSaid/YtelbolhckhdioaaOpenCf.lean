import Derived.Test.YtelbolhckhdioaaConfA
import Derived.Test.YtelbolhckhdioaaLaw
namespace Go.Proofs.Ytelbolhckhdioaa
open Go.ChangeShapes Go.WideShapes Go.ChangeAt Go.RowKit Go.Deep

theorem memb_flat : flatOf Try.prog 3 135 = some [.i64, .i64] := by kernel_rfl
theorem memb_cells : Try.prog.cellsOf 135 = 2 := by kernel_rfl
theorem sec_flat : flatOf Try.prog 3 137 = some [.i64, .i64] := by kernel_rfl
theorem sec_cells : Try.prog.cellsOf 137 = 2 := by kernel_rfl
theorem cyc_flat : flatOf Try.prog 3 139 = some [.i64, .i64, .i64, .i64] := by kernel_rfl
theorem cyc_cells : Try.prog.cellsOf 139 = 4 := by kernel_rfl
theorem cfg_fields : (Try.prog.fieldsOf 78).toList.map (fun f => (f.type, f.offset)) = [(74, 0), (75, 1), (76, 2), (2, 3), (2, 4), (3, 5), (3, 6), (3, 7)] := by kernel_rfl
theorem cfg_under : Try.prog.underlying 78 = some (.struct (Try.prog.fieldsOf 78)) := by kernel_rfl
theorem cfg_cells : Try.prog.cellsOf 78 = 8 := by kernel_rfl

def i64ok (z : Int) : Prop := -9223372036854775808 ≤ z ∧ z ≤ 9223372036854775807
structure GoodCf (cf : Conf) : Prop where
  m : ∀ x ∈ cf.members, i64ok x.coll ∧ i64ok x.fund
  s : ∀ x ∈ cf.secs, i64ok x.price ∧ i64ok x.cap
  c : ∀ x ∈ cf.cycles, i64ok x.cut ∧ i64ok x.fund ∧ i64ok x.buyin ∧ i64ok x.close
  line : i64ok cf.line
  capital : i64ok cf.capital
  lead : i64ok cf.lead
  trades : i64ok cf.trades
  bids : i64ok cf.bids

theorem okMemb {zs : List Int} (h : IntsOk [.i64, .i64] zs) : ∃ b : Memb, intVals [.i64, .i64] zs = b.cells ∧ (i64ok b.coll ∧ i64ok b.fund) := by
  match zs, h with
  | [a, b], h => exact ⟨⟨a, b⟩, rfl, wf_bd (h.2 0 _ _ rfl rfl), wf_bd (h.2 1 _ _ rfl rfl)⟩
theorem okSecu {zs : List Int} (h : IntsOk [.i64, .i64] zs) : ∃ b : Secu, intVals [.i64, .i64] zs = b.cells ∧ (i64ok b.price ∧ i64ok b.cap) := by
  match zs, h with
  | [a, b], h => exact ⟨⟨a, b⟩, rfl, wf_bd (h.2 0 _ _ rfl rfl), wf_bd (h.2 1 _ _ rfl rfl)⟩
theorem okCyc {zs : List Int} (h : IntsOk [.i64, .i64, .i64, .i64] zs) : ∃ b : Cyc, intVals [.i64, .i64, .i64, .i64] zs = b.cells ∧ (i64ok b.cut ∧ i64ok b.fund ∧ i64ok b.buyin ∧ i64ok b.close) := by
  match zs, h with
  | [a, b, c, d], h => exact ⟨⟨a, b, c, d⟩, rfl, wf_bd (h.2 0 _ _ rfl rfl), wf_bd (h.2 1 _ _ rfl rfl), wf_bd (h.2 2 _ _ rfl rfl), wf_bd (h.2 3 _ _ rfl rfl)⟩

/-- A field of a list of fields that are known by type and offset. -/
theorem field_at {fs : Array Field} {l : List (TypeId × Nat)} (h : fs.toList.map (fun f => (f.type, f.offset)) = l) (i : Nat) (t : TypeId) (o : Nat) (hi : l[i]? = some (t, o)) : ∃ f : Field, fs[i]? = some f ∧ f.type = t ∧ f.offset = o := by
  rw [← h, List.getElem?_map, Option.map_eq_some_iff] at hi
  obtain ⟨f, hf, he⟩ := hi
  injection he with h1 h2
  exact ⟨f, by simpa using hf, h1, h2⟩

theorem list8 {α : Type} {l : List α} (h : l.length = 8) : ∃ a b c d e f g i : α, l = [a, b, c, d, e, f, g, i] := by
  match l, h with
  | [a, b, c, d, e, f, g, i], _ => exact ⟨a, b, c, d, e, f, g, i, rfl⟩

/-- A slice's reading names its own value. -/
theorem slice1 {A : Option Addr} {n c : Nat} {v : Value} (h : [v] = [Value.slice A n c]) : v = .slice A n c := by injection h

theorem open_cfg {H : Type} {enc : TypeId × Value → H} {w : World} {base : Nat} {held : Bool} {fuel : Nat} {cs : List Value} {x : DataW H × List MemPlace} (h : DataW.trod enc Try.prog w base (fun _ => true) held fuel 78 cs = some x) :
    ∃ (A1 A2 A3 : Option Addr) (n1 n2 n3 cp1 cp2 cp3 : Nat) (cf : Conf), cs = [.slice A1 n1 cp1, .slice A2 n2 cp2, .slice A3 n3 cp3, .int .i64 cf.line, .int .i64 cf.capital, .int .i64 cf.lead, .int .i64 cf.trades, .int .i64 cf.bids] ∧
      Rd w w.heap.size 2 A1 n1 (cf.members.flatMap Memb.cells) ∧ Rd w w.heap.size 2 A2 n2 (cf.secs.flatMap Secu.cells) ∧ Rd w w.heap.size 4 A3 n3 (cf.cycles.flatMap Cyc.cells) ∧ GoodCf cf := by
  obtain ⟨ys, n, _, _, hlen, hyl, hf⟩ := DataW.trod_struct cfg_under h
  rw [cfg_cells] at hlen
  obtain ⟨v0, v1, v2, v3, v4, v5, v6, v7, rfl⟩ := list8 hlen
  have get : ∀ (i : Nat) (t : TypeId) (o : Nat), [(74, 0), (75, 1), (76, 2), (2, 3), (2, 4), (3, 5), (3, 6), (3, 7)][i]? = some (t, o) → ∃ y, DataW.trod enc Try.prog w base (fun _ => true) held n t (([v0, v1, v2, v3, v4, v5, v6, v7].drop o).take (Try.prog.cellsOf t)) = some y := by
    intro i t o hi
    obtain ⟨f, h1, h2, h3⟩ := field_at cfg_fields i t o hi
    have h4 := hf i f h1
    rw [h2, h3] at h4
    have hil : i < ys.length := by rw [hyl]; exact (Array.getElem?_eq_some_iff.1 h1).1
    exact ⟨_, h4.trans (List.getElem?_eq_getElem hil)⟩
  obtain ⟨y0, g0⟩ := get 0 _ _ rfl
  obtain ⟨y1, g1⟩ := get 1 _ _ rfl
  obtain ⟨y2, g2⟩ := get 2 _ _ rfl
  obtain ⟨y3, g3⟩ := get 3 _ _ rfl
  obtain ⟨y4, g4⟩ := get 4 _ _ rfl
  obtain ⟨y5, g5⟩ := get 5 _ _ rfl
  obtain ⟨y6, g6⟩ := get 6 _ _ rfl
  obtain ⟨y7, g7⟩ := get 7 _ _ rfl
  have c1 : Try.prog.cellsOf 74 = 1 := by kernel_rfl
  have c2 : Try.prog.cellsOf 75 = 1 := by kernel_rfl
  have c3 : Try.prog.cellsOf 76 = 1 := by kernel_rfl
  have c4 : Try.prog.cellsOf 2 = 1 := by kernel_rfl
  have c5 : Try.prog.cellsOf 3 = 1 := by kernel_rfl
  rw [c1] at g0
  rw [c2] at g1
  rw [c3] at g2
  rw [c4] at g3 g4
  rw [c5] at g5 g6 g7
  obtain ⟨A1, n1, cp1, m, e0, _, _, _, gm, r1⟩ := open_flat_list Memb.cells (fun b => i64ok b.coll ∧ i64ok b.fund) Try.underlying74 memb_flat memb_cells (by decide) (fun _ => okMemb) g0
  obtain ⟨A2, n2, cp2, s, e1, _, _, _, gs, r2⟩ := open_flat_list Secu.cells (fun b => i64ok b.price ∧ i64ok b.cap) Try.underlying75 sec_flat sec_cells (by decide) (fun _ => okSecu) g1
  obtain ⟨A3, n3, cp3, c, e2, _, _, _, gc, r3⟩ := open_flat_list Cyc.cells (fun b => i64ok b.cut ∧ i64ok b.fund ∧ i64ok b.buyin ∧ i64ok b.close) Try.underlying76 cyc_flat cyc_cells (by decide) (fun _ => okCyc) g2
  obtain ⟨l, e3, _, w3⟩ := DataW.trod_int Try.underlying2 g3
  obtain ⟨k, e4, _, w4⟩ := DataW.trod_int Try.underlying2 g4
  obtain ⟨d, e5, _, w5⟩ := DataW.trod_int Try.underlying3 g5
  obtain ⟨t, e6, _, w6⟩ := DataW.trod_int Try.underlying3 g6
  obtain ⟨b, e7, _, w7⟩ := DataW.trod_int Try.underlying3 g7
  simp only [List.drop_zero, List.drop_succ_cons, List.take_succ_cons, List.take_zero] at e0 e1 e2 e3 e4 e5 e6 e7
  injection e0 with e0
  injection e1 with e1
  injection e2 with e2
  injection e3 with e3
  injection e4 with e4
  injection e5 with e5
  injection e6 with e6
  injection e7 with e7
  subst e0 e1 e2 e3 e4 e5 e6 e7
  exact ⟨A1, A2, A3, n1, n2, n3, cp1, cp2, cp3, ⟨m, s, c, l, k, d, t, b⟩, rfl, r1, r2, r3, ⟨gm, gs, gc, wf_bd w3, wf_bd w4, wf_bd w5, wf_bd w6, wf_bd w7⟩⟩
end Go.Proofs.Ytelbolhckhdioaa
