import Derived.Test.YtehemhpfdajbdaaDoorLaidN
import Derived.Stop.LaidErr
import Derived.WalkSmall
namespace Go.Proofs.YtehemhpfdajbdaaDoor
open Go.ChangeShapes Go.WideShapes Go.ChangeAt Go.WideMaps Go.WideElems Go.RowKit

theorem gES : Tryd.prog.globalNamed "strconv.ErrSyntax" = some 2 := by kernel_rfl
theorem tES : (Tryd.prog.globals[2]?).map (·.type) = some 41 := by kernel_rfl
theorem gER : Tryd.prog.globalNamed "strconv.ErrRange" = some 3 := by kernel_rfl
theorem tER : (Tryd.prog.globals[3]?).map (·.type) = some 41 := by kernel_rfl
theorem cEs : Tryd.prog.cellsOf 84 = 1 := by kernel_rfl
theorem cStr : Tryd.prog.cellsOf 9 = 1 := by kernel_rfl
theorem starE : "*" ++ "errors.errorString" = "*errors.errorString" := by decide
theorem rowE (u : TypeId) (h : Tryd.prog.typeName? 3 u = some "*errors.errorString") : u = 82 :=
  typeName_ptr_named (nm := "errors.errorString") (by rw [starE]; kernel_rfl) (by kernel_rfl) (by decide) u (by rw [starE]; exact h)
/-- What the card's list gives: the ten words, and the two errors of the library. -/
structure CnOk (w : World) : Prop where
  na : NaOk w
  es : ∃ tp p, w.var? Tryd.prog "strconv.ErrSyntax" = some #[.iface tp p]
  er : ∃ tp p, w.var? Tryd.prog "strconv.ErrRange" = some #[.iface tp p]
theorem CnOk.past {w w' : World} (h : CnOk w) (hb : Below w.heap.size w w') : CnOk w' := by
  obtain ⟨a, ⟨t1, p1, h1⟩, ⟨t2, p2, h2⟩⟩ := h
  have k1 : w.cell? ⟨2, 0, none⟩ = some (.iface t1 p1) := (World.var?_cell gES h1 0).trans rfl
  have k2 : w.cell? ⟨3, 0, none⟩ = some (.iface t2 p2) := (World.var?_cell gER h2 0).trans rfl
  exact ⟨a.past hb, ⟨t1, p1, var?_below hb gES (World.block_lt_of_cell? _ _ k1) h1⟩, ⟨t2, p2, var?_below hb gER (World.block_lt_of_cell? _ _ k2) h2⟩⟩
theorem of_laidCn {W : World} (h : laidMetH Tryd.prog [("math/bits.deBruijn32tab", Rows.laid_math_bits_deBruijn32tab), ("math/bits.deBruijn64tab", Rows.laid_math_bits_deBruijn64tab), ("internal/strconv.uint64pow10", Rows.laid_internal_strconv_uint64pow10), ("strconv.ErrRange", Rows.laid_strconv_ErrRange), ("strconv.ErrSyntax", Rows.laid_strconv_ErrSyntax), ("compline/chart.words", Rows.laid_compline_chart_words)] W) : CnOk W := by
  rw [MakeChecks.laidMetH_plain _ _ _ (by kernel_rfl)] at h
  have h3 := h.tail.tail.tail
  obtain ⟨a0, s0, hv0, -, -, -⟩ := laid_sentinel h3 gER tER Tryd.underlying41 rowE Tryd.underlying82 Tryd.underlying84 rfl rfl Tryd.underlying9 cEs cStr
  obtain ⟨a1, s1, hv1, -, -, -⟩ := laid_sentinel h3.tail gES tES Tryd.underlying41 rowE Tryd.underlying82 Tryd.underlying84 rfl rfl Tryd.underlying9 cEs cStr
  exact ⟨of_wordsN h3.tail.tail, ⟨_, _, hv1⟩, ⟨_, _, hv0⟩⟩
theorem door_metN (os : Os) (args : Array Value) : laidMetH Tryd.prog [("math/bits.deBruijn32tab", Rows.laid_math_bits_deBruijn32tab), ("math/bits.deBruijn64tab", Rows.laid_math_bits_deBruijn64tab), ("internal/strconv.uint64pow10", Rows.laid_internal_strconv_uint64pow10), ("strconv.ErrRange", Rows.laid_strconv_ErrRange), ("strconv.ErrSyntax", Rows.laid_strconv_ErrSyntax), ("compline/chart.words", Rows.laid_compline_chart_words)] ((World.doorLaid Tryd.prog 400 os).forCall (fun _ _ => 0) ⟨#[], args, []⟩).memory :=
  laidMetH_of_parts3 (fuel := 8) (laidMet_of_run' 8 (by kernel_rfl) (by kernel_rfl)) (by kernel_rfl) (by kernel_rfl)
end Go.Proofs.YtehemhpfdajbdaaDoor
