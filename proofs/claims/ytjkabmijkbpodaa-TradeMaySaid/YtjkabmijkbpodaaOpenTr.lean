import Derived.Test.YtjkabmijkbpodaaTradA
import Derived.Test.YtjkabmijkbpodaaLaw
namespace Go.Proofs.Ytjkabmijkbpodaa
open Go.ChangeShapes Go.WideShapes Go.ChangeAt Go.RowKit Go.Deep

theorem trade_flat : flatOf Try.prog 3 51 = some [.i64, .i64, .i64, .i64, .i64, .i64] := by kernel_rfl
theorem trade_under : Try.prog.underlying 51 = some (.struct (Try.prog.fieldsOf 51)) := by kernel_rfl
theorem okTrad {zs : List Int} (h : IntsOk [.i64, .i64, .i64, .i64, .i64, .i64] zs) : ∃ t : Trad, intVals [.i64, .i64, .i64, .i64, .i64, .i64] zs = [.int .i64 t.id, .int .i64 t.buyer, .int .i64 t.seller, .int .i64 t.sec, .int .i64 t.qty, .int .i64 t.price] ∧ (inI t.qty ∧ inI t.price) := by
  match zs, h with
  | [a, b, c, d, e, f], h => exact ⟨⟨a, b, c, d, e, f⟩, rfl, wf_bd (h.2 4 _ _ rfl rfl), wf_bd (h.2 5 _ _ rfl rfl)⟩
end Go.Proofs.Ytjkabmijkbpodaa
