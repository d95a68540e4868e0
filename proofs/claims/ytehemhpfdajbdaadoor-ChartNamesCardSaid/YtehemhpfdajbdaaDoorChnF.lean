import Derived.Test.YtehemhpfdajbdaaDoorLaidE
import Derived.Test.YtehemhpfdajbdaaDoorChnC
import Derived.Test.YtehemhpfdajbdaaDoorShelf
namespace Go.Proofs.YtehemhpfdajbdaaDoor
open Go.RowKit

/-! ### strconv.Atoi of any text; chart.Of -/
def MlOk (w : World) : Prop := ∃ m, w.cell? ⟨1, 0, none⟩ = some (.int .i64 m)
theorem MlOk.past {w w' : World} (h : MlOk w) (hb : Below w.heap.size w w') : MlOk w' := by
  obtain ⟨m, h⟩ := h
  exact ⟨m, (hb.cell (p := ⟨1, 0, none⟩) (World.block_lt_of_cell? _ _ h)).trans h⟩
def valN (t : List UInt8) : Int := match Lib.atoiAll t with
  | .ok v => v
  | .syntax => 0
  | .range => Lib.atoiSat t
theorem numN_val (s : List UInt8) : numN s = valN (Lib.cut s [58]).2.1 := rfl
theorem atoi_any (t : List UInt8) (ht : t.length ≤ 50) (w : World) (hw : CnOk w) : Calls Tryd.prog 14 #[.string ⟨t.toArray⟩] w fun e w' => (∃ ev, e = .returned (.tuple #[.int .i64 (valN t), ev])) ∧ Below w.heap.size w w' := by
  have hsz : (⟨t.toArray⟩ : ByteArray).size ≤ 281474976710656 := by
    show t.toArray.size ≤ _
    simp; omega
  obtain ⟨tp1, p1, hv1⟩ := hw.es
  obtain ⟨tp2, p2, hv2⟩ := hw.er
  rcases h : Lib.atoiAll t with v | _ | _
  · have hV : valN t = v := by unfold valN; rw [h]
    rw [hV]
    refine (Tryd.strconv_Atoi_ok ⟨t.toArray⟩ (by omega) v (by simpa using h) w).mono fun e w' hh => ⟨⟨_, hh.1⟩, ?_⟩
    rcases hh.2 with rfl | ⟨t, rfl⟩
    · exact Below.refl _ _
    · exact Lib.bytesWorld_below _ _ _
  · have hV : valN t = 0 := by unfold valN; rw [h]
    rw [hV]
    refine (Tryd.strconv_Atoi_syntax_var ⟨t.toArray⟩ hsz (by simpa using h) tp1 p1 w hv1).mono fun e w' hh => ?_
    obtain ⟨N, he, _, _, hb⟩ := hh
    exact ⟨⟨_, he⟩, hb⟩
  · have hV : valN t = Lib.atoiSat t := by unfold valN; rw [h]
    rw [hV]
    refine (Tryd.strconv_Atoi_range_var ⟨t.toArray⟩ hsz (by simpa using h) tp2 p2 w hv2).mono fun e w' hh => ?_
    obtain ⟨N, he, _, _, hb⟩ := hh
    exact ⟨⟨_, by simpa using he⟩, hb⟩
end Go.Proofs.YtehemhpfdajbdaaDoor
