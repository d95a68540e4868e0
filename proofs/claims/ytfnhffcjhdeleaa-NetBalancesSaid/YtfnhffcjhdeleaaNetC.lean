import Derived.Test.YtfnhffcjhdeleaaNetB
namespace Go.Proofs.Ytfnhffcjhdeleaa
open Go.RowKit Go.ChangeShapes

theorem sid_inv {P : Program} {k e : TypeId} {f1 f2 : Field} {v : Value} {l : Lit} (hu : P.underlying k = some (.struct #[f1, f2])) (t1 : f1.type = e) (t2 : f2.type = e) (o1 : f1.offset = 0) (o2 : f2.offset = 1)
    (hck : P.cellsOf k = 2) (hue : P.underlying e = some (.int .i64)) (hce : P.cellsOf e = 1) (hs : 0 < P.types.size) (h : keyOf P k v = some l) : ∃ s : Sid, v = sdv s ∧ inI s.m ∧ inI s.a := by
  obtain ⟨d, hd⟩ : ∃ d, P.types.size = d + 1 := ⟨P.types.size - 1, by omega⟩
  unfold keyOf at h
  simp only [hu] at h
  split at h
  · rename_i hf
    simp only [Bool.and_eq_true] at hf
    have hf2 := hf.2
    cases v with
    | agg cs =>
      simp [Value.formed, hu, hck] at hf2
      obtain ⟨a, b, rfl⟩ : ∃ a b, cs = #[a, b] := by
        obtain ⟨l⟩ := cs
        match l, hf2 with
        | [a, b], _ => exact ⟨a, b, rfl⟩
      simp only [Option.map_eq_some_iff] at h
      obtain ⟨ls, h1, _⟩ := h
      rw [hd] at h1
      simp only [Program.keyLits, hu, Value.cells] at h1
      split at h1
      · simp only [Option.map_eq_some_iff] at h1
        obtain ⟨lls, h2, _⟩ := h1
        simp [t1, t2, o1, o2, hce, Program.keyLits, hue] at h2
        cases a <;> simp at h2
        cases b <;> simp at h2
        rename_i q1 z1 q2 z2 _
        by_cases g1 : q1 = .i64 ∧ (Lit.int .i64 z1).wf = true
        · by_cases g2 : q2 = .i64 ∧ (Lit.int .i64 z2).wf = true
          · obtain ⟨rfl, w1⟩ := g1
            obtain ⟨rfl, w2⟩ := g2
            exact ⟨⟨z1, z2⟩, rfl, by simpa [Lit.wf, IntKind.min, IntKind.max, IntKind.signed, IntKind.bits, inI] using w1, by simpa [Lit.wf, IntKind.min, IntKind.max, IntKind.signed, IntKind.bits, inI] using w2⟩
          · rw [if_pos g1, if_neg g2] at h2; simp at h2
        · rw [if_neg g1] at h2; simp at h2
      · cases h1
    | _ => simp [Value.formed, hu] at hf2
  · cases h
end Go.Proofs.Ytfnhffcjhdeleaa
