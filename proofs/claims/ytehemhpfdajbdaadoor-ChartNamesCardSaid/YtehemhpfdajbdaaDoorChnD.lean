import Derived.Test.YtehemhpfdajbdaaDoorChnC
namespace Go.Proofs.YtehemhpfdajbdaaDoor
open Go.RowKit

/-! ### The document's Name -/
theorem place16 (kd mm : Int) : idxA 0 (accs 16) ⟨kd, mm⟩ < 0 ↔ okA ⟨kd, mm⟩ = false := by
  have h := idx_accs ⟨kd, mm⟩ 16
  have h2 := okA_iff ⟨kd, mm⟩
  simp only at h h2
  rw [h]
  cases e : okA ⟨kd, mm⟩ with
  | true =>
    have h3 := h2.1 e
    constructor
    · intro hlt
      repeat' split at hlt
      all_goals omega
    · intro hf; cases hf
  | false =>
    have h3 : ¬ _ := fun h => by have := h2.2 h; rw [e] at this; cases this
    constructor
    · intro _; rfl
    · intro _
      repeat' split
      all_goals omega
end Go.Proofs.YtehemhpfdajbdaaDoor
