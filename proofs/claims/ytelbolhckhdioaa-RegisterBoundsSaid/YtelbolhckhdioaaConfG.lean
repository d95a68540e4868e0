import Derived.Test.YtelbolhckhdioaaConfF
namespace Go.Proofs.Ytelbolhckhdioaa
open Go.RowKit

theorem Rd.elem2 {α : Type} {w : World} {B sz n : Nat} {A : Option Addr} {l : List α} {f : α → List Value} {k : Nat} {a : α} (h : Rd w B sz A n (l.flatMap f)) (hf : ∀ a, (f a).length = sz) (hk : l[k]? = some a) (hkn : k < n) :
    ∃ b off, A = some ⟨b, off, none⟩ ∧ b < B ∧ ∀ j u, (f a)[j]? = some u → w.cell? ⟨b, off + k * sz + j, none⟩ = some u := h.elem hf hk hkn

end Go.Proofs.Ytelbolhckhdioaa
