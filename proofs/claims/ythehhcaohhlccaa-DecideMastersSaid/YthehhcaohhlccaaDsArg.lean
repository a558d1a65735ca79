/- A slice of data sets, as an argument. -/
import Derived.Test.YthehhcaohhlccaaDs7
namespace Go.Proofs.Ythehhcaohhlccaa
open Go.RowKit
set_option linter.unusedVariables false

/-- A slice of data sets that came in. -/
structure DSArg (w : World) (A : Option Addr) (len cap : Nat) (l : List DS) : Prop where
  len_eq : l.length = len
  le : len ≤ cap
  most : cap ≤ 9223372036854775807
  none_ : A = none → len = 0 ∧ cap = 0
  at_ : 0 < len → ∃ b off, A = some ⟨b, off, none⟩ ∧ DSRow w b off l
theorem DSRow.take {w : World} {g off : Nat} {l : List DS} (h : DSRow w g off l) (k : Nat) : DSRow w g off (l.take k) := fun i hi => by
  have h1 : i < l.length := by simp at hi; omega
  have h2 := h i h1
  have e : (l.take k).getD i .zero = l.getD i .zero := by
    simp only [List.getD_eq_getElem?_getD]
    rw [List.getElem?_take_of_lt (by simp at hi; omega)]
  rw [e]; exact h2
end Go.Proofs.Ythehhcaohhlccaa
