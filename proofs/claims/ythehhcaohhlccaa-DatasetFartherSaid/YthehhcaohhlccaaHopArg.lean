/- A slice of hops, as an argument. -/
import Derived.Test.YthehhcaohhlccaaDs9
import Derived.Test.YthehhcaohhlccaaDs2
namespace Go.Proofs.Ythehhcaohhlccaa
open Go.RowKit
set_option linter.unusedVariables false

/-- A hop lies at a place of a block. -/
def HopIn (w : World) (b o : Nat) (h : Hop) : Prop := w.cell? ⟨b, o, none⟩ = some (.int .u64 h.sender) ∧ w.cell? ⟨b, o + 1, none⟩ = some (.int .u64 h.recv) ∧ w.cell? ⟨b, o + 2, none⟩ = some (.int .i64 h.sport) ∧ w.cell? ⟨b, o + 3, none⟩ = some (.int .i64 h.rport)
theorem HopIn.below {w w1 : World} {b o : Nat} {h : Hop} (k : HopIn w b o h) (hb : Below w.heap.size w w1) : HopIn w1 b o h := by
  obtain ⟨h0, h1, h2, h3⟩ := k
  exact ⟨cell_below hb h0, cell_below hb h1, cell_below hb h2, cell_below hb h3⟩
def Hop.zero : Hop := ⟨0, 0, 0, 0⟩
def HopRow (w : World) (b off : Nat) (l : List Hop) : Prop := ∀ i, i < l.length → HopIn w b (off + i * 4) (l.getD i .zero)
structure HopArg (w : World) (A : Option Addr) (len cap : Nat) (l : List Hop) : Prop where
  len_eq : l.length = len
  le : len ≤ cap
  most : cap ≤ 9223372036854775807
  none_ : A = none → len = 0 ∧ cap = 0
  at_ : 0 < len → ∃ b off, A = some ⟨b, off, none⟩ ∧ HopRow w b off l

end Go.Proofs.Ythehhcaohhlccaa
