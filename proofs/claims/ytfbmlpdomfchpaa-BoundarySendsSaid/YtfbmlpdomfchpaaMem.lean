/- A whole message, by value, out of a block of its own. -/
import Derived.WalkKit
import Derived.Lib.Hide
import Derived.Deep.MidRow
import Derived.Test.YtfbmlpdomfchpaaPm3
namespace Go.Proofs.Ytfbmlpdomfchpaa
open Go.RowKit
set_option linter.unusedVariables false
set_option linter.unusedSimpArgs false

theorem PtpBox.range {w : World} {g : Nat} {p : Ptp} (h : PtpBox w g p) : w.rangeAt g 0 p.cells := fun j v hv => by
  have hj : j < p.cells.length := (List.getElem?_eq_some_iff.1 hv).1
  rw [Nat.zero_add, h j hj, hv]
theorem infoPtp : (Try.prog.info? 42).map (·.size) = some 21 := by kernel_rfl
theorem load_ptp {ops : Array Oper} {rest : List Oper} {op : Oper} {a : Act} {w : World} {Q : Exit → Act → World → Prop} {g : Nat} {p : Ptp} (h : PtpBox w g p) (x : Operand) (hgd : op.guard = none) (ho : op.op = .load 42 x)
    (hx : a.eval x = .pointer (some ⟨g, 0, none⟩)) (k : wpList Try.prog ops Q rest (a.put op.dst p.v) w) : wpList Try.prog ops Q (op :: rest) a w :=
  wpList_load_mid hgd _ x ho g 0 hx p.cells _ h.range Try.underlying42 rfl infoPtp k
/-- The code behind the first region, under a name. -/
theorem seq_opaque {P : Program} {r rest : Code} {Q : Exit → Act → World → Prop} {a : Act} {w : World} (h : ∀ T, Hid (T = rest) → (r.seq T).wp P Q a w) : (r.seq rest).wp P Q a w := h _ (Lib.hid rfl)
end Go.Proofs.Ytfbmlpdomfchpaa
