/- A single exchange. -/
import Derived.WalkKit
import Derived.LoopTactic
import Derived.Outline
import Derived.Lib.Hide
import Derived.Test.YtkjnhabflkaopaaE10
import Derived.Test.YtkjnhabflkaopaaE8
namespace Go.Proofs.Ytkjnhabflkaopaa
open Go.RowKit
set_option linter.unusedVariables false
set_option linter.unusedSimpArgs false

/-- An exchange in a block of its own. -/
structure One (w0 w : World) (a : Nat) (x : Ex) : Prop where
  ex : ExAt w a x
  below_ : Below w0.heap.size w0 w
theorem One.below {w0 w w' : World} {a : Nat} {x : Ex} (h : One w0 w a x) (k : Below w.heap.size w w') : One w0 w' a x := ⟨h.ex.below k, below_then h.below_ k⟩
theorem One.set {w0 w w' : World} {a : Nat} {x x' : Ex} (h : One w0 w a x) (hl : w0.heap.size ≤ a) (k : ExAt w' a x') (t : Touch a w w') : One w0 w' a x' := ⟨k, Touch.below h.below_ t hl (Nat.le_refl _)⟩
theorem One.alloc {w0 w : World} {a : Nat} {x : Ex} (h : One w0 w a x) (o : Obj) : One w0 (w.alloc o) a x := h.below ((Below.refl _ _).alloc (Nat.le_refl _) o)
end Go.Proofs.Ytkjnhabflkaopaa
