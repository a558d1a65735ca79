/- The arguments of chapter 35's laws. -/
import Derived.WalkKit
import Derived.Lib.Hide
import Derived.BigQuiet
import Derived.Test.YtboijaffpnmcaaaF17
namespace Go.Proofs.Ytboijaffpnmcaaa
open Go.RowKit
set_option linter.unusedVariables false
set_option linter.unusedSimpArgs false

/-- A call. -/
structure Op35 where
  kind : Int
  at_ : Int
  set : DS
abbrev Op35.v (o : Op35) : Value := .agg #[.int .i64 o.kind, .int .i64 o.at_, .int .i64 o.set.p1, .int .i64 o.set.cls, .int .i64 o.set.acc, .int .i64 o.set.var, .int .i64 o.set.p2, .int .u64 o.set.gm, .int .i64 o.set.steps, .int .u64 o.set.sender, .int .i64 o.set.sport, .int .u64 o.set.recv, .int .i64 o.set.rport]
def Op35.cells (o : Op35) : List Value := [.int .i64 o.kind, .int .i64 o.at_] ++ o.set.cells
def Op35.zero : Op35 := ⟨0, 0, .zero⟩
structure Op35.Ok (o : Op35) : Prop where
  at_ : o.at_ ≤ 9223372036854775807
/-- What records are made with. -/
structure Cf where
  window : Int
  need : Int
abbrev Cf.v (c : Cf) : Value := .agg #[.int .i64 c.window, .int .i64 c.need]
/-- A slice of calls that came in. -/
structure OpArg (w : World) (A : Option Addr) (len cap : Nat) (l : List Op35) : Prop where
  len_eq : l.length = len
  le : len ≤ cap
  most : cap ≤ 9223372036854775807
  none_ : A = none → len = 0 ∧ cap = 0
  at_ : 0 < len → ∃ b off, A = some ⟨b, off, none⟩ ∧ b < w.heap.size ∧ ∀ i o, l[i]? = some o → w.rangeAt b (off + i * 13) o.cells
structure IntArg (w : World) (A : Option Addr) (len cap : Nat) (l : List Int) : Prop where
  len_eq : l.length = len
  le : len ≤ cap
  most : cap ≤ 9223372036854775807
  none_ : A = none → len = 0 ∧ cap = 0
  at_ : 0 < len → ∃ b off, A = some ⟨b, off, none⟩ ∧ b < w.heap.size ∧ ∀ i o, l[i]? = some o → w.cell? ⟨b, off + i, none⟩ = some (.int .i64 o)
theorem Op35.range {w : World} {b o : Nat} {x : Op35} (h : w.rangeAt b o x.cells) : w.rangeAt b (o + 2) x.set.cells := fun j v hv => by
  rw [show o + 2 + j = o + (2 + j) from by omega]
  refine h (2 + j) v ?_
  rw [Op35.cells, List.getElem?_append_right (by simp), ← hv]
  simp
end Go.Proofs.Ytboijaffpnmcaaa
