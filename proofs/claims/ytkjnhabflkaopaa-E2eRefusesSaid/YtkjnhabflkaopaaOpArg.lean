/- A slice of calls, as an argument. -/
import Derived.WalkKit
import Derived.Lib.Hide
import Derived.Test.YtkjnhabflkaopaaE9
namespace Go.Proofs.Ytkjnhabflkaopaa
open Go.RowKit
set_option linter.unusedVariables false
set_option linter.unusedSimpArgs false

def Opx.zero : Opx := ⟨0, 0, 0, ⟨0, 0, 0, 0, 0, 0, 0, 0, 0, 0, 0, 0, .zero⟩, 0, 0⟩
theorem getD_opx (l : List Opx) (j : Nat) (h : j < l.length) : l.getD j .zero = l[j] := by simp [List.getD_eq_getElem?_getD, h]
structure OpArg (w : World) (A : Option Addr) (len cap : Nat) (l : List Opx) : Prop where
  len_eq : l.length = len
  le : len ≤ cap
  most : cap ≤ 9223372036854775807
  none_ : A = none → len = 0 ∧ cap = 0
  at_ : 0 < len → ∃ b off, A = some ⟨b, off, none⟩ ∧ b < w.heap.size ∧ ∀ i, i < l.length → OpIn w b (off + i * 26) (l.getD i .zero)
theorem infoOp : (Try.prog.info? 62).map (·.size) = some 26 := by kernel_rfl
theorem OpIn.range {w : World} {g f : Nat} {o : Opx} (h : OpIn w g f o) : w.rangeAt g f o.cells := fun j v hv => by
  have hj : j < 26 := (List.getElem?_eq_some_iff.1 hv).1
  by_cases h3 : j < 3
  · rcases j with _ | _ | _ | j
    · exact h.kind.trans hv
    · exact h.t.trans hv
    · exact h.seq.trans hv
    · omega
  · by_cases h24 : j < 24
    · obtain ⟨i, rfl⟩ : ∃ i, j = 3 + i := ⟨j - 3, by omega⟩
      have e : o.cells[3 + i]? = o.p.cells[i]? := by
        have : o.cells.drop 3 = o.p.cells ++ [.int .u64 o.clock, .int .i64 o.port] := rfl
        have k : (o.cells.drop 3)[i]? = (o.p.cells ++ [.int .u64 o.clock, .int .i64 o.port])[i]? := by rw [this]
        rw [List.getElem?_drop] at k
        rw [k, List.getElem?_append_left (by show i < 21; omega)]
      rw [← Nat.add_assoc]
      exact h.p i v (by rw [← e]; exact hv)
    · obtain rfl | rfl : j = 24 ∨ j = 25 := by omega
      · exact h.clock.trans hv
      · exact h.port.trans hv
theorem load_op_at {ops : Array Oper} {rest : List Oper} {op : Oper} {a : Act} {w : World} {Q : Exit → Act → World → Prop} {g f : Nat} {o : Opx} (h : w.rangeAt g f o.cells) (x : Operand) (hw : Region.wanted op (yielded ops a.tmps) = true)
    (ho : op.op = .load 62 x) (hx : a.eval x = .pointer (some ⟨g, f, none⟩)) (k : wpList Try.prog ops Q rest (a.put op.dst o.v) w) : wpList Try.prog ops Q (op :: rest) a w :=
  BigFrame.wpList_want hw fun K hK => wp_load_mid _ x ho g f hx o.cells _ h Try.underlying62 rfl infoOp (hK _ _ k)
end Go.Proofs.Ytkjnhabflkaopaa
