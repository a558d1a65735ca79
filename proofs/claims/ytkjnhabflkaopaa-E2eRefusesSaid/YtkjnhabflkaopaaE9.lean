/- A call of an exchange as an argument (written by gen_nobody.py). -/
import Derived.WalkKit
import Derived.LoopTactic
import Derived.Outline
import Derived.Lib.Hide
import Derived.Test.YtkjnhabflkaopaaE7
namespace Go.Proofs.Ytkjnhabflkaopaa
open Go.RowKit
set_option linter.unusedVariables false
set_option linter.unusedSimpArgs false

/-- A call. -/
structure Opx where
  kind : Int
  t : Int
  seq : Int
  p : Ptp
  clock : Int
  port : Int
abbrev Opx.v (o : Opx) : Value := .agg #[.int .i64 o.kind, .int .i64 o.t, .int .i64 o.seq, .int .i64 o.p.kind, .int .i64 o.p.domain, .int .i64 o.p.flags, .int .i64 o.p.corr, .int .u64 o.p.clock, .int .i64 o.p.port, .int .i64 o.p.seq, .int .i64 o.p.logInt, .int .i64 o.p.sec, .int .i64 o.p.nano, .int .u64 o.p.reqClock, .int .i64 o.p.reqPort, .int .i64 o.p.ann.utc, .int .i64 o.p.ann.p1, .int .i64 o.p.ann.cls, .int .i64 o.p.ann.acc, .int .i64 o.p.ann.var, .int .i64 o.p.ann.p2, .int .u64 o.p.ann.gm, .int .i64 o.p.ann.steps, .int .i64 o.p.ann.source, .int .u64 o.clock, .int .i64 o.port]
def Opx.cells (o : Opx) : List Value := [.int .i64 o.kind, .int .i64 o.t, .int .i64 o.seq, .int .i64 o.p.kind, .int .i64 o.p.domain, .int .i64 o.p.flags, .int .i64 o.p.corr, .int .u64 o.p.clock, .int .i64 o.p.port, .int .i64 o.p.seq, .int .i64 o.p.logInt, .int .i64 o.p.sec, .int .i64 o.p.nano, .int .u64 o.p.reqClock, .int .i64 o.p.reqPort, .int .i64 o.p.ann.utc, .int .i64 o.p.ann.p1, .int .i64 o.p.ann.cls, .int .i64 o.p.ann.acc, .int .i64 o.p.ann.var, .int .i64 o.p.ann.p2, .int .u64 o.p.ann.gm, .int .i64 o.p.ann.steps, .int .i64 o.p.ann.source, .int .u64 o.clock, .int .i64 o.port]
/-- A call lies at a place of a block. -/
structure OpIn (w : World) (g f : Nat) (o : Opx) : Prop where
  kind : w.cell? ⟨g, f, none⟩ = some (.int .i64 o.kind)
  t : w.cell? ⟨g, f + 1, none⟩ = some (.int .i64 o.t)
  seq : w.cell? ⟨g, f + 2, none⟩ = some (.int .i64 o.seq)
  p : w.rangeAt g (f + 3) o.p.cells
  clock : w.cell? ⟨g, f + 24, none⟩ = some (.int .u64 o.clock)
  port : w.cell? ⟨g, f + 25, none⟩ = some (.int .i64 o.port)
theorem OpIn.lt {w : World} {g f : Nat} {o : Opx} (h : OpIn w g f o) : g < w.heap.size := World.block_lt_of_cell? w _ h.kind
theorem OpIn.of_cells {w : World} {g f : Nat} {o : Opx} (h : ∀ j, j < 26 → w.cell? ⟨g, f + j, none⟩ = o.cells[j]?) : OpIn w g f o := by
  refine ⟨h 0 (by decide), h 1 (by decide), h 2 (by decide), fun j v hv => ?_, h 24 (by decide), h 25 (by decide)⟩
  have hj : j < 21 := (List.getElem?_eq_some_iff.1 hv).1
  have e : o.cells[3 + j]? = o.p.cells[j]? := by
    have : o.cells.drop 3 = o.p.cells ++ [.int .u64 o.clock, .int .i64 o.port] := rfl
    have k : (o.cells.drop 3)[j]? = (o.p.cells ++ [.int .u64 o.clock, .int .i64 o.port])[j]? := by rw [this]
    rw [List.getElem?_drop] at k
    rw [k, List.getElem?_append_left hj]
  rw [Nat.add_assoc, h (3 + j) (by omega), e]; exact hv
theorem OpIn.of {w : World} {g : Nat} {o : Opx} {t : TypeId} (h : w.heap[g]? = some (.cells o.cells.toArray t (0, 0))) : OpIn w g 0 o :=
  .of_cells fun j hj => by rw [Nat.zero_add, cell_of_row w g j _ _ (0, 0) h]; simp
theorem rangeAt_below {w w' : World} {g f : Nat} {cs : List Value} (h : w.rangeAt g f cs) (k : Below w.heap.size w w') : w'.rangeAt g f cs := fun j v hv => cell_below k (h j v hv)
theorem rangeAt_touch {b : Nat} {w w' : World} {g f : Nat} {cs : List Value} (h : w.rangeAt g f cs) (k : Touch b w w') (hg : g ≠ b) : w'.rangeAt g f cs := fun j v hv => k.cell' (h j v hv) hg
theorem OpIn.below {w w' : World} {g f : Nat} {o : Opx} (h : OpIn w g f o) (k : Below w.heap.size w w') : OpIn w' g f o :=
  ⟨cell_below k h.kind, cell_below k h.t, cell_below k h.seq, rangeAt_below h.p k, cell_below k h.clock, cell_below k h.port⟩
theorem OpIn.touch {b : Nat} {w w' : World} {g f : Nat} {o : Opx} (h : OpIn w g f o) (k : Touch b w w') (hg : g ≠ b) : OpIn w' g f o :=
  ⟨k.cell' h.kind hg, k.cell' h.t hg, k.cell' h.seq hg, rangeAt_touch h.p k hg, k.cell' h.clock hg, k.cell' h.port hg⟩
end Go.Proofs.Ytkjnhabflkaopaa
