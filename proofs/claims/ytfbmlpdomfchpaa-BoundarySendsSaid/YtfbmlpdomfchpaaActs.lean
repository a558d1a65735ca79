/- What is done with a clock, as a value; a slice of such, as an argument. -/
import Derived.WalkKit
import Derived.Lib.Hide
import Derived.Test.YtfbmlpdomfchpaaE7
import Derived.Test.YtfbmlpdomfchpaaJFc
namespace Go.Proofs.Ytfbmlpdomfchpaa
open Go.RowKit
set_option linter.unusedVariables false
set_option linter.unusedSimpArgs false

/-- What is done with a clock. -/
structure Bact where
  kind : Int
  port : Int
  at_ : Int
  msg : Ptp
abbrev Bact.v (o : Bact) : Value := .agg #[.int .i64 o.kind, .int .i64 o.port, .int .i64 o.at_, .int .i64 o.msg.kind, .int .i64 o.msg.domain, .int .i64 o.msg.flags, .int .i64 o.msg.corr, .int .u64 o.msg.clock, .int .i64 o.msg.port, .int .i64 o.msg.seq, .int .i64 o.msg.logInt, .int .i64 o.msg.sec, .int .i64 o.msg.nano, .int .u64 o.msg.reqClock, .int .i64 o.msg.reqPort, .int .i64 o.msg.ann.utc, .int .i64 o.msg.ann.p1, .int .i64 o.msg.ann.cls, .int .i64 o.msg.ann.acc, .int .i64 o.msg.ann.var, .int .i64 o.msg.ann.p2, .int .u64 o.msg.ann.gm, .int .i64 o.msg.ann.steps, .int .i64 o.msg.ann.source]
def Bact.cells (o : Bact) : List Value := [.int .i64 o.kind, .int .i64 o.port, .int .i64 o.at_, .int .i64 o.msg.kind, .int .i64 o.msg.domain, .int .i64 o.msg.flags, .int .i64 o.msg.corr, .int .u64 o.msg.clock, .int .i64 o.msg.port, .int .i64 o.msg.seq, .int .i64 o.msg.logInt, .int .i64 o.msg.sec, .int .i64 o.msg.nano, .int .u64 o.msg.reqClock, .int .i64 o.msg.reqPort, .int .i64 o.msg.ann.utc, .int .i64 o.msg.ann.p1, .int .i64 o.msg.ann.cls, .int .i64 o.msg.ann.acc, .int .i64 o.msg.ann.var, .int .i64 o.msg.ann.p2, .int .u64 o.msg.ann.gm, .int .i64 o.msg.ann.steps, .int .i64 o.msg.ann.source]
def Bact.zero : Bact := ⟨0, 0, 0, ⟨0, 0, 0, 0, 0, 0, 0, 0, 0, 0, 0, 0, .zero⟩⟩
instance : Inhabited Bact := ⟨.zero⟩
theorem Bact.v_eq (o : Bact) : o.v = .agg o.cells.toArray := rfl
theorem Bact.len (o : Bact) : o.cells.length = 24 := rfl
theorem Bact.one (o : Bact) : o.cells.toArray.all (·.oneCell') = true := by simp [Bact.cells, Value.oneCell']
theorem Bact.msg_range {w : World} {g f : Nat} {o : Bact} (h : w.rangeAt g f o.cells) : w.rangeAt g (f + 3) o.msg.cells := fun j v hv => by
  have e : o.cells[3 + j]? = o.msg.cells[j]? := by
    have : o.cells.drop 3 = o.msg.cells := rfl
    have k : (o.cells.drop 3)[j]? = o.msg.cells[j]? := by rw [this]
    rw [List.getElem?_drop] at k
    exact k
  rw [Nat.add_assoc]
  exact h (3 + j) v (by rw [e]; exact hv)
theorem getD_act (l : List Bact) (j : Nat) (h : j < l.length) : l.getD j .zero = l[j] := by simp [List.getD_eq_getElem?_getD, h]
structure BactArg (w : World) (A : Option Addr) (len cap : Nat) (l : List Bact) : Prop where
  len_eq : l.length = len
  le : len ≤ cap
  most : cap ≤ 9223372036854775807
  none_ : A = none → len = 0 ∧ cap = 0
  at_ : 0 < len → ∃ b off, A = some ⟨b, off, none⟩ ∧ b < w.heap.size ∧ ∀ i, i < l.length → w.rangeAt b (off + i * 24) (l.getD i .zero).cells
theorem BactArg.below {w w' : World} {A : Option Addr} {len cap : Nat} {l : List Bact} (h : BactArg w A len cap l) (k : Below w.heap.size w w') : BactArg w' A len cap l :=
  ⟨h.len_eq, h.le, h.most, h.none_, fun h0 => by
    obtain ⟨b, off, e, hb, hr⟩ := h.at_ h0
    exact ⟨b, off, e, Nat.lt_of_lt_of_le hb k.size, fun i hi => rangeAt_below (hr i hi) k⟩⟩
theorem infoAct : (Try.prog.info? 44).map (·.size) = some 24 := by kernel_rfl
theorem load_act {ops : Array Oper} {rest : List Oper} {op : Oper} {a : Act} {w : World} {Q : Exit → Act → World → Prop} {g f : Nat} {o : Bact} (h : w.rangeAt g f o.cells) (x : Operand) (hw : Region.wanted op (yielded ops a.tmps) = true)
    (ho : op.op = .load 44 x) (hx : a.eval x = .pointer (some ⟨g, f, none⟩)) (k : wpList Try.prog ops Q rest (a.put op.dst o.v) w) : wpList Try.prog ops Q (op :: rest) a w :=
  BigFrame.wpList_want hw fun K hK => wp_load_mid _ x ho g f hx o.cells _ h Try.underlying44 rfl infoAct (hK _ _ k)
theorem store_act_new {ops : Array Oper} {rest : List Oper} {op : Oper} {a : Act} {w : World} {Q : Exit → Act → World → Prop} {c : Array Value} {o : Bact} {g : Nat} (hg : g = w.heap.size) (hc : c.size = 24) (x y : Operand) (hw : Region.wanted op (yielded ops a.tmps) = true)
    (ho : op.op = .store 44 x y) (hx : a.eval x = .pointer (some ⟨g, 0, none⟩)) (hy : a.eval y = o.v) (k : ∀ w', Hid (w'.rangeAt g 0 o.cells ∧ Below w.heap.size w w' ∧ g < w'.heap.size) → wpList Try.prog ops Q rest (a.put op.dst undef) w') :
    wpList Try.prog ops Q (op :: rest) a (w.alloc (.cells c 44)) :=
  BigFrame.wpList_want hw fun K hK => by
    subst hg
    have hv : o.v = .agg o.cells.toArray := rfl
    have hs := run_storeVar_new (P := Try.prog) w 44 c o.cells.toArray infoAct (by rw [hc]; rfl) o.one
    unfold Oper.wp execOp
    simp only [ho, hx, hy, hv, Instr.storeAt, Instr.sureAddr, Sem.run_bind, Sem.run_pure, Result.andThen_ok, hs]
    exact hK _ _ (k _ ⟨fun j v hv => by rw [Nat.zero_add, cell_of_row _ _ j _ _ (0, 0) (heap_alloc_new w _), ← hv]; simp, (Below.refl _ _).alloc (Nat.le_refl _) _, by simp⟩)
end Go.Proofs.Ytfbmlpdomfchpaa
