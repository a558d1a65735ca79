/- Messages of the examples: how they are stored, and what 'message' returns. -/
import Derived.WalkKit
import Derived.LoopTactic
import Derived.Outline
import Derived.Lib.Hide
import Derived.Deep.WholeRow
import Derived.Test.YtfbmlpdomfchpaaMem
import Derived.Test.YtfbmlpdomfchpaaJEa
namespace Go.Proofs.Ytfbmlpdomfchpaa
open Go.RowKit
set_option linter.unusedVariables false
set_option linter.unusedSimpArgs false

theorem load_ptp_at {ops : Array Oper} {rest : List Oper} {op : Oper} {a : Act} {w : World} {Q : Exit → Act → World → Prop} {g o : Nat} {p : Ptp} (h : w.rangeAt g o p.cells) (x : Operand) (hw : Region.wanted op (yielded ops a.tmps) = true)
    (ho : op.op = .load 42 x) (hx : a.eval x = .pointer (some ⟨g, o, none⟩)) (k : wpList Try.prog ops Q rest (a.put op.dst p.v) w) : wpList Try.prog ops Q (op :: rest) a w :=
  BigFrame.wpList_want hw fun K hK => wp_load_mid _ x ho g o hx p.cells _ h Try.underlying42 rfl infoPtp (hK _ _ k)
theorem ptp_one (p : Ptp) : p.cells.toArray.all (·.oneCell') = true := by simp [Ptp.cells, Value.oneCell']
theorem store_ptp_new {ops : Array Oper} {rest : List Oper} {op : Oper} {a : Act} {w : World} {Q : Exit → Act → World → Prop} {c : Array Value} {p : Ptp} {g : Nat} (hg : g = w.heap.size) (hc : c.size = 21) (x y : Operand) (hw : Region.wanted op (yielded ops a.tmps) = true)
    (ho : op.op = .store 42 x y) (hx : a.eval x = .pointer (some ⟨g, 0, none⟩)) (hy : a.eval y = p.v) (k : wpList Try.prog ops Q rest (a.put op.dst undef) (w.alloc (.cells p.cells.toArray 42))) :
    wpList Try.prog ops Q (op :: rest) a (w.alloc (.cells c 42)) :=
  BigFrame.wpList_want hw fun K hK => by
    subst hg
    have hv : p.v = .agg p.cells.toArray := rfl
    have hs := run_storeVar_new (P := Try.prog) w 42 c p.cells.toArray infoPtp (by rw [hc]; rfl) (ptp_one p)
    unfold Oper.wp execOp
    simp only [ho, hx, hy, hv, Instr.storeAt, Instr.sureAddr, Sem.run_bind, Sem.run_pure, Result.andThen_ok, hs]
    exact hK _ _ k
theorem store_ptp_at {ops : Array Oper} {rest : List Oper} {op : Oper} {a : Act} {w : World} {Q : Exit → Act → World → Prop} {g o : Nat} {p : Ptp} (ht : w.there g o 21) (x y : Operand) (hw : Region.wanted op (yielded ops a.tmps) = true)
    (ho : op.op = .store 42 x y) (hx : a.eval x = .pointer (some ⟨g, o, none⟩)) (hy : a.eval y = p.v) (k : wpList Try.prog ops Q rest (a.put op.dst undef) (w.setCells g o p.cells)) :
    wpList Try.prog ops Q (op :: rest) a w :=
  BigFrame.wpList_want hw fun K hK => wp_store_mid _ x y ho g o p.cells.toArray hx hy ht infoPtp (ptp_one p) (hK _ _ k)
theorem results_cell_at {fn : Func} {p : Tmp} {ty : TypeId} (h : fn.results = #[.cell p ty]) (tmps : Array Value) (w : World) (A : Addr) (v : Value) (hp : tmps.getD p undef = .pointer (some A)) (hl : (loadVar ty A).run Try.prog w = .ok v w) :
    (results fn tmps).run Try.prog w = .ok v w := by
  have hp' : tmps[p]?.getD undef = .pointer (some A) := by simpa using hp
  simp [results, h, hp', asAddr, hl, Result.andThen]
theorem there_up {w : World} {g o n : Nat} {x : Obj} (h : w.there g o n) (hg : g < w.heap.size) : (w.alloc x).there g o n := fun j hj => by
  have hb := (Below.refl w.heap.size w).alloc (Nat.le_refl _) x
  exact ⟨by rw [hb.cell hg]; exact (h j hj).1, by rw [hb.frozen hg]; exact (h j hj).2⟩
theorem lt_up {w : World} {g : Nat} {x : Obj} (h : g < w.heap.size) : g < (w.alloc x).heap.size := by simp; omega
theorem below_sets {B g : Nat} {u : World} (hg : B ≤ g) : ∀ (vs : List Value) (o : Nat) (w : World), Below B u w → Below B u (w.setCells g o vs)
  | [], _, _, h => h
  | v :: r, o, w, h => below_sets hg r (o + 1) _ (h.setCell (p := ⟨g, o, none⟩) hg v)
def msgF (kind seq at_ corr : Int) : Ptp := ⟨kind, 0, 0, corr * 65536, 5, 1, seq, 0, (3900000000000000000 + at_) / 1000000000 - 2208988800, (3900000000000000000 + at_) % 1000000000, if kind = 9 then 9 else 0, if kind = 9 then 1 else 0, .zero⟩
end Go.Proofs.Ytfbmlpdomfchpaa
