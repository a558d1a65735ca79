/- The walks of Own and Step, of package dataset and of the reference of layer 34. -/
import Derived.WalkKit
import Derived.Outline
import Derived.Lib.Hide
import Derived.Test.YtkjnhabflkaopaaDs1
namespace Go.Proofs.Ytkjnhabflkaopaa
open Go.RowKit
set_option linter.unusedVariables false
set_option linter.unusedSimpArgs false

structure Qual where
  p1 : Int
  cls : Int
  acc : Int
  var : Int
  p2 : Int
abbrev Qual.v (q : Qual) : Value := .agg #[.int .i64 q.p1, .int .i64 q.cls, .int .i64 q.acc, .int .i64 q.var, .int .i64 q.p2]
def ownF (q : Qual) (id : Int) : DS := ⟨q.p1, q.cls, q.acc, q.var, q.p2, id, 0, id, 0, id, 0⟩
theorem own_any (q : Qual) (id : Int) (w : World) : Calls Try.prog 42 #[q.v, .int .u64 id] w fun e w' => e = .returned (ownF q id).v ∧ Below w.heap.size w w' := by
  go_enter Try.func42, Try.ntmps42
  go_wp2
  refine bodyPost_ret (v := (ownF q id).v) (by simp [results, Try.results42, go_sem, ownF]) rfl ⟨rfl, ?_⟩
  exact ((Below.refl _ _).alloc (Nat.le_refl _) _).alloc (by simp) _
structure Hop where
  sender : Int
  recv : Int
  sport : Int
  rport : Int
abbrev Hop.v (h : Hop) : Value := .agg #[.int .u64 h.sender, .int .u64 h.recv, .int .i64 h.sport, .int .i64 h.rport]
def stepF (d : DS) (s : Int) (sp : Int) (r : Int) (rp : Int) : DS := if 32 ≤ d.steps then .zero else { d with steps := d.steps + 1, sender := s, sport := sp, recv := r, rport := rp }
def stepE (d : DS) : Int := if 32 ≤ d.steps then 3 else 0
end Go.Proofs.Ytkjnhabflkaopaa
