/- The walks of the reference of layer 34: order. -/
import Derived.WalkKit
import Derived.LoopTactic
import Derived.Outline
import Derived.Lib.Hide
import Derived.Deep.QuietTactic
import Derived.BigQuiet
import Derived.Test.YtkjnhabflkaopaaDs4
import Derived.Test.YtkjnhabflkaopaaCalm
namespace Go.Proofs.Ytkjnhabflkaopaa
open Go.RowKit

theorem heap_at {w : World} {g : Nat} {o : Obj} (h : g = w.heap.size) : (w.alloc o).heap[g]? = some o := by rw [h]; exact heap_alloc_new w o

def DS.five (d : DS) : List Int := [d.p1, d.cls, d.acc, d.var, d.p2]
theorem key6_five (d : DS) : d.key6 = d.five.drop 0 ++ [d.gm] := rfl
theorem five_len (d : DS) : d.five.length = 5 := rfl
theorem lex_drop (a b : DS) (k : Nat) (hk : k < 5) : lexL (a.five.drop k ++ [a.gm]) (b.five.drop k ++ [b.gm]) = if cmpI (a.five.getD k 0) (b.five.getD k 0) = 0 then lexL (a.five.drop (k + 1) ++ [a.gm]) (b.five.drop (k + 1) ++ [b.gm]) else cmpI (a.five.getD k 0) (b.five.getD k 0) := by
  obtain rfl | rfl | rfl | rfl | rfl : k = 0 ∨ k = 1 ∨ k = 2 ∨ k = 3 ∨ k = 4 := by omega
  all_goals rfl

theorem five_nat (d : DS) (k : Nat) : d.five.getD k 0 = d.five.getD (k : Int).toNat 0 := by simp

end Go.Proofs.Ytkjnhabflkaopaa
