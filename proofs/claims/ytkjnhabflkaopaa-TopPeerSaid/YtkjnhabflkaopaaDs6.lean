/- The walks of the reference of layer 34: Less, longer, Compare. -/
import Derived.WalkKit
import Derived.LoopTactic
import Derived.Outline
import Derived.Lib.Hide
import Derived.Deep.QuietTactic
import Derived.BigQuiet
import Derived.Test.YtkjnhabflkaopaaDs5
namespace Go.Proofs.Ytkjnhabflkaopaa
open Go.RowKit

theorem key_lex (a b : DS) : lexL a.key b.key = if lexL a.key6 b.key6 = 0 then (if cmpI a.steps b.steps = 0 then (if cmpI a.sender b.sender = 0 then (if cmpI a.sport b.sport = 0 then (if cmpI a.recv b.recv = 0 then cmpI a.rport b.rport else cmpI a.recv b.recv) else cmpI a.sport b.sport) else cmpI a.sender b.sender) else cmpI a.steps b.steps) else lexL a.key6 b.key6 := by
  unfold DS.key
  rw [lexL_append _ _ (by rfl : a.key6.length = b.key6.length)]
  simp only [DS.key5, lexL]
  by_cases h : cmpI a.rport b.rport = 0 <;> simp [h]
theorem key3_lex (a b : DS) : lexL a.key3 b.key3 = if cmpI a.sender b.sender = 0 then (if cmpI a.rport b.rport = 0 then cmpI a.sport b.sport else cmpI a.rport b.rport) else cmpI a.sender b.sender := by
  simp only [DS.key3, lexL]
  by_cases h : cmpI a.sport b.sport = 0 <;> simp [h]

theorem verdict_lt {a b x y z : Int} (h : a < b) : verdict (cmpI a b) x y z = x := by rw [cmpI_lt h]; rfl
theorem verdict_gt {a b x y z : Int} (h : b < a) : verdict (cmpI a b) x y z = y := by rw [cmpI_gt h]; rfl
theorem verdict_eq {a b x y z : Int} (h1 : ¬ a < b) (h2 : ¬ b < a) : verdict (cmpI a b) x y z = z := by rw [cmpI_eq h1 h2]; rfl

def LongR (d : DS) (n x y : Int) : Int := if 1 < n then x else verdict (cmpI d.recv d.sender) x y 5
theorem key6_ne {a b : DS} (hg : ¬ a.gm = b.gm) : lexL a.key6 b.key6 ≠ 0 := fun h => hg (by
  have := (lexL_zero (by rfl : a.key6.length = b.key6.length)).1 h
  simp [DS.key6] at this
  exact this.2.2.2.2.2)
end Go.Proofs.Ytkjnhabflkaopaa
