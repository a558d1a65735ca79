/- awake19. -/
import Derived.WalkKit
import Derived.LoopTactic
import Derived.Outline
import Derived.Lib.Hide
import Derived.Deep.DeepCutAuto
import Derived.Deep.CutBlock
import Derived.Test.YthehhcaohhlccaaDe7
namespace Go.Proofs.Ythehhcaohhlccaa
open Go.RowKit
set_option linter.unusedVariables false
set_option linter.unusedSimpArgs false

def s19 : DS := ⟨1, 248, 0, 0, 0, 3, 0, 3, 1, 9, 2⟩
def two19 : List PB := [.zero, ⟨true, s19⟩]
theorem dec_two19 (w : World) (g : Nat) (hr : PBRow w g 0 two19) : Calls Try.prog 27 #[q36.v, .slice (some ⟨g, 0, none⟩) 2 2] w fun e w' => ∃ g, e = .returned (.tuple #[.slice (some ⟨g, 0, none⟩) 2 2, .int .i64 0]) ∧ Below w.heap.size w w' ∧ RowAt w' g [3, 6] :=
  decide_any q36 (arg_of (l := two19) (n := 2) (cap := 2) rfl (by decide) (by decide) hr (by decide)) (by decide)
set_option maxRecDepth 100000 in
set_option maxHeartbeats 2000000 in
theorem awake19 (w : World) : Calls Try.prog 33 #[] w fun e w' => e = .returned (.bool true) ∧ Below w.heap.size w w' := by
  go_enter Try.func33, Try.ntmps33
  go_wp2_with fail
  generalize hW : (w.alloc _).alloc _ = W
  have hrow : PBRow W (w.heap.size + 1) 0 two19 := by rw [← hW]; exact PBRow.of (heap_at (by simp)) two19 rfl
  have hb0 : Below w.heap.size w W := by rw [← hW]; exact ((Below.refl w.heap.size w).alloc (Nat.le_refl _) _).alloc (by simp) _
  clear hW
  refine (dec_two19 W _ hrow).mono ?_
  rintro e w4 ⟨g4, rfl, hb4, hr4⟩
  have HB := Lib.hid (below_then hb0 hb4)
  have r0 := hr4 0 (by decide)
  have r1 := hr4 1 (by decide)
  have e0 : ([3, 6] : List Int).getD 0 0 = 3 := rfl
  have e1 : ([3, 6] : List Int).getD 1 0 = 6 := rfl
  rw [e0] at r0
  rw [e1] at r1
  clear hb4 hr4 e0 e1 hrow hb0
  go_wp2_with fail
  go_ret
  exact ⟨rfl, HB.out⟩

end Go.Proofs.Ythehhcaohhlccaa
