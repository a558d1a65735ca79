/- The walk of DatasetCompares. -/
import Derived.WalkKit
import Derived.LoopTactic
import Derived.Outline
import Derived.Lib.Hide
import Derived.Test.YthehhcaohhlccaaDs10
namespace Go.Proofs.Ythehhcaohhlccaa
open Go.RowKit
set_option linter.unusedVariables false
set_option linter.unusedSimpArgs false

theorem DatasetCompares_walk (a b : DS) (ha : I64 a.steps) (hb : I64 b.steps) (w : World) : Calls Try.prog 3 #[a.v, b.v] w fun e w' => e = .returned (.bool true) ∧ Below w.heap.size w w' := by
  have HA := Lib.hid ha
  have HB := Lib.hid hb
  clear ha hb
  go_enter Try.func3, Try.ntmps3
  go_wp2_with fail
  generalize hW : (w.alloc _).alloc _ = W
  have hw : Below w.heap.size w W := by rw [← hW]; exact ((Below.refl _ _).alloc (Nat.le_refl _) _).alloc (by simp) _
  have kA : BoxAt W w.heap.size a := by rw [← hW]; exact BoxAt.of (heap_alloc_old (heap_alloc_new w _) _)
  have kB : BoxAt W (w.heap.size + 1) b := by rw [← hW]; exact BoxAt.of (heap_at (by simp))
  have HW := Lib.hid hw
  clear hW hw
  obtain ⟨a0, a1, a2, a3, a4, a5, a6, a7, a8, a9, a10⟩ := kA.aft
  obtain ⟨b0, b1, b2, b3, b4, b5, b6, b7, b8, b9, b10⟩ := kB.aft
  clear kA kB
  refine wp_region_calm (by kernel_rfl) (by kernel_rfl) ?_
  repeat (go_big_quiet_step (first | (go_at_call 15; exact calm_of (compare_calls a b HA.out HB.out _)) | (go_at_call 16; exact calm_of (rcompare_calls a b HA.out HB.out _)) | (go_at_call 17; exact calm_of (awake34 _))))
  refine wpQuiet_nil ?_
  rintro _ ⟨u, rfl⟩
  go_wp2
  go_ret
  exact ⟨rfl, below_then HW.out u.below⟩
end Go.Proofs.Ythehhcaohhlccaa
