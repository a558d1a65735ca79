/- The walk of DatasetMirror. -/
import Derived.WalkKit
import Derived.LoopTactic
import Derived.Outline
import Derived.Lib.Hide
import Derived.Test.YthehhcaohhlccaaDs10
import Derived.Test.YthehhcaohhlccaaDsPlain2
namespace Go.Proofs.Ythehhcaohhlccaa
open Go.RowKit
set_option linter.unusedVariables false
set_option linter.unusedSimpArgs false

def mirL : List Int := [0, 3, 4, 1, 2, 5]
theorem mir_at (n : Nat) (h : n ≤ 5) : mirL.getD n 0 = mirF n := by
  obtain rfl | rfl | rfl | rfl | rfl | rfl : n = 0 ∨ n = 1 ∨ n = 2 ∨ n = 3 ∨ n = 4 ∨ n = 5 := by omega
  all_goals rfl
set_option maxHeartbeats 400000 in
theorem DatasetMirror_walk (a b : DS) (ha : I64 a.steps) (hb : I64 b.steps) (w : World) : Calls Try.prog 5 #[a.v, b.v] w fun e w' => e = .returned (.bool true) ∧ Below w.heap.size w w' := by
  have hn : ∃ n : Nat, compareF a b = n ∧ n ≤ 5 := by
    have := cmp_range a b
    exact ⟨(compareF a b).toNat, by omega, by omega⟩
  obtain ⟨n, hn, hn5⟩ := hn
  have c1 : ∀ w, Calls Try.prog 15 #[a.v, b.v] w fun e w' => e = .returned (.int .i64 n) ∧ Below w.heap.size w w' := fun w => by
    have := compare_calls a b ha hb w; rwa [hn] at this
  have c2 : ∀ w, Calls Try.prog 15 #[b.v, a.v] w fun e w' => e = .returned (.int .i64 (mirF n)) ∧ Below w.heap.size w w' := fun w => by
    have := compare_calls b a hb ha w; rwa [compare_mirror a b, hn] at this
  have hs : (decide ((n : Int) = 0)) = decide (a = b) := by
    rw [Bool.eq_iff_iff]; simp only [decide_eq_true_eq]; rw [← hn]; exact compare_same_iff a b
  have C1 := Lib.hid c1
  have C2 := Lib.hid c2
  have C3 := Lib.hid (fun w => compare_same a w)
  have HS := Lib.hid hs
  have hN0 : (0 : Int) ≤ (n : Int) := by omega
  have hN5 : (n : Int) < 6 := by omega
  have e5 : decide ((5 : Int) < (n : Int)) = false := by simp; omega
  have e0 : decide ((n : Int) < 0) = false := by simp
  clear ha hb hn c1 c2 hs
  go_enter Try.func5, Try.ntmps5
  go_wp2_with fail
  generalize hW : ((w.alloc _).alloc _).alloc _ = W
  have hw : Below w.heap.size w W := by rw [← hW]; exact (((Below.refl _ _).alloc (Nat.le_refl _) _).alloc (by simp) _).alloc (by simp; omega) _
  have kA : BoxAt W w.heap.size a := by rw [← hW]; exact BoxAt.of (heap_alloc_old (heap_alloc_old (heap_alloc_new w _) _) _)
  have kB : BoxAt W (w.heap.size + 1) b := by rw [← hW]; exact BoxAt.of (heap_alloc_old (heap_at (by simp)) _)
  have kM : RowAt W (w.heap.size + 1 + 1) mirL := by rw [← hW]; exact RowAt.of (heap_at (by simp)) rfl
  have HW := Lib.hid hw
  clear hW hw
  obtain ⟨a0, a1, a2, a3, a4, a5, a6, a7, a8, a9, a10⟩ := kA.aft
  obtain ⟨b0, b1, b2, b3, b4, b5, b6, b7, b8, b9, b10⟩ := kB.aft
  have m0 : ∀ u : Aft W, u.now.cell? ⟨w.heap.size + 1 + 1, n, none⟩ = some (.int .i64 (mirF n)) := fun u => by rw [← mir_at n hn5]; exact u.cell (kM n (by simp [mirL]; omega))
  clear kA kB kM
  refine (calm_next (w := W) (Below.refl _ _) (C1.out _)).mono ?_
  rintro e _ ⟨rfl, u, rfl⟩
  go_wp2_with fail
  refine wp_region_calm_at (by kernel_rfl) (by kernel_rfl) ?_
  by_cases hz : n = 0
  · have hd : decide (a = b) = true := by rw [← HS.out]; simp [hz]
    subst hz
    have he := eql_ds a b
    repeat (go_big_quiet_step (first | (go_at_call 15; with_reducible exact calm_of (C2.out _)) | (go_at_call 15; with_reducible exact calm_of (C3.out _)) | (go_at_call 17; exact calm_of (awake34 _))))
    refine wpQuiet_nil ?_
    rintro _ ⟨u, rfl⟩
    go_wp2
    go_ret
    exact ⟨rfl, below_then HW.out u.below⟩
  · have hd : decide (a = b) = false := by rw [← HS.out]; simp [hz]
    have hz' : ((n : Int) == 0) = false := by simp [hz]
    have he := eql_ds a b
    repeat (go_big_quiet_step (first | (go_at_call 15; with_reducible exact calm_of (C2.out _)) | (go_at_call 15; with_reducible exact calm_of (C3.out _)) | (go_at_call 17; exact calm_of (awake34 _))))
    refine wpQuiet_nil ?_
    rintro _ ⟨u, rfl⟩
    go_wp2
    go_ret
    exact ⟨rfl, below_then HW.out u.below⟩
end Go.Proofs.Ythehhcaohhlccaa
