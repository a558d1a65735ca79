/- boundary.Check and New at a configuration that is refused (written by gen_check.py). -/
import Derived.WalkKit
import Derived.LoopTactic
import Derived.Outline
import Derived.Lib.Hide
import Derived.Test.YtfbmlpdomfchpaaJBb
namespace Go.Proofs.Ytfbmlpdomfchpaa
open Go.RowKit
set_option linter.unusedVariables false
set_option linter.unusedSimpArgs false

set_option maxRecDepth 100000 in
set_option maxHeartbeats 4000000 in
theorem check_bad (c : BConf) (bad : ¬ c.Ok) (w : World) : Calls Try.prog 9 #[c.v] w fun e w' => e = .returned (.int .i64 3) ∧ Below w.heap.size w w' := by
  cases v1 : insB c.p1 0 255
  · clear bad
    go_enter Try.func9, Try.ntmps9
    go_wp2_with (go_at_call 28; refine (inside_any _ _ _ _).mono ?_; rintro e _ ⟨rfl, rfl⟩)
    go_ret
    exact ⟨rfl, below_then ((Below.refl _ _).alloc (Nat.le_refl _) _) ((Below.refl _ _).alloc (Nat.le_refl _) _)⟩
  cases v2 : insB c.cls 0 255
  · clear bad
    go_enter Try.func9, Try.ntmps9
    go_wp2_with (go_at_call 28; refine (inside_any _ _ _ _).mono ?_; rintro e _ ⟨rfl, rfl⟩)
    go_ret
    exact ⟨rfl, below_then ((Below.refl _ _).alloc (Nat.le_refl _) _) ((Below.refl _ _).alloc (Nat.le_refl _) _)⟩
  cases v3 : insB c.acc 0 255
  · clear bad
    go_enter Try.func9, Try.ntmps9
    go_wp2_with (go_at_call 28; refine (inside_any _ _ _ _).mono ?_; rintro e _ ⟨rfl, rfl⟩)
    go_ret
    exact ⟨rfl, below_then ((Below.refl _ _).alloc (Nat.le_refl _) _) ((Below.refl _ _).alloc (Nat.le_refl _) _)⟩
  cases v4 : insB c.var 0 65535
  · clear bad
    go_enter Try.func9, Try.ntmps9
    go_wp2_with (go_at_call 28; refine (inside_any _ _ _ _).mono ?_; rintro e _ ⟨rfl, rfl⟩)
    go_ret
    exact ⟨rfl, below_then ((Below.refl _ _).alloc (Nat.le_refl _) _) ((Below.refl _ _).alloc (Nat.le_refl _) _)⟩
  cases v5 : insB c.p2 0 255
  · clear bad
    go_enter Try.func9, Try.ntmps9
    go_wp2_with (go_at_call 28; refine (inside_any _ _ _ _).mono ?_; rintro e _ ⟨rfl, rfl⟩)
    go_ret
    exact ⟨rfl, below_then ((Below.refl _ _).alloc (Nat.le_refl _) _) ((Below.refl _ _).alloc (Nat.le_refl _) _)⟩
  cases v6 : insB c.domain 0 255
  · clear bad
    go_enter Try.func9, Try.ntmps9
    go_wp2_with (go_at_call 28; refine (inside_any _ _ _ _).mono ?_; rintro e _ ⟨rfl, rfl⟩)
    go_ret
    exact ⟨rfl, below_then ((Below.refl _ _).alloc (Nat.le_refl _) _) ((Below.refl _ _).alloc (Nat.le_refl _) _)⟩
  cases v7 : insB c.ports 1 8
  · clear bad
    go_enter Try.func9, Try.ntmps9
    go_wp2_with (go_at_call 28; refine (inside_any _ _ _ _).mono ?_; rintro e _ ⟨rfl, rfl⟩)
    go_ret
    exact ⟨rfl, below_then ((Below.refl _ _).alloc (Nat.le_refl _) _) ((Below.refl _ _).alloc (Nat.le_refl _) _)⟩
  cases v8 : insB c.window 1 1125899906842624
  · clear bad
    go_enter Try.func9, Try.ntmps9
    go_wp2_with (go_at_call 28; refine (inside_any _ _ _ _).mono ?_; rintro e _ ⟨rfl, rfl⟩)
    go_ret
    exact ⟨rfl, below_then ((Below.refl _ _).alloc (Nat.le_refl _) _) ((Below.refl _ _).alloc (Nat.le_refl _) _)⟩
  cases v9 : insB c.need 1 8
  · clear bad
    go_enter Try.func9, Try.ntmps9
    go_wp2_with (go_at_call 28; refine (inside_any _ _ _ _).mono ?_; rintro e _ ⟨rfl, rfl⟩)
    go_ret
    exact ⟨rfl, below_then ((Below.refl _ _).alloc (Nat.le_refl _) _) ((Below.refl _ _).alloc (Nat.le_refl _) _)⟩
  cases v10 : insB c.timeout 1 1125899906842624
  · clear bad
    go_enter Try.func9, Try.ntmps9
    go_wp2_with (go_at_call 28; refine (inside_any _ _ _ _).mono ?_; rintro e _ ⟨rfl, rfl⟩)
    go_ret
    exact ⟨rfl, below_then ((Below.refl _ _).alloc (Nat.le_refl _) _) ((Below.refl _ _).alloc (Nat.le_refl _) _)⟩
  exact absurd ⟨v1, v2, v3, v4, v5, v6, v7, v8, v9, v10⟩ bad
theorem bnew_bad (c : BConf) (bad : ¬ c.Ok) (w : World) : Calls Try.prog 8 #[c.v] w fun e w' => e = .returned (.pointer none) ∧ Below w.heap.size w w' := by
  have HC := Lib.hid (fun w => check_bad c bad w)
  clear bad
  go_enter Try.func8, Try.ntmps8
  go_wp2_with fail
  refine (HC.out _).mono ?_
  rintro e w2 ⟨rfl, hb⟩
  have HB := Lib.hid (below_then ((Below.refl w.heap.size w).alloc (Nat.le_refl _) _) hb)
  clear hb
  go_wp2_with fail
  go_ret
  exact ⟨rfl, HB.out⟩
end Go.Proofs.Ytfbmlpdomfchpaa
