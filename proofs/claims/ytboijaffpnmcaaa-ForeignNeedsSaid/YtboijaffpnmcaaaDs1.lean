/- The walks of package dataset: order, verdict, compare. -/
import Derived.WalkKit
import Derived.Test.YtboijaffpnmcaaaProg
import Derived.Test.YtboijaffpnmcaaaDsPlain
namespace Go.Proofs.Ytboijaffpnmcaaa
open Go.RowKit

theorem cmpI_lt {a b : Int} (h : a < b) : cmpI a b = -1 := by simp [cmpI, h]
theorem cmpI_gt {a b : Int} (h : b < a) : cmpI a b = 1 := by simp [cmpI, h, show ¬ a < b from by omega]
theorem cmpI_eq {a b : Int} (h1 : ¬ a < b) (h2 : ¬ b < a) : cmpI a b = 0 := by simp [cmpI, h1, h2]
theorem ret_int {k : IntKind} {a b : Int} (h : a = b) : Ending.returned (.int k a) = .returned (.int k b) := by rw [h]
theorem ret_bool {a b : Bool} (h : a = b) : Ending.returned (.bool a) = .returned (.bool b) := by rw [h]

theorem order_int (a b : Int) (w : World) : Calls Try.prog 29 #[.int .i64 a, .int .i64 b] w fun e w' => e = .returned (.int .i64 (cmpI a b)) ∧ w = w' := by
  by_cases h1 : a < b
  · go_enter Try.func29, Try.ntmps29
    go_wp2
    go_ret
    exact ⟨ret_int (cmpI_lt h1).symm, rfl⟩
  · by_cases h2 : b < a
    · go_enter Try.func29, Try.ntmps29
      go_wp2
      go_ret
      exact ⟨ret_int (cmpI_gt h2).symm, rfl⟩
    · go_enter Try.func29, Try.ntmps29
      go_wp2
      go_ret
      exact ⟨ret_int (cmpI_eq (by omega) (by omega)).symm, rfl⟩
theorem order_u64 (a b : Int) (w : World) : Calls Try.prog 30 #[.int .u64 a, .int .u64 b] w fun e w' => e = .returned (.int .i64 (cmpI a b)) ∧ w = w' := by
  by_cases h1 : a < b
  · go_enter Try.func30, Try.ntmps30
    go_wp2
    go_ret
    exact ⟨ret_int (cmpI_lt h1).symm, rfl⟩
  · by_cases h2 : b < a
    · go_enter Try.func30, Try.ntmps30
      go_wp2
      go_ret
      exact ⟨ret_int (cmpI_gt h2).symm, rfl⟩
    · go_enter Try.func30, Try.ntmps30
      go_wp2
      go_ret
      exact ⟨ret_int (cmpI_eq (by omega) (by omega)).symm, rfl⟩
/-- A data set as a value. -/
abbrev DS.v (d : DS) : Value := .agg #[.int .i64 d.p1, .int .i64 d.cls, .int .i64 d.acc, .int .i64 d.var, .int .i64 d.p2, .int .u64 d.gm, .int .i64 d.steps, .int .u64 d.sender, .int .i64 d.sport, .int .u64 d.recv, .int .i64 d.rport]

theorem compare_any (a b : DS) (k : Nat) (hk : k < 11) (w : World) : Calls Try.prog 23 #[a.v, b.v, .int .i64 k] w fun e w' => e = .returned (.int .i64 (cmpI (fld a k) (fld b k))) ∧ Below w.heap.size w w' := by
  obtain rfl | rfl | rfl | rfl | rfl | rfl | rfl | rfl | rfl | rfl | rfl : k = 0 ∨ k = 1 ∨ k = 2 ∨ k = 3 ∨ k = 4 ∨ k = 5 ∨ k = 6 ∨ k = 7 ∨ k = 8 ∨ k = 9 ∨ k = 10 := by omega
  all_goals
    go_enter Try.func23, Try.ntmps23
    go_wp2_with (first | (go_at_call 29; refine (order_int _ _ _).mono ?_; rintro e w' ⟨rfl, rfl⟩) | (go_at_call 30; refine (order_u64 _ _ _).mono ?_; rintro e w' ⟨rfl, rfl⟩))
    go_ret
    exact ⟨rfl, ((Below.refl _ _).alloc (Nat.le_refl _) _).alloc (by simp) _⟩

end Go.Proofs.Ytboijaffpnmcaaa
