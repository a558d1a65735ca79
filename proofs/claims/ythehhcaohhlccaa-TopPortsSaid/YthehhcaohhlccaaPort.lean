/- The walks of package port that the laws reach. -/
import Derived.WalkKit
import Derived.LoopTactic
import Derived.Outline
import Derived.Lib.Hide
import Derived.Test.YthehhcaohhlccaaDs8
namespace Go.Proofs.Ythehhcaohhlccaa
open Go.RowKit
set_option linter.unusedVariables false
set_option linter.unusedSimpArgs false

theorem known_any (s : Int) (h1 : 1 ≤ s) (h2 : s ≤ 9) (w : World) : Calls Try.prog 50 #[.int .i64 s] w fun e w' => e = .returned (.bool true) ∧ w = w' := by
  have d1 : decide (1 ≤ s) = true := by simp; omega
  have d2 : decide (s ≤ 9) = true := by simp; omega
  go_enter Try.func50, Try.ntmps50
  go_wp2
  go_ret
  exact ⟨rfl, rfl⟩
theorem happens_any (s : Int) (h : (1 ≤ s ∧ s ≤ 10) ∨ (20 ≤ s ∧ s ≤ 26)) (w : World) : Calls Try.prog 51 #[.int .i64 s] w fun e w' => e = .returned (.bool true) ∧ w = w' := by
  rcases h with ⟨h1, h2⟩ | ⟨h1, h2⟩
  · have d1 : decide (1 ≤ s) = true := by simp; omega
    have d2 : decide (s ≤ 10) = true := by simp; omega
    go_enter Try.func51, Try.ntmps51
    go_wp2
    go_ret
    exact ⟨rfl, rfl⟩
  · have d1 : decide (1 ≤ s) = true := by simp; omega
    have d2 : decide (s ≤ 10) = false := by simp; omega
    have d3 : decide (20 ≤ s) = true := by simp; omega
    have d4 : decide (s ≤ 26) = true := by simp; omega
    go_enter Try.func51, Try.ntmps51
    go_wp2
    go_ret
    exact ⟨rfl, rfl⟩
theorem sends_any (s : Int) (w : World) : Calls Try.prog 30 #[.int .i64 s] w fun e w' => e = .returned (.bool (s == 6)) ∧ w = w' := by
  go_enter Try.func30, Try.ntmps30
  go_wp2
  go_ret
  exact ⟨rfl, rfl⟩
theorem uses_not (s : Int) (h1 : s ≠ 8) (h2 : s ≠ 9) (w : World) : Calls Try.prog 32 #[.int .i64 s] w fun e w' => e = .returned (.bool false) ∧ w = w' := by
  have d1 : (s == 8) = false := by simpa using h1
  have d2 : (s == 9) = false := by simpa using h2
  go_enter Try.func32, Try.ntmps32
  go_wp2
  go_ret
  exact ⟨rfl, rfl⟩
theorem uses_eight (w : World) : Calls Try.prog 32 #[.int .i64 8] w fun e w' => e = .returned (.bool true) ∧ w = w' := by
  go_enter Try.func32, Try.ntmps32
  go_wp2
  go_ret
  exact ⟨rfl, rfl⟩
/-- Whether a row of the table is for a state. -/
def appB (fr s : Int) : Bool := if fr = 100 then true else if fr = 101 then s != 3 else if fr = 102 then decide (4 ≤ s) else fr == s
theorem app_any (ev fr to s : Int) (w : World) : Calls Try.prog 52 #[.agg #[.int .i64 ev, .int .i64 fr, .int .i64 to], .int .i64 s] w fun e w' => e = .returned (.bool (appB fr s)) ∧ Below w.heap.size w w' := by
  by_cases h1 : fr = 100
  · subst h1
    have e1 : appB 100 s = true := rfl
    rw [e1]
    clear e1
    go_enter Try.func52, Try.ntmps52
    go_wp2
    go_ret
    exact ⟨rfl, (Below.refl _ _).alloc (Nat.le_refl _) _⟩
  by_cases h2 : fr = 101
  · subst h2
    have e1 : appB 101 s = (s != 3) := rfl
    rw [e1]
    clear e1
    go_enter Try.func52, Try.ntmps52
    go_wp2
    go_ret
    exact ⟨rfl, (Below.refl _ _).alloc (Nat.le_refl _) _⟩
  by_cases h3 : fr = 102
  · subst h3
    have e1 : appB 102 s = decide (4 ≤ s) := rfl
    rw [e1]
    clear e1
    go_enter Try.func52, Try.ntmps52
    go_wp2
    go_ret
    exact ⟨rfl, (Below.refl _ _).alloc (Nat.le_refl _) _⟩
  · have e1 : appB fr s = (fr == s) := by simp only [appB, if_neg h1, if_neg h2, if_neg h3]
    rw [e1]
    clear e1
    have b1 : (fr == 100) = false := by simpa using h1
    have b2 : (fr == 101) = false := by simpa using h2
    have b3 : (fr == 102) = false := by simpa using h3
    go_enter Try.func52, Try.ntmps52
    go_wp2
    go_ret
    exact ⟨rfl, (Below.refl _ _).alloc (Nat.le_refl _) _⟩
def moves : List Int := [1, 100, 1, 5, 100, 3, 3, 101, 2, 2, 1, 4, 4, 2, 1, 6, 3, 1, 7, 4, 6, 7, 8, 6, 7, 9, 6, 7, 7, 6, 8, 5, 6, 9, 8, 9, 10, 9, 8, 24, 102, 7, 25, 102, 7, 26, 102, 8, 21, 102, 5, 22, 102, 5, 23, 102, 5]
end Go.Proofs.Ythehhcaohhlccaa
