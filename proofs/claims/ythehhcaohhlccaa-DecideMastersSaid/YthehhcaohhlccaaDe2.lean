/- The walks of further (both) and Announces (both). -/
import Derived.WalkKit
import Derived.LoopTactic
import Derived.Outline
import Derived.Lib.Hide
import Derived.BigRegion
import Derived.Test.YthehhcaohhlccaaDe1
namespace Go.Proofs.Ythehhcaohhlccaa
open Go.RowKit
set_option linter.unusedVariables false
set_option linter.unusedSimpArgs false

set_option maxHeartbeats 400000 in
theorem further_any (d own e : DS) (port : Int) (hd : -9223372036854775808 ≤ d.steps) (w : World) : Calls Try.prog 49 #[d.v, own.v, e.v, .int .i64 port] w fun e' w' => e' = .returned (furtherF d own e port).v ∧ Below w.heap.size w w' := by
  by_cases h : d.steps < 4611686018427387904
  · have e1 : furtherF d own e port = ⟨d.p1, d.cls, d.acc, d.var, d.p2, d.gm, d.steps + 1, own.sender, port, e.recv, port⟩ := by simp [furtherF, h]
    rw [e1]
    clear e1
    go_enter Try.func49, Try.ntmps49
    go_wp2
    go_region
    all_goals go_wp2
    all_goals refine bodyPost_ret (v := DS.v ⟨d.p1, d.cls, d.acc, d.var, d.p2, d.gm, d.steps + 1, own.sender, port, e.recv, port⟩) (by simp [results, Try.results49, go_sem]) rfl ⟨rfl, ?_⟩
    all_goals exact (((((Below.refl _ _).alloc (Nat.le_refl _) _).alloc (by simp) _).alloc (by simp; omega) _).alloc (by simp; omega) _).drew
  · have e1 : furtherF d own e port = ⟨d.p1, d.cls, d.acc, d.var, d.p2, d.gm, d.steps, own.sender, port, e.recv, port⟩ := by simp [furtherF, h]
    rw [e1]
    clear e1
    go_enter Try.func49, Try.ntmps49
    go_wp2
    go_region
    all_goals go_wp2
    all_goals refine bodyPost_ret (v := DS.v ⟨d.p1, d.cls, d.acc, d.var, d.p2, d.gm, d.steps, own.sender, port, e.recv, port⟩) (by simp [results, Try.results49, go_sem]) rfl ⟨rfl, ?_⟩
    all_goals exact (((((Below.refl _ _).alloc (Nat.le_refl _) _).alloc (by simp) _).alloc (by simp; omega) _).alloc (by simp; omega) _).drew
theorem rfurther_any (d own e : DS) (port : Int) (hd : -9223372036854775808 ≤ d.steps) (w : World) : Calls Try.prog 59 #[d.v, own.v, e.v, .int .i64 port] w fun e' w' => e' = .returned (furtherF d own e port).v ∧ Below w.heap.size w w' := by
  by_cases h : d.steps < 4611686018427387904
  · have e1 : furtherF d own e port = ⟨d.p1, d.cls, d.acc, d.var, d.p2, d.gm, d.steps + 1, own.sender, port, e.recv, port⟩ := by simp [furtherF, h]
    rw [e1]
    clear e1
    go_enter Try.func59, Try.ntmps59
    go_wp2
    refine bodyPost_ret (v := DS.v ⟨d.p1, d.cls, d.acc, d.var, d.p2, d.gm, d.steps + 1, own.sender, port, e.recv, port⟩) (by simp [results, Try.results59, go_sem]) rfl ⟨rfl, ?_⟩
    exact ((((Below.refl _ _).alloc (Nat.le_refl _) _).alloc (by simp) _).alloc (by simp; omega) _).alloc (by simp; omega) _
  · have e1 : furtherF d own e port = ⟨d.p1, d.cls, d.acc, d.var, d.p2, d.gm, d.steps, own.sender, port, e.recv, port⟩ := by simp [furtherF, h]
    rw [e1]
    clear e1
    go_enter Try.func59, Try.ntmps59
    go_wp2
    refine bodyPost_ret (v := DS.v ⟨d.p1, d.cls, d.acc, d.var, d.p2, d.gm, d.steps, own.sender, port, e.recv, port⟩) (by simp [results, Try.results59, go_sem]) rfl ⟨rfl, ?_⟩
    exact ((((Below.refl _ _).alloc (Nat.le_refl _) _).alloc (by simp) _).alloc (by simp; omega) _).alloc (by simp; omega) _
def annB (c : Int) : Bool := decide (c = 1 ∨ c = 2 ∨ c = 3)
theorem ann_any (c : Int) (w : World) : Calls Try.prog 31 #[.int .i64 c] w fun e w' => e = .returned (.bool (annB c)) ∧ w = w' := by
  by_cases h : c = 1 ∨ c = 2 ∨ c = 3
  · have e : annB c = true := by simp [annB, h]
    rw [e]
    clear e
    rcases h with rfl | rfl | rfl
    all_goals go_enter Try.func31, Try.ntmps31
    all_goals go_wp2
    all_goals go_ret
    all_goals exact ⟨rfl, rfl⟩
  · have e : annB c = false := by simp only [annB, h, decide_false]
    rw [e]
    have h1 : (c == 1) = false := by simp; omega
    have h2 : (c == 2) = false := by simp; omega
    have h3 : (c == 3) = false := by simp; omega
    clear e h
    go_enter Try.func31, Try.ntmps31
    go_wp2
    go_ret
    exact ⟨rfl, rfl⟩
theorem rann_any (c : Int) (w : World) : Calls Try.prog 35 #[.int .i64 c] w fun e w' => e = .returned (.bool (annB c)) ∧ w = w' := by
  by_cases h : c = 1 ∨ c = 2 ∨ c = 3
  · have e : annB c = true := by simp [annB, h]
    rw [e]
    clear e
    rcases h with rfl | rfl | rfl
    all_goals go_enter Try.func35, Try.ntmps35
    all_goals go_wp2
    all_goals go_ret
    all_goals exact ⟨rfl, rfl⟩
  · have e : annB c = false := by simp only [annB, h, decide_false]
    rw [e]
    have h1 : (c == 1) = false := by simp; omega
    have h2 : (c == 2) = false := by simp; omega
    have h3 : (c == 3) = false := by simp; omega
    clear e h
    go_enter Try.func35, Try.ntmps35
    go_wp2
    go_ret
    exact ⟨rfl, rfl⟩
end Go.Proofs.Ythehhcaohhlccaa
