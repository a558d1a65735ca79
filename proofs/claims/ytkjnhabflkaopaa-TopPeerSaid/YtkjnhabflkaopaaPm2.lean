/- ptpmsg: the ranges. -/
import Derived.WalkKit
import Derived.LoopTactic
import Derived.Outline
import Derived.Lib.Hide
import Derived.Test.YtkjnhabflkaopaaPm1
import Derived.Test.YtkjnhabflkaopaaDs8
namespace Go.Proofs.Ytkjnhabflkaopaa
open Go.RowKit
set_option linter.unusedVariables false
set_option linter.unusedSimpArgs false

/-- What a message announces. -/
structure Ann where
  utc : Int
  p1 : Int
  cls : Int
  acc : Int
  var : Int
  p2 : Int
  gm : Int
  steps : Int
  source : Int
  deriving DecidableEq
def Ann.zero : Ann := ⟨0, 0, 0, 0, 0, 0, 0, 0, 0⟩
abbrev Ann.v (a : Ann) : Value := .agg #[.int .i64 a.utc, .int .i64 a.p1, .int .i64 a.cls, .int .i64 a.acc, .int .i64 a.var, .int .i64 a.p2, .int .u64 a.gm, .int .i64 a.steps, .int .i64 a.source]
/-- A message. -/
structure Ptp where
  kind : Int
  domain : Int
  flags : Int
  corr : Int
  clock : Int
  port : Int
  seq : Int
  logInt : Int
  sec : Int
  nano : Int
  reqClock : Int
  reqPort : Int
  ann : Ann
  deriving DecidableEq
abbrev Ptp.v (p : Ptp) : Value := .agg #[.int .i64 p.kind, .int .i64 p.domain, .int .i64 p.flags, .int .i64 p.corr, .int .u64 p.clock, .int .i64 p.port, .int .i64 p.seq, .int .i64 p.logInt, .int .i64 p.sec, .int .i64 p.nano, .int .u64 p.reqClock, .int .i64 p.reqPort, .int .i64 p.ann.utc, .int .i64 p.ann.p1, .int .i64 p.ann.cls, .int .i64 p.ann.acc, .int .i64 p.ann.var, .int .i64 p.ann.p2, .int .u64 p.ann.gm, .int .i64 p.ann.steps, .int .i64 p.ann.source]
abbrev stampV (s n : Int) : Value := .agg #[.int .i64 s, .int .i64 n]
def wi (n lo hi : Int) : Bool := decide (lo ≤ n) && decide (n ≤ hi)
theorem within_any (n lo hi : Int) (w : World) : Calls Try.prog 66 #[.int .i64 n, .int .i64 lo, .int .i64 hi] w fun e w' => e = .returned (.bool (wi n lo hi)) ∧ w = w' := by
  by_cases h : lo ≤ n
  · have d : decide (lo ≤ n) = true := by simpa using h
    have e : wi n lo hi = decide (n ≤ hi) := by simp [wi, h]
    rw [e]
    clear e h
    go_enter Try.func66, Try.ntmps66
    go_wp2
    go_ret
    exact ⟨rfl, rfl⟩
  · have d : decide (lo ≤ n) = false := by simpa using h
    have e : wi n lo hi = false := by simp [wi, h]
    rw [e]
    clear e h
    go_enter Try.func66, Try.ntmps66
    go_wp2
    go_ret
    exact ⟨rfl, rfl⟩
theorem rwithin_any (n lo hi : Int) (w : World) : Calls Try.prog 57 #[.int .i64 n, .int .i64 lo, .int .i64 hi] w fun e w' => e = .returned (.bool (wi n lo hi)) ∧ w = w' := by
  by_cases h : lo ≤ n
  · have d : decide (lo ≤ n) = true := by simpa using h
    have e : wi n lo hi = decide (n ≤ hi) := by simp [wi, h]
    rw [e]
    clear e h
    go_enter Try.func57, Try.ntmps57
    go_wp2
    go_ret
    exact ⟨rfl, rfl⟩
  · have d : decide (lo ≤ n) = false := by simpa using h
    have e : wi n lo hi = false := by simp [wi, h]
    rw [e]
    clear e h
    go_enter Try.func57, Try.ntmps57
    go_wp2
    go_ret
    exact ⟨rfl, rfl⟩
def reqB (k : Int) : Bool := (k == 9) || ((k == 3) || (k == 10))
theorem req_any (k : Int) (w : World) : Calls Try.prog 55 #[.int .i64 k] w fun e w' => e = .returned (.bool (reqB k)) ∧ w = w' := by
  cases h9 : (k == 9)
  all_goals cases h3 : (k == 3)
  all_goals (first | (have e : reqB k = true := by simp only [reqB, h9, h3, Bool.true_or, Bool.or_true]) | (have e : reqB k = (k == 10) := by simp only [reqB, h9, h3, Bool.false_or]))
  all_goals rw [e]
  all_goals clear e
  all_goals go_enter Try.func55, Try.ntmps55
  all_goals go_wp2
  all_goals go_ret
  all_goals exact ⟨rfl, rfl⟩
def stampB (s n : Int) : Bool := wi s 0 281474976710655 && wi n 0 999999999
theorem stamp_any (s n : Int) (w : World) : Calls Try.prog 64 #[stampV s n] w fun e w' => e = .returned (.int .i64 (if stampB s n = true then 0 else 3)) ∧ Below w.heap.size w w' := by
  by_cases h1 : s < 0
  · have d1 : decide (s < 0) = true := by simpa using h1
    have e : stampB s n = false := by simp [stampB, wi]; omega
    rw [e]
    have ev : (if (false : Bool) = true then (0 : Int) else 3) = 3 := by rfl
    rw [ev]
    clear e ev
    go_enter Try.func64, Try.ntmps64
    go_wp2
    go_ret
    exact ⟨rfl, (Below.refl _ _).alloc (Nat.le_refl _) _⟩
  have d1 : decide (s < 0) = false := by simpa using h1
  by_cases h2 : 281474976710655 < s
  · have d2 : decide (281474976710655 < s) = true := by simpa using h2
    have e : stampB s n = false := by simp [stampB, wi]; omega
    rw [e]
    have ev : (if (false : Bool) = true then (0 : Int) else 3) = 3 := by rfl
    rw [ev]
    clear e ev
    go_enter Try.func64, Try.ntmps64
    go_wp2
    go_ret
    exact ⟨rfl, (Below.refl _ _).alloc (Nat.le_refl _) _⟩
  have d2 : decide (281474976710655 < s) = false := by simpa using h2
  by_cases h3 : n < 0
  · have d3 : decide (n < 0) = true := by simpa using h3
    have e : stampB s n = false := by simp [stampB, wi]; omega
    rw [e]
    have ev : (if (false : Bool) = true then (0 : Int) else 3) = 3 := by rfl
    rw [ev]
    clear e ev
    go_enter Try.func64, Try.ntmps64
    go_wp2
    go_ret
    exact ⟨rfl, (Below.refl _ _).alloc (Nat.le_refl _) _⟩
  have d3 : decide (n < 0) = false := by simpa using h3
  by_cases h4 : 1000000000 ≤ n
  · have d4 : decide (1000000000 ≤ n) = true := by simpa using h4
    have e : stampB s n = false := by simp [stampB, wi]; omega
    rw [e]
    have ev : (if (false : Bool) = true then (0 : Int) else 3) = 3 := by rfl
    rw [ev]
    clear e ev
    go_enter Try.func64, Try.ntmps64
    go_wp2
    go_ret
    exact ⟨rfl, (Below.refl _ _).alloc (Nat.le_refl _) _⟩
  · have d4 : decide (1000000000 ≤ n) = false := by simpa using h4
    have e : stampB s n = true := by simp [stampB, wi]; omega
    rw [e]
    have ev : (if (true : Bool) = true then (0 : Int) else 3) = 0 := by rfl
    rw [ev]
    clear e ev
    go_enter Try.func64, Try.ntmps64
    go_wp2
    go_ret
    exact ⟨rfl, (Below.refl _ _).alloc (Nat.le_refl _) _⟩
end Go.Proofs.Ytkjnhabflkaopaa
