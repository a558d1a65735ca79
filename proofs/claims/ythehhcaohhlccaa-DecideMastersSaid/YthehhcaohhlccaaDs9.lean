/- The walks of Own and Step, of package dataset and of the reference of layer 34. -/
import Derived.WalkKit
import Derived.Outline
import Derived.Lib.Hide
import Derived.Test.YthehhcaohhlccaaDs1
namespace Go.Proofs.Ythehhcaohhlccaa
open Go.RowKit
set_option linter.unusedVariables false
set_option linter.unusedSimpArgs false

structure Qual where
  p1 : Int
  cls : Int
  acc : Int
  var : Int
  p2 : Int
abbrev Qual.v (q : Qual) : Value := .agg #[.int .i64 q.p1, .int .i64 q.cls, .int .i64 q.acc, .int .i64 q.var, .int .i64 q.p2]
def ownF (q : Qual) (id : Int) : DS := ⟨q.p1, q.cls, q.acc, q.var, q.p2, id, 0, id, 0, id, 0⟩
theorem own_any (q : Qual) (id : Int) (w : World) : Calls Try.prog 25 #[q.v, .int .u64 id] w fun e w' => e = .returned (ownF q id).v ∧ Below w.heap.size w w' := by
  go_enter Try.func25, Try.ntmps25
  go_wp2
  refine bodyPost_ret (v := (ownF q id).v) (by simp [results, Try.results25, go_sem, ownF]) rfl ⟨rfl, ?_⟩
  exact ((Below.refl _ _).alloc (Nat.le_refl _) _).alloc (by simp) _
theorem rown_any (q : Qual) (id : Int) (w : World) : Calls Try.prog 26 #[q.v, .int .u64 id] w fun e w' => e = .returned (ownF q id).v ∧ Below w.heap.size w w' := by
  go_enter Try.func26, Try.ntmps26
  go_wp2
  refine bodyPost_ret (v := (ownF q id).v) (by simp [results, Try.results26, go_sem, ownF]) rfl ⟨rfl, ?_⟩
  exact ((Below.refl _ _).alloc (Nat.le_refl _) _).alloc (by simp) _

structure Hop where
  sender : Int
  recv : Int
  sport : Int
  rport : Int
abbrev Hop.v (h : Hop) : Value := .agg #[.int .u64 h.sender, .int .u64 h.recv, .int .i64 h.sport, .int .i64 h.rport]
def stepF (d : DS) (s : Int) (sp : Int) (r : Int) (rp : Int) : DS := if 32 ≤ d.steps then .zero else { d with steps := d.steps + 1, sender := s, sport := sp, recv := r, rport := rp }
def stepE (d : DS) : Int := if 32 ≤ d.steps then 3 else 0
theorem step_any (d : DS) (s sp r rp : Int) (hd : -9223372036854775808 ≤ d.steps) (w : World) : Calls Try.prog 23 #[d.v, .int .u64 s, .int .i64 sp, .int .u64 r, .int .i64 rp] w fun e w' => e = .returned (.tuple #[(stepF d s sp r rp).v, .int .i64 (stepE d)]) ∧ Below w.heap.size w w' := by
  by_cases h : 32 ≤ d.steps
  · have e1 : stepF d s sp r rp = .zero := by simp [stepF, h]
    have e2 : stepE d = 3 := by simp [stepE, h]
    rw [e1, e2]
    clear e1 e2
    go_enter Try.func23, Try.ntmps23
    go_wp2
    refine bodyPost_ret (v := .tuple #[DS.zero.v, .int .i64 3]) (by simp [results, Try.results23, go_sem, DS.zero]) rfl ⟨rfl, ?_⟩
    exact ((Below.refl _ _).alloc (Nat.le_refl _) _).alloc (by simp) _
  · have e1 : stepF d s sp r rp = { d with steps := d.steps + 1, sender := s, sport := sp, recv := r, rport := rp } := by simp [stepF, h]
    have e2 : stepE d = 0 := by simp [stepE, h]
    rw [e1, e2]
    clear e1 e2
    go_enter Try.func23, Try.ntmps23
    go_wp2
    refine bodyPost_ret (v := .tuple #[DS.v { d with steps := d.steps + 1, sender := s, sport := sp, recv := r, rport := rp }, .int .i64 0]) (by simp [results, Try.results23, go_sem]) rfl ⟨rfl, ?_⟩
    exact ((Below.refl _ _).alloc (Nat.le_refl _) _).alloc (by simp) _
theorem rstep_any (d : DS) (s sp r rp : Int) (hd : -9223372036854775808 ≤ d.steps) (w : World) : Calls Try.prog 24 #[d.v, .int .u64 s, .int .i64 sp, .int .u64 r, .int .i64 rp] w fun e w' => e = .returned (.tuple #[(stepF d s sp r rp).v, .int .i64 (stepE d)]) ∧ Below w.heap.size w w' := by
  by_cases h : 32 ≤ d.steps
  · have e1 : stepF d s sp r rp = .zero := by simp [stepF, h]
    have e2 : stepE d = 3 := by simp [stepE, h]
    rw [e1, e2]
    clear e1 e2
    go_enter Try.func24, Try.ntmps24
    go_wp2
    refine bodyPost_ret (v := .tuple #[DS.zero.v, .int .i64 3]) (by simp [results, Try.results24, go_sem, DS.zero]) rfl ⟨rfl, ?_⟩
    exact ((Below.refl _ _).alloc (Nat.le_refl _) _).alloc (by simp) _
  · have e1 : stepF d s sp r rp = { d with steps := d.steps + 1, sender := s, sport := sp, recv := r, rport := rp } := by simp [stepF, h]
    have e2 : stepE d = 0 := by simp [stepE, h]
    rw [e1, e2]
    clear e1 e2
    go_enter Try.func24, Try.ntmps24
    go_wp2
    refine bodyPost_ret (v := .tuple #[DS.v { d with steps := d.steps + 1, sender := s, sport := sp, recv := r, rport := rp }, .int .i64 0]) (by simp [results, Try.results24, go_sem]) rfl ⟨rfl, ?_⟩
    exact ((Below.refl _ _).alloc (Nat.le_refl _) _).alloc (by simp) _
end Go.Proofs.Ythehhcaohhlccaa
