/- Messages that are refused. -/
import Derived.WalkKit
import Derived.LoopTactic
import Derived.Outline
import Derived.Lib.Hide
import Derived.Test.YtboijaffpnmcaaaF6
namespace Go.Proofs.Ytboijaffpnmcaaa
open Go.RowKit
set_option linter.unusedVariables false
set_option linter.unusedSimpArgs false

def hearE (f : Fr) (d : DS) (at_ : Int) : Int := if at_ < 0 ∨ 1125899906842624 < at_ then 3 else if at_ < f.last then 12 else if d.sender = d.recv then 18 else if 32 ≤ d.steps then 3 else 0
theorem hear_nil (d : DS) (at_ : Int) (w : World) : Calls Try.prog 11 #[.pointer none, d.v, .int .i64 at_] w fun e w' => e = .returned (.int .i64 1) ∧ Below w.heap.size w w' := by
  go_enter Try.func11, Try.ntmps11
  go_wp2_with fail
  go_ret
  exact ⟨rfl, (Below.refl _ _).alloc (Nat.le_refl _) _⟩
set_option maxHeartbeats 2000000 in
theorem hear_bad {f : Fr} {base b : Nat} {lv : Value} {hs : List Value} {w : World} (hF : FrAt w base b f lv hs) (d : DS) (at_ : Int) (he : hearE f d at_ ≠ 0) :
    Calls Try.prog 11 #[.pointer (some ⟨b, 0, none⟩), d.v, .int .i64 at_] w fun e w' => e = .returned (.int .i64 (hearE f d at_)) ∧ Below w.heap.size w w' := by
  have c2 : w.cell? ⟨b, 2, none⟩ = some (.int .i64 f.last) := hF.cell 2
  have hbl := hF.lt
  obtain ⟨r, hr⟩ : ∃ r, hearE f d at_ = r := ⟨_, rfl⟩
  rw [hr] at he ⊢
  have HR := Lib.hid hr
  have HE := Lib.hid he
  clear hF hr he
  by_cases g0 : at_ < 0
  · have e : r = 3 := by rw [← HR.out]; simp [hearE, g0]
    subst e
    have d0 : decide (at_ < 0) = true := by simpa using g0
    go_enter Try.func11, Try.ntmps11
    go_wp2_with fail
    go_ret
    exact ⟨rfl, (Below.refl _ _).alloc (Nat.le_refl _) _⟩
  have d0 : decide (at_ < 0) = false := by simpa using g0
  by_cases g1 : 1125899906842624 < at_
  · have e : r = 3 := by rw [← HR.out]; simp [hearE, g1]
    subst e
    have d1 : decide (1125899906842624 < at_) = true := by simpa using g1
    go_enter Try.func11, Try.ntmps11
    go_wp2_with fail
    go_ret
    exact ⟨rfl, (Below.refl _ _).alloc (Nat.le_refl _) _⟩
  have d1 : decide (1125899906842624 < at_) = false := by simpa using g1
  by_cases g2 : at_ < f.last
  · have e : r = 12 := by rw [← HR.out]; simp [hearE, g0, g1, g2]
    subst e
    have d2 : decide (at_ < f.last) = true := by simpa using g2
    go_enter Try.func11, Try.ntmps11
    go_wp2_with fail
    go_ret
    exact ⟨rfl, (Below.refl _ _).alloc (Nat.le_refl _) _⟩
  have d2 : decide (at_ < f.last) = false := by simpa using g2
  by_cases g3 : d.sender = d.recv
  · have e : r = 18 := by rw [← HR.out]; simp [hearE, g0, g1, g2, g3]
    subst e
    have d3 : (d.sender == d.recv) = true := by simpa using g3
    go_enter Try.func11, Try.ntmps11
    go_wp2_with fail
    go_ret
    exact ⟨rfl, (Below.refl _ _).alloc (Nat.le_refl _) _⟩
  have d3 : (d.sender == d.recv) = false := by simpa using g3
  by_cases g4 : 32 ≤ d.steps
  · have e : r = 3 := by rw [← HR.out]; simp [hearE, g0, g1, g2, g3, g4]
    subst e
    have d4 : decide (32 ≤ d.steps) = true := by simpa using g4
    go_enter Try.func11, Try.ntmps11
    go_wp2_with fail
    go_ret
    exact ⟨rfl, (Below.refl _ _).alloc (Nat.le_refl _) _⟩
  exact absurd (by rw [← HR.out]; simp [hearE, g0, g1, g2, g3, g4]) HE.out
end Go.Proofs.Ytboijaffpnmcaaa
