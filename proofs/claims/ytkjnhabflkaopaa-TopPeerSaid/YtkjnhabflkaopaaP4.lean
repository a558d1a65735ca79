/- A way, as an argument; whether it is within the limits (written by gen_toppeer.py). -/
import Derived.WalkKit
import Derived.LoopTactic
import Derived.Outline
import Derived.Lib.Hide
import Derived.Test.YtkjnhabflkaopaaP3
import Derived.Test.YtkjnhabflkaopaaE10
namespace Go.Proofs.Ytkjnhabflkaopaa
open Go.RowKit
set_option linter.unusedVariables false
set_option linter.unusedSimpArgs false

structure WayA where
  at_ : Int
  off : Int
  there_ : Int
  back : Int
  A : Option Addr
  len : Nat
  cap : Nat
abbrev WayA.v (a : WayA) : Value := .agg #[.int .i64 a.at_, .int .i64 a.off, .int .i64 a.there_, .int .i64 a.back, .slice a.A a.len a.cap]
structure WayA.Ok (w : World) (a : WayA) : Prop where
  le : a.len ≤ a.cap
  most : a.cap ≤ 9223372036854775807
  row : 0 < a.len → ∃ g o, a.A = some ⟨g, o, none⟩ ∧ g < w.heap.size ∧ ∀ i, i < a.len → ∃ v : Int, w.cell? ⟨g, o + i, none⟩ = some (.int .i64 v)
def WayA.In (a : WayA) : Prop := (0 ≤ a.at_ ∧ a.at_ ≤ 35184372088832) ∧ (-35184372088832 ≤ a.off ∧ a.off ≤ 35184372088832) ∧ (0 ≤ a.there_ ∧ a.there_ ≤ 1099511627776) ∧ (0 ≤ a.back ∧ a.back ≤ 1099511627776)
def InPost (a : WayA) (w : World) (e : Ending) (w' : World) : Prop := ∃ q : Bool, e = .returned (.bool q) ∧ Below w.heap.size w w' ∧ (q = true → a.In)
set_option maxHeartbeats 4000000 in
theorem within_way (a : WayA) (w : World) (ok : a.Ok w) : Calls Try.prog 11 #[a.v] w fun e w' => InPost a w e w' := by
  have hle := ok.le
  have hmost := ok.most
  have OK := Lib.hid ok
  clear ok
  by_cases g0 : a.at_ < 0
  · have d0 : decide (a.at_ < 0) = true := by simpa using g0
    go_enter Try.func11, Try.ntmps11
    go_wp2_with fail
    go_ret
    exact ⟨false, rfl, (Below.refl _ _).alloc (Nat.le_refl _) _, fun h => by cases h⟩
  have d0 : decide (a.at_ < 0) = false := by simpa using g0
  by_cases g1 : 35184372088832 < a.at_
  · have d1 : decide (35184372088832 < a.at_) = true := by simpa using g1
    go_enter Try.func11, Try.ntmps11
    go_wp2_with fail
    go_ret
    exact ⟨false, rfl, (Below.refl _ _).alloc (Nat.le_refl _) _, fun h => by cases h⟩
  have d1 : decide (35184372088832 < a.at_) = false := by simpa using g1
  by_cases g2 : a.off < -35184372088832
  · have d2 : decide (a.off < -35184372088832) = true := by simpa using g2
    go_enter Try.func11, Try.ntmps11
    go_wp2_with fail
    go_ret
    exact ⟨false, rfl, (Below.refl _ _).alloc (Nat.le_refl _) _, fun h => by cases h⟩
  have d2 : decide (a.off < -35184372088832) = false := by simpa using g2
  by_cases g3 : 35184372088832 < a.off
  · have d3 : decide (35184372088832 < a.off) = true := by simpa using g3
    go_enter Try.func11, Try.ntmps11
    go_wp2_with fail
    go_ret
    exact ⟨false, rfl, (Below.refl _ _).alloc (Nat.le_refl _) _, fun h => by cases h⟩
  have d3 : decide (35184372088832 < a.off) = false := by simpa using g3
  by_cases g4 : a.there_ < 0
  · have d4 : decide (a.there_ < 0) = true := by simpa using g4
    go_enter Try.func11, Try.ntmps11
    go_wp2_with fail
    go_ret
    exact ⟨false, rfl, (Below.refl _ _).alloc (Nat.le_refl _) _, fun h => by cases h⟩
  have d4 : decide (a.there_ < 0) = false := by simpa using g4
  by_cases g5 : 1099511627776 < a.there_
  · have d5 : decide (1099511627776 < a.there_) = true := by simpa using g5
    go_enter Try.func11, Try.ntmps11
    go_wp2_with fail
    go_ret
    exact ⟨false, rfl, (Below.refl _ _).alloc (Nat.le_refl _) _, fun h => by cases h⟩
  have d5 : decide (1099511627776 < a.there_) = false := by simpa using g5
  by_cases g6 : a.back < 0
  · have d6 : decide (a.back < 0) = true := by simpa using g6
    go_enter Try.func11, Try.ntmps11
    go_wp2_with fail
    go_ret
    exact ⟨false, rfl, (Below.refl _ _).alloc (Nat.le_refl _) _, fun h => by cases h⟩
  have d6 : decide (a.back < 0) = false := by simpa using g6
  by_cases g7 : 1099511627776 < a.back
  · have d7 : decide (1099511627776 < a.back) = true := by simpa using g7
    go_enter Try.func11, Try.ntmps11
    go_wp2_with fail
    go_ret
    exact ⟨false, rfl, (Below.refl _ _).alloc (Nat.le_refl _) _, fun h => by cases h⟩
  have d7 : decide (1099511627776 < a.back) = false := by simpa using g7
  by_cases g8 : (20 : Int) < (a.len : Int)
  · have d8 : decide ((20 : Int) < (a.len : Int)) = true := by simpa using g8
    go_enter Try.func11, Try.ntmps11
    go_wp2_with fail
    go_ret
    exact ⟨false, rfl, (Below.refl _ _).alloc (Nat.le_refl _) _, fun h => by cases h⟩
  have d8 : decide ((20 : Int) < (a.len : Int)) = false := by simpa using g8
  have hin : a.In := by unfold WayA.In; omega
  have HIN := Lib.hid hin
  have hn : (a.len : Int) ≤ 20 := by omega
  clear hin g0 g1 g2 g3 g4 g5 g6 g7 g8
  go_enter Try.func11, Try.ntmps11
  go_wp2_with fail
  generalize hW : w.alloc _ = W
  have hb : Below w.heap.size w W := by rw [← hW]; exact (Below.refl _ _).alloc (Nat.le_refl _) _
  have HB := Lib.hid hb
  clear hW hb
  go_loop [52] (fun i => ∃ k : Nat, k ≤ a.len ∧ i = .int .i64 k) (fun i => a.len - (intOf i).toNat)
  case atStart => exact ⟨0, by omega, rfl⟩
  case round =>
    obtain ⟨k, hk, rfl⟩ := hrel
    by_cases hlt : k < a.len
    · have hk0 : (0 : Int) ≤ (k : Int) := by omega
      have hk1 : (k : Int) < (a.len : Int) := by omega
      obtain ⟨g, o, hA, hg, hrow⟩ := OK.out.row (by omega)
      obtain ⟨v, hv⟩ := hrow k hlt
      have hc : W.cell? ⟨g, o + k, none⟩ = some (.int .i64 v) := (HB.out.cell hg).trans hv
      clear hrow hv
      by_cases h1 : v < 0
      · have e1 : decide (v < 0) = true := by simpa using h1
        go_wp2_with fail
        go_ret
        exact ⟨false, rfl, HB.out, fun h => by cases h⟩
      have e1 : decide (v < 0) = false := by simpa using h1
      by_cases h2 : 34359738368 < v
      · have e2 : decide (34359738368 < v) = true := by simpa using h2
        go_wp2_with fail
        go_ret
        exact ⟨false, rfl, HB.out, fun h => by cases h⟩
      have e2 : decide (34359738368 < v) = false := by simpa using h2
      go_wp2_with fail
      go_round
      case rel => exact ⟨k + 1, by omega, by go_num⟩
      case measure => simp [intOf]; omega
    · have hke : k = a.len := by omega
      have hge : ¬ ((k : Int) < (a.len : Int)) := by omega
      go_wp2_with fail
      go_ret
      exact ⟨true, rfl, HB.out, fun _ => HIN.out⟩
/-- A message between peers. -/
def peerM (kind t : Int) : Ptp := ⟨kind, 0, 0, 0, 3, 1, 4, 0, secF t, nanF t, 2, 1, .zero⟩
theorem peer_check (kind t : Int) (hk : kind = 3 ∨ kind = 10) (h0 : -1125899906842624 ≤ t) (h1 : t ≤ 1125899906842624) : checkF (peerM kind t) = 0 := by
  have hs : stampB (secF t) (nanF t) = true := stamp_msg t h0 h1
  have h1 : sizeF kind ≠ 0 := by rcases hk with rfl | rfl <;> decide
  have h2 : inB (peerM kind t) = true := by simp [inB, peerM, hs, wi, Ann.zero]
  have h3 : formB (peerM kind t) = false := by rcases hk with rfl | rfl <;> simp [formB, peerM, reqB]
  have e : (peerM kind t).kind = kind := rfl
  simp [checkF, e, h1, h2, h3]
theorem peer_at (t : Int) (h0 : -1125899906842624 ≤ t) (h1 : t ≤ 1125899906842624) : atF (secF t) (nanF t) = t ∧ atB (secF t) (nanF t) = true := at_msg t h0 h1
end Go.Proofs.Ytkjnhabflkaopaa
