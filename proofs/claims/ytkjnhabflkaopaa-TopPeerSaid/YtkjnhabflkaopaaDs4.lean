/- The walk of dataset.Compare. -/
import Derived.WalkKit
import Derived.LoopTactic
import Derived.Outline
import Derived.Lib.Hide
import Derived.WideLaws
import Derived.Laws.EntriesVeiled
import Derived.Test.YtkjnhabflkaopaaDs3
import Derived.Test.YtkjnhabflkaopaaEq
namespace Go.Proofs.Ytkjnhabflkaopaa
open Go.RowKit

theorem compare_same (a : DS) (w : World) : Calls Try.prog 43 #[a.v, a.v] w fun e w' => e = .returned (.int .i64 0) ∧ Below w.heap.size w w' := by
  go_enter Try.func43, Try.ntmps43
  go_wp2_with fail
  go_ret
  exact ⟨rfl, ((Below.refl _ _).alloc (Nat.le_refl _) _).alloc (by simp) _⟩
def I64 (x : Int) : Prop := -9223372036854775808 ≤ x ∧ x ≤ 9223372036854775807
theorem u64_wrap (x : Int) : IntKind.u64.wrap x = x % 18446744073709551616 := by
  simp [IntKind.wrap, IntKind.bits, IntKind.signed]
theorem u64_sub {a b : Int} (ha : I64 a) (hb : I64 b) (h : b < a) : IntKind.u64.wrap (IntKind.u64.wrap a - IntKind.u64.wrap b) = a - b := by
  unfold I64 at ha hb
  simp only [u64_wrap]
  omega

theorem compare_gm (a b : DS) (hab : a ≠ b) (hg : ¬ a.gm = b.gm) (w : World) : Calls Try.prog 43 #[a.v, b.v] w fun e w' => e = .returned (.int .i64 (compareF a b)) ∧ Below w.heap.size w w' := by
  have HL := fun w g c h => lists_any a b g c quality (by decide) (by decide) w h
  have HL := Lib.hid HL
  have hr : compareF a b = verdict (listsF a b quality) 1 3 5 := by rw [lists_quality]; simp [compareF, hab, hg]
  have HR := Lib.hid hr
  have he := eql_ds a b
  have hd : decide (a = b) = false := by simpa using hab
  have hg' : (a.gm != b.gm) = true := by simpa using hg
  clear hr hg hab
  go_enter Try.func43, Try.ntmps43
  go_wp2_with fail
  refine (HL.out _ _ _ ?_).mono ?_
  · refine RowAt.of (t := 3) (cs := #[.int .i64 0, .int .i64 1, .int .i64 2, .int .i64 3, .int .i64 4, .int .i64 5]) (by simpa using heap_alloc_new (((w.alloc _).alloc _).alloc _) _) rfl
  · rintro e w1 ⟨rfl, hb⟩
    go_wp2_with (go_at_call 61; refine (verdict_any _ _ _ _ _).mono ?_; rintro e w' ⟨rfl, rfl⟩)
    go_ret
    refine ⟨ret_int HR.out.symm, ?_⟩
    exact (((((Below.refl _ _).alloc (Nat.le_refl _) _).alloc (by simp) _).alloc (by simp; omega) _).alloc (by simp; omega) _).trans (hb.mono (by simp; omega))
theorem compare_gt (a b : DS) (hab : a ≠ b) (hg : a.gm = b.gm) (ha : I64 a.steps) (hb : I64 b.steps) (hs : b.steps < a.steps) (w : World) : Calls Try.prog 43 #[a.v, b.v] w fun e w' => e = .returned (.int .i64 (compareF a b)) ∧ Below w.heap.size w w' := by
  have he := eql_ds a b
  have hd : decide (a = b) = false := by simpa using hab
  have hg' : (a.gm != b.gm) = false := by simpa using hg
  have hu := u64_sub ha hb hs
  by_cases hm : 1 < a.steps - b.steps
  · have hr : compareF a b = 3 := by simp [compareF, hab, hg, hs, hm]
    have HR := Lib.hid hr
    clear hr hg hab
    go_enter Try.func43, Try.ntmps43
    go_wp2_with fail
    go_ret
    exact ⟨ret_int HR.out.symm, (((Below.refl _ _).alloc (Nat.le_refl _) _).alloc (by simp) _).alloc (by simp; omega) _⟩
  · have hr : compareF a b = verdict (cmpI a.recv a.sender) 3 4 5 := by simp [compareF, hab, hg, hs, hm, show ¬ a.steps < b.steps from by omega]
    have HR := Lib.hid hr
    have hm' : a.steps - b.steps ≤ 1 := by omega
    clear hr hg hab hm
    go_enter Try.func43, Try.ntmps43
    go_wp2_with (first | (go_at_call 63; refine (order_u64 _ _ _).mono ?_; rintro e w' ⟨rfl, rfl⟩) | (go_at_call 61; refine (verdict_any _ _ _ _ _).mono ?_; rintro e w' ⟨rfl, rfl⟩))
    go_ret
    exact ⟨ret_int HR.out.symm, (((Below.refl _ _).alloc (Nat.le_refl _) _).alloc (by simp) _).alloc (by simp; omega) _⟩
theorem compare_lt (a b : DS) (hab : a ≠ b) (hg : a.gm = b.gm) (ha : I64 a.steps) (hb : I64 b.steps) (hs : a.steps < b.steps) (w : World) : Calls Try.prog 43 #[a.v, b.v] w fun e w' => e = .returned (.int .i64 (compareF a b)) ∧ Below w.heap.size w w' := by
  have he := eql_ds a b
  have hd : decide (a = b) = false := by simpa using hab
  have hg' : (a.gm != b.gm) = false := by simpa using hg
  have hu := u64_sub hb ha hs
  by_cases hm : 1 < b.steps - a.steps
  · have hr : compareF a b = 1 := by simp [compareF, hab, hg, hs, hm, show ¬ b.steps < a.steps from by omega]
    have HR := Lib.hid hr
    clear hr hg hab
    go_enter Try.func43, Try.ntmps43
    go_wp2_with fail
    go_ret
    exact ⟨ret_int HR.out.symm, (((Below.refl _ _).alloc (Nat.le_refl _) _).alloc (by simp) _).alloc (by simp; omega) _⟩
  · have hr : compareF a b = verdict (cmpI b.recv b.sender) 1 2 5 := by simp [compareF, hab, hg, hs, hm, show ¬ b.steps < a.steps from by omega]
    have HR := Lib.hid hr
    have hm' : b.steps - a.steps ≤ 1 := by omega
    clear hr hg hab hm
    go_enter Try.func43, Try.ntmps43
    go_wp2_with (first | (go_at_call 63; refine (order_u64 _ _ _).mono ?_; rintro e w' ⟨rfl, rfl⟩) | (go_at_call 61; refine (verdict_any _ _ _ _ _).mono ?_; rintro e w' ⟨rfl, rfl⟩))
    go_ret
    exact ⟨ret_int HR.out.symm, (((Below.refl _ _).alloc (Nat.le_refl _) _).alloc (by simp) _).alloc (by simp; omega) _⟩
theorem compare_eq (a b : DS) (hab : a ≠ b) (hg : a.gm = b.gm) (hs : a.steps = b.steps) (w : World) : Calls Try.prog 43 #[a.v, b.v] w fun e w' => e = .returned (.int .i64 (compareF a b)) ∧ Below w.heap.size w w' := by
  have HL := fun w g c h => lists_any a b g c paths (by decide) (by decide) w h
  have HL := Lib.hid HL
  have hr : compareF a b = verdict (listsF a b paths) 2 4 5 := by rw [lists_paths]; simp [compareF, hab, hg, hs]
  have HR := Lib.hid hr
  have he := eql_ds a b
  have hd : decide (a = b) = false := by simpa using hab
  have hg' : (a.gm != b.gm) = false := by simpa using hg
  have h1 : ¬ a.steps < b.steps := by omega
  have h2 : ¬ b.steps < a.steps := by omega
  clear hr hg hab hs
  go_enter Try.func43, Try.ntmps43
  go_wp2_with fail
  refine (HL.out _ _ _ ?_).mono ?_
  · refine RowAt.of (t := 3) (cs := #[.int .i64 7, .int .i64 10, .int .i64 8]) (by simpa using heap_alloc_new (((w.alloc _).alloc _).alloc _) _) rfl
  · rintro e w1 ⟨rfl, hb⟩
    go_wp2_with (go_at_call 61; refine (verdict_any _ _ _ _ _).mono ?_; rintro e w' ⟨rfl, rfl⟩)
    go_ret
    refine ⟨ret_int HR.out.symm, ?_⟩
    exact (((((Below.refl _ _).alloc (Nat.le_refl _) _).alloc (by simp) _).alloc (by simp; omega) _).alloc (by simp; omega) _).trans (hb.mono (by simp; omega))
/-- Compare answers compareF. -/
theorem compare_calls (a b : DS) (ha : I64 a.steps) (hb : I64 b.steps) (w : World) : Calls Try.prog 43 #[a.v, b.v] w fun e w' => e = .returned (.int .i64 (compareF a b)) ∧ Below w.heap.size w w' := by
  by_cases hab : a = b
  · subst hab
    exact (compare_same a w).mono fun e w' ⟨h, k⟩ => ⟨h.trans (ret_int (by simp [compareF])), k⟩
  · by_cases hg : a.gm = b.gm
    · rcases Int.lt_trichotomy a.steps b.steps with hs | hs | hs
      · exact compare_lt a b hab hg ha hb hs w
      · exact compare_eq a b hab hg hs w
      · exact compare_gt a b hab hg ha hb hs w
    · exact compare_gm a b hab hg w
end Go.Proofs.Ytkjnhabflkaopaa
