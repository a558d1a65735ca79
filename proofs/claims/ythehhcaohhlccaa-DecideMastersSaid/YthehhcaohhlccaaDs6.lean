/- The walks of the reference of layer 34: Less, longer, Compare. -/
import Derived.WalkKit
import Derived.LoopTactic
import Derived.Outline
import Derived.Lib.Hide
import Derived.Deep.QuietTactic
import Derived.BigQuiet
import Derived.Test.YthehhcaohhlccaaDs5
namespace Go.Proofs.Ythehhcaohhlccaa
open Go.RowKit

theorem key_lex (a b : DS) : lexL a.key b.key = if lexL a.key6 b.key6 = 0 then (if cmpI a.steps b.steps = 0 then (if cmpI a.sender b.sender = 0 then (if cmpI a.sport b.sport = 0 then (if cmpI a.recv b.recv = 0 then cmpI a.rport b.rport else cmpI a.recv b.recv) else cmpI a.sport b.sport) else cmpI a.sender b.sender) else cmpI a.steps b.steps) else lexL a.key6 b.key6 := by
  unfold DS.key
  rw [lexL_append _ _ (by rfl : a.key6.length = b.key6.length)]
  simp only [DS.key5, lexL]
  by_cases h : cmpI a.rport b.rport = 0 <;> simp [h]
theorem key3_lex (a b : DS) : lexL a.key3 b.key3 = if cmpI a.sender b.sender = 0 then (if cmpI a.rport b.rport = 0 then cmpI a.sport b.sport else cmpI a.rport b.rport) else cmpI a.sender b.sender := by
  simp only [DS.key3, lexL]
  by_cases h : cmpI a.sport b.sport = 0 <;> simp [h]

theorem verdict_lt {a b x y z : Int} (h : a < b) : verdict (cmpI a b) x y z = x := by rw [cmpI_lt h]; rfl
theorem verdict_gt {a b x y z : Int} (h : b < a) : verdict (cmpI a b) x y z = y := by rw [cmpI_gt h]; rfl
theorem verdict_eq {a b x y z : Int} (h1 : ¬ a < b) (h2 : ¬ b < a) : verdict (cmpI a b) x y z = z := by rw [cmpI_eq h1 h2]; rfl

set_option maxHeartbeats 400000 in
theorem rless_any (a b : DS) (w : World) : Calls Try.prog 19 #[a.v, b.v] w fun e w' => e = .returned (.bool (lessB a b)) ∧ Below w.heap.size w w' := by
  have hk := key_lex a b
  have HK := Lib.hid hk
  clear hk
  go_enter Try.func19, Try.ntmps19
  go_wp2_with fail
  refine (rorder_any a b _).mono ?_
  rintro e w1 ⟨rfl, hb⟩
  have hb' : Below w.heap.size w w1 := (((Below.refl _ _).alloc (Nat.le_refl _) _).alloc (by simp) _).trans (hb.mono (by simp; omega))
  have hA : BoxAt w1 w.heap.size a := (BoxAt.of (heap_alloc_old (heap_alloc_new w _) _)).below hb
  have hB : BoxAt w1 (w.heap.size + 1) b := (BoxAt.of (heap_at (by simp))).below hb
  have HB := Lib.hid hb'
  clear hb hb'
  obtain ⟨a0, a1, a2, a3, a4, a5, a6, a7, a8, a9, a10⟩ := hA
  obtain ⟨b0, b1, b2, b3, b4, b5, b6, b7, b8, b9, b10⟩ := hB
  go_wp2_with (first | (go_at_call 45; refine (numbers_any _ _ _).mono ?_; rintro e w' ⟨rfl, rfl⟩) | (go_at_call 46; refine (ints_any _ _ _).mono ?_; rintro e w' ⟨rfl, rfl⟩))
  all_goals go_ret
  all_goals exact ⟨ret_bool (by rw [lessB, HK.out]; simp_all), HB.out⟩

def LongR (d : DS) (n x y : Int) : Int := if 1 < n then x else verdict (cmpI d.recv d.sender) x y 5
theorem longer_any (d : DS) (n x y : Int) (w : World) : Calls Try.prog 44 #[d.v, .int .u64 n, .int .i64 x, .int .i64 y] w fun e w' => e = .returned (.int .i64 (LongR d n x y)) ∧ Below w.heap.size w w' := by
  by_cases hn : 1 < n
  · have hg : decide (1 < n) = true := by simpa using hn
    go_enter Try.func44, Try.ntmps44
    go_wp2
    go_ret
    exact ⟨ret_int (by unfold LongR; rw [if_pos hn]), (Below.refl _ _).alloc (Nat.le_refl _) _⟩
  · have hg : decide (1 < n) = false := by simpa using hn
    have hr : LongR d n x y = verdict (cmpI d.recv d.sender) x y 5 := by unfold LongR; rw [if_neg hn]
    have HR := Lib.hid hr
    clear hr
    go_enter Try.func44, Try.ntmps44
    go_wp2
    all_goals go_ret
    all_goals refine ⟨ret_int ?_, (Below.refl _ _).alloc (Nat.le_refl _) _⟩
    all_goals rw [HR.out]
    · rw [verdict_lt (by omega)]
    · rw [verdict_gt (by omega)]
    · rw [verdict_eq (by omega) (by omega)]

theorem rcompare_same (a : DS) (w : World) : Calls Try.prog 16 #[a.v, a.v] w fun e w' => e = .returned (.int .i64 0) ∧ Below w.heap.size w w' := by
  have he := eql_ds a a
  have hd : decide (a = a) = true := by simp
  go_enter Try.func16, Try.ntmps16
  go_wp2_with fail
  go_ret
  exact ⟨rfl, ((Below.refl _ _).alloc (Nat.le_refl _) _).alloc (by simp) _⟩
theorem key6_ne {a b : DS} (hg : ¬ a.gm = b.gm) : lexL a.key6 b.key6 ≠ 0 := fun h => hg (by
  have := (lexL_zero (by rfl : a.key6.length = b.key6.length)).1 h
  simp [DS.key6] at this
  exact this.2.2.2.2.2)
theorem rcompare_gm (a b : DS) (hab : a ≠ b) (hg : ¬ a.gm = b.gm) (w : World) : Calls Try.prog 16 #[a.v, b.v] w fun e w' => e = .returned (.int .i64 (compareF a b)) ∧ Below w.heap.size w w' := by
  have hr : compareF a b = if lexL a.key6 b.key6 < 0 then 1 else 3 := by
    have := key6_ne hg
    simp only [compareF, hab, hg, verdict, not_false_eq_true, if_true, if_false]
    by_cases h : lexL a.key6 b.key6 < 0
    · rw [if_pos h, if_pos h]
    · rw [if_neg h, if_neg h, if_pos (by omega)]
  have HR := Lib.hid hr
  have he := eql_ds a b
  have hd : decide (a = b) = false := by simpa using hab
  have hg' : (a.gm != b.gm) = true := by simpa using hg
  clear hr hg hab
  go_enter Try.func16, Try.ntmps16
  go_wp2_with (go_at_call 43; refine (rorder_any a b _).mono ?_; rintro e w1 ⟨rfl, hb⟩)
  all_goals go_ret
  · have h : lexL a.key6 b.key6 < 0 := by assumption
    exact ⟨ret_int (by rw [HR.out, if_pos h]), (((Below.refl _ _).alloc (Nat.le_refl _) _).alloc (by simp) _).trans (hb.mono (by simp; omega))⟩
  · have h : 0 ≤ lexL a.key6 b.key6 := by assumption
    exact ⟨ret_int (by rw [HR.out, if_neg (by omega)]), (((Below.refl _ _).alloc (Nat.le_refl _) _).alloc (by simp) _).trans (hb.mono (by simp; omega))⟩
theorem rcompare_gt (a b : DS) (hab : a ≠ b) (hg : a.gm = b.gm) (ha : I64 a.steps) (hb : I64 b.steps) (hs : b.steps < a.steps) (w : World) : Calls Try.prog 16 #[a.v, b.v] w fun e w' => e = .returned (.int .i64 (compareF a b)) ∧ Below w.heap.size w w' := by
  have he := eql_ds a b
  have hd : decide (a = b) = false := by simpa using hab
  have hg' : (a.gm != b.gm) = false := by simpa using hg
  have hu := u64_sub ha hb hs
  have hr : compareF a b = LongR a (a.steps - b.steps) 3 4 := by
    simp [compareF, LongR, hab, hg, hs, show ¬ a.steps < b.steps from by omega]
  have HR := Lib.hid hr
  clear hr hg hab
  go_enter Try.func16, Try.ntmps16
  go_wp2_with (go_at_call 44; refine (longer_any a _ _ _ _).mono ?_; rintro e w1 ⟨rfl, hb1⟩)
  go_ret
  exact ⟨ret_int HR.out.symm, (((Below.refl _ _).alloc (Nat.le_refl _) _).alloc (by simp) _).trans (hb1.mono (by simp; omega))⟩
theorem rcompare_lt (a b : DS) (hab : a ≠ b) (hg : a.gm = b.gm) (ha : I64 a.steps) (hb : I64 b.steps) (hs : a.steps < b.steps) (w : World) : Calls Try.prog 16 #[a.v, b.v] w fun e w' => e = .returned (.int .i64 (compareF a b)) ∧ Below w.heap.size w w' := by
  have he := eql_ds a b
  have hd : decide (a = b) = false := by simpa using hab
  have hg' : (a.gm != b.gm) = false := by simpa using hg
  have hu := u64_sub hb ha hs
  have hr : compareF a b = LongR b (b.steps - a.steps) 1 2 := by
    simp [compareF, LongR, hab, hg, hs, show ¬ b.steps < a.steps from by omega]
  have HR := Lib.hid hr
  clear hr hg hab
  go_enter Try.func16, Try.ntmps16
  go_wp2_with (go_at_call 44; refine (longer_any b _ _ _ _).mono ?_; rintro e w1 ⟨rfl, hb1⟩)
  go_ret
  exact ⟨ret_int HR.out.symm, (((Below.refl _ _).alloc (Nat.le_refl _) _).alloc (by simp) _).trans (hb1.mono (by simp; omega))⟩
theorem rcompare_eq (a b : DS) (hab : a ≠ b) (hg : a.gm = b.gm) (hs : a.steps = b.steps) (w : World) : Calls Try.prog 16 #[a.v, b.v] w fun e w' => e = .returned (.int .i64 (compareF a b)) ∧ Below w.heap.size w w' := by
  have hr : compareF a b = verdict (lexL a.key3 b.key3) 2 4 5 := by simp [compareF, hab, hg, hs]
  rw [key3_lex] at hr
  have HR := Lib.hid hr
  have he := eql_ds a b
  have hd : decide (a = b) = false := by simpa using hab
  have hg' : (a.gm != b.gm) = false := by simpa using hg
  have h1 : ¬ a.steps < b.steps := by omega
  have h2 : ¬ b.steps < a.steps := by omega
  clear hr hg hab hs
  go_enter Try.func16, Try.ntmps16
  go_wp2_with (first | (go_at_call 45; refine (numbers_any _ _ _).mono ?_; rintro e w' ⟨rfl, rfl⟩) | (go_at_call 46; refine (ints_any _ _ _).mono ?_; rintro e w' ⟨rfl, rfl⟩))
  all_goals go_ret
  all_goals refine ⟨ret_int ?_, ((Below.refl _ _).alloc (Nat.le_refl _) _).alloc (by simp) _⟩
  all_goals (rw [HR.out]; unfold verdict; simp_all; try omega)
/-- The reference's Compare answers compareF. -/
theorem rcompare_calls (a b : DS) (ha : I64 a.steps) (hb : I64 b.steps) (w : World) : Calls Try.prog 16 #[a.v, b.v] w fun e w' => e = .returned (.int .i64 (compareF a b)) ∧ Below w.heap.size w w' := by
  by_cases hab : a = b
  · subst hab
    exact (rcompare_same a w).mono fun e w' ⟨h, k⟩ => ⟨h.trans (ret_int (by simp [compareF])), k⟩
  · by_cases hg : a.gm = b.gm
    · rcases Int.lt_trichotomy a.steps b.steps with hs | hs | hs
      · exact rcompare_lt a b hab hg ha hb hs w
      · exact rcompare_eq a b hab hg hs w
      · exact rcompare_gt a b hab hg ha hb hs w
    · exact rcompare_gm a b hab hg w
end Go.Proofs.Ythehhcaohhlccaa
