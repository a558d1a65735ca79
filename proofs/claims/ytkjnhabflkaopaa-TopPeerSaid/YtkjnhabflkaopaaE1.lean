/- Small functions of e2e, ptime and fixed. -/
import Derived.WalkKit
import Derived.LoopTactic
import Derived.Outline
import Derived.Lib.Hide
import Derived.Test.YtkjnhabflkaopaaPm2
namespace Go.Proofs.Ytkjnhabflkaopaa
open Go.RowKit
set_option linter.unusedVariables false
set_option linter.unusedSimpArgs false

def instB (t : Int) : Bool := decide (-4503599627370496 ≤ t) && decide (t ≤ 4503599627370496)
theorem inst_any (t : Int) (w : World) : Calls Try.prog 47 #[.int .i64 t] w fun e w' => e = .returned (.bool (instB t)) ∧ w = w' := by
  by_cases h : -4503599627370496 ≤ t
  · have d : decide (-4503599627370496 ≤ t) = true := by simpa using h
    have e : instB t = decide (t ≤ 4503599627370496) := by simp [instB, h]
    rw [e]
    clear e h
    go_enter Try.func47, Try.ntmps47
    go_wp2
    go_ret
    exact ⟨rfl, rfl⟩
  · have d : decide (-4503599627370496 ≤ t) = false := by simpa using h
    have e : instB t = false := by simp [instB]; omega
    rw [e]
    clear e h
    go_enter Try.func47, Try.ntmps47
    go_wp2
    go_ret
    exact ⟨rfl, rfl⟩
def nanoF (c : Int) : Int := c / 65536
theorem nano_any (c : Int) (w : World) : Calls Try.prog 39 #[.int .i64 c] w fun e w' => e = .returned (.int .i64 (nanoF c)) ∧ w = w' := by
  go_enter Try.func39, Try.ntmps39
  go_wp2
  go_ret
  exact ⟨rfl, rfl⟩
def timeB (s n : Int) : Bool := stampB s n && (decide (s ≤ 5791011200) && decide ((s + 2208988800) * 1000000000 + n ≤ 8000000000000000000))
def timeF (s n : Int) : Int := if timeB s n = true then (s + 2208988800) * 1000000000 + n else 0
def timeE (s n : Int) : Int := if timeB s n = true then 0 else 3
set_option maxHeartbeats 800000 in
theorem time_any (s n : Int) (w : World) : Calls Try.prog 51 #[stampV s n] w fun e w' => e = .returned (.tuple #[.int .i64 (timeF s n), .int .i64 (timeE s n)]) ∧ Below w.heap.size w w' := by
  have hst := stamp_any s n
  cases hb : stampB s n
  · have e1 : timeF s n = 0 := by simp [timeF, timeB, hb]
    have e2 : timeE s n = 3 := by simp [timeE, timeB, hb]
    rw [e1, e2]
    rw [hb] at hst
    simp only [Bool.false_eq_true, if_false] at hst
    have ST := Lib.hid hst
    clear hst hb e1 e2
    go_enter Try.func51, Try.ntmps51
    go_wp2_with fail
    refine (ST.out _).mono ?_
    rintro e w1 ⟨rfl, hb1⟩
    have HB := Lib.hid (below_then ((Below.refl _ _).alloc (Nat.le_refl _) _) hb1)
    clear hb1
    go_wp2_with fail
    go_ret2
    exact ⟨rfl, HB.out⟩
  · rw [hb] at hst
    simp only [if_true] at hst
    have hs0 : 0 ≤ s ∧ s ≤ 281474976710655 ∧ 0 ≤ n ∧ n ≤ 999999999 := by simp [stampB, wi] at hb; omega
    obtain ⟨hs0, hs1, hn0, hn1⟩ := hs0
    have HSB := Lib.hid hb
    obtain ⟨r, hr⟩ : ∃ r, timeF s n = r := ⟨_, rfl⟩
    obtain ⟨m, hm⟩ : ∃ m, timeE s n = m := ⟨_, rfl⟩
    rw [hr, hm]
    have HR := Lib.hid hr
    have HM := Lib.hid hm
    have ST := Lib.hid hst
    clear hst hb hr hm
    go_enter Try.func51, Try.ntmps51
    go_wp2_with fail
    refine (ST.out _).mono ?_
    rintro e w1 ⟨rfl, hb1⟩
    have HB := Lib.hid (below_then ((Below.refl _ _).alloc (Nat.le_refl _) _) hb1)
    have c0 : w1.cell? ⟨w.heap.size, 0, none⟩ = some (.int .i64 s) := by rw [hb1.cell (by simp)]; rw [cell_of_row _ _ _ _ _ (0, 0) (heap_alloc_new w _)]; rfl
    have c1 : w1.cell? ⟨w.heap.size, 1, none⟩ = some (.int .i64 n) := by rw [hb1.cell (by simp)]; rw [cell_of_row _ _ _ _ _ (0, 0) (heap_alloc_new w _)]; rfl
    clear hb1
    by_cases h1 : s ≤ 5791011200
    · have d1 : decide (5791011200 < s) = false := by simpa using h1
      by_cases h2 : (s + 2208988800) * 1000000000 + n ≤ 8000000000000000000
      · have d2 : decide (8000000000000000000 < (s + 2208988800) * 1000000000 + n) = false := by simpa using h2
        have e1 : r = (s + 2208988800) * 1000000000 + n := by rw [← HR.out]; simp [timeF, timeB, HSB.out, h1, h2]
        have e2 : m = 0 := by rw [← HM.out]; simp [timeE, timeB, HSB.out, h1, h2]
        subst e1 e2
        go_wp2_with fail
        go_ret2
        exact ⟨rfl, HB.out⟩
      · have d2 : decide (8000000000000000000 < (s + 2208988800) * 1000000000 + n) = true := by simpa using h2
        have e1 : r = 0 := by rw [← HR.out]; simp [timeF, timeB, HSB.out, h1, h2]
        have e2 : m = 3 := by rw [← HM.out]; simp [timeE, timeB, HSB.out, h1, h2]
        subst e1 e2
        go_wp2_with fail
        go_ret2
        exact ⟨rfl, HB.out⟩
    · have d1 : decide (5791011200 < s) = true := by simpa using h1
      have e1 : r = 0 := by rw [← HR.out]; simp [timeF, timeB, HSB.out, h1]
      have e2 : m = 3 := by rw [← HM.out]; simp [timeE, timeB, HSB.out, h1]
      subst e1 e2
      go_wp2_with fail
      go_ret2
      exact ⟨rfl, HB.out⟩
theorem timeF_range (s n : Int) : 0 ≤ timeF s n ∧ timeF s n ≤ 8000000000000000000 := by
  unfold timeF
  split
  · rename_i h
    simp [timeB, stampB, wi] at h
    omega
  · omega
def atF (s n : Int) : Int := timeF s n - 3900000000000000000
def atB (s n : Int) : Bool := timeB s n && instB (atF s n)
theorem at_any (s n : Int) (w : World) : Calls Try.prog 48 #[stampV s n] w fun e w' => e = .returned (.tuple #[.int .i64 (atF s n), .bool (atB s n)]) ∧ Below w.heap.size w w' := by
  have ht := time_any s n
  have hr := timeF_range s n
  have hE : timeE s n = if timeB s n = true then 0 else 3 := rfl
  unfold atB atF
  obtain ⟨t, hT⟩ : ∃ t, timeF s n = t := ⟨_, rfl⟩
  rw [hT] at ht hr
  rw [hT]
  rw [hE] at ht
  clear hT hE
  obtain ⟨hr0, hr1⟩ := hr
  cases hb : timeB s n
  all_goals rw [hb] at ht
  · simp only [Bool.false_eq_true, if_false] at ht
    have HT := Lib.hid ht
    clear ht hb
    go_enter Try.func48, Try.ntmps48
    go_wp2_with fail
    refine (HT.out _).mono ?_
    rintro e w1 ⟨rfl, hb1⟩
    have HB := Lib.hid (below_then ((Below.refl _ _).alloc (Nat.le_refl _) _) hb1)
    clear hb1
    go_wp2_with fail
    go_ret2
    exact ⟨rfl, HB.out⟩
  · simp only [if_true] at ht
    have HT := Lib.hid ht
    clear ht hb
    go_enter Try.func48, Try.ntmps48
    go_wp2_with fail
    refine (HT.out _).mono ?_
    rintro e w1 ⟨rfl, hb1⟩
    have HB := Lib.hid (below_then ((Below.refl _ _).alloc (Nat.le_refl _) _) hb1)
    clear hb1
    go_wp2_with (go_at_call 47; refine (inst_any _ _).mono ?_; rintro e _ ⟨rfl, rfl⟩)
    go_ret2
    exact ⟨rfl, HB.out⟩
end Go.Proofs.Ytkjnhabflkaopaa
