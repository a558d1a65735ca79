/- The reference's Check of a message (written by gen_rcheck.py). -/
import Derived.WalkKit
import Derived.LoopTactic
import Derived.Outline
import Derived.Lib.Hide
import Derived.Test.YtkjnhabflkaopaaPm4
namespace Go.Proofs.Ytkjnhabflkaopaa
open Go.RowKit
set_option linter.unusedVariables false
set_option linter.unusedSimpArgs false

theorem rsize_any (k : Int) (w : World) : Calls Try.prog 56 #[.int .i64 k] w fun e w' => e = .returned (.int .i64 (sizeF k)) ∧ w = w' := by
  by_cases h0 : k = 0
  · subst h0
    go_enter Try.func56, Try.ntmps56
    go_wp2
    go_ret
    exact ⟨rfl, rfl⟩
  by_cases h1 : k = 1
  · subst h1
    go_enter Try.func56, Try.ntmps56
    go_wp2
    go_ret
    exact ⟨rfl, rfl⟩
  by_cases h8 : k = 8
  · subst h8
    go_enter Try.func56, Try.ntmps56
    go_wp2
    go_ret
    exact ⟨rfl, rfl⟩
  by_cases h2 : k = 2
  · subst h2
    go_enter Try.func56, Try.ntmps56
    go_wp2
    go_ret
    exact ⟨rfl, rfl⟩
  by_cases h3 : k = 3
  · subst h3
    go_enter Try.func56, Try.ntmps56
    go_wp2
    go_ret
    exact ⟨rfl, rfl⟩
  by_cases h9 : k = 9
  · subst h9
    go_enter Try.func56, Try.ntmps56
    go_wp2
    go_ret
    exact ⟨rfl, rfl⟩
  by_cases h10 : k = 10
  · subst h10
    go_enter Try.func56, Try.ntmps56
    go_wp2
    go_ret
    exact ⟨rfl, rfl⟩
  by_cases h11 : k = 11
  · subst h11
    go_enter Try.func56, Try.ntmps56
    go_wp2
    go_ret
    exact ⟨rfl, rfl⟩
  have b0 : (k == 0) = false := by simpa using h0
  have b1 : (k == 1) = false := by simpa using h1
  have b8 : (k == 8) = false := by simpa using h8
  have b2 : (k == 2) = false := by simpa using h2
  have b3 : (k == 3) = false := by simpa using h3
  have b9 : (k == 9) = false := by simpa using h9
  have b10 : (k == 10) = false := by simpa using h10
  have b11 : (k == 11) = false := by simpa using h11
  have e : sizeF k = 0 := by simp [sizeF, h0, h1, h2, h3, h8, h9, h10, h11]
  rw [e]
  clear e
  go_enter Try.func56, Try.ntmps56
  go_wp2
  go_ret
  exact ⟨rfl, rfl⟩
theorem rreq_any (k : Int) (w : World) : Calls Try.prog 59 #[.int .i64 k] w fun e w' => e = .returned (.bool (reqB k)) ∧ w = w' := by
  cases h9 : (k == 9)
  all_goals cases h3 : (k == 3)
  all_goals (first | (have e : reqB k = true := by simp only [reqB, h9, h3, Bool.true_or, Bool.or_true]) | (have e : reqB k = (k == 10) := by simp only [reqB, h9, h3, Bool.false_or]))
  all_goals rw [e]
  all_goals clear e
  all_goals go_enter Try.func59, Try.ntmps59
  all_goals go_wp2
  all_goals go_ret
  all_goals exact ⟨rfl, rfl⟩
theorem rstamp_any (s n : Int) (w : World) : Calls Try.prog 58 #[stampV s n] w fun e w' => e = .returned (.int .i64 (if stampB s n = true then 0 else 3)) ∧ Below w.heap.size w w' := by
  by_cases h1 : s < 0
  · have d1 : decide (s < 0) = true := by simpa using h1
    have e : stampB s n = false := by simp [stampB, wi]; omega
    rw [e]
    have ev : (if (false : Bool) = true then (0 : Int) else 3) = 3 := by rfl
    rw [ev]
    clear e ev
    go_enter Try.func58, Try.ntmps58
    go_wp2
    go_ret
    exact ⟨rfl, (Below.refl _ _).alloc (Nat.le_refl _) _⟩
  have d1 : decide (s < 0) = false := by simpa using h1
  by_cases h2 : 281474976710656 ≤ s
  · have d2 : decide (281474976710656 ≤ s) = true := by simpa using h2
    have e : stampB s n = false := by simp [stampB, wi]; omega
    rw [e]
    have ev : (if (false : Bool) = true then (0 : Int) else 3) = 3 := by rfl
    rw [ev]
    clear e ev
    go_enter Try.func58, Try.ntmps58
    go_wp2
    go_ret
    exact ⟨rfl, (Below.refl _ _).alloc (Nat.le_refl _) _⟩
  have d2 : decide (281474976710656 ≤ s) = false := by simpa using h2
  by_cases h3 : n < 0
  · have d3 : decide (n < 0) = true := by simpa using h3
    have e : stampB s n = false := by simp [stampB, wi]; omega
    rw [e]
    have ev : (if (false : Bool) = true then (0 : Int) else 3) = 3 := by rfl
    rw [ev]
    clear e ev
    go_enter Try.func58, Try.ntmps58
    go_wp2
    go_ret
    exact ⟨rfl, (Below.refl _ _).alloc (Nat.le_refl _) _⟩
  have d3 : decide (n < 0) = false := by simpa using h3
  by_cases h4 : 1000000000 ≤ n
  · have d4 : decide (1000000000 ≤ n) = true := by simpa using h4
    have e : stampB s n = false := by simp [stampB, wi]; omega
    rw [e]
    have ev : (if (false : Bool) = true then (0 : Int) else 3) = 3 := by rfl
    rw [ev]
    clear e ev
    go_enter Try.func58, Try.ntmps58
    go_wp2
    go_ret
    exact ⟨rfl, (Below.refl _ _).alloc (Nat.le_refl _) _⟩
  have d4 : decide (1000000000 ≤ n) = false := by simpa using h4
  have e : stampB s n = true := by simp [stampB, wi]; omega
  rw [e]
  have ev : (if (true : Bool) = true then (0 : Int) else 3) = 0 := by rfl
  rw [ev]
  clear e ev
  go_enter Try.func58, Try.ntmps58
  go_wp2
  go_ret
  exact ⟨rfl, (Below.refl _ _).alloc (Nat.le_refl _) _⟩
set_option maxRecDepth 100000 in
set_option maxHeartbeats 8000000 in
theorem rcheck_any (p : Ptp) (w : World) : Calls Try.prog 41 #[p.v] w fun e w' => e = .returned (.int .i64 (checkF p)) ∧ Below w.heap.size w w' := by
  obtain ⟨r, hr⟩ : ∃ r, checkF p = r := ⟨_, rfl⟩
  rw [hr]
  have HR := Lib.hid hr
  have ne := neq_ann0 p.ann
  clear hr
  go_enter Try.func41, Try.ntmps41
  go_wp2_with fail
  generalize hW : (w.alloc _).alloc _ = W
  have hw : Below w.heap.size w W := by rw [← hW]; exact ((Below.refl _ _).alloc (Nat.le_refl _) _).alloc (by simp) _
  have hp : PtpBox W w.heap.size p := by rw [← hW]; exact PtpBox.of (heap_alloc_old (heap_alloc_new w _) _)
  have ha : AnnBox W (w.heap.size + 1) p.ann := by rw [← hW]; exact AnnBox.of (heap_at (by simp))
  have hs : w.heap.size + 1 < W.heap.size := by rw [← hW]; simp
  clear hW
  have c0 : W.cell? ⟨w.heap.size, 0, none⟩ = some (.int .i64 p.kind) := hp 0 (by decide)
  have c1 : W.cell? ⟨w.heap.size, 1, none⟩ = some (.int .i64 p.domain) := hp 1 (by decide)
  have c2 : W.cell? ⟨w.heap.size, 2, none⟩ = some (.int .i64 p.flags) := hp 2 (by decide)
  have c5 : W.cell? ⟨w.heap.size, 5, none⟩ = some (.int .i64 p.port) := hp 5 (by decide)
  have c6 : W.cell? ⟨w.heap.size, 6, none⟩ = some (.int .i64 p.seq) := hp 6 (by decide)
  have c7 : W.cell? ⟨w.heap.size, 7, none⟩ = some (.int .i64 p.logInt) := hp 7 (by decide)
  have c8 : W.cell? ⟨w.heap.size, 8, none⟩ = some (.int .i64 p.sec) := hp 8 (by decide)
  have c9 : W.cell? ⟨w.heap.size, 9, none⟩ = some (.int .i64 p.nano) := hp 9 (by decide)
  have HW := Lib.hid hw
  have HP := Lib.hid hp
  have HA := Lib.hid ha
  clear hw hp ha
  refine (rsize_any _ _).mono ?_
  rintro e _ ⟨rfl, rfl⟩
  obtain ⟨sz, hsz⟩ : ∃ sz, sizeF p.kind = sz := ⟨_, rfl⟩
  rw [hsz]
  by_cases z0 : sz = 0
  · have hr : r = 8 := by rw [← HR.out]; simp [checkF, hsz, z0]
    subst hr
    subst z0
    clear hsz
    go_wp2_with fail
    go_ret
    exact ⟨rfl, HW.out⟩
  have b0 : (sz == 0) = false := by simpa using z0
  have HSZ := Lib.hid hsz
  have HS0 := Lib.hid z0
  clear hsz z0
  go_wp2_with fail
  refine (rwithin_any _ _ _ _).mono ?_
  rintro e _ ⟨rfl, rfl⟩
  cases h0 : wi p.domain 0 255
  · have hr : r = 3 := by rw [← HR.out]; simp [checkF, HSZ.out, HS0.out, inB, h0]
    subst hr
    go_wp2_with fail
    go_ret
    exact ⟨rfl, HW.out⟩
  have H0 := Lib.hid h0
  clear h0
  go_wp2_with fail
  refine (rwithin_any _ _ _ _).mono ?_
  rintro e _ ⟨rfl, rfl⟩
  cases h1 : wi p.flags 0 65535
  · have hr : r = 3 := by rw [← HR.out]; simp [checkF, HSZ.out, HS0.out, inB, H0.out, h1]
    subst hr
    go_wp2_with fail
    go_ret
    exact ⟨rfl, HW.out⟩
  have H1 := Lib.hid h1
  clear h1
  go_wp2_with fail
  refine (rwithin_any _ _ _ _).mono ?_
  rintro e _ ⟨rfl, rfl⟩
  cases h2 : wi p.port 0 65535
  · have hr : r = 3 := by rw [← HR.out]; simp [checkF, HSZ.out, HS0.out, inB, H0.out, H1.out, h2]
    subst hr
    go_wp2_with fail
    go_ret
    exact ⟨rfl, HW.out⟩
  have H2 := Lib.hid h2
  clear h2
  go_wp2_with fail
  refine (rwithin_any _ _ _ _).mono ?_
  rintro e _ ⟨rfl, rfl⟩
  cases h3 : wi p.seq 0 65535
  · have hr : r = 3 := by rw [← HR.out]; simp [checkF, HSZ.out, HS0.out, inB, H0.out, H1.out, H2.out, h3]
    subst hr
    go_wp2_with fail
    go_ret
    exact ⟨rfl, HW.out⟩
  have H3 := Lib.hid h3
  clear h3
  go_wp2_with fail
  refine (rwithin_any _ _ _ _).mono ?_
  rintro e _ ⟨rfl, rfl⟩
  cases h4 : wi p.logInt (-128) 127
  · have hr : r = 3 := by rw [← HR.out]; simp [checkF, HSZ.out, HS0.out, inB, H0.out, H1.out, H2.out, H3.out, h4]
    subst hr
    go_wp2_with fail
    go_ret
    exact ⟨rfl, HW.out⟩
  have H4 := Lib.hid h4
  clear h4
  go_wp2_with fail
  refine (rstamp_any p.sec p.nano _).mono ?_
  rintro e w1 ⟨rfl, hb1⟩
  have HB1 := Lib.hid (below_then HW.out hb1)
  have d0 : w1.cell? ⟨w.heap.size, 0, none⟩ = some (.int .i64 p.kind) := (HP.out.below (by omega) hb1) 0 (by decide)
  have d10 : w1.cell? ⟨w.heap.size, 10, none⟩ = some (.int .u64 p.reqClock) := (HP.out.below (by omega) hb1) 10 (by decide)
  have d11 : w1.cell? ⟨w.heap.size, 11, none⟩ = some (.int .i64 p.reqPort) := (HP.out.below (by omega) hb1) 11 (by decide)
  have a0 : w1.cell? ⟨w.heap.size + 1, 0, none⟩ = some (.int .i64 p.ann.utc) := (HA.out.below hs hb1) 0 (by decide)
  have a1 : w1.cell? ⟨w.heap.size + 1, 1, none⟩ = some (.int .i64 p.ann.p1) := (HA.out.below hs hb1) 1 (by decide)
  have a2 : w1.cell? ⟨w.heap.size + 1, 2, none⟩ = some (.int .i64 p.ann.cls) := (HA.out.below hs hb1) 2 (by decide)
  have a3 : w1.cell? ⟨w.heap.size + 1, 3, none⟩ = some (.int .i64 p.ann.acc) := (HA.out.below hs hb1) 3 (by decide)
  have a4 : w1.cell? ⟨w.heap.size + 1, 4, none⟩ = some (.int .i64 p.ann.var) := (HA.out.below hs hb1) 4 (by decide)
  have a5 : w1.cell? ⟨w.heap.size + 1, 5, none⟩ = some (.int .i64 p.ann.p2) := (HA.out.below hs hb1) 5 (by decide)
  have a6 : w1.cell? ⟨w.heap.size + 1, 6, none⟩ = some (.int .u64 p.ann.gm) := (HA.out.below hs hb1) 6 (by decide)
  have a7 : w1.cell? ⟨w.heap.size + 1, 7, none⟩ = some (.int .i64 p.ann.steps) := (HA.out.below hs hb1) 7 (by decide)
  have a8 : w1.cell? ⟨w.heap.size + 1, 8, none⟩ = some (.int .i64 p.ann.source) := (HA.out.below hs hb1) 8 (by decide)
  clear hb1 c0 c1 c2 c5 c6 c7 c8 c9
  cases h5 : stampB p.sec p.nano
  all_goals simp only [Bool.false_eq_true, if_false, if_true]
  · have hr : r = 3 := by rw [← HR.out]; simp [checkF, HSZ.out, HS0.out, inB, H0.out, H1.out, H2.out, H3.out, H4.out, h5]
    subst hr
    go_wp2_with fail
    go_ret
    exact ⟨rfl, HB1.out⟩
  have H5 := Lib.hid h5
  clear h5
  go_wp2_with fail
  refine (rwithin_any _ _ _ _).mono ?_
  rintro e _ ⟨rfl, rfl⟩
  cases h6 : wi p.reqPort 0 65535
  · have hr : r = 3 := by rw [← HR.out]; simp [checkF, HSZ.out, HS0.out, inB, H0.out, H1.out, H2.out, H3.out, H4.out, H5.out, h6]
    subst hr
    go_wp2_with fail
    go_ret
    exact ⟨rfl, HB1.out⟩
  have H6 := Lib.hid h6
  clear h6
  go_wp2_with fail
  refine (rwithin_any _ _ _ _).mono ?_
  rintro e _ ⟨rfl, rfl⟩
  cases h7 : wi p.ann.utc (-32768) 32767
  · have hr : r = 3 := by rw [← HR.out]; simp [checkF, HSZ.out, HS0.out, inB, H0.out, H1.out, H2.out, H3.out, H4.out, H5.out, H6.out, h7]
    subst hr
    go_wp2_with fail
    go_ret
    exact ⟨rfl, HB1.out⟩
  have H7 := Lib.hid h7
  clear h7
  go_wp2_with fail
  refine (rwithin_any _ _ _ _).mono ?_
  rintro e _ ⟨rfl, rfl⟩
  cases h8 : wi p.ann.p1 0 255
  · have hr : r = 3 := by rw [← HR.out]; simp [checkF, HSZ.out, HS0.out, inB, H0.out, H1.out, H2.out, H3.out, H4.out, H5.out, H6.out, H7.out, h8]
    subst hr
    go_wp2_with fail
    go_ret
    exact ⟨rfl, HB1.out⟩
  have H8 := Lib.hid h8
  clear h8
  go_wp2_with fail
  refine (rwithin_any _ _ _ _).mono ?_
  rintro e _ ⟨rfl, rfl⟩
  cases h9 : wi p.ann.cls 0 255
  · have hr : r = 3 := by rw [← HR.out]; simp [checkF, HSZ.out, HS0.out, inB, H0.out, H1.out, H2.out, H3.out, H4.out, H5.out, H6.out, H7.out, H8.out, h9]
    subst hr
    go_wp2_with fail
    go_ret
    exact ⟨rfl, HB1.out⟩
  have H9 := Lib.hid h9
  clear h9
  go_wp2_with fail
  refine (rwithin_any _ _ _ _).mono ?_
  rintro e _ ⟨rfl, rfl⟩
  cases h10 : wi p.ann.acc 0 255
  · have hr : r = 3 := by rw [← HR.out]; simp [checkF, HSZ.out, HS0.out, inB, H0.out, H1.out, H2.out, H3.out, H4.out, H5.out, H6.out, H7.out, H8.out, H9.out, h10]
    subst hr
    go_wp2_with fail
    go_ret
    exact ⟨rfl, HB1.out⟩
  have H10 := Lib.hid h10
  clear h10
  go_wp2_with fail
  refine (rwithin_any _ _ _ _).mono ?_
  rintro e _ ⟨rfl, rfl⟩
  cases h11 : wi p.ann.var 0 65535
  · have hr : r = 3 := by rw [← HR.out]; simp [checkF, HSZ.out, HS0.out, inB, H0.out, H1.out, H2.out, H3.out, H4.out, H5.out, H6.out, H7.out, H8.out, H9.out, H10.out, h11]
    subst hr
    go_wp2_with fail
    go_ret
    exact ⟨rfl, HB1.out⟩
  have H11 := Lib.hid h11
  clear h11
  go_wp2_with fail
  refine (rwithin_any _ _ _ _).mono ?_
  rintro e _ ⟨rfl, rfl⟩
  cases h12 : wi p.ann.p2 0 255
  · have hr : r = 3 := by rw [← HR.out]; simp [checkF, HSZ.out, HS0.out, inB, H0.out, H1.out, H2.out, H3.out, H4.out, H5.out, H6.out, H7.out, H8.out, H9.out, H10.out, H11.out, h12]
    subst hr
    go_wp2_with fail
    go_ret
    exact ⟨rfl, HB1.out⟩
  have H12 := Lib.hid h12
  clear h12
  go_wp2_with fail
  refine (rwithin_any _ _ _ _).mono ?_
  rintro e _ ⟨rfl, rfl⟩
  cases h13 : wi p.ann.steps 0 65535
  · have hr : r = 3 := by rw [← HR.out]; simp [checkF, HSZ.out, HS0.out, inB, H0.out, H1.out, H2.out, H3.out, H4.out, H5.out, H6.out, H7.out, H8.out, H9.out, H10.out, H11.out, H12.out, h13]
    subst hr
    go_wp2_with fail
    go_ret
    exact ⟨rfl, HB1.out⟩
  have H13 := Lib.hid h13
  clear h13
  go_wp2_with fail
  refine (rwithin_any _ _ _ _).mono ?_
  rintro e _ ⟨rfl, rfl⟩
  cases h14 : wi p.ann.source 0 255
  · have hr : r = 3 := by rw [← HR.out]; simp [checkF, HSZ.out, HS0.out, inB, H0.out, H1.out, H2.out, H3.out, H4.out, H5.out, H6.out, H7.out, H8.out, H9.out, H10.out, H11.out, H12.out, H13.out, h14]
    subst hr
    go_wp2_with fail
    go_ret
    exact ⟨rfl, HB1.out⟩
  have H14 := Lib.hid h14
  clear h14
  go_wp2_with fail
  have hin : inB p = true := by simp [inB, H0.out, H1.out, H2.out, H3.out, H4.out, H5.out, H6.out, H7.out, H8.out, H9.out, H10.out, H11.out, H12.out, H13.out, H14.out]
  have KEY := Lib.hid (show r = (if formB p = true then 7 else 0) by rw [← HR.out]; simp [checkF, HSZ.out, HS0.out, hin])
  clear hin
  refine (rreq_any p.kind _).mono ?_
  rintro e _ ⟨rfl, rfl⟩
  cases hq : reqB p.kind
  all_goals cases hc : (p.reqClock != 0)
  all_goals cases hq2 : (p.reqPort != 0)
  all_goals cases hk11 : (p.kind != 11)
  all_goals cases han : decide (p.ann = .zero)
  all_goals simp only [han, Bool.not_true, Bool.not_false] at ne
  all_goals have HF := Lib.hid (show formB p = _ by unfold formB; rw [hq, hc, hq2, hk11, han])
  all_goals go_wp2_with fail
  all_goals go_ret
  all_goals exact ⟨ret_int (by rw [KEY.out, HF.out]; rfl), HB1.out⟩
end Go.Proofs.Ytkjnhabflkaopaa
