/- p2p: the small functions, on the way that TopPeer takes. -/
import Derived.WalkKit
import Derived.LoopTactic
import Derived.Outline
import Derived.Lib.Hide
import Derived.Deep.QuietTactic
import Derived.BigQuiet
import Derived.Test.YtkjnhabflkaopaaE5
import Derived.Test.YtkjnhabflkaopaaE7
namespace Go.Proofs.Ytkjnhabflkaopaa
open Go.RowKit
set_option linter.unusedVariables false
set_option linter.unusedSimpArgs false

theorem loc_any (t : Int) (w : World) : Calls Try.prog 34 #[.int .i64 t] w fun e w' => e = .returned (.bool (instB t)) ∧ w = w' := by
  by_cases h : -4503599627370496 ≤ t
  · have d : decide (-4503599627370496 ≤ t) = true := by simpa using h
    have e : instB t = decide (t ≤ 4503599627370496) := by simp [instB, h]
    rw [e]
    clear e h
    go_enter Try.func34, Try.ntmps34
    go_wp2
    go_ret
    exact ⟨rfl, rfl⟩
  · have d : decide (-4503599627370496 ≤ t) = false := by simpa using h
    have e : instB t = false := by simp [instB]; omega
    rw [e]
    clear e h
    go_enter Try.func34, Try.ntmps34
    go_wp2
    go_ret
    exact ⟨rfl, rfl⟩
theorem pinst_any (p : Ptp) (w : World) : Calls Try.prog 36 #[p.v] w fun e w' => e = .returned (.tuple #[.int .i64 (atF p.sec p.nano), .bool (atB p.sec p.nano)]) ∧ Below w.heap.size w w' := by
  have ht := time_any p.sec p.nano
  have hr := timeF_range p.sec p.nano
  have hE : timeE p.sec p.nano = if timeB p.sec p.nano = true then 0 else 3 := rfl
  unfold atB atF
  obtain ⟨t, hT⟩ : ∃ t, timeF p.sec p.nano = t := ⟨_, rfl⟩
  rw [hT] at ht hr
  rw [hT]
  rw [hE] at ht
  clear hT hE
  obtain ⟨hr0, hr1⟩ := hr
  cases hb : timeB p.sec p.nano
  all_goals rw [hb] at ht
  · simp only [Bool.false_eq_true, if_false] at ht
    have HT := Lib.hid ht
    clear ht hb
    go_enter Try.func36, Try.ntmps36
    refine seq_opaque ?_
    intro T HT0
    go_wp2_with fail
    generalize hW : w.alloc _ = W
    have hp : PtpBox W w.heap.size p := by rw [← hW]; exact PtpBox.of (heap_alloc_new w _)
    have hb0 : Below w.heap.size w W := by rw [← hW]; exact (Below.refl _ _).alloc (Nat.le_refl _) _
    have c8 : W.cell? ⟨w.heap.size, 8, none⟩ = some (.int .i64 p.sec) := hp 8 (by decide)
    have c9 : W.cell? ⟨w.heap.size, 9, none⟩ = some (.int .i64 p.nano) := hp 9 (by decide)
    rw [HT0.out]
    clear hW HT0 hp
    go_wp2_with fail
    refine (HT.out _).mono ?_
    rintro e w1 ⟨rfl, hb1⟩
    have HB := Lib.hid (below_then hb0 hb1)
    clear hb1 hb0 c8 c9
    go_wp2_with fail
    go_ret2
    exact ⟨rfl, HB.out⟩
  · simp only [if_true] at ht
    have HT := Lib.hid ht
    clear ht hb
    go_enter Try.func36, Try.ntmps36
    refine seq_opaque ?_
    intro T HT0
    go_wp2_with fail
    generalize hW : w.alloc _ = W
    have hp : PtpBox W w.heap.size p := by rw [← hW]; exact PtpBox.of (heap_alloc_new w _)
    have hb0 : Below w.heap.size w W := by rw [← hW]; exact (Below.refl _ _).alloc (Nat.le_refl _) _
    have c8 : W.cell? ⟨w.heap.size, 8, none⟩ = some (.int .i64 p.sec) := hp 8 (by decide)
    have c9 : W.cell? ⟨w.heap.size, 9, none⟩ = some (.int .i64 p.nano) := hp 9 (by decide)
    rw [HT0.out]
    clear hW HT0 hp
    go_wp2_with fail
    refine (HT.out _).mono ?_
    rintro e w1 ⟨rfl, hb1⟩
    have HB := Lib.hid (below_then hb0 hb1)
    clear hb1 hb0 c8 c9
    go_wp2_with (go_at_call 34; refine (loc_any _ _).mono ?_; rintro e _ ⟨rfl, rfl⟩)
    go_ret2
    exact ⟨rfl, HB.out⟩
theorem pof_any (t : Int) (h0 : 2208988800000000000 ≤ t) (h1 : t ≤ 9000000000000000000) (w : World) : Calls Try.prog 37 #[.int .i64 t] w fun e w' => e = .returned (.tuple #[stampV (t / 1000000000 - 2208988800) (t % 1000000000), .int .i64 0]) ∧ Below w.heap.size w w' := by
  have hd : decide (t < 2208988800000000000) = false := by simp; omega
  go_enter Try.func37, Try.ntmps37
  go_wp2_with fail
  refine bodyPost_ret (v := .tuple #[stampV (t / 1000000000 - 2208988800) (t % 1000000000), .int .i64 0]) (by simp [results, Try.results37, go_sem]) rfl ⟨rfl, ?_⟩
  exact (Below.refl _ _).alloc (Nat.le_refl _) _
def secF (t : Int) : Int := (3900000000000000000 + t) / 1000000000 - 2208988800
def nanF (t : Int) : Int := (3900000000000000000 + t) % 1000000000
theorem stamped_any (t : Int) (h0 : -1125899906842624 ≤ t) (h1 : t ≤ 1125899906842624) (w : World) : Calls Try.prog 15 #[.int .i64 t] w fun e w' => e = .returned (stampV (secF t) (nanF t)) ∧ Below w.heap.size w w' := by
  have hof := pof_any (3900000000000000000 + t) (by omega) (by omega)
  obtain ⟨s, hs⟩ : ∃ s, secF t = s := ⟨_, rfl⟩
  obtain ⟨n, hn⟩ : ∃ n, nanF t = n := ⟨_, rfl⟩
  rw [hs, hn]
  unfold secF at hs
  unfold nanF at hn
  rw [hs, hn] at hof
  have OF := Lib.hid hof
  clear hof hs hn
  go_enter Try.func15, Try.ntmps15
  go_wp2_with fail
  refine (OF.out _).mono ?_
  rintro e w1 ⟨rfl, hb1⟩
  have hr : w1.heap[w.heap.size]? = some (.cells #[.int .i64 0, .int .i64 0] 33 (0, 0)) := (hb1.block w.heap.size (by simp)).trans (heap_alloc_new w _)
  have x0 : w1.cell? ⟨w.heap.size, 0, none⟩ = some (.int .i64 0) := (cell_of_row _ _ 0 _ _ (0, 0) hr).trans rfl
  have x1 : w1.cell? ⟨w.heap.size, 1, none⟩ = some (.int .i64 0) := (cell_of_row _ _ 1 _ _ (0, 0) hr).trans rfl
  have f0 := frozen_of_row w1 w.heap.size 0 _ _ hr
  have f1 := frozen_of_row w1 w.heap.size 1 _ _ hr
  have HB := Lib.hid (below_then ((Below.refl _ _).alloc (Nat.le_refl _) _) hb1)
  have hs1 : w.heap.size < w1.heap.size := (Array.getElem?_eq_some_iff.1 hr).1
  clear hr hb1
  go_wp2_with fail
  refine bodyPost_ret (v := stampV s n) (by simp [results, Try.results15, go_sem, x0, x1, hs1]) rfl ⟨rfl, ?_⟩
  exact ((HB.out.setCell (p := ⟨w.heap.size, 0, none⟩) (Nat.le_refl _) _).setCell (p := ⟨w.heap.size, 1, none⟩) (Nat.le_refl _) _).alloc (by simp; omega) _
theorem div_any (a : Int) (w : World) : Calls Try.prog 52 #[.int .i64 a, .int .i64 2] w fun e w' => e = .returned (.bool true) ∧ w = w' := by
  go_enter Try.func52, Try.ntmps52
  go_wp2
  go_ret
  exact ⟨rfl, rfl⟩
theorem floor2_any (a : Int) (h0 : 0 ≤ a) (h1 : a ≤ 9223372036854775807) (w : World) : Calls Try.prog 38 #[.int .i64 a, .int .i64 2] w fun e w' => e = .returned (.tuple #[.int .i64 (a / 2), .bool true]) ∧ w = w' := by
  by_cases hm : a % 2 = 0
  · have hb : (a % 2 != 0) = false := by simpa using hm
    go_enter Try.func38, Try.ntmps38
    go_wp2_with (go_at_call 52; refine (div_any _ _).mono ?_; rintro e _ ⟨rfl, rfl⟩)
    go_ret2
    exact ⟨rfl, rfl⟩
  · have hb : (a % 2 != 0) = true := by simpa using hm
    have hc : decide (a < 0) = false := by simpa using h0
    go_enter Try.func38, Try.ntmps38
    go_wp2_with (go_at_call 52; refine (div_any _ _).mono ?_; rintro e _ ⟨rfl, rfl⟩)
    go_ret2
    exact ⟨rfl, rfl⟩
end Go.Proofs.Ytkjnhabflkaopaa
