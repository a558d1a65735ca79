/- e2e: New, refuse, Request, Delay, Offset. -/
import Derived.WalkKit
import Derived.LoopTactic
import Derived.Outline
import Derived.Lib.Hide
import Derived.Deep.QuietTactic
import Derived.BigQuiet
import Derived.Test.YtfbmlpdomfchpaaJEa
import Derived.Test.YtfbmlpdomfchpaaMem
import Derived.Test.YtfbmlpdomfchpaaJPb
namespace Go.Proofs.Ytfbmlpdomfchpaa
open Go.RowKit
set_option linter.unusedVariables false
set_option linter.unusedSimpArgs false

theorem new_ok (d : Int) (h0 : 0 ≤ d) (h1 : d ≤ 255) (w : World) : Calls Try.prog 26 #[.int .i64 d] w fun e w' => e = .returned (.pointer (some ⟨w.heap.size, 0, none⟩)) ∧ ExAt w' w.heap.size (.new d) ∧ Below w.heap.size w w' ∧ w.heap.size < w'.heap.size := by
  go_enter Try.func26, Try.ntmps26
  go_wp2_with fail
  go_ret
  exact ⟨rfl, heap_alloc_new _ _, (Below.refl _ _).alloc (Nat.le_refl _) _, by simp⟩
theorem new_bad (d : Int) (h : d < 0 ∨ 255 < d) (w : World) : Calls Try.prog 26 #[.int .i64 d] w fun e w' => e = .returned (.pointer none) ∧ w = w' := by
  by_cases h0 : d < 0
  · go_enter Try.func26, Try.ntmps26
    go_wp2_with fail
    go_ret
    exact ⟨rfl, rfl⟩
  · have h1 : 255 < d := by omega
    go_enter Try.func26, Try.ntmps26
    go_wp2_with fail
    go_ret
    exact ⟨rfl, rfl⟩
def refuseF (x : Ex) (p : Ptp) (k : Int) : Int := if checkF p ≠ 0 then 2 else if p.kind ≠ k then 8 else if p.domain ≠ x.dom then 9 else 0
theorem refuse_nil (p : Ptp) (k : Int) (w : World) : Calls Try.prog 66 #[.pointer none, p.v, .int .i64 k] w fun e w' => e = .returned (.int .i64 1) ∧ Below w.heap.size w w' := by
  go_enter Try.func66, Try.ntmps66
  go_wp2_with fail
  go_ret
  exact ⟨rfl, (Below.refl _ _).alloc (Nat.le_refl _) _⟩
set_option maxRecDepth 100000 in
set_option maxHeartbeats 4000000 in
theorem refuse_any (x : Ex) (b : Nat) (p : Ptp) (wf : (Lit.int .i64 p.kind).wf = true) (k : Int) (w : World) (hx : ExAt w b x) : Calls Try.prog 66 #[.pointer (some ⟨b, 0, none⟩), p.v, .int .i64 k] w fun e w' => e = .returned (.int .i64 (refuseF x p k)) ∧ Below w.heap.size w w' := by
  obtain ⟨r, hr⟩ : ∃ r, refuseF x p k = r := ⟨_, rfl⟩
  obtain ⟨c, hc⟩ : ∃ c, checkF p = c := ⟨_, rfl⟩
  have ck : ∀ w, Calls Try.prog 17 #[p.v] w fun e w' => e = .returned (.int .i64 c) ∧ Below w.heap.size w w' := fun w => by have := check_any p wf w; rwa [hc] at this
  rw [hr]
  simp only [refuseF, hc] at hr
  have CK := Lib.hid ck
  have HR := Lib.hid hr
  have HX := Lib.hid hx
  clear ck hr hc wf hx
  go_enter Try.func66, Try.ntmps66
  refine seq_opaque ?_
  intro T HT
  go_wp2_with fail
  generalize hW : w.alloc _ = W
  have hw : Below w.heap.size w W := by rw [← hW]; exact (Below.refl _ _).alloc (Nat.le_refl _) _
  have hp : PtpBox W w.heap.size p := by rw [← hW]; exact PtpBox.of (heap_alloc_new w _)
  have hs : w.heap.size < W.heap.size := by rw [← hW]; simp
  rw [HT.out]
  have HP := Lib.hid hp
  clear hW HT
  go_wp2_with (refine load_ptp HP.out _ rfl rfl rfl ?_)
  refine (CK.out W).mono ?_
  rintro e w1 ⟨rfl, hb1⟩
  have hB := below_then hw hb1
  have hp1 := hp.below hs hb1
  have c0 : w1.cell? ⟨w.heap.size, 0, none⟩ = some (.int .i64 p.kind) := hp1 0 (by decide)
  have c1 : w1.cell? ⟨w.heap.size, 1, none⟩ = some (.int .i64 p.domain) := hp1 1 (by decide)
  have x0 : w1.cell? ⟨b, 0, none⟩ = some (.int .i64 x.dom) := (HX.out.below hB).cell 0
  have HB := Lib.hid hB
  clear hw hp hs hb1 hp1 hB
  by_cases hc : c = 0
  · have hcb : (c != 0) = false := by simpa using hc
    by_cases hk : p.kind = k
    · have hkb : (p.kind != k) = false := by simpa using hk
      by_cases hd : p.domain = x.dom
      · have hdb : (p.domain != x.dom) = false := by simpa using hd
        have e : r = 0 := by rw [← HR.out]; simp [hc, hk, hd]
        subst e
        clear hc hk hd
        go_wp2_with fail
        go_quiet (fail)
        go_wp2_with fail
        go_ret
        exact ⟨rfl, below_drewN HB.out _⟩
      · have hdb : (p.domain != x.dom) = true := by simpa using hd
        have e : r = 9 := by rw [← HR.out]; simp [hc, hk, hd]
        subst e
        clear hc hk hd
        go_wp2_with fail
        go_quiet (fail)
        go_wp2_with fail
        go_ret
        exact ⟨rfl, below_drewN HB.out _⟩
    · have hkb : (p.kind != k) = true := by simpa using hk
      have e : r = 8 := by rw [← HR.out]; simp [hc, hk]
      subst e
      clear hc hk
      go_wp2_with fail
      go_ret
      exact ⟨rfl, HB.out⟩
  · have hcb : (c != 0) = true := by simpa using hc
    have e : r = 2 := by rw [← HR.out]; simp [hc]
    subst e
    clear hc
    go_wp2_with fail
    go_ret
    exact ⟨rfl, HB.out⟩
def reqE (s t : Int) : Int := if (s < 0 ∨ 65535 < s) ∨ instB t = false then 3 else 0
def reqX (x : Ex) (s t : Int) : Ex := if (s < 0 ∨ 65535 < s) ∨ instB t = false then x else { x with pending := true, seq := s, t3 := t }
theorem request_nil (s t : Int) (w : World) : Calls Try.prog 41 #[.pointer none, .int .i64 s, .int .i64 t] w fun e w' => e = .returned (.int .i64 1) ∧ Below w.heap.size w w' := by
  go_enter Try.func41, Try.ntmps41
  go_wp2_with fail
  go_ret
  exact ⟨rfl, Below.refl _ _⟩
set_option maxHeartbeats 2000000 in
theorem request_any (x : Ex) (b : Nat) (s t : Int) (w : World) (hx : ExAt w b x) : Calls Try.prog 41 #[.pointer (some ⟨b, 0, none⟩), .int .i64 s, .int .i64 t] w fun e w' => e = .returned (.int .i64 (reqE s t)) ∧ ExAt w' b (reqX x s t) ∧ Touch b w w' := by
  obtain ⟨r, hr⟩ : ∃ r, reqE s t = r := ⟨_, rfl⟩
  obtain ⟨y, hy⟩ : ∃ y, reqX x s t = y := ⟨_, rfl⟩
  rw [hr, hy]
  have HR := Lib.hid hr
  have HY := Lib.hid hy
  have HX := Lib.hid hx
  have f6 := hx.free 6
  have f7 := hx.free 7
  have f8 := hx.free 8
  have c6 : w.cell? ⟨b, 6 + 20, none⟩ = some (.bool x.pending) := hx.cell 26
  have c7 : w.cell? ⟨b, 7 + 20, none⟩ = some (.int .i64 x.seq) := hx.cell 27
  have c8 : w.cell? ⟨b, 8 + 20, none⟩ = some (.int .i64 x.t3) := hx.cell 28
  have f26 := hx.free 26
  have f27 := hx.free 27
  have f28 := hx.free 28
  clear hr hy hx f6 f7 f8
  by_cases h0 : s < 0
  · have e1 : r = 3 := by rw [← HR.out]; simp [reqE, h0]
    have e2 : y = x := by rw [← HY.out]; simp [reqX, h0]
    subst e1 e2
    clear c6 c7 c8
    go_enter Try.func41, Try.ntmps41
    go_wp2_with fail
    go_ret
    exact ⟨rfl, HX.out, .refl _ _⟩
  by_cases h1 : 65535 < s
  · have e1 : r = 3 := by rw [← HR.out]; simp [reqE, h1]
    have e2 : y = x := by rw [← HY.out]; simp [reqX, h1]
    subst e1 e2
    clear c6 c7 c8
    go_enter Try.func41, Try.ntmps41
    go_wp2_with fail
    go_ret
    exact ⟨rfl, HX.out, .refl _ _⟩
  have hi := inst_any t
  cases hb : instB t
  all_goals rw [hb] at hi
  all_goals have HI := Lib.hid hi
  all_goals clear hi
  · have e1 : r = 3 := by rw [← HR.out]; simp [reqE, hb]
    have e2 : y = x := by rw [← HY.out]; simp [reqX, hb]
    subst e1 e2
    clear c6 c7 c8
    go_enter Try.func41, Try.ntmps41
    go_wp2_with (go_at_call 60; refine (HI.out _).mono ?_; rintro e _ ⟨rfl, rfl⟩)
    go_ret
    exact ⟨rfl, HX.out, .refl _ _⟩
  · have e1 : r = 0 := by rw [← HR.out]; simp [reqE, hb, h0, h1]
    have e2 : y = { x with pending := true, seq := s, t3 := t } := by rw [← HY.out]; simp [reqX, hb, h0, h1]
    subst e1 e2
    go_enter Try.func41, Try.ntmps41
    go_wp2_with (go_at_call 60; refine (HI.out _).mono ?_; rintro e _ ⟨rfl, rfl⟩)
    go_ret
    exact ⟨rfl, heap_set (heap_set (heap_set HX.out 26 _) 27 _) 28 _, (((Touch.refl _ _).set _ _).set _ _).set _ _⟩
def offF (x : Ex) : Int := if x.known = true then wrap64 (x.gap - x.delay) else 0
theorem offset_nil (w : World) : Calls Try.prog 42 #[.pointer none] w fun e w' => e = .returned (.tuple #[.int .i64 0, .bool false]) ∧ Below w.heap.size w w' := by
  go_enter Try.func42, Try.ntmps42
  go_wp2_with fail
  go_ret2
  exact ⟨rfl, Below.refl _ _⟩
theorem offset_any (x : Ex) (b : Nat) (w : World) (hx : ExAt w b x) : Calls Try.prog 42 #[.pointer (some ⟨b, 0, none⟩)] w fun e w' => e = .returned (.tuple #[.int .i64 (offF x), .bool x.known]) ∧ Below w.heap.size w w' := by
  have c29 : w.cell? ⟨b, 29, none⟩ = some (.bool x.known) := hx.cell 29
  have c30 : w.cell? ⟨b, 30, none⟩ = some (.int .i64 x.delay) := hx.cell 30
  have c25 : w.cell? ⟨b, 25, none⟩ = some (.int .i64 x.gap) := hx.cell 25
  clear hx
  unfold offF
  cases hk : x.known
  all_goals rw [hk] at c29
  all_goals simp only [Bool.false_eq_true, if_false, if_true]
  · go_enter Try.func42, Try.ntmps42
    go_wp2_with fail
    go_ret2
    exact ⟨rfl, Below.refl _ _⟩
  · go_enter Try.func42, Try.ntmps42
    go_wp2_with fail
    go_quiet (fail)
    go_wp2_with fail
    go_ret2
    exact ⟨rfl, below_drewN (Below.refl _ _) _⟩
end Go.Proofs.Ytfbmlpdomfchpaa
