/- Several texts in one: E1, E2. -/
import Derived.WalkKit
import Derived.LoopTactic
import Derived.Outline
import Derived.Lib.Hide
import Derived.Test.YtfbmlpdomfchpaaJPa
import Derived.Test.YtfbmlpdomfchpaaPm3
/- Small functions of e2e, ptime and fixed. -/
namespace Go.Proofs.Ytfbmlpdomfchpaa
open Go.RowKit
set_option linter.unusedVariables false
set_option linter.unusedSimpArgs false

def instB (t : Int) : Bool := decide (-4503599627370496 ≤ t) && decide (t ≤ 4503599627370496)
theorem inst_any (t : Int) (w : World) : Calls Try.prog 60 #[.int .i64 t] w fun e w' => e = .returned (.bool (instB t)) ∧ w = w' := by
  by_cases h : -4503599627370496 ≤ t
  · have d : decide (-4503599627370496 ≤ t) = true := by simpa using h
    have e : instB t = decide (t ≤ 4503599627370496) := by simp [instB, h]
    rw [e]
    clear e h
    go_enter Try.func60, Try.ntmps60
    go_wp2
    go_ret
    exact ⟨rfl, rfl⟩
  · have d : decide (-4503599627370496 ≤ t) = false := by simpa using h
    have e : instB t = false := by simp [instB]; omega
    rw [e]
    clear e h
    go_enter Try.func60, Try.ntmps60
    go_wp2
    go_ret
    exact ⟨rfl, rfl⟩
def nanoF (c : Int) : Int := c / 65536
theorem nano_any (c : Int) (w : World) : Calls Try.prog 69 #[.int .i64 c] w fun e w' => e = .returned (.int .i64 (nanoF c)) ∧ w = w' := by
  go_enter Try.func69, Try.ntmps69
  go_wp2
  go_ret
  exact ⟨rfl, rfl⟩
def timeB (s n : Int) : Bool := stampB s n && (decide (s ≤ 5791011200) && decide ((s + 2208988800) * 1000000000 + n ≤ 8000000000000000000))
def timeF (s n : Int) : Int := if timeB s n = true then (s + 2208988800) * 1000000000 + n else 0
def timeE (s n : Int) : Int := if timeB s n = true then 0 else 3
set_option maxHeartbeats 800000 in
theorem time_any (s n : Int) (w : World) : Calls Try.prog 79 #[stampV s n] w fun e w' => e = .returned (.tuple #[.int .i64 (timeF s n), .int .i64 (timeE s n)]) ∧ Below w.heap.size w w' := by
  have hst := stamp_any s n
  cases hb : stampB s n
  · have e1 : timeF s n = 0 := by simp [timeF, timeB, hb]
    have e2 : timeE s n = 3 := by simp [timeE, timeB, hb]
    rw [e1, e2]
    rw [hb] at hst
    simp only [Bool.false_eq_true, if_false] at hst
    have ST := Lib.hid hst
    clear hst hb e1 e2
    go_enter Try.func79, Try.ntmps79
    go_wp2_with fail
    refine (ST.out _).mono ?_
    rintro e w1 ⟨rfl, hb1⟩
    have HB := Lib.hid (below_then ((Below.refl _ _).alloc (Nat.le_refl _) _) hb1)
    clear hb1
    go_wp2_with fail
    go_ret2
    exact ⟨rfl, HB.out⟩
  · rw [hb] at hst
    simp only [if_true] at hst
    have hs0 : 0 ≤ s ∧ s ≤ 281474976710655 ∧ 0 ≤ n ∧ n ≤ 999999999 := by simp [stampB, wi] at hb; omega
    obtain ⟨hs0, hs1, hn0, hn1⟩ := hs0
    have HSB := Lib.hid hb
    obtain ⟨r, hr⟩ : ∃ r, timeF s n = r := ⟨_, rfl⟩
    obtain ⟨m, hm⟩ : ∃ m, timeE s n = m := ⟨_, rfl⟩
    rw [hr, hm]
    have HR := Lib.hid hr
    have HM := Lib.hid hm
    have ST := Lib.hid hst
    clear hst hb hr hm
    go_enter Try.func79, Try.ntmps79
    go_wp2_with fail
    refine (ST.out _).mono ?_
    rintro e w1 ⟨rfl, hb1⟩
    have HB := Lib.hid (below_then ((Below.refl _ _).alloc (Nat.le_refl _) _) hb1)
    have c0 : w1.cell? ⟨w.heap.size, 0, none⟩ = some (.int .i64 s) := by rw [hb1.cell (by simp)]; rw [cell_of_row _ _ _ _ _ (0, 0) (heap_alloc_new w _)]; rfl
    have c1 : w1.cell? ⟨w.heap.size, 1, none⟩ = some (.int .i64 n) := by rw [hb1.cell (by simp)]; rw [cell_of_row _ _ _ _ _ (0, 0) (heap_alloc_new w _)]; rfl
    clear hb1
    by_cases h1 : s ≤ 5791011200
    · have d1 : decide (5791011200 < s) = false := by simpa using h1
      by_cases h2 : (s + 2208988800) * 1000000000 + n ≤ 8000000000000000000
      · have d2 : decide (8000000000000000000 < (s + 2208988800) * 1000000000 + n) = false := by simpa using h2
        have e1 : r = (s + 2208988800) * 1000000000 + n := by rw [← HR.out]; simp [timeF, timeB, HSB.out, h1, h2]
        have e2 : m = 0 := by rw [← HM.out]; simp [timeE, timeB, HSB.out, h1, h2]
        subst e1 e2
        go_wp2_with fail
        go_ret2
        exact ⟨rfl, HB.out⟩
      · have d2 : decide (8000000000000000000 < (s + 2208988800) * 1000000000 + n) = true := by simpa using h2
        have e1 : r = 0 := by rw [← HR.out]; simp [timeF, timeB, HSB.out, h1, h2]
        have e2 : m = 3 := by rw [← HM.out]; simp [timeE, timeB, HSB.out, h1, h2]
        subst e1 e2
        go_wp2_with fail
        go_ret2
        exact ⟨rfl, HB.out⟩
    · have d1 : decide (5791011200 < s) = true := by simpa using h1
      have e1 : r = 0 := by rw [← HR.out]; simp [timeF, timeB, HSB.out, h1]
      have e2 : m = 3 := by rw [← HM.out]; simp [timeE, timeB, HSB.out, h1]
      subst e1 e2
      go_wp2_with fail
      go_ret2
      exact ⟨rfl, HB.out⟩
theorem timeF_range (s n : Int) : 0 ≤ timeF s n ∧ timeF s n ≤ 8000000000000000000 := by
  unfold timeF
  split
  · rename_i h
    simp [timeB, stampB, wi] at h
    omega
  · omega
def atF (s n : Int) : Int := timeF s n - 3900000000000000000
def atB (s n : Int) : Bool := timeB s n && instB (atF s n)
theorem at_any (s n : Int) (w : World) : Calls Try.prog 67 #[stampV s n] w fun e w' => e = .returned (.tuple #[.int .i64 (atF s n), .bool (atB s n)]) ∧ Below w.heap.size w w' := by
  have ht := time_any s n
  have hr := timeF_range s n
  have hE : timeE s n = if timeB s n = true then 0 else 3 := rfl
  unfold atB atF
  obtain ⟨t, hT⟩ : ∃ t, timeF s n = t := ⟨_, rfl⟩
  rw [hT] at ht hr
  rw [hT]
  rw [hE] at ht
  clear hT hE
  obtain ⟨hr0, hr1⟩ := hr
  cases hb : timeB s n
  all_goals rw [hb] at ht
  · simp only [Bool.false_eq_true, if_false] at ht
    have HT := Lib.hid ht
    clear ht hb
    go_enter Try.func67, Try.ntmps67
    go_wp2_with fail
    refine (HT.out _).mono ?_
    rintro e w1 ⟨rfl, hb1⟩
    have HB := Lib.hid (below_then ((Below.refl _ _).alloc (Nat.le_refl _) _) hb1)
    clear hb1
    go_wp2_with fail
    go_ret2
    exact ⟨rfl, HB.out⟩
  · simp only [if_true] at ht
    have HT := Lib.hid ht
    clear ht hb
    go_enter Try.func67, Try.ntmps67
    go_wp2_with fail
    refine (HT.out _).mono ?_
    rintro e w1 ⟨rfl, hb1⟩
    have HB := Lib.hid (below_then ((Below.refl _ _).alloc (Nat.le_refl _) _) hb1)
    clear hb1
    go_wp2_with (go_at_call 60; refine (inst_any _ _).mono ?_; rintro e _ ⟨rfl, rfl⟩)
    go_ret2
    exact ⟨rfl, HB.out⟩
end Go.Proofs.Ytfbmlpdomfchpaa
/- AddCorr; what an exchange of e2e is, and what a call that writes its block alone leaves. -/
namespace Go.Proofs.Ytfbmlpdomfchpaa
open Go.RowKit
set_option linter.unusedVariables false
set_option linter.unusedSimpArgs false

def overB (a b : Int) : Bool := decide (bits .and .i64 (bits .xor .i64 a (wrap64 (a + b))) (bits .xor .i64 b (wrap64 (a + b))) < 0)
def sumF (a b : Int) : Int := if overB a b = true then (if a < 0 then -9223372036854775808 else 9223372036854775807) else wrap64 (a + b)
theorem add_any (a b : Int) (w : World) : Calls Try.prog 80 #[.int .i64 a, .int .i64 b] w fun e w' => e = .returned (.tuple #[.int .i64 (if overB a b = true then 0 else wrap64 (a + b)), .bool (!overB a b)]) ∧ w = w' := by
  cases h : overB a b
  all_goals unfold overB at h
  all_goals simp only [Bool.false_eq_true, if_false, if_true]
  all_goals go_enter Try.func80, Try.ntmps80
  all_goals go_wp2_with fail
  all_goals go_ret2
  all_goals exact ⟨rfl, rfl⟩
theorem addc_any (a b : Int) (w : World) : Calls Try.prog 68 #[.int .i64 a, .int .i64 b] w fun e w' => e = .returned (.tuple #[.int .i64 (sumF a b), .bool (!overB a b)]) ∧ w = w' := by
  have ha := add_any a b
  obtain ⟨r, hr⟩ : ∃ r, sumF a b = r := ⟨_, rfl⟩
  rw [hr]
  have HR := Lib.hid hr
  clear hr
  cases h : overB a b
  all_goals rw [h] at ha
  all_goals simp only [Bool.false_eq_true, if_false, if_true] at ha
  · have e1 : r = wrap64 (a + b) := by rw [← HR.out]; simp [sumF, h]
    subst e1
    have HA := Lib.hid ha
    clear ha h
    go_enter Try.func68, Try.ntmps68
    go_wp2_with fail
    refine (HA.out _).mono ?_
    rintro e _ ⟨rfl, rfl⟩
    go_wp2_with fail
    go_ret2
    exact ⟨rfl, rfl⟩
  · have HA := Lib.hid ha
    have HO := Lib.hid h
    clear ha h
    by_cases hn : a < 0
    · have e1 : r = -9223372036854775808 := by rw [← HR.out]; simp [sumF, HO.out, hn]
      subst e1
      go_enter Try.func68, Try.ntmps68
      go_wp2_with fail
      refine (HA.out _).mono ?_
      rintro e _ ⟨rfl, rfl⟩
      go_wp2_with fail
      go_ret2
      exact ⟨rfl, rfl⟩
    · have e1 : r = 9223372036854775807 := by rw [← HR.out]; simp [sumF, HO.out, hn]
      subst e1
      go_enter Try.func68, Try.ntmps68
      go_wp2_with fail
      refine (HA.out _).mono ?_
      rintro e _ ⟨rfl, rfl⟩
      go_wp2_with fail
      go_ret2
      exact ⟨rfl, rfl⟩

def Ptp.zero : Ptp := ⟨0, 0, 0, 0, 0, 0, 0, 0, 0, 0, 0, 0, .zero⟩
/-- An exchange. -/
structure Ex where
  dom : Int
  waits : Bool
  sync : Ptp
  came : Int
  complete : Bool
  gap : Int
  pending : Bool
  seq : Int
  t3 : Int
  known : Bool
  delay : Int
def Ex.new (d : Int) : Ex := ⟨d, false, .zero, 0, false, 0, false, 0, 0, false, 0⟩
abbrev Ex.cells (x : Ex) : Array Value := #[.int .i64 x.dom, .bool x.waits, .int .i64 x.sync.kind, .int .i64 x.sync.domain, .int .i64 x.sync.flags, .int .i64 x.sync.corr, .int .u64 x.sync.clock, .int .i64 x.sync.port, .int .i64 x.sync.seq, .int .i64 x.sync.logInt, .int .i64 x.sync.sec, .int .i64 x.sync.nano, .int .u64 x.sync.reqClock, .int .i64 x.sync.reqPort, .int .i64 x.sync.ann.utc, .int .i64 x.sync.ann.p1, .int .i64 x.sync.ann.cls, .int .i64 x.sync.ann.acc, .int .i64 x.sync.ann.var, .int .i64 x.sync.ann.p2, .int .u64 x.sync.ann.gm, .int .i64 x.sync.ann.steps, .int .i64 x.sync.ann.source, .int .i64 x.came, .bool x.complete, .int .i64 x.gap, .bool x.pending, .int .i64 x.seq, .int .i64 x.t3, .bool x.known, .int .i64 x.delay]
/-- An exchange lies in a block of its own. -/
def ExAt (w : World) (b : Nat) (x : Ex) : Prop := w.heap[b]? = some (.cells x.cells 102 (0, 0))
theorem ExAt.lt {w : World} {b : Nat} {x : Ex} (h : ExAt w b x) : b < w.heap.size := (Array.getElem?_eq_some_iff.1 h).1
theorem ExAt.cell {w : World} {b : Nat} {x : Ex} (h : ExAt w b x) (j : Nat) : w.cell? ⟨b, j, none⟩ = x.cells[j]? := cell_of_row w b j _ _ (0, 0) h
theorem ExAt.free {w : World} {b : Nat} {x : Ex} (h : ExAt w b x) (j : Nat) : w.frozen? ⟨b, j, none⟩ = false := frozen_of_row w b j _ _ h
/-- What lay in w lies as it did, but for the block b. -/
structure Touch (b : Nat) (w w' : World) : Prop where
  os : w'.os = w.os
  tape : w'.tape = w.tape
  output : w'.output = w.output
  size : w.heap.size ≤ w'.heap.size
  block : ∀ k, k < w.heap.size → k ≠ b → w'.heap[k]? = w.heap[k]?
theorem Touch.of {b : Nat} {w w' : World} (h : Below w.heap.size w w') : Touch b w w' := ⟨h.os, h.tape, h.output, h.size, fun k hk _ => h.block k hk⟩
theorem Touch.refl (b : Nat) (w : World) : Touch b w w := ⟨rfl, rfl, rfl, Nat.le_refl _, fun _ _ _ => rfl⟩
theorem Touch.trans {b : Nat} {u v w : World} (h : Touch b u v) (k : Touch b v w) : Touch b u w :=
  ⟨k.os.trans h.os, k.tape.trans h.tape, k.output.trans h.output, Nat.le_trans h.size k.size, fun i hi hb => (k.block i (Nat.lt_of_lt_of_le hi h.size) hb).trans (h.block i hi hb)⟩
theorem Touch.set {b : Nat} {u w : World} (h : Touch b u w) (j : Nat) (v : Value) : Touch b u (w.setCell ⟨b, j, none⟩ v) :=
  ⟨h.os, h.tape, h.output, by simpa using h.size, fun k hk hb => (heap_setCell_other w ⟨b, j, none⟩ k v hb).trans (h.block k hk hb)⟩
theorem Touch.alloc {b : Nat} {u w : World} (h : Touch b u w) (o : Obj) : Touch b u (w.alloc o) := h.trans (.of ((Below.refl _ _).alloc (Nat.le_refl _) o))
theorem Touch.drewN {b : Nat} {u w : World} (h : Touch b u w) (n : Nat) : Touch b u (w.drewN n) := ⟨h.os, h.tape, h.output, h.size, h.block⟩
theorem Touch.below {B b : Nat} {u w w' : World} (h : Below B u w) (k : Touch b w w') (hb : B ≤ b) (hB : B ≤ u.heap.size) : Below B u w' :=
  ⟨k.os.trans h.os, k.tape.trans h.tape, k.output.trans h.output, Nat.le_trans h.size k.size, fun i hi => (k.block i (Nat.lt_of_lt_of_le (Nat.lt_of_lt_of_le hi hB) h.size) (by omega)).trans (h.block i hi)⟩
theorem ExAt.touch {w w' : World} {b c : Nat} {x : Ex} (h : ExAt w c x) (k : Touch b w w') (hc : c ≠ b) : ExAt w' c x := (k.block c h.lt hc).trans h
theorem ExAt.below {w w' : World} {c : Nat} {x : Ex} (h : ExAt w c x) (k : Below w.heap.size w w') : ExAt w' c x := (k.block c h.lt).trans h
theorem Touch.cell {b : Nat} {w w' : World} (k : Touch b w w') {a : Addr} (ha : a.block ≠ b) (hl : a.block < w.heap.size) : w'.cell? a = w.cell? a := by
  simp only [World.cell?, k.block a.block hl ha]
theorem Touch.cell' {b : Nat} {w w' : World} (k : Touch b w w') {a : Addr} {v : Value} (h : w.cell? a = some v) (ha : a.block ≠ b) : w'.cell? a = some v :=
  (k.cell ha (World.block_lt_of_cell? w a h)).trans h
theorem PtpBox.touch {b : Nat} {w w' : World} {g : Nat} {p : Ptp} (h : PtpBox w g p) (k : Touch b w w') (hg : g ≠ b) (hl : g < w.heap.size) : PtpBox w' g p := fun j hj => (k.cell (a := ⟨g, j, none⟩) hg hl).trans (h j hj)
theorem heap_set {w : World} {b : Nat} {cs : Array Value} {t : TypeId} (h : w.heap[b]? = some (.cells cs t (0, 0))) (j : Nat) (v : Value) : (w.setCell ⟨b, j, none⟩ v).heap[b]? = some (.cells (cs.setIfInBounds j v) t (0, 0)) := heap_setCell_same w b j cs t v h
end Go.Proofs.Ytfbmlpdomfchpaa
