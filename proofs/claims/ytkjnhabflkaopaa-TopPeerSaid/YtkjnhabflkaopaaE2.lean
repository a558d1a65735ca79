/- AddCorr; what an exchange of e2e is, and what a call that writes its block alone leaves. -/
import Derived.WalkKit
import Derived.LoopTactic
import Derived.Outline
import Derived.Lib.Hide
import Derived.Test.YtkjnhabflkaopaaE1
import Derived.Test.YtkjnhabflkaopaaPm3
namespace Go.Proofs.Ytkjnhabflkaopaa
open Go.RowKit
set_option linter.unusedVariables false
set_option linter.unusedSimpArgs false

def overB (a b : Int) : Bool := decide (bits .and .i64 (bits .xor .i64 a (wrap64 (a + b))) (bits .xor .i64 b (wrap64 (a + b))) < 0)
def sumF (a b : Int) : Int := if overB a b = true then (if a < 0 then -9223372036854775808 else 9223372036854775807) else wrap64 (a + b)
theorem add_any (a b : Int) (w : World) : Calls Try.prog 49 #[.int .i64 a, .int .i64 b] w fun e w' => e = .returned (.tuple #[.int .i64 (if overB a b = true then 0 else wrap64 (a + b)), .bool (!overB a b)]) ∧ w = w' := by
  cases h : overB a b
  all_goals unfold overB at h
  all_goals simp only [Bool.false_eq_true, if_false, if_true]
  all_goals go_enter Try.func49, Try.ntmps49
  all_goals go_wp2_with fail
  all_goals go_ret2
  all_goals exact ⟨rfl, rfl⟩
theorem addc_any (a b : Int) (w : World) : Calls Try.prog 29 #[.int .i64 a, .int .i64 b] w fun e w' => e = .returned (.tuple #[.int .i64 (sumF a b), .bool (!overB a b)]) ∧ w = w' := by
  have ha := add_any a b
  obtain ⟨r, hr⟩ : ∃ r, sumF a b = r := ⟨_, rfl⟩
  rw [hr]
  have HR := Lib.hid hr
  clear hr
  cases h : overB a b
  all_goals rw [h] at ha
  all_goals simp only [Bool.false_eq_true, if_false, if_true] at ha
  · have e1 : r = wrap64 (a + b) := by rw [← HR.out]; simp [sumF, h]
    subst e1
    have HA := Lib.hid ha
    clear ha h
    go_enter Try.func29, Try.ntmps29
    go_wp2_with fail
    refine (HA.out _).mono ?_
    rintro e _ ⟨rfl, rfl⟩
    go_wp2_with fail
    go_ret2
    exact ⟨rfl, rfl⟩
  · have HA := Lib.hid ha
    have HO := Lib.hid h
    clear ha h
    by_cases hn : a < 0
    · have e1 : r = -9223372036854775808 := by rw [← HR.out]; simp [sumF, HO.out, hn]
      subst e1
      go_enter Try.func29, Try.ntmps29
      go_wp2_with fail
      refine (HA.out _).mono ?_
      rintro e _ ⟨rfl, rfl⟩
      go_wp2_with fail
      go_ret2
      exact ⟨rfl, rfl⟩
    · have e1 : r = 9223372036854775807 := by rw [← HR.out]; simp [sumF, HO.out, hn]
      subst e1
      go_enter Try.func29, Try.ntmps29
      go_wp2_with fail
      refine (HA.out _).mono ?_
      rintro e _ ⟨rfl, rfl⟩
      go_wp2_with fail
      go_ret2
      exact ⟨rfl, rfl⟩

def Ptp.zero : Ptp := ⟨0, 0, 0, 0, 0, 0, 0, 0, 0, 0, 0, 0, .zero⟩
/-- An exchange. -/
structure Ex where
  dom : Int
  waits : Bool
  sync : Ptp
  came : Int
  complete : Bool
  gap : Int
  pending : Bool
  seq : Int
  t3 : Int
  known : Bool
  delay : Int
def Ex.new (d : Int) : Ex := ⟨d, false, .zero, 0, false, 0, false, 0, 0, false, 0⟩
abbrev Ex.cells (x : Ex) : Array Value := #[.int .i64 x.dom, .bool x.waits, .int .i64 x.sync.kind, .int .i64 x.sync.domain, .int .i64 x.sync.flags, .int .i64 x.sync.corr, .int .u64 x.sync.clock, .int .i64 x.sync.port, .int .i64 x.sync.seq, .int .i64 x.sync.logInt, .int .i64 x.sync.sec, .int .i64 x.sync.nano, .int .u64 x.sync.reqClock, .int .i64 x.sync.reqPort, .int .i64 x.sync.ann.utc, .int .i64 x.sync.ann.p1, .int .i64 x.sync.ann.cls, .int .i64 x.sync.ann.acc, .int .i64 x.sync.ann.var, .int .i64 x.sync.ann.p2, .int .u64 x.sync.ann.gm, .int .i64 x.sync.ann.steps, .int .i64 x.sync.ann.source, .int .i64 x.came, .bool x.complete, .int .i64 x.gap, .bool x.pending, .int .i64 x.seq, .int .i64 x.t3, .bool x.known, .int .i64 x.delay]
/-- An exchange lies in a block of its own. -/
def ExAt (w : World) (b : Nat) (x : Ex) : Prop := w.heap[b]? = some (.cells x.cells 84 (0, 0))
theorem ExAt.lt {w : World} {b : Nat} {x : Ex} (h : ExAt w b x) : b < w.heap.size := (Array.getElem?_eq_some_iff.1 h).1
theorem ExAt.cell {w : World} {b : Nat} {x : Ex} (h : ExAt w b x) (j : Nat) : w.cell? ⟨b, j, none⟩ = x.cells[j]? := cell_of_row w b j _ _ (0, 0) h
theorem ExAt.free {w : World} {b : Nat} {x : Ex} (h : ExAt w b x) (j : Nat) : w.frozen? ⟨b, j, none⟩ = false := frozen_of_row w b j _ _ h
/-- What lay in w lies as it did, but for the block b. -/
structure Touch (b : Nat) (w w' : World) : Prop where
  os : w'.os = w.os
  tape : w'.tape = w.tape
  output : w'.output = w.output
  size : w.heap.size ≤ w'.heap.size
  block : ∀ k, k < w.heap.size → k ≠ b → w'.heap[k]? = w.heap[k]?
theorem Touch.of {b : Nat} {w w' : World} (h : Below w.heap.size w w') : Touch b w w' := ⟨h.os, h.tape, h.output, h.size, fun k hk _ => h.block k hk⟩
theorem Touch.refl (b : Nat) (w : World) : Touch b w w := ⟨rfl, rfl, rfl, Nat.le_refl _, fun _ _ _ => rfl⟩
theorem Touch.trans {b : Nat} {u v w : World} (h : Touch b u v) (k : Touch b v w) : Touch b u w :=
  ⟨k.os.trans h.os, k.tape.trans h.tape, k.output.trans h.output, Nat.le_trans h.size k.size, fun i hi hb => (k.block i (Nat.lt_of_lt_of_le hi h.size) hb).trans (h.block i hi hb)⟩
theorem Touch.set {b : Nat} {u w : World} (h : Touch b u w) (j : Nat) (v : Value) : Touch b u (w.setCell ⟨b, j, none⟩ v) :=
  ⟨h.os, h.tape, h.output, by simpa using h.size, fun k hk hb => (heap_setCell_other w ⟨b, j, none⟩ k v hb).trans (h.block k hk hb)⟩
theorem Touch.alloc {b : Nat} {u w : World} (h : Touch b u w) (o : Obj) : Touch b u (w.alloc o) := h.trans (.of ((Below.refl _ _).alloc (Nat.le_refl _) o))
theorem Touch.drewN {b : Nat} {u w : World} (h : Touch b u w) (n : Nat) : Touch b u (w.drewN n) := ⟨h.os, h.tape, h.output, h.size, h.block⟩
theorem Touch.below {B b : Nat} {u w w' : World} (h : Below B u w) (k : Touch b w w') (hb : B ≤ b) (hB : B ≤ u.heap.size) : Below B u w' :=
  ⟨k.os.trans h.os, k.tape.trans h.tape, k.output.trans h.output, Nat.le_trans h.size k.size, fun i hi => (k.block i (Nat.lt_of_lt_of_le (Nat.lt_of_lt_of_le hi hB) h.size) (by omega)).trans (h.block i hi)⟩
theorem ExAt.touch {w w' : World} {b c : Nat} {x : Ex} (h : ExAt w c x) (k : Touch b w w') (hc : c ≠ b) : ExAt w' c x := (k.block c h.lt hc).trans h
theorem ExAt.below {w w' : World} {c : Nat} {x : Ex} (h : ExAt w c x) (k : Below w.heap.size w w') : ExAt w' c x := (k.block c h.lt).trans h
theorem Touch.cell {b : Nat} {w w' : World} (k : Touch b w w') {a : Addr} (ha : a.block ≠ b) (hl : a.block < w.heap.size) : w'.cell? a = w.cell? a := by
  simp only [World.cell?, k.block a.block hl ha]
theorem Touch.cell' {b : Nat} {w w' : World} (k : Touch b w w') {a : Addr} {v : Value} (h : w.cell? a = some v) (ha : a.block ≠ b) : w'.cell? a = some v :=
  (k.cell ha (World.block_lt_of_cell? w a h)).trans h
theorem PtpBox.touch {b : Nat} {w w' : World} {g : Nat} {p : Ptp} (h : PtpBox w g p) (k : Touch b w w') (hg : g ≠ b) (hl : g < w.heap.size) : PtpBox w' g p := fun j hj => (k.cell (a := ⟨g, j, none⟩) hg hl).trans (h j hj)
theorem heap_set {w : World} {b : Nat} {cs : Array Value} {t : TypeId} (h : w.heap[b]? = some (.cells cs t (0, 0))) (j : Nat) (v : Value) : (w.setCell ⟨b, j, none⟩ v).heap[b]? = some (.cells (cs.setIfInBounds j v) t (0, 0)) := heap_setCell_same w b j cs t v h
end Go.Proofs.Ytkjnhabflkaopaa
