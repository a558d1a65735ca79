/- What a call that writes one block alone leaves. -/
import Derived.WalkKit
import Derived.Lib.Hide
import Derived.Test.YtboijaffpnmcaaaF5
namespace Go.Proofs.Ytboijaffpnmcaaa
open Go.RowKit
set_option linter.unusedVariables false
set_option linter.unusedSimpArgs false

/-- What lay in w lies as it did, but for the block b. -/
structure Touch (b : Nat) (w w' : World) : Prop where
  os : w'.os = w.os
  tape : w'.tape = w.tape
  output : w'.output = w.output
  size : w.heap.size ≤ w'.heap.size
  block : ∀ k, k < w.heap.size → k ≠ b → w'.heap[k]? = w.heap[k]?
theorem Touch.of {b : Nat} {w w' : World} (h : Below w.heap.size w w') : Touch b w w' := ⟨h.os, h.tape, h.output, h.size, fun k hk _ => h.block k hk⟩
theorem Touch.refl (b : Nat) (w : World) : Touch b w w := ⟨rfl, rfl, rfl, Nat.le_refl _, fun _ _ _ => rfl⟩
theorem Touch.trans {b : Nat} {u v w : World} (h : Touch b u v) (k : Touch b v w) : Touch b u w :=
  ⟨k.os.trans h.os, k.tape.trans h.tape, k.output.trans h.output, Nat.le_trans h.size k.size, fun i hi hb => (k.block i (Nat.lt_of_lt_of_le hi h.size) hb).trans (h.block i hi hb)⟩
theorem Touch.set {b : Nat} {u w : World} (h : Touch b u w) (j : Nat) (v : Value) : Touch b u (w.setCell ⟨b, j, none⟩ v) :=
  ⟨h.os, h.tape, h.output, by simpa using h.size, fun k hk hb => (heap_setCell_other w ⟨b, j, none⟩ k v hb).trans (h.block k hk hb)⟩
theorem Touch.alloc {b : Nat} {u w : World} (h : Touch b u w) (o : Obj) : Touch b u (w.alloc o) := h.trans (.of ((Below.refl _ _).alloc (Nat.le_refl _) o))
theorem Touch.drewN {b : Nat} {u w : World} (h : Touch b u w) (n : Nat) : Touch b u (w.drewN n) := ⟨h.os, h.tape, h.output, h.size, h.block⟩
theorem Touch.below {B b : Nat} {u w w' : World} (h : Below B u w) (k : Touch b w w') (hb : B ≤ b) (hB : B ≤ u.heap.size) : Below B u w' :=
  ⟨k.os.trans h.os, k.tape.trans h.tape, k.output.trans h.output, Nat.le_trans h.size k.size, fun i hi => (k.block i (Nat.lt_of_lt_of_le (Nat.lt_of_lt_of_le hi hB) h.size) (by omega)).trans (h.block i hi)⟩
theorem Touch.cell {b : Nat} {w w' : World} (k : Touch b w w') {a : Addr} (ha : a.block ≠ b) (hl : a.block < w.heap.size) : w'.cell? a = w.cell? a := by
  simp only [World.cell?, k.block a.block hl ha]
theorem Touch.cell' {b : Nat} {w w' : World} (k : Touch b w w') {a : Addr} {v : Value} (h : w.cell? a = some v) (ha : a.block ≠ b) : w'.cell? a = some v :=
  (k.cell ha (World.block_lt_of_cell? w a h)).trans h
theorem heap_set {w : World} {b : Nat} {cs : Array Value} {t : TypeId} (h : w.heap[b]? = some (.cells cs t (0, 0))) (j : Nat) (v : Value) : (w.setCell ⟨b, j, none⟩ v).heap[b]? = some (.cells (cs.setIfInBounds j v) t (0, 0)) := heap_setCell_same w b j cs t v h
end Go.Proofs.Ytboijaffpnmcaaa
