/- A region that draws its order, whose operations only read and whose callees leave all that was there as it was: one walk in the order of the text serves every order. -/
import Derived.WalkKit
import Derived.Deep.QuietTactic
import Derived.BigQuiet
import Derived.Below
namespace Go.Proofs.Ytfbmlpdomfchpaa
open Go.RowKit
set_option linter.unusedVariables false
set_option linter.unusedSimpArgs false

/-- A world in which all that lay in w lies as it did. -/
structure Aft (w : World) where
  now : World
  below : Below w.heap.size w now
instance (w : World) : Nonempty (Aft w) := ⟨⟨w, Below.refl _ _⟩⟩
theorem below_then {a b c : World} (h : Below a.heap.size a b) (k : Below b.heap.size b c) : Below a.heap.size a c := h.trans (k.mono h.size)
theorem below_drewN {B : Nat} {a w : World} (h : Below B a w) (n : Nat) : Below B a (w.drewN n) := ⟨h.os, h.tape, h.output, h.size, h.block⟩
theorem wp_region_calm {P : Program} {id : Nat} {Q : Exit → Act → World → Prop} {a : Act} {w : World} {l : List Oper} (hm : P.follows .mixedOrders = true) (hB : Region.lexB .any l.toArray = true)
    (h : wpQuiet P l.toArray (fun w' => ∃ u : Aft w, w' = u.now) (fun a' => ∀ w', (∃ u : Aft w, w' = u.now) → Q .normal a' w') l a) : (Code.region id l.toArray true).wp P Q a w :=
  wp_region_quiet (C := fun w' => ∃ u : Aft w, w' = u.now) hm hB ⟨⟨w.drewN 1, below_drewN (Below.refl _ _) 1⟩, rfl⟩ (by simpa using h)
theorem wp_region_calm_at {P : Program} {id : Nat} {Q : Exit → Act → World → Prop} {a : Act} {w : World} {u : Aft w} {l : List Oper} (hm : P.follows .mixedOrders = true) (hB : Region.lexB .any l.toArray = true)
    (h : wpQuiet P l.toArray (fun w' => ∃ u : Aft w, w' = u.now) (fun a' => ∀ w', (∃ u : Aft w, w' = u.now) → Q .normal a' w') l a) : (Code.region id l.toArray true).wp P Q a u.now :=
  wp_region_quiet (C := fun w' => ∃ u : Aft w, w' = u.now) hm hB ⟨⟨u.now.drewN 1, below_drewN u.below 1⟩, rfl⟩ (by simpa using h)
theorem calm_of {P : Program} {f : FuncId} {args : Array Value} {w : World} {u : Aft w} {v : Value}
    (h : Calls P f args u.now fun e w' => e = .returned v ∧ Below u.now.heap.size u.now w') : Calls P f args u.now fun e w'' => e = .returned v ∧ ∃ u' : Aft w, w'' = u'.now :=
  h.mono fun _ w' ⟨he, hb⟩ => ⟨he, ⟨w', u.below.trans (hb.mono u.below.size)⟩, rfl⟩
theorem calm_same {P : Program} {f : FuncId} {args : Array Value} {w : World} {u : Aft w} {v : Value}
    (h : Calls P f args u.now fun e w' => e = .returned v ∧ u.now = w') : Calls P f args u.now fun e w'' => e = .returned v ∧ ∃ u' : Aft w, w'' = u'.now :=
  h.mono fun _ w' ⟨he, hw⟩ => ⟨he, u, hw.symm⟩
theorem Aft.cell {w : World} (u : Aft w) {a : Addr} {v : Value} (h : w.cell? a = some v) : u.now.cell? a = some v := (u.below.cell (World.block_lt_of_cell? w a h)).trans h
end Go.Proofs.Ytfbmlpdomfchpaa
