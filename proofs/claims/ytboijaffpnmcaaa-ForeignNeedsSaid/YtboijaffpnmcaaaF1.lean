/- What the records of chapter 35 are; New and Len; how many messages are recent. -/
import Derived.WalkKit
import Derived.LoopTactic
import Derived.Outline
import Derived.Lib.Hide
import Derived.Deep.QuietTactic
import Derived.BigQuiet
import Derived.Deep.MidRow
import Derived.Laws.AppendOwn
import Derived.Test.YtboijaffpnmcaaaDs3
namespace Go.Proofs.Ytboijaffpnmcaaa
open Go.RowKit
set_option linter.unusedVariables false
set_option linter.unusedSimpArgs false

/-- What is kept of a master. -/
structure Rc where
  clock : Int
  num : Int
  set : DS
  heard : List Int
/-- A record as a value, its list of times in the slice h. -/
abbrev Rc.v (r : Rc) (h : Value) : Value := .agg #[.int .u64 r.clock, .int .i64 r.num, .int .i64 r.set.p1, .int .i64 r.set.cls, .int .i64 r.set.acc, .int .i64 r.set.var, .int .i64 r.set.p2, .int .u64 r.set.gm, .int .i64 r.set.steps, .int .u64 r.set.sender, .int .i64 r.set.sport, .int .u64 r.set.recv, .int .i64 r.set.rport, h]
def Rc.cells (r : Rc) (h : Value) : List Value := [.int .u64 r.clock, .int .i64 r.num, .int .i64 r.set.p1, .int .i64 r.set.cls, .int .i64 r.set.acc, .int .i64 r.set.var, .int .i64 r.set.p2, .int .u64 r.set.gm, .int .i64 r.set.steps, .int .u64 r.set.sender, .int .i64 r.set.sport, .int .u64 r.set.recv, .int .i64 r.set.rport, h]
/-- The records of a port. -/
structure Fr where
  window : Int
  need : Int
  last : Int
  list : List Rc
def rowsF : List Rc → List Value → List Value
  | r :: rs, h :: hs => r.cells h ++ rowsF rs hs
  | _, _ => []
def intsV (l : List Int) : List Value := l.map (Value.int .i64)
/-- The records lie in the block b; lv: the slice of records, hs: the slices of times. -/
structure FrAt (w : World) (base b : Nat) (f : Fr) (lv : Value) (hs : List Value) : Prop where
  le : base ≤ b
  head : w.heap[b]? = some (.cells #[.int .i64 f.window, .int .i64 f.need, .int .i64 f.last, lv] 52 (0, 0))
  hlen : hs.length = f.list.length
  own : w.ownsRow base 57 14 lv f.list.length (rowsF f.list hs)
  each : ∀ (i : Nat) (r : Rc) (h : Value), f.list[i]? = some r → hs[i]? = some h → w.ownsRow base 3 1 h r.heard.length (intsV r.heard) ∧ r.heard ≠ [] ∧ h.ownBlock ≠ some b ∧ h.ownBlock ≠ lv.ownBlock
  lb : lv.ownBlock ≠ some b
  two : ∀ (i j : Nat) (h k : Value), hs[i]? = some h → hs[j]? = some k → h.ownBlock = k.ownBlock → i = j
/-- What the records' numbers must be. -/
structure Fr.Ok (f : Fr) : Prop where
  w0 : 1 ≤ f.window
  w1 : f.window ≤ 1125899906842624
  l0 : 0 ≤ f.last
  l1 : f.last ≤ 1125899906842624
def newF (window need : Int) : Fr := ⟨window, need, 0, []⟩
theorem FrAt.cell {w : World} {base b : Nat} {f : Fr} {lv : Value} {hs : List Value} (h : FrAt w base b f lv hs) (j : Nat) : w.cell? ⟨b, j, none⟩ = (#[.int .i64 f.window, .int .i64 f.need, .int .i64 f.last, lv] : Array Value)[j]? := cell_of_row w b j _ _ (0, 0) h.head
theorem FrAt.lt {w : World} {base b : Nat} {f : Fr} {lv : Value} {hs : List Value} (h : FrAt w base b f lv hs) : b < w.heap.size := (Array.getElem?_eq_some_iff.1 h.head).1
theorem ownsRow_below {w w' : World} {base size n : Nat} {e : TypeId} {v : Value} {xs : List Value} (h : w.ownsRow base e size v n xs) (k : Below w.heap.size w w') : w'.ownsRow base e size v n xs := by
  refine ⟨h.1, ?_⟩
  rcases h.2 with hn | ⟨g, cap, cur, rfl, hb, hg, rest⟩
  · exact .inl hn
  · exact .inr ⟨g, cap, cur, rfl, hb, (k.block g (Array.getElem?_eq_some_iff.1 hg).1).trans hg, rest⟩
theorem FrAt.below {w w' : World} {base b : Nat} {f : Fr} {lv : Value} {hs : List Value} (h : FrAt w base b f lv hs) (k : Below w.heap.size w w') : FrAt w' base b f lv hs :=
  ⟨h.le, (k.block b h.lt).trans h.head, h.hlen, ownsRow_below h.own k, fun i r v h1 h2 => ⟨ownsRow_below (h.each i r v h1 h2).1 k, (h.each i r v h1 h2).2⟩, h.lb, h.two⟩
theorem fnew_ok (window need : Int) (h0 : 1 ≤ window) (h1 : window ≤ 1125899906842624) (h2 : 1 ≤ need) (h3 : need ≤ 8) (w : World) : Calls Try.prog 9 #[.int .i64 window, .int .i64 need] w fun e w' =>
    e = .returned (.pointer (some ⟨w.heap.size, 0, none⟩)) ∧ FrAt w' w.heap.size w.heap.size (newF window need) (.slice none 0 0) [] ∧ Below w.heap.size w w' ∧ w.heap.size < w'.heap.size := by
  have d0 : decide (window < 1) = false := by simp; omega
  have d1 : decide (1125899906842624 < window) = false := by simp; omega
  have d2 : decide (need < 1) = false := by simp; omega
  have d3 : decide (8 < need) = false := by simp; omega
  go_enter Try.func9, Try.ntmps9
  go_wp2_with fail
  go_ret
  exact ⟨rfl, ⟨Nat.le_refl _, heap_alloc_new _ _, rfl, World.ownsRow_nil _ _ _ _, fun i r h h1 => by simp [newF] at h1, by simp [Value.ownBlock], fun i j h k h1 => by simp at h1⟩, (Below.refl _ _).alloc (Nat.le_refl _) _, by simp⟩
theorem fnew_bad (window need : Int) (h : window < 1 ∨ 1125899906842624 < window ∨ need < 1 ∨ 8 < need) (w : World) : Calls Try.prog 9 #[.int .i64 window, .int .i64 need] w fun e w' => e = .returned (.pointer none) ∧ w = w' := by
  by_cases g0 : window < 1
  · have d0 : decide (window < 1) = true := by simpa using g0
    go_enter Try.func9, Try.ntmps9
    go_wp2_with fail
    go_ret
    exact ⟨rfl, rfl⟩
  have d0 : decide (window < 1) = false := by simpa using g0
  by_cases g1 : 1125899906842624 < window
  · have d1 : decide (1125899906842624 < window) = true := by simpa using g1
    go_enter Try.func9, Try.ntmps9
    go_wp2_with fail
    go_ret
    exact ⟨rfl, rfl⟩
  have d1 : decide (1125899906842624 < window) = false := by simpa using g1
  by_cases g2 : need < 1
  · have d2 : decide (need < 1) = true := by simpa using g2
    go_enter Try.func9, Try.ntmps9
    go_wp2_with fail
    go_ret
    exact ⟨rfl, rfl⟩
  have d2 : decide (need < 1) = false := by simpa using g2
  have g3 : 8 < need := by omega
  have d3 : decide (8 < need) = true := by simpa using g3
  go_enter Try.func9, Try.ntmps9
  go_wp2_with fail
  go_ret
  exact ⟨rfl, rfl⟩
theorem flen_nil (w : World) : Calls Try.prog 13 #[.pointer none] w fun e w' => e = .returned (.int .i64 0) ∧ w = w' := by
  go_enter Try.func13, Try.ntmps13
  go_wp2_with fail
  go_ret
  exact ⟨rfl, rfl⟩
/-- A slice of records: nil and empty, or it says how many there are. -/
theorem FrAt.form {w : World} {base b : Nat} {f : Fr} {lv : Value} {hs : List Value} (h : FrAt w base b f lv hs) : (lv = .slice none 0 0 ∧ f.list = []) ∨ ∃ g cap, lv = .slice (some ⟨g, 0, none⟩) f.list.length cap ∧ f.list.length ≤ cap ∧ cap ≤ maxLen := by
  rcases h.own.2 with ⟨e, hn⟩ | ⟨g, cap, cur, e, _, _, hl, hm, _⟩
  · exact .inl ⟨e, List.length_eq_zero_iff.1 hn⟩
  · exact .inr ⟨g, cap, e, hl, hm⟩
theorem flen_any {f : Fr} {base b : Nat} {lv : Value} {hs : List Value} {w : World} (h : FrAt w base b f lv hs) : Calls Try.prog 13 #[.pointer (some ⟨b, 0, none⟩)] w fun e w' => e = .returned (.int .i64 f.list.length) ∧ w = w' := by
  have c3 : w.cell? ⟨b, 3, none⟩ = some lv := h.cell 3
  rcases h.form with ⟨rfl, e⟩ | ⟨g, cap, rfl, hl, hm⟩
  · rw [e]
    clear h e
    go_enter Try.func13, Try.ntmps13
    go_wp2_with fail
    go_ret
    exact ⟨rfl, rfl⟩
  · clear h hl hm
    generalize f.list.length = n at *
    go_enter Try.func13, Try.ntmps13
    go_wp2_with fail
    go_ret
    exact ⟨rfl, rfl⟩
end Go.Proofs.Ytboijaffpnmcaaa
