/- Several texts in one: Ds4, Ds5, Ds6, Ds7, Ds8, Ds9, Ds10. -/
import Derived.WalkKit
import Derived.LoopTactic
import Derived.Outline
import Derived.Lib.Hide
import Derived.WideLaws
import Derived.Laws.EntriesVeiled
import Derived.Test.YtfbmlpdomfchpaaJDa
import Derived.Test.YtfbmlpdomfchpaaEq
import Derived.Deep.QuietTactic
import Derived.BigQuiet
import Derived.Test.YtfbmlpdomfchpaaCalm
import Derived.StillTailTactics
/- The walk of dataset.Compare. -/
namespace Go.Proofs.Ytfbmlpdomfchpaa
open Go.RowKit

def I64 (x : Int) : Prop := -9223372036854775808 ≤ x ∧ x ≤ 9223372036854775807
theorem u64_wrap (x : Int) : IntKind.u64.wrap x = x % 18446744073709551616 := by
  simp [IntKind.wrap, IntKind.bits, IntKind.signed]
theorem u64_sub {a b : Int} (ha : I64 a) (hb : I64 b) (h : b < a) : IntKind.u64.wrap (IntKind.u64.wrap a - IntKind.u64.wrap b) = a - b := by
  unfold I64 at ha hb
  simp only [u64_wrap]
  omega

end Go.Proofs.Ytfbmlpdomfchpaa
/- The walks of the reference of layer 34: order. -/
namespace Go.Proofs.Ytfbmlpdomfchpaa
open Go.RowKit

theorem heap_at {w : World} {g : Nat} {o : Obj} (h : g = w.heap.size) : (w.alloc o).heap[g]? = some o := by rw [h]; exact heap_alloc_new w o

def DS.five (d : DS) : List Int := [d.p1, d.cls, d.acc, d.var, d.p2]
theorem key6_five (d : DS) : d.key6 = d.five.drop 0 ++ [d.gm] := rfl
theorem five_len (d : DS) : d.five.length = 5 := rfl
theorem lex_drop (a b : DS) (k : Nat) (hk : k < 5) : lexL (a.five.drop k ++ [a.gm]) (b.five.drop k ++ [b.gm]) = if cmpI (a.five.getD k 0) (b.five.getD k 0) = 0 then lexL (a.five.drop (k + 1) ++ [a.gm]) (b.five.drop (k + 1) ++ [b.gm]) else cmpI (a.five.getD k 0) (b.five.getD k 0) := by
  obtain rfl | rfl | rfl | rfl | rfl : k = 0 ∨ k = 1 ∨ k = 2 ∨ k = 3 ∨ k = 4 := by omega
  all_goals rfl

theorem five_nat (d : DS) (k : Nat) : d.five.getD k 0 = d.five.getD (k : Int).toNat 0 := by simp

end Go.Proofs.Ytfbmlpdomfchpaa
/- The walks of the reference of layer 34: Less, longer, Compare. -/
namespace Go.Proofs.Ytfbmlpdomfchpaa
open Go.RowKit

theorem key_lex (a b : DS) : lexL a.key b.key = if lexL a.key6 b.key6 = 0 then (if cmpI a.steps b.steps = 0 then (if cmpI a.sender b.sender = 0 then (if cmpI a.sport b.sport = 0 then (if cmpI a.recv b.recv = 0 then cmpI a.rport b.rport else cmpI a.recv b.recv) else cmpI a.sport b.sport) else cmpI a.sender b.sender) else cmpI a.steps b.steps) else lexL a.key6 b.key6 := by
  unfold DS.key
  rw [lexL_append _ _ (by rfl : a.key6.length = b.key6.length)]
  simp only [DS.key5, lexL]
  by_cases h : cmpI a.rport b.rport = 0 <;> simp [h]
theorem key3_lex (a b : DS) : lexL a.key3 b.key3 = if cmpI a.sender b.sender = 0 then (if cmpI a.rport b.rport = 0 then cmpI a.sport b.sport else cmpI a.rport b.rport) else cmpI a.sender b.sender := by
  simp only [DS.key3, lexL]
  by_cases h : cmpI a.sport b.sport = 0 <;> simp [h]

theorem verdict_lt {a b x y z : Int} (h : a < b) : verdict (cmpI a b) x y z = x := by rw [cmpI_lt h]; rfl
theorem verdict_gt {a b x y z : Int} (h : b < a) : verdict (cmpI a b) x y z = y := by rw [cmpI_gt h]; rfl
theorem verdict_eq {a b x y z : Int} (h1 : ¬ a < b) (h2 : ¬ b < a) : verdict (cmpI a b) x y z = z := by rw [cmpI_eq h1 h2]; rfl

def LongR (d : DS) (n x y : Int) : Int := if 1 < n then x else verdict (cmpI d.recv d.sender) x y 5
theorem key6_ne {a b : DS} (hg : ¬ a.gm = b.gm) : lexL a.key6 b.key6 ≠ 0 := fun h => hg (by
  have := (lexL_zero (by rfl : a.key6.length = b.key6.length)).1 h
  simp [DS.key6] at this
  exact this.2.2.2.2.2)
end Go.Proofs.Ytfbmlpdomfchpaa
/- The walks of package dataset: Best. -/
namespace Go.Proofs.Ytfbmlpdomfchpaa
open Go.RowKit
set_option linter.unusedVariables false
set_option linter.unusedSimpArgs false

/-- A data set lies at a place of a block. -/
def DSAt (w : World) (b o : Nat) (d : DS) : Prop :=
  w.cell? ⟨b, o, none⟩ = some (.int .i64 d.p1) ∧ w.cell? ⟨b, o + 1, none⟩ = some (.int .i64 d.cls) ∧ w.cell? ⟨b, o + 2, none⟩ = some (.int .i64 d.acc) ∧ w.cell? ⟨b, o + 3, none⟩ = some (.int .i64 d.var) ∧ w.cell? ⟨b, o + 4, none⟩ = some (.int .i64 d.p2) ∧ w.cell? ⟨b, o + 5, none⟩ = some (.int .u64 d.gm) ∧ w.cell? ⟨b, o + 6, none⟩ = some (.int .i64 d.steps) ∧ w.cell? ⟨b, o + 7, none⟩ = some (.int .u64 d.sender) ∧ w.cell? ⟨b, o + 8, none⟩ = some (.int .i64 d.sport) ∧ w.cell? ⟨b, o + 9, none⟩ = some (.int .u64 d.recv) ∧ w.cell? ⟨b, o + 10, none⟩ = some (.int .i64 d.rport)
theorem DSAt.below {w w1 : World} {b o : Nat} {d : DS} (h : DSAt w b o d) (hb : Below w.heap.size w w1) : DSAt w1 b o d := by
  obtain ⟨h0, h1, h2, h3, h4, h5, h6, h7, h8, h9, h10⟩ := h
  exact ⟨cell_below hb h0, cell_below hb h1, cell_below hb h2, cell_below hb h3, cell_below hb h4, cell_below hb h5, cell_below hb h6, cell_below hb h7, cell_below hb h8, cell_below hb h9, cell_below hb h10⟩
def DSRow (w : World) (b off : Nat) (l : List DS) : Prop := ∀ i, i < l.length → DSAt w b (off + i * 11) (l.getD i .zero)
theorem DSRow.below {w w1 : World} {b off : Nat} {l : List DS} (h : DSRow w b off l) (hb : Below w.heap.size w w1) : DSRow w1 b off l := fun i hi => (h i hi).below hb

theorem DSAt.aft {w : World} {b o : Nat} {d : DS} (h : DSAt w b o d) :
  (∀ u : Aft w, u.now.cell? ⟨b, o, none⟩ = some (.int .i64 d.p1)) ∧ (∀ u : Aft w, u.now.cell? ⟨b, o + 1, none⟩ = some (.int .i64 d.cls)) ∧ (∀ u : Aft w, u.now.cell? ⟨b, o + 2, none⟩ = some (.int .i64 d.acc)) ∧ (∀ u : Aft w, u.now.cell? ⟨b, o + 3, none⟩ = some (.int .i64 d.var)) ∧ (∀ u : Aft w, u.now.cell? ⟨b, o + 4, none⟩ = some (.int .i64 d.p2)) ∧ (∀ u : Aft w, u.now.cell? ⟨b, o + 5, none⟩ = some (.int .u64 d.gm)) ∧ (∀ u : Aft w, u.now.cell? ⟨b, o + 6, none⟩ = some (.int .i64 d.steps)) ∧ (∀ u : Aft w, u.now.cell? ⟨b, o + 7, none⟩ = some (.int .u64 d.sender)) ∧ (∀ u : Aft w, u.now.cell? ⟨b, o + 8, none⟩ = some (.int .i64 d.sport)) ∧ (∀ u : Aft w, u.now.cell? ⟨b, o + 9, none⟩ = some (.int .u64 d.recv)) ∧ (∀ u : Aft w, u.now.cell? ⟨b, o + 10, none⟩ = some (.int .i64 d.rport)) := by
  obtain ⟨h0, h1, h2, h3, h4, h5, h6, h7, h8, h9, h10⟩ := h
  exact ⟨fun u => u.cell h0, fun u => u.cell h1, fun u => u.cell h2, fun u => u.cell h3, fun u => u.cell h4, fun u => u.cell h5, fun u => u.cell h6, fun u => u.cell h7, fun u => u.cell h8, fun u => u.cell h9, fun u => u.cell h10⟩
theorem less_true {a b : DS} (h : lessB a b = true) (w : World) : Calls Try.prog 14 #[a.v, b.v] w fun e w' => e = .returned (.bool true) ∧ Below w.heap.size w w' := by
  have := less_any a b w; rwa [h] at this
theorem less_false {a b : DS} (h : lessB a b = false) (w : World) : Calls Try.prog 14 #[a.v, b.v] w fun e w' => e = .returned (.bool false) ∧ Below w.heap.size w w' := by
  have := less_any a b w; rwa [h] at this

end Go.Proofs.Ytfbmlpdomfchpaa
/- The walks of the reference of layer 34: Best. -/
namespace Go.Proofs.Ytfbmlpdomfchpaa
open Go.RowKit
set_option linter.unusedVariables false
set_option linter.unusedSimpArgs false

end Go.Proofs.Ytfbmlpdomfchpaa
/- The walks of Own and Step, of package dataset and of the reference of layer 34. -/
namespace Go.Proofs.Ytfbmlpdomfchpaa
open Go.RowKit
set_option linter.unusedVariables false
set_option linter.unusedSimpArgs false

structure Qual where
  p1 : Int
  cls : Int
  acc : Int
  var : Int
  p2 : Int
abbrev Qual.v (q : Qual) : Value := .agg #[.int .i64 q.p1, .int .i64 q.cls, .int .i64 q.acc, .int .i64 q.var, .int .i64 q.p2]
def ownF (q : Qual) (id : Int) : DS := ⟨q.p1, q.cls, q.acc, q.var, q.p2, id, 0, id, 0, id, 0⟩
theorem own_any (q : Qual) (id : Int) (w : World) : Calls Try.prog 10 #[q.v, .int .u64 id] w fun e w' => e = .returned (ownF q id).v ∧ Below w.heap.size w w' := by
  go_enter Try.func10, Try.ntmps10
  go_wp2
  refine bodyPost_ret (v := (ownF q id).v) (by simp [results, Try.results10, go_sem, ownF]) rfl ⟨rfl, ?_⟩
  exact ((Below.refl _ _).alloc (Nat.le_refl _) _).alloc (by simp) _
structure Hop where
  sender : Int
  recv : Int
  sport : Int
  rport : Int
abbrev Hop.v (h : Hop) : Value := .agg #[.int .u64 h.sender, .int .u64 h.recv, .int .i64 h.sport, .int .i64 h.rport]
def stepF (d : DS) (s : Int) (sp : Int) (r : Int) (rp : Int) : DS := if 32 ≤ d.steps then .zero else { d with steps := d.steps + 1, sender := s, sport := sp, recv := r, rport := rp }
def stepE (d : DS) : Int := if 32 ≤ d.steps then 3 else 0
end Go.Proofs.Ytfbmlpdomfchpaa
/- The walk of the examples of chapter 34. -/
namespace Go.Proofs.Ytfbmlpdomfchpaa
open Go.RowKit
set_option linter.unusedVariables false
set_option linter.unusedSimpArgs false

def exA : DS := ⟨0, 0, 0, 0, 0, 1, 1, 0, 0, 0, 0⟩
def exB : DS := ⟨0, 0, 0, 0, 0, 1, 3, 0, 0, 0, 0⟩
def exC : DS := ⟨128, 6, 0, 0, 0, 9, 20, 0, 0, 0, 0⟩
def exD : DS := ⟨128, 7, 0, 0, 0, 2, 0, 0, 0, 0, 0⟩
def exO : DS := ⟨1, 0, 0, 0, 5, 7, 0, 7, 0, 7, 0⟩
theorem ex3 (w : World) : Calls Try.prog 14 #[exC.v, exD.v] w fun e w' => e = .returned (.bool true) ∧ Below w.heap.size w w' := less_any exC exD w
theorem ex4 (w : World) : Calls Try.prog 14 #[exD.v, exC.v] w fun e w' => e = .returned (.bool false) ∧ Below w.heap.size w w' := less_any exD exC w
theorem ex5 (w : World) : Calls Try.prog 10 #[(⟨1, 0, 0, 0, 5⟩ : Qual).v, .int .u64 7] w fun e w' => e = .returned exO.v ∧ Below w.heap.size w w' := own_any ⟨1, 0, 0, 0, 5⟩ 7 w
/-- The cells of a data set, and of a list of them. -/
def DS.cells (d : DS) : List Value := [.int .i64 d.p1, .int .i64 d.cls, .int .i64 d.acc, .int .i64 d.var, .int .i64 d.p2, .int .u64 d.gm, .int .i64 d.steps, .int .u64 d.sender, .int .i64 d.sport, .int .u64 d.recv, .int .i64 d.rport]
theorem flat_at (l : List DS) (i j : Nat) (hi : i < l.length) (hj : j < 11) : (l.flatMap DS.cells)[i * 11 + j]? = (l.getD i .zero).cells[j]? := by
  induction l generalizing i with
  | nil => simp at hi
  | cons d l ih =>
    rw [List.flatMap_cons]
    cases i with
    | zero =>
      rw [List.getElem?_append_left (by simp [DS.cells]; omega)]
      simp
    | succ i =>
      rw [List.getElem?_append_right (by simp [DS.cells]; omega)]
      have := ih i (by simpa using hi)
      simp only [List.getD_cons_succ]
      rw [← this]
      congr 1
      simp [DS.cells]
      omega
theorem DSRow.of {w : World} {g : Nat} {cs : Array Value} {t : TypeId} (h : w.heap[g]? = some (.cells cs t (0, 0))) (l : List DS) (hc : cs = (l.flatMap DS.cells).toArray) : DSRow w g 0 l := by
  intro i hi
  have hx : ∀ j, j < 11 → w.cell? ⟨g, 0 + i * 11 + j, none⟩ = (l.getD i .zero).cells[j]? := fun j hj => by
    rw [cell_of_row w g _ _ _ (0, 0) h, hc, Nat.zero_add, ← flat_at l i j hi hj]
    simp
  exact ⟨hx 0 (by omega), hx 1 (by omega), hx 2 (by omega), hx 3 (by omega), hx 4 (by omega), hx 5 (by omega), hx 6 (by omega), hx 7 (by omega), hx 8 (by omega), hx 9 (by omega), hx 10 (by omega)⟩
theorem BoxAt.aft {w : World} {b : Nat} {d : DS} (h : BoxAt w b d) :
  (∀ u : Aft w, u.now.cell? ⟨b, 0, none⟩ = some (.int .i64 d.p1)) ∧ (∀ u : Aft w, u.now.cell? ⟨b, 1, none⟩ = some (.int .i64 d.cls)) ∧ (∀ u : Aft w, u.now.cell? ⟨b, 2, none⟩ = some (.int .i64 d.acc)) ∧ (∀ u : Aft w, u.now.cell? ⟨b, 3, none⟩ = some (.int .i64 d.var)) ∧ (∀ u : Aft w, u.now.cell? ⟨b, 4, none⟩ = some (.int .i64 d.p2)) ∧ (∀ u : Aft w, u.now.cell? ⟨b, 5, none⟩ = some (.int .u64 d.gm)) ∧ (∀ u : Aft w, u.now.cell? ⟨b, 6, none⟩ = some (.int .i64 d.steps)) ∧ (∀ u : Aft w, u.now.cell? ⟨b, 7, none⟩ = some (.int .u64 d.sender)) ∧ (∀ u : Aft w, u.now.cell? ⟨b, 8, none⟩ = some (.int .i64 d.sport)) ∧ (∀ u : Aft w, u.now.cell? ⟨b, 9, none⟩ = some (.int .u64 d.recv)) ∧ (∀ u : Aft w, u.now.cell? ⟨b, 10, none⟩ = some (.int .i64 d.rport)) := by
  obtain ⟨h0, h1, h2, h3, h4, h5, h6, h7, h8, h9, h10⟩ := h
  exact ⟨fun u => u.cell h0, fun u => u.cell h1, fun u => u.cell h2, fun u => u.cell h3, fun u => u.cell h4, fun u => u.cell h5, fun u => u.cell h6, fun u => u.cell h7, fun u => u.cell h8, fun u => u.cell h9, fun u => u.cell h10⟩
/-- A contract that leaves what was there, met in a world after w, a block more having been made perhaps. -/
theorem calm_next {P : Program} {f : FuncId} {args : Array Value} {w x : World} {v : Value} (hx : Below w.heap.size w x)
    (h : Calls P f args x fun e w' => e = .returned v ∧ Below x.heap.size x w') : Calls P f args x fun e w'' => e = .returned v ∧ ∃ u' : Aft w, w'' = u'.now :=
  h.mono fun _ w' ⟨he, hb⟩ => ⟨he, ⟨w', below_then hx hb⟩, rfl⟩

end Go.Proofs.Ytfbmlpdomfchpaa
