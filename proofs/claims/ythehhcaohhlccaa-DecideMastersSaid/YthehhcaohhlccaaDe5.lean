/- slices.Equal at equal lists; the examples of chapter 36. -/
import Derived.WalkKit
import Derived.LoopTactic
import Derived.Outline
import Derived.Lib.Hide
import Derived.Deep.QuietTactic
import Derived.BigQuiet
import Derived.Deep.RegionHeld3
import Derived.Test.YthehhcaohhlccaaDe4
namespace Go.Proofs.Ythehhcaohhlccaa
open Go.RowKit
set_option linter.unusedVariables false
set_option linter.unusedSimpArgs false

theorem equal_same (xs : List Int) (n g h c d : Nat) (hn : xs.length = n) (hl : n ≤ 1000) (w : World) (hx : RowAt w g xs) (hy : RowAt w h xs) :
    Calls Try.prog 54 #[.slice (some ⟨g, 0, none⟩) n c, .slice (some ⟨h, 0, none⟩) n d] w fun e w' => e = .returned (.bool true) ∧ Below w.heap.size w w' := by
  have HX := Lib.hid hx
  have HY := Lib.hid hy
  have HN := Lib.hid hn
  clear hx hy hn
  go_enter Try.func54, Try.ntmps54
  go_wp2_with fail
  go_loopw [13] (fun i wr => ∃ k : Nat, k ≤ n ∧ i = .int .i64 k ∧ Below w.heap.size w wr) (fun i _ => n - (intOf i).toNat)
  case atStart => exact ⟨0, Nat.zero_le _, rfl, Below.refl _ _⟩
  case round =>
    obtain ⟨k, hk, rfl, hb⟩ := hrel
    have HB := Lib.hid hb
    by_cases hlt : k < n
    · have hk0 : (0 : Int) ≤ (k : Int) := by omega
      have hk1 : (k : Int) < (n : Int) := by omega
      have a0 := cell_below hb (HX.out k (by rw [HN.out]; exact hlt))
      have b0 := cell_below hb (HY.out k (by rw [HN.out]; exact hlt))
      generalize xs.getD k 0 = v at *
      clear hb
      go_wp2_with fail
      go_quiet (fail)
      go_wp2_with fail
      go_roundw
      case rel => exact ⟨k + 1, by omega, by go_num, below_drewN HB.out _⟩
      case measure => simp [intOf]; omega
    · obtain rfl : k = n := by omega
      clear hb
      go_wp2_with fail
      go_ret
      exact ⟨rfl, HB.out⟩

def q36 : DS := ⟨128, 248, 0, 0, 0, 9, 0, 9, 0, 9, 0⟩
def r36 : DS := ⟨0, 6, 0, 0, 0, 0, 0, 0, 0, 0, 0⟩
def s36 : DS := ⟨10, 0, 0, 0, 0, 1, 0, 1, 0, 9, 0⟩
def t36 : DS := ⟨20, 0, 0, 0, 0, 2, 0, 2, 0, 9, 0⟩
def two36 : List PB := [⟨true, s36⟩, ⟨true, t36⟩]
theorem PBRow.one {w : World} {g : Nat} (h : PBAt w g 0 .zero) : PBRow w g 0 [.zero] := fun i hi => by
  obtain rfl : i = 0 := by simpa using hi
  exact h
def PB.cells (p : PB) : List Value := .bool p.has :: p.set.cells
theorem pflat_at (l : List PB) (i j : Nat) (hi : i < l.length) (hj : j < 12) : (l.flatMap PB.cells)[i * 12 + j]? = (l.getD i .zero).cells[j]? := by
  induction l generalizing i with
  | nil => simp at hi
  | cons d l ih =>
    rw [List.flatMap_cons]
    cases i with
    | zero =>
      rw [List.getElem?_append_left (by simp [PB.cells, DS.cells]; omega)]
      simp
    | succ i =>
      rw [List.getElem?_append_right (by simp [PB.cells, DS.cells]; omega)]
      have := ih i (by simpa using hi)
      simp only [List.getD_cons_succ]
      rw [← this]
      congr 1
      simp [PB.cells, DS.cells]
      omega
theorem PBRow.of {w : World} {g : Nat} {cs : Array Value} {t : TypeId} (h : w.heap[g]? = some (.cells cs t (0, 0))) (l : List PB) (hc : cs = (l.flatMap PB.cells).toArray) : PBRow w g 0 l := by
  intro i hi
  have hx : ∀ j, j < 12 → w.cell? ⟨g, 0 + i * 12 + j, none⟩ = (l.getD i .zero).cells[j]? := fun j hj => by
    rw [cell_of_row w g _ _ _ (0, 0) h, hc, Nat.zero_add, ← pflat_at l i j hi hj]
    simp
  exact ⟨hx 0 (by omega), hx 1 (by omega), hx 2 (by omega), hx 3 (by omega), hx 4 (by omega), hx 5 (by omega), hx 6 (by omega), hx 7 (by omega), hx 8 (by omega), hx 9 (by omega), hx 10 (by omega), hx 11 (by omega)⟩
theorem arg_of {w : World} {g n cap : Nat} {l : List PB} (hn : l.length = n) (hc : n ≤ cap) (hm : cap ≤ 1000) (hr : PBRow w g 0 l) (hs : ∀ p ∈ l, -9223372036854775808 ≤ p.set.steps) : PBArg w (some ⟨g, 0, none⟩) n cap l :=
  ⟨hn, hc, by omega, (fun h => by cases h), fun _ => ⟨g, 0, rfl, hr⟩, hs⟩
theorem arg_nil (w : World) : PBArg w none 0 0 [] := ⟨rfl, Nat.le_refl _, by omega, fun _ => ⟨rfl, rfl⟩, fun h => by omega, by simp⟩
theorem dec_nil36 (w : World) : Calls Try.prog 27 #[q36.v, .slice none 0 0] w fun e w' => ∃ g, e = .returned (.tuple #[.slice (some ⟨g, 0, none⟩) 0 0, .int .i64 0]) ∧ Below w.heap.size w w' :=
  (decide_any q36 (arg_nil w) (by omega)).mono fun _ _ ⟨g, h, hb, _⟩ => ⟨g, h, hb⟩
theorem dec_one36 (w : World) (g : Nat) (hr : PBRow w g 0 [.zero]) : Calls Try.prog 27 #[q36.v, .slice (some ⟨g, 0, none⟩) 1 1] w fun e w' => ∃ g, e = .returned (.tuple #[.slice (some ⟨g, 0, none⟩) 1 1, .int .i64 0]) ∧ Below w.heap.size w w' ∧ RowAt w' g [2] :=
  decide_any q36 (arg_of (l := [.zero]) (n := 1) (cap := 1) rfl (by decide) (by decide) hr (by decide)) (by decide)
theorem dec_six36 (w : World) (g : Nat) (hr : PBRow w g 0 [.zero]) : Calls Try.prog 27 #[r36.v, .slice (some ⟨g, 0, none⟩) 1 1] w fun e w' => ∃ g, e = .returned (.tuple #[.slice (some ⟨g, 0, none⟩) 1 1, .int .i64 0]) ∧ Below w.heap.size w w' ∧ RowAt w' g [1] :=
  decide_any r36 (arg_of (l := [.zero]) (n := 1) (cap := 1) rfl (by decide) (by decide) hr (by decide)) (by decide)
theorem dec_two36 (w : World) (g : Nat) (hr : PBRow w g 0 two36) : Calls Try.prog 27 #[q36.v, .slice (some ⟨g, 0, none⟩) 2 2] w fun e w' => ∃ g, e = .returned (.tuple #[.slice (some ⟨g, 0, none⟩) 2 2, .int .i64 0]) ∧ Below w.heap.size w w' ∧ RowAt w' g [6, 3] :=
  decide_any q36 (arg_of (l := two36) (n := 2) (cap := 2) rfl (by decide) (by decide) hr (by decide)) (by decide)
theorem mas_two36 (w : World) (g : Nat) (hr : PBRow w g 0 two36) : Calls Try.prog 28 #[q36.v, .slice (some ⟨g, 0, none⟩) 2 2] w fun e w' => e = .returned s36.v ∧ Below w.heap.size w w' :=
  master_any q36 (arg_of (l := two36) (n := 2) (cap := 2) rfl (by decide) (by decide) hr (by decide)) (by decide)
theorem mas_nil36 (w : World) : Calls Try.prog 28 #[q36.v, .slice none 0 0] w fun e w' => e = .returned q36.v ∧ Below w.heap.size w w' :=
  master_any q36 (arg_nil w) (by omega)
theorem ann36 (w : World) : Calls Try.prog 31 #[.int .i64 3] w fun e w' => e = .returned (.bool true) ∧ w = w' := ann_any 3 w
end Go.Proofs.Ythehhcaohhlccaa
