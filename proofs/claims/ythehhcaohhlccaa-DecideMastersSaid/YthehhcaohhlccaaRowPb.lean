/- How an argument that is a slice of what ports have heard is opened. -/
import Derived.Test.YthehhcaohhlccaaRowDss
import Derived.Test.YthehhcaohhlccaaDe4
namespace Go.Proofs.Ythehhcaohhlccaa
open Go.ChangeShapes Go.WideShapes Go.ChangeAt Go.RowKit Go.Deep
set_option linter.unusedVariables false
set_option linter.unusedSimpArgs false

def PB.cellsOf (p : PB) : List Value := .bool p.has :: p.set.cells
theorem pb_leafs : leafs Try.prog 5 54 = some (none :: dsLeafs) := by kernel_rfl
theorem pb_of_fits {cs : List Value} (h : FitsAll (none :: dsLeafs) cs) : ∃ p : PB, cs = p.cellsOf ∧ p.set.Ok := by
  match cs, fitsAll_length h with
  | v :: rest, _ =>
    obtain ⟨⟨b, rfl⟩, hr⟩ := h
    obtain ⟨d, rfl, ok⟩ := ds_of_fits hr
    exact ⟨⟨b, d⟩, rfl, ok⟩
section
variable {H : Type} {enc : TypeId × Value → H} {w : World} {base b0 : Nat} {spare : Nat → Bool} {held : Bool}
theorem open_pbs {r : Reach} {v : Value} {d : DataW H} {p : List MemPlace} (hv : Value.okWide Try.prog w r b0 46 v) (h : DataW.Trod enc Try.prog w base spare held 46 v d p) :
    ∃ (A : Option Addr) (len cap : Nat) (l : List PB), v = .slice A len cap ∧ PBArg w A len cap l := by
  obtain ⟨A, len, cap, rfl⟩ := okWide_slice Try.underlying46 hv
  obtain ⟨fuel, hf⟩ := h
  rcases open_flats Try.underlying46 pb_leafs (by kernel_rfl) hf with hcs | ⟨a, len', cap', hcs, hlc, hm, hx⟩
  · simp [Value.cells] at hcs
    obtain ⟨rfl, rfl, rfl⟩ := hcs
    exact ⟨none, 0, 0, [], rfl, ⟨rfl, Nat.le_refl _, by omega, fun _ => ⟨rfl, rfl⟩, fun h => by omega, by simp⟩⟩
  · simp [Value.cells] at hcs
    obtain ⟨rfl, rfl, rfl⟩ := hcs
    obtain ⟨f, hfx⟩ := choose_lt (α := PB) (n := len) (p := fun i d => d.set.Ok ∧ ∀ j, j < 12 → w.cell? (a.add (i * 12 + j)) = d.cellsOf[j]?) (fun i hi => by
      obtain ⟨ds, h1, h2⟩ := hx i hi
      obtain ⟨x, rfl, ok⟩ := pb_of_fits h1
      exact ⟨x, ok, h2⟩)
    refine ⟨some a, len, cap, (List.range len).map f, rfl, ⟨by simp, hlc, by simpa [maxLen] using hm, (fun h => by cases h), fun h0 => ?_, ?_⟩⟩
    · obtain ⟨b, off, rfl⟩ := plain_at ((hfx 0 h0).2 0 (by omega))
      refine ⟨b, off, rfl, fun i hi => ?_⟩
      have hi' : i < len := by simpa using hi
      have e : ((List.range len).map f).getD i .zero = f i := by simp [List.getD_eq_getElem?_getD, hi']
      rw [e]
      have k : ∀ j, j < 12 → w.cell? ⟨b, off + i * 12 + j, none⟩ = (f i).cellsOf[j]? := fun j hj => by
        rw [← (hfx i hi').2 j hj, add_plain, Nat.add_assoc]
      exact ⟨k 0 (by omega), k 1 (by omega), k 2 (by omega), k 3 (by omega), k 4 (by omega), k 5 (by omega), k 6 (by omega), k 7 (by omega), k 8 (by omega), k 9 (by omega), k 10 (by omega), k 11 (by omega)⟩
    · intro d hd
      obtain ⟨i, hi, rfl⟩ := List.mem_map.1 hd
      exact (hfx i (by simpa using hi)).1.steps.1
end
end Go.Proofs.Ythehhcaohhlccaa
