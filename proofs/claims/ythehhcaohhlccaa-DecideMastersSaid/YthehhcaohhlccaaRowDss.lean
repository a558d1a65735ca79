/- How an argument that is a slice of data sets is opened. -/
import Derived.Test.YthehhcaohhlccaaRowDs
import Derived.Test.YthehhcaohhlccaaDsArg
namespace Go.Proofs.Ythehhcaohhlccaa
open Go.ChangeShapes Go.WideShapes Go.ChangeAt Go.RowKit Go.Deep
set_option linter.unusedVariables false
set_option linter.unusedSimpArgs false

instance : Inhabited DS := ⟨.zero⟩
theorem plain_at {w : World} {a : Addr} {v : Value} (h : w.cell? (a.add 0) = some v) : ∃ b off, a = ⟨b, off, none⟩ := by
  obtain ⟨b, off, spot⟩ := a
  have hspot : spot = none := by
    have := World.cell?_spot h
    simpa [Addr.add] using this
  exact ⟨b, off, by rw [hspot]⟩
section
variable {H : Type} {enc : TypeId × Value → H} {w : World} {base b0 : Nat} {spare : Nat → Bool} {held : Bool}
theorem open_dss {r : Reach} {v : Value} {d : DataW H} {p : List MemPlace} (hv : Value.okWide Try.prog w r b0 28 v) (h : DataW.Trod enc Try.prog w base spare held 28 v d p) :
    ∃ (A : Option Addr) (len cap : Nat) (l : List DS), v = .slice A len cap ∧ (DSArg w A len cap l ∧ ∀ d ∈ l, d.Ok) := by
  obtain ⟨A, len, cap, rfl⟩ := okWide_slice Try.underlying28 hv
  obtain ⟨fuel, hf⟩ := h
  rcases open_flats Try.underlying28 ds_leafs (by kernel_rfl) hf with hcs | ⟨a, len', cap', hcs, hlc, hm, hx⟩
  · simp [Value.cells] at hcs
    obtain ⟨rfl, rfl, rfl⟩ := hcs
    exact ⟨none, 0, 0, [], rfl, ⟨rfl, Nat.le_refl _, by omega, fun _ => ⟨rfl, rfl⟩, fun h => by omega⟩, by simp⟩
  · simp [Value.cells] at hcs
    obtain ⟨rfl, rfl, rfl⟩ := hcs
    obtain ⟨f, hfx⟩ := choose_lt (α := DS) (n := len) (p := fun i d => d.Ok ∧ ∀ j, j < 11 → w.cell? (a.add (i * 11 + j)) = d.cells[j]?) (fun i hi => by
      obtain ⟨ds, h1, h2⟩ := hx i hi
      obtain ⟨x, rfl, ok⟩ := ds_of_fits h1
      exact ⟨x, ok, h2⟩)
    refine ⟨some a, len, cap, (List.range len).map f, rfl, ⟨by simp, hlc, by simpa [maxLen] using hm, (fun h => by cases h), fun h0 => ?_⟩, ?_⟩
    · obtain ⟨b, off, rfl⟩ := plain_at ((hfx 0 h0).2 0 (by omega))
      refine ⟨b, off, rfl, fun i hi => ?_⟩
      have hi' : i < len := by simpa using hi
      have e : ((List.range len).map f).getD i .zero = f i := by simp [List.getD_eq_getElem?_getD, hi']
      rw [e]
      have k : ∀ j, j < 11 → w.cell? ⟨b, off + i * 11 + j, none⟩ = (f i).cells[j]? := fun j hj => by
        rw [← (hfx i hi').2 j hj, add_plain, Nat.add_assoc]
      exact ⟨k 0 (by omega), k 1 (by omega), k 2 (by omega), k 3 (by omega), k 4 (by omega), k 5 (by omega), k 6 (by omega), k 7 (by omega), k 8 (by omega), k 9 (by omega), k 10 (by omega)⟩
    · intro d hd
      obtain ⟨i, hi, rfl⟩ := List.mem_map.1 hd
      exact (hfx i (by simpa using hi)).1
end
end Go.Proofs.Ythehhcaohhlccaa
