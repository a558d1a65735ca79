/- How an argument that is a slice of calls is opened. -/
import Derived.Test.YtkjnhabflkaopaaRowOp
import Derived.Test.YtkjnhabflkaopaaOpArg
namespace Go.Proofs.Ytkjnhabflkaopaa
open Go.ChangeShapes Go.WideShapes Go.ChangeAt Go.RowKit Go.Deep
set_option linter.unusedVariables false
set_option linter.unusedSimpArgs false

instance : Inhabited Opx := ⟨.zero⟩
theorem plain_at {w : World} {a : Addr} {v : Value} (h : w.cell? (a.add 0) = some v) : ∃ b off, a = ⟨b, off, none⟩ := by
  obtain ⟨b, off, spot⟩ := a
  have hspot : spot = none := by
    have := World.cell?_spot h
    simpa [Addr.add] using this
  exact ⟨b, off, by rw [hspot]⟩
section
variable {H : Type} {enc : TypeId × Value → H} {w : World} {base b0 : Nat} {spare : Nat → Bool} {held : Bool}
theorem open_ops {r : Reach} {v : Value} {d : DataW H} {p : List MemPlace} (hv : Value.okWide Try.prog w r b0 59 v) (h : DataW.Trod enc Try.prog w base spare held 59 v d p) :
    ∃ (A : Option Addr) (len cap : Nat) (l : List Opx), v = .slice A len cap ∧ (OpArg w A len cap l ∧ ∀ d ∈ l, d.Ok) := by
  obtain ⟨A, len, cap, rfl⟩ := okWide_slice Try.underlying59 hv
  obtain ⟨fuel, hf⟩ := h
  rcases open_flats Try.underlying59 op_leafs (by kernel_rfl) hf with hcs | ⟨a, len', cap', hcs, hlc, hm, hx⟩
  · simp [Value.cells] at hcs
    obtain ⟨rfl, rfl, rfl⟩ := hcs
    exact ⟨none, 0, 0, [], rfl, ⟨rfl, Nat.le_refl _, by omega, fun _ => ⟨rfl, rfl⟩, fun h => by omega⟩, by simp⟩
  · simp [Value.cells] at hcs
    obtain ⟨rfl, rfl, rfl⟩ := hcs
    obtain ⟨f, hfx⟩ := choose_lt (α := Opx) (n := len) (p := fun i d => d.Ok ∧ ∀ j, j < 26 → w.cell? (a.add (i * 26 + j)) = d.cells[j]?) (fun i hi => by
      obtain ⟨ds, h1, h2⟩ := hx i hi
      obtain ⟨x, rfl, ok⟩ := op_of_fits h1
      exact ⟨x, ok, h2⟩)
    refine ⟨some a, len, cap, (List.range len).map f, rfl, ⟨by simp, hlc, by simpa [maxLen] using hm, (fun h => by cases h), fun h0 => ?_⟩, ?_⟩
    · obtain ⟨b, off, rfl⟩ := plain_at ((hfx 0 h0).2 0 (by omega))
      have all : ∀ i, i < len → OpIn w b (off + i * 26) (f i) := fun i hi => .of_cells fun j hj => by
        rw [← (hfx i hi).2 j hj, add_plain, Nat.add_assoc]
      refine ⟨b, off, rfl, (all 0 h0).lt, fun i hi => ?_⟩
      have hi' : i < len := by simpa using hi
      have e : ((List.range len).map f).getD i .zero = f i := by simp [List.getD_eq_getElem?_getD, hi']
      rw [e]
      exact all i hi'
    · intro d hd
      obtain ⟨i, hi, rfl⟩ := List.mem_map.1 hd
      exact (hfx i (by simpa using hi)).1
end
end Go.Proofs.Ytkjnhabflkaopaa
