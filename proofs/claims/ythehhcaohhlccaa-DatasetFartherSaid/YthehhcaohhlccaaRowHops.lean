/- How an argument that is a slice of hops is opened. -/
import Derived.Test.YthehhcaohhlccaaRowDss
import Derived.Test.YthehhcaohhlccaaHopArg
namespace Go.Proofs.Ythehhcaohhlccaa
open Go.ChangeShapes Go.WideShapes Go.ChangeAt Go.RowKit Go.Deep
set_option linter.unusedVariables false
set_option linter.unusedSimpArgs false

instance : Inhabited Hop := ⟨.zero⟩
def Hop.cells (h : Hop) : List Value := [.int .u64 h.sender, .int .u64 h.recv, .int .i64 h.sport, .int .i64 h.rport]
theorem hop_of_fits {cs : List Value} (h : FitsAll [some .u64, some .u64, some .i64, some .i64] cs) : ∃ x : Hop, cs = x.cells := by
  match cs, fitsAll_length h with
  | [_, _, _, _], _ =>
    obtain ⟨⟨a0, rfl, h0⟩, ⟨a1, rfl, h1⟩, ⟨a2, rfl, h2⟩, ⟨a3, rfl, h3⟩, _⟩ := h
    exact ⟨⟨a0, a1, a2, a3⟩, rfl⟩
section
variable {H : Type} {enc : TypeId × Value → H} {w : World} {base b0 : Nat} {spare : Nat → Bool} {held : Bool}
theorem open_hops {r : Reach} {v : Value} {d : DataW H} {p : List MemPlace} (hv : Value.okWide Try.prog w r b0 44 v) (h : DataW.Trod enc Try.prog w base spare held 44 v d p) :
    ∃ (A : Option Addr) (len cap : Nat) (l : List Hop), v = .slice A len cap ∧ HopArg w A len cap l := by
  obtain ⟨A, len, cap, rfl⟩ := okWide_slice Try.underlying44 hv
  obtain ⟨fuel, hf⟩ := h
  rcases open_flats Try.underlying44 hop_leafs (by kernel_rfl) hf with hcs | ⟨a, len', cap', hcs, hlc, hm, hx⟩
  · simp [Value.cells] at hcs
    obtain ⟨rfl, rfl, rfl⟩ := hcs
    exact ⟨none, 0, 0, [], rfl, ⟨rfl, Nat.le_refl _, by omega, fun _ => ⟨rfl, rfl⟩, fun h => by omega⟩⟩
  · simp [Value.cells] at hcs
    obtain ⟨rfl, rfl, rfl⟩ := hcs
    obtain ⟨f, hfx⟩ := choose_lt (α := Hop) (n := len) (p := fun i d => ∀ j, j < 4 → w.cell? (a.add (i * 4 + j)) = d.cells[j]?) (fun i hi => by
      obtain ⟨ds, h1, h2⟩ := hx i hi
      obtain ⟨x, rfl⟩ := hop_of_fits h1
      exact ⟨x, h2⟩)
    refine ⟨some a, len, cap, (List.range len).map f, rfl, ⟨by simp, hlc, by simpa [maxLen] using hm, (fun h => by cases h), fun h0 => ?_⟩⟩
    · obtain ⟨b, off, rfl⟩ := plain_at ((hfx 0 h0) 0 (by omega))
      refine ⟨b, off, rfl, fun i hi => ?_⟩
      have hi' : i < len := by simpa using hi
      have e : ((List.range len).map f).getD i (Hop.zero) = f i := by simp [List.getD_eq_getElem?_getD, hi']
      rw [e]
      have k : ∀ j, j < 4 → w.cell? ⟨b, off + i * 4 + j, none⟩ = (f i).cells[j]? := fun j hj => by
        rw [← (hfx i hi') j hj, add_plain, Nat.add_assoc]
      exact ⟨k 0 (by omega), k 1 (by omega), k 2 (by omega), k 3 (by omega)⟩
end
end Go.Proofs.Ythehhcaohhlccaa
