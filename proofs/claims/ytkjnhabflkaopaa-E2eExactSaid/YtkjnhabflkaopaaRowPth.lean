/- How an argument that is a path is opened (written by gen_exact.py). -/
import Derived.Test.YtkjnhabflkaopaaRow
import Derived.Test.YtkjnhabflkaopaaE12
namespace Go.Proofs.Ytkjnhabflkaopaa
open Go.ChangeShapes Go.WideShapes Go.ChangeAt Go.RowKit Go.Deep
set_option linter.unusedVariables false
set_option linter.unusedSimpArgs false

theorem pth_leafs : leafs Try.prog 5 49 = some [some .i64, some .i64, some .i64, some .i64, some .i64, some .i64, some .i64] := by kernel_rfl
section
variable {H : Type} {enc : TypeId × Value → H} {w : World} {base b0 : Nat} {spare : Nat → Bool} {held : Bool}
theorem open_pth {r : Reach} {v : Value} {d : DataW H} {p : List MemPlace} (hv : Value.okWide Try.prog w r b0 49 v) (h : DataW.Trod enc Try.prog w base spare held 49 v d p) : ∃ a : Pth, v = a.v ∧ True := by
  obtain ⟨cs, rfl, _⟩ := okWide_struct Try.underlying49 hv
  have k := open_flat pth_leafs h
  obtain ⟨l⟩ := cs
  simp only [Value.cells] at k
  match l, fitsAll_length k with
  | [_, _, _, _, _, _, _], _ =>
    obtain ⟨⟨a0, rfl, _⟩, ⟨a1, rfl, _⟩, ⟨a2, rfl, _⟩, ⟨a3, rfl, _⟩, ⟨a4, rfl, _⟩, ⟨a5, rfl, _⟩, ⟨a6, rfl, _⟩, _⟩ := k
    exact ⟨⟨a0, a1, a2, a3, a4, a5, a6⟩, rfl, True.intro⟩
end
end Go.Proofs.Ytkjnhabflkaopaa
