/- How an argument that is a data set is opened. -/
import Derived.Test.YthehhcaohhlccaaRow
import Derived.Test.YthehhcaohhlccaaDs10
namespace Go.Proofs.Ythehhcaohhlccaa
open Go.ChangeShapes Go.WideShapes Go.ChangeAt Go.RowKit Go.Deep
set_option linter.unusedVariables false
set_option linter.unusedSimpArgs false

theorem I64.of {x : Int} (h : (Lit.int .i64 x).wf = true) : I64 x := bounds_i64 h
def U64 (x : Int) : Prop := 0 ≤ x ∧ x ≤ 18446744073709551615
theorem U64.of {x : Int} (h : (Lit.int .u64 x).wf = true) : U64 x := bounds_u64 h
structure DS.Ok (d : DS) : Prop where
  p1 : I64 d.p1
  cls : I64 d.cls
  acc : I64 d.acc
  var : I64 d.var
  p2 : I64 d.p2
  gm : U64 d.gm
  steps : I64 d.steps
  sender : U64 d.sender
  sport : I64 d.sport
  recv : U64 d.recv
  rport : I64 d.rport
def dsLeafs : List (Option IntKind) := [some .i64, some .i64, some .i64, some .i64, some .i64, some .u64, some .i64, some .u64, some .i64, some .u64, some .i64]
theorem ds_leafs : leafs Try.prog 5 24 = some dsLeafs := by kernel_rfl
set_option maxRecDepth 10000 in
theorem ds_of_fits {cs : List Value} (h : FitsAll dsLeafs cs) : ∃ d : DS, cs = d.cells ∧ d.Ok := by
  match cs, fitsAll_length h with
  | [_, _, _, _, _, _, _, _, _, _, _], _ =>
    obtain ⟨⟨a0, rfl, h0⟩, ⟨a1, rfl, h1⟩, ⟨a2, rfl, h2⟩, ⟨a3, rfl, h3⟩, ⟨a4, rfl, h4⟩, ⟨a5, rfl, h5⟩, ⟨a6, rfl, h6⟩, ⟨a7, rfl, h7⟩, ⟨a8, rfl, h8⟩, ⟨a9, rfl, h9⟩, ⟨a10, rfl, h10⟩, _⟩ := h
    exact ⟨⟨a0, a1, a2, a3, a4, a5, a6, a7, a8, a9, a10⟩, rfl, I64.of h0, I64.of h1, I64.of h2, I64.of h3, I64.of h4, U64.of h5, I64.of h6, U64.of h7, I64.of h8, U64.of h9, I64.of h10⟩
section
variable {H : Type} {enc : TypeId × Value → H} {w : World} {base b0 : Nat} {spare : Nat → Bool} {held : Bool}
theorem open_ds {r : Reach} {v : Value} {d : DataW H} {p : List MemPlace} (hv : Value.okWide Try.prog w r b0 24 v) (h : DataW.Trod enc Try.prog w base spare held 24 v d p) : ∃ a : DS, v = a.v ∧ a.Ok := by
  obtain ⟨cs, rfl, _⟩ := okWide_struct Try.underlying24 hv
  obtain ⟨a, e, ok⟩ := ds_of_fits (open_flat ds_leafs h)
  refine ⟨a, ?_, ok⟩
  obtain ⟨l⟩ := cs
  simp only [Value.cells] at e
  subst e
  rfl
theorem hop_leafs : leafs Try.prog 5 33 = some [some .u64, some .u64, some .i64, some .i64] := by kernel_rfl
structure Hop.Ok (h : Hop) : Prop where
  sender : U64 h.sender
  recv : U64 h.recv
  sport : I64 h.sport
  rport : I64 h.rport
theorem open_hop {r : Reach} {v : Value} {d : DataW H} {p : List MemPlace} (hv : Value.okWide Try.prog w r b0 33 v) (h : DataW.Trod enc Try.prog w base spare held 33 v d p) : ∃ a : Hop, v = a.v ∧ a.Ok := by
  obtain ⟨cs, rfl, _⟩ := okWide_struct Try.underlying33 hv
  have k := open_flat hop_leafs h
  obtain ⟨l⟩ := cs
  simp only [Value.cells] at k
  match l, fitsAll_length k with
  | [_, _, _, _], _ =>
    obtain ⟨⟨a0, rfl, h0⟩, ⟨a1, rfl, h1⟩, ⟨a2, rfl, h2⟩, ⟨a3, rfl, h3⟩, _⟩ := k
    exact ⟨⟨a0, a1, a2, a3⟩, rfl, U64.of h0, U64.of h1, I64.of h2, I64.of h3⟩
theorem qual_leafs : leafs Try.prog 5 38 = some [some .i64, some .i64, some .i64, some .i64, some .i64] := by kernel_rfl
theorem open_qual {r : Reach} {v : Value} {d : DataW H} {p : List MemPlace} (hv : Value.okWide Try.prog w r b0 38 v) (h : DataW.Trod enc Try.prog w base spare held 38 v d p) : ∃ a : Qual, v = a.v ∧ True := by
  obtain ⟨cs, rfl, _⟩ := okWide_struct Try.underlying38 hv
  have k := open_flat qual_leafs h
  obtain ⟨l⟩ := cs
  simp only [Value.cells] at k
  match l, fitsAll_length k with
  | [_, _, _, _, _], _ =>
    obtain ⟨⟨a0, rfl, h0⟩, ⟨a1, rfl, h1⟩, ⟨a2, rfl, h2⟩, ⟨a3, rfl, h3⟩, ⟨a4, rfl, h4⟩, _⟩ := k
    exact ⟨⟨a0, a1, a2, a3, a4⟩, rfl, trivial⟩
end
end Go.Proofs.Ythehhcaohhlccaa
