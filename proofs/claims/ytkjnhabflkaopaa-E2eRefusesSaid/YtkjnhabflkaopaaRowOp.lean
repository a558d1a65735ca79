/- How an argument that is a call of an exchange is opened (written by gen_nobody.py). -/
import Derived.Test.YtkjnhabflkaopaaRowPtp
import Derived.Test.YtkjnhabflkaopaaE9
namespace Go.Proofs.Ytkjnhabflkaopaa
open Go.ChangeShapes Go.WideShapes Go.ChangeAt Go.RowKit Go.Deep
set_option linter.unusedVariables false
set_option linter.unusedSimpArgs false

def opLeafs : List (Option IntKind) := [some .i64, some .i64, some .i64, some .i64, some .i64, some .i64, some .i64, some .u64, some .i64, some .i64, some .i64, some .i64, some .i64, some .u64, some .i64, some .i64, some .i64, some .i64, some .i64, some .i64, some .i64, some .u64, some .i64, some .i64, some .u64, some .i64]
theorem op_leafs : leafs Try.prog 6 62 = some opLeafs := by kernel_rfl
structure Opx.Ok (o : Opx) : Prop where
  kind : (Lit.int .i64 o.kind).wf = true
  t : (Lit.int .i64 o.t).wf = true
  seq : (Lit.int .i64 o.seq).wf = true
  p : o.p.Ok
  port : (Lit.int .i64 o.port).wf = true
set_option maxRecDepth 100000 in
theorem op_of_fits {cs : List Value} (h : FitsAll opLeafs cs) : ∃ o : Opx, cs = o.cells ∧ o.Ok := by
  match cs, fitsAll_length h with
  | [_, _, _, _, _, _, _, _, _, _, _, _, _, _, _, _, _, _, _, _, _, _, _, _, _, _], _ =>
    obtain ⟨⟨k, rfl, hk⟩, ⟨t, rfl, ht⟩, ⟨q, rfl, hq⟩, ⟨a0, rfl, h0⟩, ⟨a1, rfl, h1⟩, ⟨a2, rfl, h2⟩, ⟨a3, rfl, h3⟩, ⟨a4, rfl, h4⟩, ⟨a5, rfl, h5⟩, ⟨a6, rfl, h6⟩, ⟨a7, rfl, h7⟩, ⟨a8, rfl, h8⟩, ⟨a9, rfl, h9⟩, ⟨a10, rfl, h10⟩, ⟨a11, rfl, h11⟩, ⟨a12, rfl, h12⟩, ⟨a13, rfl, h13⟩, ⟨a14, rfl, h14⟩, ⟨a15, rfl, h15⟩, ⟨a16, rfl, h16⟩, ⟨a17, rfl, h17⟩, ⟨a18, rfl, h18⟩, ⟨a19, rfl, h19⟩, ⟨a20, rfl, h20⟩, ⟨c, rfl, hc⟩, ⟨r, rfl, hr⟩, _⟩ := h
    exact ⟨⟨k, t, q, ⟨a0, a1, a2, a3, a4, a5, a6, a7, a8, a9, a10, a11, ⟨a12, a13, a14, a15, a16, a17, a18, a19, a20⟩⟩, c, r⟩, rfl, hk, ht, hq, ⟨h0, h1, h2, h3, h4, h5, h6, h7, h8, h9, h10, h11, h12, h13, h14, h15, h16, h17, h18, h19, h20⟩, hr⟩
section
variable {H : Type} {enc : TypeId × Value → H} {w : World} {base b0 : Nat} {spare : Nat → Bool} {held : Bool}
theorem open_op {r : Reach} {v : Value} {d : DataW H} {p : List MemPlace} (hv : Value.okWide Try.prog w r b0 62 v) (h : DataW.Trod enc Try.prog w base spare held 62 v d p) : ∃ a : Opx, v = a.v ∧ a.Ok := by
  obtain ⟨cs, rfl, _⟩ := okWide_struct Try.underlying62 hv
  obtain ⟨a, e, ok⟩ := op_of_fits (open_flat op_leafs h)
  refine ⟨a, ?_, ok⟩
  obtain ⟨l⟩ := cs
  simp only [Value.cells] at e
  subst e
  rfl
end
end Go.Proofs.Ytkjnhabflkaopaa
