/- How an argument that is a message is opened (written by gen_rowptp.py). -/
import Derived.Test.YtfbmlpdomfchpaaRow
import Derived.Test.YtfbmlpdomfchpaaPm3
namespace Go.Proofs.Ytfbmlpdomfchpaa
open Go.ChangeShapes Go.WideShapes Go.ChangeAt Go.RowKit Go.Deep
set_option linter.unusedVariables false
set_option linter.unusedSimpArgs false

structure Ptp.Ok (p : Ptp) : Prop where
  w0 : (Lit.int .i64 p.kind).wf = true
  w1 : (Lit.int .i64 p.domain).wf = true
  w2 : (Lit.int .i64 p.flags).wf = true
  w3 : (Lit.int .i64 p.corr).wf = true
  w4 : (Lit.int .u64 p.clock).wf = true
  w5 : (Lit.int .i64 p.port).wf = true
  w6 : (Lit.int .i64 p.seq).wf = true
  w7 : (Lit.int .i64 p.logInt).wf = true
  w8 : (Lit.int .i64 p.sec).wf = true
  w9 : (Lit.int .i64 p.nano).wf = true
  w10 : (Lit.int .u64 p.reqClock).wf = true
  w11 : (Lit.int .i64 p.reqPort).wf = true
  w12 : (Lit.int .i64 p.ann.utc).wf = true
  w13 : (Lit.int .i64 p.ann.p1).wf = true
  w14 : (Lit.int .i64 p.ann.cls).wf = true
  w15 : (Lit.int .i64 p.ann.acc).wf = true
  w16 : (Lit.int .i64 p.ann.var).wf = true
  w17 : (Lit.int .i64 p.ann.p2).wf = true
  w18 : (Lit.int .u64 p.ann.gm).wf = true
  w19 : (Lit.int .i64 p.ann.steps).wf = true
  w20 : (Lit.int .i64 p.ann.source).wf = true
def ptpLeafs : List (Option IntKind) := [some .i64, some .i64, some .i64, some .i64, some .u64, some .i64, some .i64, some .i64, some .i64, some .i64, some .u64, some .i64, some .i64, some .i64, some .i64, some .i64, some .i64, some .i64, some .u64, some .i64, some .i64]
theorem ptp_leafs : leafs Try.prog 5 42 = some ptpLeafs := by kernel_rfl
set_option maxRecDepth 100000 in
theorem ptp_of_fits {cs : List Value} (h : FitsAll ptpLeafs cs) : ∃ p : Ptp, cs = p.cells ∧ p.Ok := by
  match cs, fitsAll_length h with
  | [_, _, _, _, _, _, _, _, _, _, _, _, _, _, _, _, _, _, _, _, _], _ =>
    obtain ⟨⟨a0, rfl, h0⟩, ⟨a1, rfl, h1⟩, ⟨a2, rfl, h2⟩, ⟨a3, rfl, h3⟩, ⟨a4, rfl, h4⟩, ⟨a5, rfl, h5⟩, ⟨a6, rfl, h6⟩, ⟨a7, rfl, h7⟩, ⟨a8, rfl, h8⟩, ⟨a9, rfl, h9⟩, ⟨a10, rfl, h10⟩, ⟨a11, rfl, h11⟩, ⟨a12, rfl, h12⟩, ⟨a13, rfl, h13⟩, ⟨a14, rfl, h14⟩, ⟨a15, rfl, h15⟩, ⟨a16, rfl, h16⟩, ⟨a17, rfl, h17⟩, ⟨a18, rfl, h18⟩, ⟨a19, rfl, h19⟩, ⟨a20, rfl, h20⟩, _⟩ := h
    exact ⟨⟨a0, a1, a2, a3, a4, a5, a6, a7, a8, a9, a10, a11, ⟨a12, a13, a14, a15, a16, a17, a18, a19, a20⟩⟩, rfl, h0, h1, h2, h3, h4, h5, h6, h7, h8, h9, h10, h11, h12, h13, h14, h15, h16, h17, h18, h19, h20⟩
section
variable {H : Type} {enc : TypeId × Value → H} {w : World} {base b0 : Nat} {spare : Nat → Bool} {held : Bool}
set_option maxRecDepth 100000 in
theorem open_ptp {r : Reach} {v : Value} {d : DataW H} {p : List MemPlace} (hv : Value.okWide Try.prog w r b0 42 v) (h : DataW.Trod enc Try.prog w base spare held 42 v d p) : ∃ a : Ptp, v = a.v ∧ a.Ok := by
  obtain ⟨cs, rfl, _⟩ := okWide_struct Try.underlying42 hv
  obtain ⟨a, e, ok⟩ := ptp_of_fits (open_flat ptp_leafs h)
  refine ⟨a, ?_, ok⟩
  obtain ⟨l⟩ := cs
  simp only [Value.cells] at e
  subst e
  rfl
end
end Go.Proofs.Ytfbmlpdomfchpaa
