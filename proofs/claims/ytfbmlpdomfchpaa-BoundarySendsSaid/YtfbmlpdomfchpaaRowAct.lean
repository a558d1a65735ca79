/- How a configuration of a clock and a slice of acts are opened. -/
import Derived.Test.YtfbmlpdomfchpaaRowPtp
import Derived.Test.YtfbmlpdomfchpaaActs
import Derived.Test.YtfbmlpdomfchpaaJBa
namespace Go.Proofs.Ytfbmlpdomfchpaa
open Go.ChangeShapes Go.WideShapes Go.ChangeAt Go.RowKit Go.Deep
set_option linter.unusedVariables false
set_option linter.unusedSimpArgs false

def actLeafs : List (Option IntKind) := [some .i64, some .i64, some .i64, some .i64, some .i64, some .i64, some .i64, some .u64, some .i64, some .i64, some .i64, some .i64, some .i64, some .u64, some .i64, some .i64, some .i64, some .i64, some .i64, some .i64, some .i64, some .u64, some .i64, some .i64]
theorem act_leafs : leafs Try.prog 6 44 = some actLeafs := by kernel_rfl
structure Bact.Ok (o : Bact) : Prop where
  msg : o.msg.Ok
set_option maxRecDepth 100000 in
theorem act_of_fits {cs : List Value} (h : FitsAll actLeafs cs) : ∃ o : Bact, cs = o.cells ∧ o.Ok := by
  match cs, fitsAll_length h with
  | [_, _, _, _, _, _, _, _, _, _, _, _, _, _, _, _, _, _, _, _, _, _, _, _], _ =>
    obtain ⟨⟨k, rfl, hk⟩, ⟨t, rfl, ht⟩, ⟨q, rfl, hq⟩, ⟨a0, rfl, h0⟩, ⟨a1, rfl, h1⟩, ⟨a2, rfl, h2⟩, ⟨a3, rfl, h3⟩, ⟨a4, rfl, h4⟩, ⟨a5, rfl, h5⟩, ⟨a6, rfl, h6⟩, ⟨a7, rfl, h7⟩, ⟨a8, rfl, h8⟩, ⟨a9, rfl, h9⟩, ⟨a10, rfl, h10⟩, ⟨a11, rfl, h11⟩, ⟨a12, rfl, h12⟩, ⟨a13, rfl, h13⟩, ⟨a14, rfl, h14⟩, ⟨a15, rfl, h15⟩, ⟨a16, rfl, h16⟩, ⟨a17, rfl, h17⟩, ⟨a18, rfl, h18⟩, ⟨a19, rfl, h19⟩, ⟨a20, rfl, h20⟩, _⟩ := h
    exact ⟨⟨k, t, q, ⟨a0, a1, a2, a3, a4, a5, a6, a7, a8, a9, a10, a11, ⟨a12, a13, a14, a15, a16, a17, a18, a19, a20⟩⟩⟩, rfl, ⟨⟨h0, h1, h2, h3, h4, h5, h6, h7, h8, h9, h10, h11, h12, h13, h14, h15, h16, h17, h18, h19, h20⟩⟩⟩
def confLeafs : List (Option IntKind) := [some .u64, some .i64, some .i64, some .i64, some .i64, some .i64, some .i64, some .i64, some .i64, some .i64, some .i64]
theorem conf_leafs : leafs Try.prog 6 26 = some confLeafs := by kernel_rfl
set_option maxRecDepth 100000 in
theorem conf_of_fits {cs : List Value} (h : FitsAll confLeafs cs) : ∃ c : BConf, cs = c.cells ∧ (Lit.int .u64 c.id).wf = true := by
  match cs, fitsAll_length h with
  | [_, _, _, _, _, _, _, _, _, _, _], _ =>
    obtain ⟨⟨a0, rfl, h0⟩, ⟨a1, rfl, h1⟩, ⟨a2, rfl, h2⟩, ⟨a3, rfl, h3⟩, ⟨a4, rfl, h4⟩, ⟨a5, rfl, h5⟩, ⟨a6, rfl, h6⟩, ⟨a7, rfl, h7⟩, ⟨a8, rfl, h8⟩, ⟨a9, rfl, h9⟩, ⟨a10, rfl, h10⟩, _⟩ := h
    exact ⟨⟨a0, a1, a2, a3, a4, a5, a6, a7, a8, a9, a10⟩, rfl, h0⟩
theorem plain_at {w : World} {a : Addr} {v : Value} (h : w.cell? (a.add 0) = some v) : ∃ b off, a = ⟨b, off, none⟩ := by
  obtain ⟨b, off, spot⟩ := a
  have hspot : spot = none := by
    have := World.cell?_spot h
    simpa [Addr.add] using this
  exact ⟨b, off, by rw [hspot]⟩
section
variable {H : Type} {enc : TypeId × Value → H} {w : World} {base b0 : Nat} {spare : Nat → Bool} {held : Bool}
set_option maxRecDepth 100000 in
theorem open_conf {r : Reach} {v : Value} {d : DataW H} {p : List MemPlace} (hv : Value.okWide Try.prog w r b0 26 v) (h : DataW.Trod enc Try.prog w base spare held 26 v d p) : ∃ a : BConf, v = a.v ∧ (Lit.int .u64 a.id).wf = true := by
  obtain ⟨cs, rfl, _⟩ := okWide_struct Try.underlying26 hv
  obtain ⟨a, e, ok⟩ := conf_of_fits (open_flat conf_leafs h)
  refine ⟨a, ?_, ok⟩
  obtain ⟨l⟩ := cs
  simp only [Value.cells] at e
  subst e
  rfl
set_option maxRecDepth 100000 in
theorem open_acts {r : Reach} {v : Value} {d : DataW H} {p : List MemPlace} (hv : Value.okWide Try.prog w r b0 27 v) (h : DataW.Trod enc Try.prog w base spare held 27 v d p) :
    ∃ (A : Option Addr) (len cap : Nat) (l : List Bact), v = .slice A len cap ∧ (BactArg w A len cap l ∧ ∀ d ∈ l, d.Ok) := by
  obtain ⟨A, len, cap, rfl⟩ := okWide_slice Try.underlying27 hv
  obtain ⟨fuel, hf⟩ := h
  rcases open_flats Try.underlying27 act_leafs (by kernel_rfl) hf with hcs | ⟨a, len', cap', hcs, hlc, hm, hx⟩
  · simp [Value.cells] at hcs
    obtain ⟨rfl, rfl, rfl⟩ := hcs
    exact ⟨none, 0, 0, [], rfl, ⟨rfl, Nat.le_refl _, by omega, fun _ => ⟨rfl, rfl⟩, fun h => by omega⟩, by simp⟩
  · simp [Value.cells] at hcs
    obtain ⟨rfl, rfl, rfl⟩ := hcs
    obtain ⟨f, hfx⟩ := choose_lt (α := Bact) (n := len) (p := fun i d => d.Ok ∧ ∀ j, j < 24 → w.cell? (a.add (i * 24 + j)) = d.cells[j]?) (fun i hi => by
      obtain ⟨ds, h1, h2⟩ := hx i hi
      obtain ⟨x, rfl, ok⟩ := act_of_fits h1
      exact ⟨x, ok, h2⟩)
    refine ⟨some a, len, cap, (List.range len).map f, rfl, ⟨by simp, hlc, by simpa [maxLen] using hm, (fun h => by cases h), fun h0 => ?_⟩, ?_⟩
    · obtain ⟨b, off, rfl⟩ := plain_at ((hfx 0 h0).2 0 (by omega))
      have all : ∀ i, i < len → w.rangeAt b (off + i * 24) (f i).cells := fun i hi j v hv => by
        have hj : j < 24 := (List.getElem?_eq_some_iff.1 hv).1
        rw [← hv, ← (hfx i hi).2 j hj, add_plain, Nat.add_assoc]
      refine ⟨b, off, rfl, World.block_lt_of_cell? w _ (all 0 h0 0 _ rfl), fun i hi => ?_⟩
      have hi' : i < len := by simpa using hi
      have e : ((List.range len).map f).getD i .zero = f i := by simp [List.getD_eq_getElem?_getD, hi']
      rw [e]
      exact all i hi'
    · intro d hd
      obtain ⟨i, hi, rfl⟩ := List.mem_map.1 hd
      exact (hfx i (by simpa using hi)).1
end
end Go.Proofs.Ytfbmlpdomfchpaa
