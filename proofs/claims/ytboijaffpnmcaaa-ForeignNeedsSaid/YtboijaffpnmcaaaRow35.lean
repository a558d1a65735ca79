/- How the arguments of chapter 35's laws are opened. -/
import Derived.Test.YtboijaffpnmcaaaRow
import Derived.Test.YtboijaffpnmcaaaArg35
namespace Go.Proofs.Ytboijaffpnmcaaa
open Go.ChangeShapes Go.WideShapes Go.ChangeAt Go.RowKit Go.Deep
set_option linter.unusedVariables false
set_option linter.unusedSimpArgs false

instance : Inhabited Op35 := ⟨.zero⟩
instance : Inhabited Int := ⟨0⟩
theorem plain_at {w : World} {a : Addr} {v : Value} (h : w.cell? (a.add 0) = some v) : ∃ b off, a = ⟨b, off, none⟩ := by
  obtain ⟨b, off, spot⟩ := a
  have hspot : spot = none := by
    have := World.cell?_spot h
    simpa [Addr.add] using this
  exact ⟨b, off, by rw [hspot]⟩
def dsLeafs : List (Option IntKind) := [some .i64, some .i64, some .i64, some .i64, some .i64, some .u64, some .i64, some .u64, some .i64, some .u64, some .i64]
theorem ds_leafs : leafs Try.prog 5 30 = some dsLeafs := by kernel_rfl
set_option maxRecDepth 10000 in
theorem ds_of_fits {cs : List Value} (h : FitsAll dsLeafs cs) : ∃ d : DS, cs = d.cells := by
  match cs, fitsAll_length h with
  | [_, _, _, _, _, _, _, _, _, _, _], _ =>
    obtain ⟨⟨a0, rfl, h0⟩, ⟨a1, rfl, h1⟩, ⟨a2, rfl, h2⟩, ⟨a3, rfl, h3⟩, ⟨a4, rfl, h4⟩, ⟨a5, rfl, h5⟩, ⟨a6, rfl, h6⟩, ⟨a7, rfl, h7⟩, ⟨a8, rfl, h8⟩, ⟨a9, rfl, h9⟩, ⟨a10, rfl, h10⟩, _⟩ := h
    exact ⟨⟨a0, a1, a2, a3, a4, a5, a6, a7, a8, a9, a10⟩, rfl⟩
def opLeafs : List (Option IntKind) := [some .i64, some .i64] ++ dsLeafs
theorem op_leafs : leafs Try.prog 6 32 = some opLeafs := by kernel_rfl
set_option maxRecDepth 10000 in
theorem op_of_fits {cs : List Value} (h : FitsAll opLeafs cs) : ∃ o : Op35, cs = o.cells ∧ o.Ok := by
  match cs, fitsAll_length h with
  | [_, _, _, _, _, _, _, _, _, _, _, _, _], _ =>
    obtain ⟨⟨k, rfl, hk⟩, ⟨t, rfl, ht⟩, ⟨a0, rfl, h0⟩, ⟨a1, rfl, h1⟩, ⟨a2, rfl, h2⟩, ⟨a3, rfl, h3⟩, ⟨a4, rfl, h4⟩, ⟨a5, rfl, h5⟩, ⟨a6, rfl, h6⟩, ⟨a7, rfl, h7⟩, ⟨a8, rfl, h8⟩, ⟨a9, rfl, h9⟩, ⟨a10, rfl, h10⟩, _⟩ := h
    exact ⟨⟨k, t, ⟨a0, a1, a2, a3, a4, a5, a6, a7, a8, a9, a10⟩⟩, rfl, ⟨(bounds_i64 ht).2⟩⟩
section
variable {H : Type} {enc : TypeId × Value → H} {w : World} {base b0 : Nat} {spare : Nat → Bool} {held : Bool}
theorem open_ds {r : Reach} {v : Value} {d : DataW H} {p : List MemPlace} (hv : Value.okWide Try.prog w r b0 30 v) (h : DataW.Trod enc Try.prog w base spare held 30 v d p) : ∃ a : DS, v = a.v ∧ True := by
  obtain ⟨cs, rfl, _⟩ := okWide_struct Try.underlying30 hv
  obtain ⟨a, e⟩ := ds_of_fits (open_flat ds_leafs h)
  refine ⟨a, ?_, trivial⟩
  obtain ⟨l⟩ := cs
  simp only [Value.cells] at e
  subst e
  rfl
theorem open_op35 {r : Reach} {v : Value} {d : DataW H} {p : List MemPlace} (hv : Value.okWide Try.prog w r b0 32 v) (h : DataW.Trod enc Try.prog w base spare held 32 v d p) : ∃ a : Op35, v = a.v ∧ a.Ok := by
  obtain ⟨cs, rfl, _⟩ := okWide_struct Try.underlying32 hv
  obtain ⟨a, e, ok⟩ := op_of_fits (open_flat op_leafs h)
  refine ⟨a, ?_, ok⟩
  obtain ⟨l⟩ := cs
  simp only [Value.cells] at e
  subst e
  rfl
theorem conf_leafs : leafs Try.prog 6 38 = some [some .i64, some .i64] := by kernel_rfl
theorem open_conf {r : Reach} {v : Value} {d : DataW H} {p : List MemPlace} (hv : Value.okWide Try.prog w r b0 38 v) (h : DataW.Trod enc Try.prog w base spare held 38 v d p) : ∃ a : Cf, v = a.v ∧ True := by
  obtain ⟨cs, rfl, _⟩ := okWide_struct Try.underlying38 hv
  have k := open_flat conf_leafs h
  obtain ⟨l⟩ := cs
  simp only [Value.cells] at k
  match l, fitsAll_length k with
  | [_, _], _ =>
    obtain ⟨⟨a0, rfl, h0⟩, ⟨a1, rfl, h1⟩, _⟩ := k
    exact ⟨⟨a0, a1⟩, rfl, trivial⟩
theorem open_op35s {r : Reach} {v : Value} {d : DataW H} {p : List MemPlace} (hv : Value.okWide Try.prog w r b0 22 v) (h : DataW.Trod enc Try.prog w base spare held 22 v d p) :
    ∃ (A : Option Addr) (len cap : Nat) (l : List Op35), v = .slice A len cap ∧ (OpArg w A len cap l ∧ ∀ d ∈ l, d.Ok) := by
  obtain ⟨A, len, cap, rfl⟩ := okWide_slice Try.underlying22 hv
  obtain ⟨fuel, hf⟩ := h
  rcases open_flats Try.underlying22 op_leafs (by kernel_rfl) hf with hcs | ⟨a, len', cap', hcs, hlc, hm, hx⟩
  · simp [Value.cells] at hcs
    obtain ⟨rfl, rfl, rfl⟩ := hcs
    exact ⟨none, 0, 0, [], rfl, ⟨rfl, Nat.le_refl _, by omega, fun _ => ⟨rfl, rfl⟩, fun h => by omega⟩, by simp⟩
  · simp [Value.cells] at hcs
    obtain ⟨rfl, rfl, rfl⟩ := hcs
    obtain ⟨f, hfx⟩ := choose_lt (α := Op35) (n := len) (p := fun i d => d.Ok ∧ ∀ j, j < 13 → w.cell? (a.add (i * 13 + j)) = d.cells[j]?) (fun i hi => by
      obtain ⟨ds, h1, h2⟩ := hx i hi
      obtain ⟨x, rfl, ok⟩ := op_of_fits h1
      exact ⟨x, ok, h2⟩)
    refine ⟨some a, len, cap, (List.range len).map f, rfl, ⟨by simp, hlc, by simpa [maxLen] using hm, (fun h => by cases h), fun h0 => ?_⟩, ?_⟩
    · obtain ⟨b, off, rfl⟩ := plain_at ((hfx 0 h0).2 0 (by omega))
      have all : ∀ i, i < len → w.rangeAt b (off + i * 13) (f i).cells := fun i hi j v hv => by
        have hj : j < 13 := (List.getElem?_eq_some_iff.1 hv).1
        rw [← hv, ← (hfx i hi).2 j hj, add_plain, Nat.add_assoc]
      refine ⟨b, off, rfl, World.block_lt_of_cell? w _ (all 0 h0 0 _ rfl), fun i o ho => ?_⟩
      have hi := (List.getElem?_eq_some_iff.1 ho).1
      rw [List.getElem?_map, List.getElem?_range (by simpa using hi)] at ho
      injection ho with ho
      subst ho
      exact all i (by simpa using hi)
    · intro d hd
      obtain ⟨i, hi, rfl⟩ := List.mem_map.1 hd
      exact (hfx i (by simpa using hi)).1
theorem int_leafs : leafs Try.prog 5 3 = some [some .i64] := by kernel_rfl
theorem open_ints {r : Reach} {v : Value} {d : DataW H} {p : List MemPlace} (hv : Value.okWide Try.prog w r b0 45 v) (h : DataW.Trod enc Try.prog w base spare held 45 v d p) :
    ∃ (A : Option Addr) (len cap : Nat) (l : List Int), v = .slice A len cap ∧ IntArg w A len cap l := by
  obtain ⟨A, len, cap, rfl⟩ := okWide_slice Try.underlying45 hv
  obtain ⟨fuel, hf⟩ := h
  rcases open_flats Try.underlying45 int_leafs (by kernel_rfl) hf with hcs | ⟨a, len', cap', hcs, hlc, hm, hx⟩
  · simp [Value.cells] at hcs
    obtain ⟨rfl, rfl, rfl⟩ := hcs
    exact ⟨none, 0, 0, [], rfl, ⟨rfl, Nat.le_refl _, by omega, fun _ => ⟨rfl, rfl⟩, fun h => by omega⟩⟩
  · simp [Value.cells] at hcs
    obtain ⟨rfl, rfl, rfl⟩ := hcs
    obtain ⟨f, hfx⟩ := choose_lt (α := Int) (n := len) (p := fun i d => w.cell? (a.add i) = some (.int .i64 d)) (fun i hi => by
      obtain ⟨ds, h1, h2⟩ := hx i hi
      match ds, fitsAll_length h1 with
      | [_], _ =>
        obtain ⟨⟨x, rfl, _⟩, _⟩ := h1
        exact ⟨x, by have := h2 0 (by simp); simpa using this⟩)
    refine ⟨some a, len, cap, (List.range len).map f, rfl, ⟨by simp, hlc, by simpa [maxLen] using hm, (fun h => by cases h), fun h0 => ?_⟩⟩
    obtain ⟨b, off, rfl⟩ := plain_at (hfx 0 h0)
    have all : ∀ i, i < len → w.cell? ⟨b, off + i, none⟩ = some (.int .i64 (f i)) := fun i hi => by
      rw [← hfx i hi, add_plain]
    refine ⟨b, off, rfl, World.block_lt_of_cell? w _ (all 0 h0), fun i o ho => ?_⟩
    have hi := (List.getElem?_eq_some_iff.1 ho).1
    rw [List.getElem?_map, List.getElem?_range (by simpa using hi)] at ho
    injection ho with ho
    subst ho
    exact all i (by simpa using hi)
end
end Go.Proofs.Ytboijaffpnmcaaa
