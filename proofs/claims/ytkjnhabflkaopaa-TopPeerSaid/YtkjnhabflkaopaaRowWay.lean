/- How an argument that is a way is opened. -/
import Derived.Test.YtkjnhabflkaopaaRow
import Derived.Test.YtkjnhabflkaopaaP4
namespace Go.Proofs.Ytkjnhabflkaopaa
open Go.ChangeShapes Go.WideShapes Go.ChangeAt Go.RowKit Go.Deep
set_option linter.unusedVariables false
set_option linter.unusedSimpArgs false

theorem way_cells : Try.prog.cellsOf 24 = 5 := by kernel_rfl
theorem int_cells : Try.prog.cellsOf 3 = 1 := by kernel_rfl
theorem ints_cells : Try.prog.cellsOf 22 = 1 := by kernel_rfl
theorem int_leafs : leafs Try.prog 5 3 = some [some .i64] := by kernel_rfl
theorem way_plain {w : World} {a : Addr} {v : Value} (h : w.cell? (a.add 0) = some v) : ∃ b off, a = ⟨b, off, none⟩ := by
  obtain ⟨b, off, spot⟩ := a
  have hspot : spot = none := by
    have := World.cell?_spot h
    simpa [Addr.add] using this
  exact ⟨b, off, by rw [hspot]⟩
section
variable {H : Type} {enc : TypeId × Value → H} {w : World} {base b0 : Nat} {spare : Nat → Bool} {held : Bool}
theorem open_way {r : Reach} {v : Value} {d : DataW H} {p : List MemPlace} (hv : Value.okWide Try.prog w r b0 24 v) (h : DataW.Trod enc Try.prog w base spare held 24 v d p) :
    ∃ a : WayA, v = a.v ∧ a.Ok w := by
  obtain ⟨cs, rfl, hsz⟩ := okWide_struct Try.underlying24 hv
  obtain ⟨l⟩ := cs
  match l, hsz.trans way_cells with
  | [c0, c1, c2, c3, c4], _ =>
    obtain ⟨fuel, hf⟩ := h
    obtain ⟨xs, n, _, hx, _, hlen, hg⟩ := DataW.trod_struct Try.underlying24 hf
    match xs, hlen with
    | [y0, y1, y2, y3, y4], _ =>
      have k0 := hg 0 _ rfl
      have k1 := hg 1 _ rfl
      have k2 := hg 2 _ rfl
      have k3 := hg 3 _ rfl
      have k4 := hg 4 _ rfl
      simp [Value.cells, int_cells] at k0 k1 k2 k3
      simp [Value.cells, ints_cells] at k4
      obtain ⟨m0, e0, _, _⟩ := DataW.trod_int Try.underlying3 k0
      obtain ⟨m1, e1, _, _⟩ := DataW.trod_int Try.underlying3 k1
      obtain ⟨m2, e2, _, _⟩ := DataW.trod_int Try.underlying3 k2
      obtain ⟨m3, e3, _, _⟩ := DataW.trod_int Try.underlying3 k3
      simp at e0 e1 e2 e3
      subst e0 e1 e2 e3
      rcases open_flats Try.underlying22 int_leafs int_cells k4 with hcs | ⟨a, len, cap, hcs, hlc, hm, hr⟩
      · simp at hcs
        subst hcs
        exact ⟨⟨m0, m1, m2, m3, none, 0, 0⟩, rfl, ⟨Nat.le_refl _, by show 0 ≤ _; omega, fun h => absurd h (by show ¬ 0 < 0; omega)⟩⟩
      · simp at hcs
        subst hcs
        refine ⟨⟨m0, m1, m2, m3, some a, len, cap⟩, rfl, ⟨hlc, by simpa [maxLen] using hm, fun h0 => ?_⟩⟩
        have cell : ∀ i, i < len → ∃ v : Int, w.cell? (a.add i) = some (.int .i64 v) := fun i hi => by
          obtain ⟨ds, h1, h2⟩ := hr i hi
          match ds, fitsAll_length h1 with
          | [_], _ =>
            obtain ⟨⟨v, rfl, _⟩, _⟩ := h1
            exact ⟨v, by have := h2 0 (by decide); simpa using this⟩
        obtain ⟨v, hv0⟩ := cell 0 h0
        obtain ⟨g, o, rfl⟩ := way_plain hv0
        refine ⟨g, o, rfl, ?_, fun i hi => ?_⟩
        · have := World.block_lt_of_cell? w _ hv0
          simpa [add_plain] using this
        · obtain ⟨v, hv⟩ := cell i hi
          exact ⟨v, by rw [add_plain] at hv; exact hv⟩
end
end Go.Proofs.Ytkjnhabflkaopaa
