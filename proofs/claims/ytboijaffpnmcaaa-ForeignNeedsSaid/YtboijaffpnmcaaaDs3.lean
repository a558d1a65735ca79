/- The walks of package dataset: Less, Compare; the reference's numbers, ints, longer. -/
import Derived.WalkKit
import Derived.LoopTactic
import Derived.Outline
import Derived.Lib.Hide
import Derived.WideLaws
import Derived.Test.YtboijaffpnmcaaaDs2
namespace Go.Proofs.Ytboijaffpnmcaaa
open Go.RowKit

theorem RowAt.of {w : World} {g : Nat} {fs : List Int} {t : TypeId} {cs : Array Value} (h : w.heap[g]? = some (.cells cs t (0, 0))) (hc : cs = (fs.map (Value.int .i64)).toArray) : RowAt w g fs := fun j hj => by
  rw [cell_of_row w g j _ _ (0, 0) h, hc]
  simp [List.getElem?_eq_getElem hj, List.getD_eq_getElem?_getD]

theorem less_any (a b : DS) (w : World) : Calls Try.prog 15 #[a.v, b.v] w fun e w' => e = .returned (.bool (lessB a b)) ∧ Below w.heap.size w w' := by
  have HL := fun w g c h => lists_any a b g c allF (by decide) (by decide) w h
  have HL := Lib.hid HL
  go_enter Try.func15, Try.ntmps15
  go_wp2_with fail
  refine (HL.out _ _ _ ?_).mono ?_
  · refine RowAt.of (t := 3) (cs := #[.int .i64 0, .int .i64 1, .int .i64 2, .int .i64 3, .int .i64 4, .int .i64 5, .int .i64 6, .int .i64 7, .int .i64 8, .int .i64 9, .int .i64 10]) (by simpa using heap_alloc_new ((w.alloc _).alloc _) _) rfl
  · rintro e w1 ⟨rfl, hb⟩
    go_wp2
    go_ret
    refine ⟨ret_bool ?_, ?_⟩
    · simp [lessB, lists_all]
    · exact ((((Below.refl _ _).alloc (Nat.le_refl _) _).alloc (by simp) _).alloc (by simp; omega) _).trans (hb.mono (by simp; omega))

end Go.Proofs.Ytboijaffpnmcaaa
