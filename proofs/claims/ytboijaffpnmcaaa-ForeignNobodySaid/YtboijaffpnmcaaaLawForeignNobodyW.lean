/- The walk of ForeignNobody. -/
import Derived.WalkKit
import Derived.LoopTactic
import Derived.Outline
import Derived.Lib.Hide
import Derived.Test.YtboijaffpnmcaaaF18
import Derived.Test.YtboijaffpnmcaaaArg35
namespace Go.Proofs.Ytboijaffpnmcaaa
open Go.RowKit
set_option linter.unusedVariables false
set_option linter.unusedSimpArgs false

set_option maxRecDepth 100000 in
set_option maxHeartbeats 4000000 in
theorem ForeignNobody_walk (d : DS) (t : Int) (w : World) : Calls Try.prog 8 #[d.v, .int .i64 t] w fun e w' => e = .returned (.bool true) ∧ Below w.heap.size w w' := by
  go_enter Try.func8, Try.ntmps8
  go_wp2_with fail
  generalize hW : w.alloc _ = w1
  have hb : Below w.heap.size w w1 := by rw [← hW]; exact (Below.refl _ _).alloc (Nat.le_refl _) _
  have hr : w1.rangeAt w.heap.size 0 d.cells := by
    rw [← hW]
    intro j v hv
    rw [Nat.zero_add, cell_of_row _ _ j _ _ (0, 0) (heap_alloc_new w _), ← hv]
    simp [DS.cells]
  have HB := Lib.hid hb
  have HR := Lib.hid hr
  clear hW hb hr
  refine (fbest_nil t w1).mono ?_
  rintro e w2 ⟨rfl, hb⟩
  have HB2 := Lib.hid (below_then HB.out hb)
  have HR2 := Lib.hid (rangeAt_below HR.out hb)
  clear hb HB HR
  go_upto_region 3 with fail
  generalize hW : w2.alloc _ = w3
  have hb : Below w2.heap.size w2 w3 := by rw [← hW]; exact (Below.refl _ _).alloc (Nat.le_refl _) _
  have hz : w3.rangeAt w2.heap.size 0 DS.zero.cells := by
    rw [← hW]
    intro j v hv
    rw [Nat.zero_add, cell_of_row _ _ j _ _ (0, 0) (heap_alloc_new w2 _), ← hv]
    simp [DS.cells]
  have HB3 := Lib.hid (below_then HB2.out hb)
  have HR3 := Lib.hid (rangeAt_below HR2.out hb)
  have HZ3 := Lib.hid hz
  clear hW hb hz HB2 HR2
  go_wp2_with (refine load_ds HR3.out _ (by rfl) rfl rfl ?_)
  refine (hear_nil d t w3).mono ?_
  rintro e w4 ⟨rfl, hb⟩
  have HB4 := Lib.hid (below_then HB3.out hb)
  have HZ4 := Lib.hid (rangeAt_below HZ3.out hb)
  clear hb HB3 HR3 HZ3
  go_wp2_with fail
  refine (fqual_nil t w4).mono ?_
  rintro e _ ⟨rfl, rfl⟩
  have he := eql_ds DS.zero DS.zero
  have hd : decide (DS.zero = DS.zero) = true := by simp
  go_wp2_with (refine load_ds HZ4.out _ (by rfl) rfl rfl ?_)
  refine (fforget_nil t w4).mono ?_
  rintro e w5 ⟨rfl, hb⟩
  have HB5 := Lib.hid (below_then HB4.out hb)
  clear hb HB4 HZ4 he hd
  go_wp2_with fail
  refine (flen_nil w5).mono ?_
  rintro e _ ⟨rfl, rfl⟩
  go_wp2_with fail
  refine (awake35 w5).mono ?_
  rintro e w6 ⟨rfl, hb⟩
  have HB6 := Lib.hid (below_then HB5.out hb)
  clear hb HB5
  go_wp2_with fail
  go_ret
  exact ⟨rfl, HB6.out⟩
end Go.Proofs.Ytboijaffpnmcaaa
