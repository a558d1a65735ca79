/- Request at a nil clock; the walk of BoundaryNobody. -/
import Derived.WalkKit
import Derived.LoopTactic
import Derived.Outline
import Derived.Lib.Hide
import Derived.Test.YtfbmlpdomfchpaaB10
import Derived.Test.YtfbmlpdomfchpaaB18
import Derived.Test.YtfbmlpdomfchpaaE7
namespace Go.Proofs.Ytfbmlpdomfchpaa
open Go.RowKit
set_option linter.unusedVariables false
set_option linter.unusedSimpArgs false

set_option maxRecDepth 100000 in
theorem breq_nil (n t : Int) (w : World) : Calls Try.prog 19 #[.pointer none, .int .i64 n, .int .i64 t] w fun e w' => e = .returned (.tuple #[Ptp.zero.v, .int .i64 1]) ∧ Below w.heap.size w w' := by
  go_enter Try.func19, Try.ntmps19
  go_wp2_with (refine store_ptp_new (p := .zero) rfl rfl _ _ (by rfl) rfl rfl rfl ?_)
  refine bodyPost_ret (v := .tuple #[Ptp.zero.v, .int .i64 1]) ?_ rfl ⟨rfl, (Below.refl _ _).alloc (Nat.le_refl _) _⟩
  exact results_ptp rfl _ _ ⟨w.heap.size, 0, none⟩ _ _ rfl rfl (load_ptp_run (fun j v hv => by rw [Nat.zero_add, cell_of_row _ _ j _ _ (0, 0) (heap_alloc_new w _), ← hv]; simp))
set_option maxRecDepth 100000 in
set_option maxHeartbeats 4000000 in
theorem BoundaryNobody_walk (n t : Int) (p : Ptp) (w : World) : Calls Try.prog 5 #[.int .i64 n, .int .i64 t, p.v] w fun e w' => e = .returned (.bool true) ∧ Below w.heap.size w w' := by
  have hep : ∀ w : World, (binOp .eql 42 Ptp.zero.v Ptp.zero.v).run Try.prog w = .ok (.bool true) w := fun w => by kernel_rfl
  have hed : ∀ w : World, (binOp .eql 35 DS.zero.v DS.zero.v).run Try.prog w = .ok (.bool true) w := fun w => by kernel_rfl
  go_enter Try.func5, Try.ntmps5
  refine seq_opaque ?_
  intro T HT
  go_wp2_with fail
  generalize hW : w.alloc _ = w0
  have hb0 : Below w.heap.size w w0 := by rw [← hW]; exact (Below.refl _ _).alloc (Nat.le_refl _) _
  have hp0 : PtpBox w0 w.heap.size p := by rw [← hW]; exact PtpBox.of (heap_alloc_new w _)
  have hs0 : w.heap.size < w0.heap.size := by rw [← hW]; simp
  rw [HT.out]
  have HB0 := Lib.hid hb0
  have HP0 := Lib.hid hp0
  clear hW HT hb0 hp0
  go_wp2_with fail
  refine (bdec_nil t _).mono ?_
  rintro e w1 ⟨rfl, hb1⟩
  have HB1 := Lib.hid (below_then HB0.out hb1)
  have HP1 := Lib.hid (rangeAt_below HP0.out.range hb1)
  clear hb1 HB0 HP0 hs0
  go_wp2_with fail
  refine (breq_nil n t _).mono ?_
  rintro e w2 ⟨rfl, hb2⟩
  have HB2 := Lib.hid (below_then HB1.out hb2)
  have HP2 := Lib.hid (rangeAt_below HP1.out hb2)
  clear hb2 HB1 HP1
  go_upto_region 4 with (refine store_ptp_new (p := .zero) rfl rfl _ _ (by rfl) rfl rfl rfl ?_)
  try simp only [Act.put, List.setIfInBounds_toArray, List.set_cons_succ, List.set_cons_zero]
  generalize hW : w2.alloc _ = w3
  have hb : Below w2.heap.size w2 w3 := by rw [← hW]; exact (Below.refl _ _).alloc (Nat.le_refl _) _
  have hz : w3.rangeAt w2.heap.size 0 Ptp.zero.cells := by
    rw [← hW]
    intro j v hv
    rw [Nat.zero_add, cell_of_row _ _ j _ _ (0, 0) (heap_alloc_new w2 _), ← hv]
    simp
  have HB3 := Lib.hid (below_then HB2.out hb)
  have HP3 := Lib.hid (rangeAt_below HP2.out hb)
  have HZ3 := Lib.hid hz
  clear hW hb hz HB2 HP2
  go_wp2_with fail
  refine (boff_nil _).mono ?_
  rintro e w4 ⟨rfl, hb⟩
  have HB4 := Lib.hid (below_then HB3.out hb)
  have HP4 := Lib.hid (rangeAt_below HP3.out hb)
  have HZ4 := Lib.hid (rangeAt_below HZ3.out hb)
  clear hb HB3 HP3 HZ3
  go_upto_region 5 with fail
  simp only [List.append_eq, List.cons_append, List.nil_append]
  go_wp2_with (first | (refine load_ptp_at HP4.out _ (by rfl) rfl rfl ?_) | (refine load_ptp_at HZ4.out _ (by rfl) rfl rfl ?_))
  refine (bann_nil n p t _).mono ?_
  rintro e w5 ⟨rfl, hb⟩
  have HB5 := Lib.hid (below_then HB4.out hb)
  have HP5 := Lib.hid (rangeAt_below HP4.out hb)
  have HZ5 := Lib.hid (rangeAt_below HZ4.out hb)
  clear hb HB4 HP4 HZ4
  go_wp2_with (first | (refine load_ptp_at HP5.out _ (by rfl) rfl rfl ?_) | (refine load_ptp_at HZ5.out _ (by rfl) rfl rfl ?_))
  refine (bsync_nil n p t _).mono ?_
  rintro e w6 ⟨rfl, hb⟩
  have HB6 := Lib.hid (below_then HB5.out hb)
  have HP6 := Lib.hid (rangeAt_below HP5.out hb)
  have HZ6 := Lib.hid (rangeAt_below HZ5.out hb)
  clear hb HB5 HP5 HZ5
  go_wp2_with (first | (refine load_ptp_at HP6.out _ (by rfl) rfl rfl ?_) | (refine load_ptp_at HZ6.out _ (by rfl) rfl rfl ?_))
  refine (bresp_nil n p _).mono ?_
  rintro e w7 ⟨rfl, hb⟩
  have HB7 := Lib.hid (below_then HB6.out hb)
  have HP7 := Lib.hid (rangeAt_below HP6.out hb)
  have HZ7 := Lib.hid (rangeAt_below HZ6.out hb)
  clear hb HB6 HP6 HZ6
  go_wp2_with (first | (refine load_ptp_at HP7.out _ (by rfl) rfl rfl ?_) | (refine load_ptp_at HZ7.out _ (by rfl) rfl rfl ?_))
  refine (bsend_nil _).mono ?_
  rintro e w8 ⟨rfl, hb⟩
  have HB8 := Lib.hid (below_then HB7.out hb)
  have HP8 := Lib.hid (rangeAt_below HP7.out hb)
  have HZ8 := Lib.hid (rangeAt_below HZ7.out hb)
  clear hb HB7 HP7 HZ7
  go_wp2_with (first | (refine load_ptp_at HP8.out _ (by rfl) rfl rfl ?_) | (refine load_ptp_at HZ8.out _ (by rfl) rfl rfl ?_))
  refine (state_nil n _).mono ?_
  rintro e _ ⟨rfl, rfl⟩
  go_wp2_with (first | (refine load_ptp_at HP8.out _ (by rfl) rfl rfl ?_) | (refine load_ptp_at HZ8.out _ (by rfl) rfl rfl ?_))
  refine (parent_nil _).mono ?_
  rintro e w9 ⟨rfl, hb⟩
  have HB9 := Lib.hid (below_then HB8.out hb)
  have HP9 := Lib.hid (rangeAt_below HP8.out hb)
  have HZ9 := Lib.hid (rangeAt_below HZ8.out hb)
  clear hb HB8 HP8 HZ8
  go_wp2_with (first | (refine load_ptp_at HP9.out _ (by rfl) rfl rfl ?_) | (refine load_ptp_at HZ9.out _ (by rfl) rfl rfl ?_))
  refine (awake41 _).mono ?_
  rintro e w10 ⟨rfl, hb⟩
  have HB10 := Lib.hid (below_then HB9.out hb)
  have HP10 := Lib.hid (rangeAt_below HP9.out hb)
  have HZ10 := Lib.hid (rangeAt_below HZ9.out hb)
  clear hb HB9 HP9 HZ9
  go_wp2_with fail
  go_ret
  exact ⟨rfl, HB10.out⟩
end Go.Proofs.Ytfbmlpdomfchpaa
