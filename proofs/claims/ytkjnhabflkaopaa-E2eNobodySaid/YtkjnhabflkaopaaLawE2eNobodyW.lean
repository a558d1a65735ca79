/- The walk of E2eNobody (written by gen_nobody.py). -/
import Derived.WalkKit
import Derived.LoopTactic
import Derived.Outline
import Derived.Lib.Hide
import Derived.Test.YtkjnhabflkaopaaE8
import Derived.Test.YtkjnhabflkaopaaE9
namespace Go.Proofs.Ytkjnhabflkaopaa
open Go.RowKit
set_option linter.unusedVariables false
set_option linter.unusedSimpArgs false

set_option maxRecDepth 100000 in
set_option maxHeartbeats 4000000 in
theorem E2eNobody_walk (o : Opx) (w : World) : Calls Try.prog 10 #[o.v] w fun e w' => e = .returned (.bool true) ∧ Below w.heap.size w w' := by
  go_enter Try.func10, Try.ntmps10
  refine seq_opaque ?_
  intro T HT
  go_wp2_with fail
  generalize hW : w.alloc _ = w0
  have hw0 : Below w.heap.size w w0 := by rw [← hW]; exact (Below.refl _ _).alloc (Nat.le_refl _) _
  have ho0 : OpIn w0 w.heap.size 0 o := by rw [← hW]; exact OpIn.of (heap_alloc_new w _)
  rw [HT.out]
  clear hW HT
  skip
  have c0 := ho0.kind
  have c1 := ho0.t
  have c2 := ho0.seq
  have c24 := ho0.clock
  have c25 := ho0.port
  simp only [Nat.zero_add] at c0 c1 c2 c24 c25
  have HP := Lib.hid ho0.p
  have HB := Lib.hid hw0
  clear hw0
  have HO0 := Lib.hid ho0
  clear ho0
  go_wp2_with (refine load_ptp_at HP.out _ (by rfl) rfl rfl ?_)
  refine (delay_nil _).mono ?_
  rintro e w1 ⟨rfl, hb⟩
  have hw1 := below_then HB.out hb
  have ho1 := HO0.out.below hb
  clear hb c0 c1 c2 c24 c25 HP HB HO0
  have c0 := ho1.kind
  have c1 := ho1.t
  have c2 := ho1.seq
  have c24 := ho1.clock
  have c25 := ho1.port
  simp only [Nat.zero_add] at c0 c1 c2 c24 c25
  have HP := Lib.hid ho1.p
  have HB := Lib.hid hw1
  clear hw1
  have HO1 := Lib.hid ho1
  clear ho1
  go_wp2_with (refine load_ptp_at HP.out _ (by rfl) rfl rfl ?_)
  refine (offset_nil _).mono ?_
  rintro e w2 ⟨rfl, hb⟩
  have hw2 := below_then HB.out hb
  have ho2 := HO1.out.below hb
  clear hb c0 c1 c2 c24 c25 HP HB HO1
  have c0 := ho2.kind
  have c1 := ho2.t
  have c2 := ho2.seq
  have c24 := ho2.clock
  have c25 := ho2.port
  simp only [Nat.zero_add] at c0 c1 c2 c24 c25
  have HP := Lib.hid ho2.p
  have HB := Lib.hid hw2
  clear hw2
  have HO2 := Lib.hid ho2
  clear ho2
  go_wp2_with (refine load_ptp_at HP.out _ (by rfl) rfl rfl ?_)
  refine (sync_nil _ _ _).mono ?_
  rintro e w3 ⟨rfl, hb⟩
  have hw3 := below_then HB.out hb
  have ho3 := HO2.out.below hb
  clear hb c0 c1 c2 c24 c25 HP HB HO2
  have c0 := ho3.kind
  have c1 := ho3.t
  have c2 := ho3.seq
  have c24 := ho3.clock
  have c25 := ho3.port
  simp only [Nat.zero_add] at c0 c1 c2 c24 c25
  have HP := Lib.hid ho3.p
  have HB := Lib.hid hw3
  clear hw3
  have HO3 := Lib.hid ho3
  clear ho3
  go_wp2_with (refine load_ptp_at HP.out _ (by rfl) rfl rfl ?_)
  refine (follow_nil _ _).mono ?_
  rintro e w4 ⟨rfl, hb⟩
  have hw4 := below_then HB.out hb
  have ho4 := HO3.out.below hb
  clear hb c0 c1 c2 c24 c25 HP HB HO3
  have c0 := ho4.kind
  have c1 := ho4.t
  have c2 := ho4.seq
  have c24 := ho4.clock
  have c25 := ho4.port
  simp only [Nat.zero_add] at c0 c1 c2 c24 c25
  have HP := Lib.hid ho4.p
  have HB := Lib.hid hw4
  clear hw4
  have HO4 := Lib.hid ho4
  clear ho4
  go_wp2_with (refine load_ptp_at HP.out _ (by rfl) rfl rfl ?_)
  refine (request_nil _ _ _).mono ?_
  rintro e w5 ⟨rfl, hb⟩
  have hw5 := below_then HB.out hb
  have ho5 := HO4.out.below hb
  clear hb c0 c1 c2 c24 c25 HP HB HO4
  have c0 := ho5.kind
  have c1 := ho5.t
  have c2 := ho5.seq
  have c24 := ho5.clock
  have c25 := ho5.port
  simp only [Nat.zero_add] at c0 c1 c2 c24 c25
  have HP := Lib.hid ho5.p
  have HB := Lib.hid hw5
  clear hw5
  have HO5 := Lib.hid ho5
  clear ho5
  go_wp2_with (refine load_ptp_at HP.out _ (by rfl) rfl rfl ?_)
  refine (resp_nil _ _ _ _).mono ?_
  rintro e w6 ⟨rfl, hb⟩
  have hw6 := below_then HB.out hb
  have ho6 := HO5.out.below hb
  clear hb c0 c1 c2 c24 c25 HP HB HO5
  have c0 := ho6.kind
  have c1 := ho6.t
  have c2 := ho6.seq
  have c24 := ho6.clock
  have c25 := ho6.port
  simp only [Nat.zero_add] at c0 c1 c2 c24 c25
  have HP := Lib.hid ho6.p
  have HB := Lib.hid hw6
  clear hw6
  have HO6 := Lib.hid ho6
  clear ho6
  go_wp2_with (refine load_ptp_at HP.out _ (by rfl) rfl rfl ?_)
  refine (awake38 _).mono ?_
  rintro e w7 ⟨rfl, hb⟩
  have HB2 := Lib.hid (below_then HB.out hb)
  clear hb
  go_wp2_with fail
  go_ret
  exact ⟨rfl, HB2.out⟩
end Go.Proofs.Ytkjnhabflkaopaa
