/- The walk of E2eExact (written by gen_exact.py). -/
import Derived.WalkKit
import Derived.LoopTactic
import Derived.Outline
import Derived.Lib.Hide
import Derived.Test.YtkjnhabflkaopaaE13
namespace Go.Proofs.Ytkjnhabflkaopaa
open Go.RowKit
set_option linter.unusedVariables false
set_option linter.unusedSimpArgs false

theorem set_off {W : World} {b i j : Nat} {v : Value} {c : Option Value} (h : i ≠ j) (k : W.cell? ⟨b, j, none⟩ = c) : (W.setCell ⟨b, i, none⟩ v).cell? ⟨b, j, none⟩ = c := (World.cell?_setCell_other W _ _ _ (fun e => h (congrArg Addr.off e))).trans k
set_option maxRecDepth 100000 in
set_option maxHeartbeats 8000000 in
theorem E2eExact_walk (x : Pth) (two : Bool) (w : World) : Calls Try.prog 5 #[x.v, .bool two] w fun e w' => e = .returned (.bool true) ∧ Below w.heap.size w w' := by
  go_enter Try.func5, Try.ntmps5
  refine seq_opaque ?_
  intro T HT
  go_wp2_with fail
  generalize hW : w.alloc _ = w0
  have hp0 : PthAt w0 w.heap.size x := by rw [← hW]; exact PthAt.of (heap_alloc_new w _)
  have hb0 : Below w.heap.size w w0 := by rw [← hW]; exact (Below.refl _ _).alloc (Nat.le_refl _) _
  have hs0 : w.heap.size < w0.heap.size := by rw [← hW]; simp
  have hf0 : w0.frozen? ⟨w.heap.size, 3, none⟩ = false := by rw [← hW]; exact frozen_of_row _ _ 3 _ _ (heap_alloc_new w _)
  rw [HT.out]
  clear hW HT
  go_wp2_with fail
  refine (new_ok 0 (by decide) (by decide) _).mono ?_
  rintro e w1 ⟨rfl, hA, hb1, hs1⟩
  have hp1 := hp0.below hb1
  have hB1 := below_then hb0 hb1
  have hf1 : w1.frozen? ⟨w.heap.size, 3, none⟩ = false := (hb1.frozen hs0).trans hf0
  have hg1 : w.heap.size < w1.heap.size := by omega
  have hle : w.heap.size ≤ w0.heap.size := Nat.le_of_lt hs0
  have hne : w.heap.size ≠ w0.heap.size := Nat.ne_of_lt hs0
  clear hp0 hb0 hb1 hf0 hs0
  generalize w0.heap.size = b at *
  obtain ⟨c0, c1, c2, c3, c4, c5, c6⟩ := hp1
  have HA := Lib.hid hA
  have HB1 := Lib.hid hB1
  clear hA hB1 hs1
  go_wp2_with fail
  generalize hW2 : World.setCell _ _ _ = w2
  have hp2 : PthAt w2 w.heap.size { x with back := x.there_ } := by rw [← hW2]; exact ⟨set_off (by decide) c0, set_off (by decide) c1, set_off (by decide) c2, World.cell?_setCell_same _ _ _ c3, set_off (by decide) c4, set_off (by decide) c5, set_off (by decide) c6⟩
  have HA2 := Lib.hid (show ExAt w2 b (.new 0) from by rw [← hW2]; exact (heap_setCell_other w1 ⟨w.heap.size, 3, none⟩ b _ (Ne.symm hne)).trans HA.out)
  have HB2 := Lib.hid (show Below w.heap.size w w2 from by rw [← hW2]; exact HB1.out.setCell (p := ⟨w.heap.size, 3, none⟩) (Nat.le_refl _) _)
  have hg2 : w.heap.size < w2.heap.size := by rw [← hW2]; simpa using hg1
  clear hW2 c0 c1 c2 c3 c4 c5 c6 HA HB1 hg1 hf1
  obtain ⟨y, hy⟩ : ∃ y : Pth, { x with back := x.there_ } = y := ⟨_, rfl⟩
  have hyb : y.back = y.there_ := by rw [← hy]
  rw [hy] at hp2
  have hcall := small_any y
  obtain ⟨q, hq⟩ : ∃ q, smallB y = q := ⟨_, rfl⟩
  rw [hq] at hcall
  have HC := Lib.hid hcall
  have HP2 := Lib.hid hp2
  clear hcall hp2
  subst hy
  refine (HC.out _).mono ?_
  rintro e w3 ⟨rfl, hb3⟩
  have HA3 := Lib.hid (HA2.out.below hb3)
  have HB3 := Lib.hid (below_then HB2.out hb3)
  have hp3 := HP2.out.below hb3
  have hg3 : w.heap.size < w3.heap.size := Nat.lt_of_lt_of_le hg2 hb3.size
  have HP3 := Lib.hid hp3
  clear hb3 HP2 HB2 HA2 hg2
  obtain ⟨c0, c1, c2, c3, c4, c5, c6⟩ := hp3
  cases q
  · go_wp2_with fail
    refine (awake38 _).mono ?_
    rintro e w4 ⟨rfl, hb⟩
    have HB4 := Lib.hid (below_then HB3.out hb)
    clear hb
    go_wp2_with fail
    go_ret
    exact ⟨rfl, HB4.out⟩
  · have hsm := smallB_true hq
    have HPL := Lib.hid (play_any { x with back := x.there_ } two hq)
    simp only at hsm
    obtain ⟨⟨u0, v0⟩, ⟨u1, v1⟩, ⟨u2, v2⟩, ⟨u3, v3⟩, ⟨u4, v4⟩, ⟨u5, v5⟩, u6, v6⟩ := hsm
    clear hq hyb
    go_wp2_with fail
    refine (HPL.out _ _ HA3.out).mono ?_
    rintro e w4 ⟨rfl, z, hz, ht, hE⟩
    have HB4 := Lib.hid (Touch.below HB3.out ht hle (Nat.le_refl _))
    have hp4 := HP3.out.touch ht hne
    have HZ4 := Lib.hid hz
    have hd := delay_any z b
    have ho := offset_any z b
    have e1 : z.delay = x.there_ := by rw [hE.delay]; show (x.there_ + x.there_) / 2 = _; omega
    have e2 : offF z = x.ahead := by unfold offF; rw [if_pos hE.known, e1, hE.gap]; show wrap64 (x.there_ + x.ahead - x.there_) = _; rw [IntWalk.wrap64_in _ (by omega)]; omega
    simp only [e1, hE.known] at hd
    simp only [e2, hE.known] at ho
    have HD := Lib.hid hd
    have HO := Lib.hid ho
    clear ht hz hE e1 e2 hd ho hg3 HP3 HB3 HA3 c0 c1 c2 c3 c4 c5 c6
    have HP4 := Lib.hid hp4
    obtain ⟨c0, c1, c2, c3, c4, c5, c6⟩ := hp4
    skip
    go_wp2_with fail
    refine (HD.out _ HZ4.out).mono ?_
    rintro e w5 ⟨rfl, hb⟩
    have HZ5 := Lib.hid (HZ4.out.below hb)
    have HB5 := Lib.hid (below_then HB4.out hb)
    have HP5 := Lib.hid (HP4.out.below hb)
    clear hb c0 c1 c2 c3 c4 c5 c6 HZ4 HB4 HP4
    obtain ⟨c0, c1, c2, c3, c4, c5, c6⟩ := HP5.out
    go_wp2_with fail
    refine (HO.out _ HZ5.out).mono ?_
    rintro e w6 ⟨rfl, hb⟩
    have HB6 := Lib.hid (below_then HB5.out hb)
    have HP6 := Lib.hid (HP5.out.below hb)
    clear hb c0 c1 c2 c3 c4 c5 c6 HZ5 HB5 HP5
    obtain ⟨c0, c1, c2, c3, c4, c5, c6⟩ := HP6.out
    go_wp2_with fail
    refine (awake38 _).mono ?_
    rintro e w7 ⟨rfl, hb⟩
    have HB7 := Lib.hid (below_then HB6.out hb)
    clear hb c0 c1 c2 c3 c4 c5 c6
    go_wp2_with fail
    go_ret
    exact ⟨rfl, HB7.out⟩
end Go.Proofs.Ytkjnhabflkaopaa
