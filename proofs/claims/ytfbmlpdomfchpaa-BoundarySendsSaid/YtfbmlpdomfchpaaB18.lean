/- The examples of chapter 41. -/
import Derived.WalkKit
import Derived.LoopTactic
import Derived.Outline
import Derived.Lib.Hide
import Derived.Test.YtfbmlpdomfchpaaB14
import Derived.Test.YtfbmlpdomfchpaaB16
import Derived.Test.YtfbmlpdomfchpaaB17
namespace Go.Proofs.Ytfbmlpdomfchpaa
open Go.RowKit
set_option linter.unusedVariables false
set_option linter.unusedSimpArgs false

def cfA : BConf := ⟨9, 128, 248, 0, 0, 128, 0, 1, 100, 1, 50⟩
def ptA : Ptp := ⟨11, 0, 0, 0, 3, 2, 0, 0, 0, 0, 0, 0, ⟨0, 1, 248, 0, 0, 0, 3, 0, 0⟩⟩
def kA0 : Ck := newCk cfA 1
def kA1 : Ck := decK kA0 50
def kA2 : Ck := sendK kA1
def kB1 : Ck := annK kA0 1 ptA 10
def kB2 : Ck := decK kB1 10
theorem cfA_ok : cfA.Ok := by constructor <;> decide
theorem kA0_good : kA0.Good := good_new cfA cfA_ok
theorem kA1_good : kA1.Good := good_dec kA0_good 50
theorem kB1_good : kB1.Good := good_ann kA0_good 1 ptA 10
theorem new41 (w : World) : Calls Try.prog 8 #[cfA.v] w fun e w' => ∃ kb, e = .returned (.pointer (some ⟨kb, 0, none⟩)) ∧ CkE w' w.heap.size kb [] kA0 ∧ Below w.heap.size w w' := bnew_any cfA cfA_ok w
theorem dec41a {w : World} {base kb : Nat} {S : List Nat} (h : CkE w base kb S kA0) : Calls Try.prog 18 #[.pointer (some ⟨kb, 0, none⟩), .int .i64 50] w fun e w' => ∃ v, e = .returned (.tuple #[v, .int .i64 0]) ∧ CkE w' base kb S kA1 ∧ Stay base S w w' := by
  have h1 := bdec_any h kA0_good.inv 50
  rw [show whenF kA0 50 = 0 from by kernel_rfl] at h1
  exact h1
theorem dec41b {w : World} {base kb : Nat} {S : List Nat} (h : CkE w base kb S kB1) : Calls Try.prog 18 #[.pointer (some ⟨kb, 0, none⟩), .int .i64 10] w fun e w' => ∃ v, e = .returned (.tuple #[v, .int .i64 0]) ∧ CkE w' base kb S kB2 ∧ Stay base S w w' := by
  have h1 := bdec_any h kB1_good.inv 10
  rw [show whenF kB1 10 = 0 from by kernel_rfl] at h1
  exact h1
theorem ann41 {w : World} {base kb : Nat} {S : List Nat} (h : CkE w base kb S kA0) : Calls Try.prog 21 #[.pointer (some ⟨kb, 0, none⟩), .int .i64 1, ptA.v, .int .i64 10] w fun e w' => e = .returned (.int .i64 0) ∧ CkE w' base kb S kB1 ∧ Stay base S w w' := by
  have h1 := announce_any h kA0_good.inv 1 ptA (by decide) 10
  rw [show annE kA0 1 ptA 10 = 0 from by kernel_rfl] at h1
  exact h1
theorem msg41 : sendL kA1 = [sendX 0 9 kA1.fol 0 0 0] := by kernel_rfl
theorem send41 {w : World} {base kb : Nat} {S : List Nat} (h : CkE w base kb S kA1) : Calls Try.prog 15 #[.pointer (some ⟨kb, 0, none⟩)] w fun e w' => ∃ b c, e = .returned (.slice (some ⟨b, 0, none⟩) 1 c) ∧ w'.cell? ⟨b, 19, none⟩ = some (.int .u64 9) ∧ w'.cell? ⟨b, 20, none⟩ = some (.int .i64 0) ∧ CkE w' base kb S kA2 ∧ Stay base S w w' ∧ 1 ≤ c ∧ c ≤ 9223372036854775807 := by
  have h1 := bsend_any h kA1_good.inv (by rw [show kA1.fol.steps = 0 from by kernel_rfl]; omega) (by rw [show kA1.fol.steps = 0 from by kernel_rfl]; omega)
  rw [msg41] at h1
  refine h1.mono ?_
  rintro e w' ⟨A, c, rfl, harg, hE, hst⟩
  obtain ⟨b, rfl, hr⟩ := harg.at_ (by simp)
  have h0 := hr 0 _ rfl
  refine ⟨b, c, rfl, ?_, ?_, hE.less (fun q hq => List.mem_append.2 (.inr hq)), hst, harg.le, harg.most⟩
  · have := h0 19 _ rfl
    exact this
  · have := h0 20 _ rfl
    exact this
set_option maxRecDepth 100000 in
theorem conf41 (w : World) : Calls Try.prog 24 #[] w fun e w' => e = .returned cfA.v ∧ Below w.heap.size w w' := by
  go_enter Try.func24, Try.ntmps24
  go_wp2_with fail
  refine bodyPost_ret (v := cfA.v) (by simp [results, Try.results24, go_sem, cfA]) rfl ⟨rfl, ?_⟩
  exact (Below.refl _ _).alloc (Nat.le_refl _) _
theorem CkE.on {w w' : World} {base kb B : Nat} {S : List Nat} {k : Ck} (h : CkE w base kb S k) (hB : w.heap.size ≤ B) (hb : Below B w w') : CkE w' base kb S k := h.below (hb.mono hB)
set_option maxRecDepth 100000 in
set_option maxHeartbeats 4000000 in
theorem awake41 (w : World) : Calls Try.prog 7 #[] w fun e w' => e = .returned (.bool true) ∧ Below w.heap.size w w' := by
  go_enter Try.func7, Try.ntmps7
  go_wp2_with fail
  refine (conf41 _).mono ?_
  rintro e w1 ⟨rfl, hb1⟩
  have HB1 := Lib.hid hb1
  clear hb1
  go_wp2_with fail
  refine (new41 _).mono ?_
  rintro e w2 ⟨kb, rfl, hE2, hb2⟩
  have HB2 := Lib.hid (below_then HB1.out hb2)
  have HE2 := Lib.hid hE2
  have HSZ := Lib.hid HB1.out.size
  clear hb2 hE2 HB1
  go_wp2_with fail
  refine (dec41a HE2.out).mono ?_
  rintro e w3 ⟨v, rfl, hE3, hst3⟩
  have HE3 := Lib.hid hE3
  have HB3 := Lib.hid (HB2.out.trans (hst3.below.mono HSZ.out))
  clear hE3 hst3 HE2 HB2
  go_wp2_with fail
  refine (send41 HE3.out).mono ?_
  rintro e w4 ⟨b, c, rfl, hc19, hc20, hE4, hst4, hc1, hc2⟩
  have HE4 := Lib.hid hE4
  have HB4 := Lib.hid (HB3.out.trans (hst4.below.mono HSZ.out))
  have HC := Lib.hid (And.intro hc19 hc20)
  clear hE4 hst4 HE3 HB3 hc19 hc20
  go_wp2_with fail
  refine (conf41 _).mono ?_
  rintro e w5 ⟨rfl, hb5⟩
  have HB5 := Lib.hid hb5
  clear hb5
  go_wp2_with fail
  refine (new41 _).mono ?_
  rintro e w6 ⟨lb, rfl, hE6, hb6⟩
  have HB6 := Lib.hid (below_then HB5.out hb6)
  have HE6 := Lib.hid hE6
  have HS5 := Lib.hid HB5.out.size
  clear hb6 hE6 HB5
  go_wp2_with fail
  refine (ann41 HE6.out).mono ?_
  rintro e w7 ⟨rfl, hE7, hst7⟩
  have HB7 := Lib.hid (HB6.out.trans (hst7.below.mono HS5.out))
  have HE7 := Lib.hid hE7
  clear hE7 hst7 HB6 HE6
  go_wp2_with fail
  refine (dec41b HE7.out).mono ?_
  rintro e w8 ⟨v8, rfl, hE8, hst8⟩
  have hb8 := HB7.out.trans (hst8.below.mono HS5.out)
  have HE8 := Lib.hid hE8
  have HEA := Lib.hid (HE4.out.below hb8)
  have HB8 := Lib.hid (below_then HB4.out hb8)
  have s19 : w8.cell? ⟨b, 19, none⟩ = some (.int .u64 9) := cell_below hb8 HC.out.1
  have s20 : w8.cell? ⟨b, 20, none⟩ = some (.int .i64 0) := cell_below hb8 HC.out.2
  clear hE8 hst8 hb8 HB7 HE7 HE4 HB4 HC
  have HS1 := Lib.hid (show Calls Try.prog 12 #[.pointer (some ⟨kb, 0, none⟩), .int .i64 1] w8 fun e w' => e = .returned (.int .i64 6) ∧ w8 = w' from by have h := state_any HEA.out 1; rw [show stateF kA2 1 = 6 from by kernel_rfl] at h; exact h)
  have HS2 := Lib.hid (show Calls Try.prog 12 #[.pointer (some ⟨lb, 0, none⟩), .int .i64 1] w8 fun e w' => e = .returned (.int .i64 8) ∧ w8 = w' from by have h := state_any HE8.out 1; rw [show stateF kB2 1 = 8 from by kernel_rfl] at h; exact h)
  have hp := parent_any HE8.out
  obtain ⟨f, hf⟩ : ∃ f, kB2.fol = f := ⟨_, rfl⟩
  have hgm : f.gm = 3 := by rw [← hf]; kernel_rfl
  obtain ⟨f0, f1, f2, f3, f4, f5, f6, f7, f8, f9, f10⟩ := f
  simp only at hgm
  subst hgm
  rw [hf] at hp
  have HP := Lib.hid (show Calls Try.prog 13 #[.pointer (some ⟨lb, 0, none⟩)] w8 fun e w' => e = .returned (.agg #[.int .i64 f0, .int .i64 f1, .int .i64 f2, .int .i64 f3, .int .i64 f4, .int .u64 3, .int .i64 f6, .int .u64 f7, .int .i64 f8, .int .u64 f9, .int .i64 f10]) ∧ Below w8.heap.size w8 w' from hp)
  have hfd : ∀ w : World, (Instr.field 35 (.agg #[.int .i64 f0, .int .i64 f1, .int .i64 f2, .int .i64 f3, .int .i64 f4, .int .u64 3, .int .i64 f6, .int .u64 f7, .int .i64 f8, .int .u64 f9, .int .i64 f10]) 5).run Try.prog w = .ok (.int .u64 3) w := fun _ => by kernel_rfl
  clear hp hf
  go_wp2_with (first
    | (go_at_call 12; (with_reducible refine HS1.out.mono ?_); rintro e _ ⟨rfl, rfl⟩)
    | (go_at_call 12; (with_reducible refine HS2.out.mono ?_); rintro e _ ⟨rfl, rfl⟩)
    | (go_at_call 13; (refine HP.out.mono ?_); rintro e w9 ⟨rfl, hb9⟩; have HB9 := Lib.hid hb9; clear hb9))
  go_ret
  exact ⟨rfl, below_then HB8.out HB9.out⟩
end Go.Proofs.Ytfbmlpdomfchpaa
