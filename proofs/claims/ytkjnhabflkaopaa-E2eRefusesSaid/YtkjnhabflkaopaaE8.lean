/- The examples of chapter 38 (written by gen_e8.py). -/
import Derived.WalkKit
import Derived.LoopTactic
import Derived.Outline
import Derived.Lib.Hide
import Derived.Test.YtkjnhabflkaopaaE6
import Derived.Test.YtkjnhabflkaopaaE7
namespace Go.Proofs.Ytkjnhabflkaopaa
open Go.RowKit
set_option linter.unusedVariables false
set_option linter.unusedSimpArgs false

/-- Two exchanges, each in a block of its own. -/
structure Two (w0 w : World) (a b : Nat) (x y : Ex) : Prop where
  fst_ : ExAt w a x
  snd_ : ExAt w b y
  below_ : Below w0.heap.size w0 w
theorem Two.below {w0 w w' : World} {a b : Nat} {x y : Ex} (h : Two w0 w a b x y) (k : Below w.heap.size w w') : Two w0 w' a b x y := ⟨h.fst_.below k, h.snd_.below k, below_then h.below_ k⟩
theorem Two.first {w0 w w' : World} {a b : Nat} {x y x' : Ex} (h : Two w0 w a b x y) (hne : b ≠ a) (hl : w0.heap.size ≤ a) (k : ExAt w' a x') (t : Touch a w w') : Two w0 w' a b x' y := ⟨k, h.snd_.touch t hne, Touch.below h.below_ t hl (Nat.le_refl _)⟩
theorem Two.second {w0 w w' : World} {a b : Nat} {x y y' : Ex} (h : Two w0 w a b x y) (hne : a ≠ b) (hl : w0.heap.size ≤ b) (k : ExAt w' b y') (t : Touch b w w') : Two w0 w' a b x y' := ⟨h.fst_.touch t hne, k, Touch.below h.below_ t hl (Nat.le_refl _)⟩
def exM1 : Ptp := msgF 0 1 1000 0
theorem aw_m1 (w : World) : Calls Try.prog 30 #[.int .i64 0, .int .i64 1, .int .i64 1000, .int .i64 0] w fun e w' => e = .returned exM1.v ∧ Below w.heap.size w w' := message_any 0 1 1000 0 (by decide) (by decide) (by decide) (by decide) w
def exM2 : Ptp := msgF 9 3 1500 0
theorem aw_m2 (w : World) : Calls Try.prog 30 #[.int .i64 9, .int .i64 3, .int .i64 1500, .int .i64 0] w fun e w' => e = .returned exM2.v ∧ Below w.heap.size w w' := message_any 9 3 1500 0 (by decide) (by decide) (by decide) (by decide) w
def exM3 : Ptp := msgF 0 1 1000 50
theorem aw_m3 (w : World) : Calls Try.prog 30 #[.int .i64 0, .int .i64 1, .int .i64 1000, .int .i64 50] w fun e w' => e = .returned exM3.v ∧ Below w.heap.size w w' := message_any 0 1 1000 50 (by decide) (by decide) (by decide) (by decide) w
def exM4 : Ptp := msgF 8 1 1000 0
theorem aw_m4 (w : World) : Calls Try.prog 30 #[.int .i64 8, .int .i64 1, .int .i64 1000, .int .i64 0] w fun e w' => e = .returned exM4.v ∧ Below w.heap.size w w' := message_any 8 1 1000 0 (by decide) (by decide) (by decide) (by decide) w
def exA0 : Ex := .new 0
def exA1 : Ex := syncX exA0 exM1 1700
theorem aw_a1 (b : Nat) (w : World) (h : ExAt w b exA0) : Calls Try.prog 27 #[.pointer (some ⟨b, 0, none⟩), exM1.v, .int .i64 1700] w fun e w' => e = .returned (.int .i64 0) ∧ ExAt w' b exA1 ∧ Touch b w w' := by
  have k := sync_any exA0 b exM1 (by decide) 1700 w h
  rw [show syncE exA0 exM1 1700 = 0 from by decide +kernel] at k
  exact k
def exA2 : Ex := reqX exA1 3 2000
theorem aw_a2 (b : Nat) (w : World) (h : ExAt w b exA1) : Calls Try.prog 31 #[.pointer (some ⟨b, 0, none⟩), .int .i64 3, .int .i64 2000] w fun e w' => e = .returned (.int .i64 0) ∧ ExAt w' b exA2 ∧ Touch b w w' := by
  have k := request_any exA1 b 3 2000 w h
  rw [show reqE 3 2000 = 0 from by decide +kernel] at k
  exact k
def exA3 : Ex := respX exA2 exM2 9 1
theorem aw_a3 (b : Nat) (w : World) (h : ExAt w b exA2) : Calls Try.prog 32 #[.pointer (some ⟨b, 0, none⟩), exM2.v, .int .u64 9, .int .i64 1] w fun e w' => e = .returned (.int .i64 0) ∧ ExAt w' b exA3 ∧ Touch b w w' := by
  have k := resp_any exA2 b exM2 (by decide) 9 1 w h
  rw [show respE exA2 exM2 9 1 = 0 from by decide +kernel] at k
  exact k
def exB1 : Ex := syncX exA0 exM3 1700
theorem aw_b1 (b : Nat) (w : World) (h : ExAt w b exA0) : Calls Try.prog 27 #[.pointer (some ⟨b, 0, none⟩), exM3.v, .int .i64 1700] w fun e w' => e = .returned (.int .i64 0) ∧ ExAt w' b exB1 ∧ Touch b w w' := by
  have k := sync_any exA0 b exM3 (by decide) 1700 w h
  rw [show syncE exA0 exM3 1700 = 0 from by decide +kernel] at k
  exact k
def exB2 : Ex := reqX exB1 3 2000
theorem aw_b2 (b : Nat) (w : World) (h : ExAt w b exB1) : Calls Try.prog 31 #[.pointer (some ⟨b, 0, none⟩), .int .i64 3, .int .i64 2000] w fun e w' => e = .returned (.int .i64 0) ∧ ExAt w' b exB2 ∧ Touch b w w' := by
  have k := request_any exB1 b 3 2000 w h
  rw [show reqE 3 2000 = 0 from by decide +kernel] at k
  exact k
def exB3 : Ex := respX exB2 exM2 9 1
theorem aw_b3 (b : Nat) (w : World) (h : ExAt w b exB2) : Calls Try.prog 32 #[.pointer (some ⟨b, 0, none⟩), exM2.v, .int .u64 9, .int .i64 1] w fun e w' => e = .returned (.int .i64 0) ∧ ExAt w' b exB3 ∧ Touch b w w' := by
  have k := resp_any exB2 b exM2 (by decide) 9 1 w h
  rw [show respE exB2 exM2 9 1 = 0 from by decide +kernel] at k
  exact k
def exA4 : Ex := respX exA3 exM2 9 1
theorem aw_a4 (b : Nat) (w : World) (h : ExAt w b exA3) : Calls Try.prog 32 #[.pointer (some ⟨b, 0, none⟩), exM2.v, .int .u64 9, .int .i64 1] w fun e w' => e = .returned (.int .i64 11) ∧ ExAt w' b exA4 ∧ Touch b w w' := by
  have k := resp_any exA3 b exM2 (by decide) 9 1 w h
  rw [show respE exA3 exM2 9 1 = 11 from by decide +kernel] at k
  exact k
def exA5 : Ex := followX exA4 exM4
theorem aw_a5 (b : Nat) (w : World) (h : ExAt w b exA4) : Calls Try.prog 28 #[.pointer (some ⟨b, 0, none⟩), exM4.v] w fun e w' => e = .returned (.int .i64 11) ∧ ExAt w' b exA5 ∧ Touch b w w' := by
  have k := follow_any exA4 b exM4 (by decide) w h
  rw [show followE exA4 exM4 = 11 from by decide +kernel] at k
  exact k
theorem aw_da (b : Nat) (w : World) (h : ExAt w b exA3) : Calls Try.prog 25 #[.pointer (some ⟨b, 0, none⟩)] w fun e w' => e = .returned (.tuple #[.int .i64 100, .bool true]) ∧ Below w.heap.size w w' := by
  have k := delay_any exA3 b w h
  rw [show exA3.delay = 100 from by decide +kernel, show exA3.known = true from by decide +kernel] at k
  exact k
theorem aw_db (b : Nat) (w : World) (h : ExAt w b exB3) : Calls Try.prog 25 #[.pointer (some ⟨b, 0, none⟩)] w fun e w' => e = .returned (.tuple #[.int .i64 75, .bool true]) ∧ Below w.heap.size w w' := by
  have k := delay_any exB3 b w h
  rw [show exB3.delay = 75 from by decide +kernel, show exB3.known = true from by decide +kernel] at k
  exact k
theorem aw_oa (b : Nat) (w : World) (h : ExAt w b exA3) : Calls Try.prog 26 #[.pointer (some ⟨b, 0, none⟩)] w fun e w' => e = .returned (.tuple #[.int .i64 600, .bool true]) ∧ Below w.heap.size w w' := by
  have k := offset_any exA3 b w h
  rw [show offF exA3 = 600 from by decide +kernel, show exA3.known = true from by decide +kernel] at k
  exact k
theorem aw_ob (b : Nat) (w : World) (h : ExAt w b exB3) : Calls Try.prog 26 #[.pointer (some ⟨b, 0, none⟩)] w fun e w' => e = .returned (.tuple #[.int .i64 575, .bool true]) ∧ Below w.heap.size w w' := by
  have k := offset_any exB3 b w h
  rw [show offF exB3 = 575 from by decide +kernel, show exB3.known = true from by decide +kernel] at k
  exact k
set_option maxRecDepth 100000 in
set_option maxHeartbeats 4000000 in
theorem awake38 (w : World) : Calls Try.prog 23 #[] w fun e w' => e = .returned (.bool true) ∧ Below w.heap.size w w' := by
  go_enter Try.func23, Try.ntmps23
  go_wp2_with fail
  refine (new_ok 0 (by decide) (by decide) _).mono ?_
  rintro e w1 ⟨rfl, hA, hb1, hs1⟩
  go_wp2_with fail
  refine (new_ok 0 (by decide) (by decide) _).mono ?_
  rintro e w2 ⟨rfl, hB, hb2, hs2⟩
  have HT2 := Lib.hid (show Two w w2 w.heap.size w1.heap.size exA0 exA0 from ⟨hA.below hb2, hB, below_then hb1 hb2⟩)
  have hl1 := Lib.hid (Nat.le_refl w.heap.size)
  have hl2 := Lib.hid (Nat.le_of_lt hs1)
  have hne1 := Lib.hid (Nat.ne_of_lt hs1)
  have hne2 := Lib.hid (Nat.ne_of_gt hs1)
  clear hA hB hb1 hb2 hs1 hs2
  generalize w1.heap.size = B at *
  go_wp2_with fail
  refine (new_bad 256 (by decide) _).mono ?_
  rintro e _ ⟨rfl, rfl⟩
  go_wp2_with fail
  refine (aw_m1 _).mono ?_
  rintro e w3 ⟨rfl, hb⟩
  have HT3 := Lib.hid (HT2.out.below hb)
  clear hb HT2
  go_wp2_with fail
  refine (aw_a1 _ _ HT3.out.fst_).mono ?_
  rintro e w4 ⟨rfl, hx, ht⟩
  have HT4 := Lib.hid (HT3.out.first hne2.out hl1.out hx ht)
  clear hx ht HT3
  go_wp2_with fail
  refine (aw_a2 _ _ HT4.out.fst_).mono ?_
  rintro e w5 ⟨rfl, hx, ht⟩
  have HT5 := Lib.hid (HT4.out.first hne2.out hl1.out hx ht)
  clear hx ht HT4
  go_wp2_with fail
  refine (aw_m2 _).mono ?_
  rintro e w6 ⟨rfl, hb⟩
  have HT6 := Lib.hid (HT5.out.below hb)
  clear hb HT5
  go_wp2_with fail
  refine (aw_a3 _ _ HT6.out.fst_).mono ?_
  rintro e w7 ⟨rfl, hx, ht⟩
  have HT7 := Lib.hid (HT6.out.first hne2.out hl1.out hx ht)
  clear hx ht HT6
  go_wp2_with fail
  refine (aw_m3 _).mono ?_
  rintro e w8 ⟨rfl, hb⟩
  have HT8 := Lib.hid (HT7.out.below hb)
  clear hb HT7
  go_wp2_with fail
  refine (aw_b1 _ _ HT8.out.snd_).mono ?_
  rintro e w9 ⟨rfl, hx, ht⟩
  have HT9 := Lib.hid (HT8.out.second hne1.out hl2.out hx ht)
  clear hx ht HT8
  go_wp2_with fail
  refine (aw_b2 _ _ HT9.out.snd_).mono ?_
  rintro e w10 ⟨rfl, hx, ht⟩
  have HT10 := Lib.hid (HT9.out.second hne1.out hl2.out hx ht)
  clear hx ht HT9
  go_wp2_with fail
  refine (aw_m2 _).mono ?_
  rintro e w11 ⟨rfl, hb⟩
  have HT11 := Lib.hid (HT10.out.below hb)
  clear hb HT10
  go_wp2_with fail
  refine (aw_b3 _ _ HT11.out.snd_).mono ?_
  rintro e w12 ⟨rfl, hx, ht⟩
  have HT12 := Lib.hid (HT11.out.second hne1.out hl2.out hx ht)
  clear hx ht HT11
  go_wp2_with fail
  refine (aw_da _ _ HT12.out.fst_).mono ?_
  rintro e w13 ⟨rfl, hb⟩
  have HT13 := Lib.hid (HT12.out.below hb)
  clear hb HT12
  go_wp2_with fail
  refine (aw_oa _ _ HT13.out.fst_).mono ?_
  rintro e w14 ⟨rfl, hb⟩
  have HT14 := Lib.hid (HT13.out.below hb)
  clear hb HT13
  go_wp2_with fail
  refine (aw_db _ _ HT14.out.snd_).mono ?_
  rintro e w15 ⟨rfl, hb⟩
  have HT15 := Lib.hid (HT14.out.below hb)
  clear hb HT14
  go_wp2_with fail
  refine (aw_ob _ _ HT15.out.snd_).mono ?_
  rintro e w16 ⟨rfl, hb⟩
  have HT16 := Lib.hid (HT15.out.below hb)
  clear hb HT15
  go_wp2_with fail
  refine (aw_m2 _).mono ?_
  rintro e w17 ⟨rfl, hb⟩
  have HT17 := Lib.hid (HT16.out.below hb)
  clear hb HT16
  go_wp2_with fail
  refine (aw_a4 _ _ HT17.out.fst_).mono ?_
  rintro e w18 ⟨rfl, hx, ht⟩
  have HT18 := Lib.hid (HT17.out.first hne2.out hl1.out hx ht)
  clear hx ht HT17
  go_wp2_with fail
  refine (aw_m4 _).mono ?_
  rintro e w19 ⟨rfl, hb⟩
  have HT19 := Lib.hid (HT18.out.below hb)
  clear hb HT18
  go_wp2_with fail
  refine (aw_a5 _ _ HT19.out.fst_).mono ?_
  rintro e w20 ⟨rfl, hx, ht⟩
  have HT20 := Lib.hid (HT19.out.first hne2.out hl1.out hx ht)
  clear hx ht HT19
  go_wp2_with fail
  go_ret
  exact ⟨rfl, HT20.out.below_⟩
end Go.Proofs.Ytkjnhabflkaopaa
