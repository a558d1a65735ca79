/- The walk of E2eOthers (written by gen_others.py). -/
import Derived.WalkKit
import Derived.LoopTactic
import Derived.Outline
import Derived.Lib.Hide
import Derived.Test.YtkjnhabflkaopaaE11
namespace Go.Proofs.Ytkjnhabflkaopaa
open Go.RowKit
set_option linter.unusedVariables false
set_option linter.unusedSimpArgs false

set_option maxRecDepth 100000 in
set_option maxHeartbeats 8000000 in
theorem E2eOthers_walk (seq other port : Int) (w : World) : Calls Try.prog 9 #[.int .i64 seq, .int .i64 other, .int .i64 port] w fun e w' => e = .returned (.bool true) ∧ Below w.heap.size w w' := by
  by_cases g0 : seq < 0
  · go_enter Try.func9, Try.ntmps9
    go_wp2_with fail
    refine (new_ok 0 (by decide) (by decide) _).mono ?_
    rintro e w1 ⟨rfl, hA, hb1, hs1⟩
    have HT1 := Lib.hid (show One w w1 w.heap.size (.new 0) from ⟨hA, hb1⟩)
    have hl := Lib.hid (Nat.le_refl w.heap.size)
    clear hA hb1 hs1
    go_wp2_with fail
    refine (awake38 _).mono ?_
    rintro e w2 ⟨rfl, hb⟩
    have HB := Lib.hid (below_then HT1.out.below_ hb)
    clear hb HT1
    go_wp2_with fail
    go_ret
    exact ⟨rfl, HB.out⟩
  by_cases g1 : 65535 < seq
  · go_enter Try.func9, Try.ntmps9
    go_wp2_with fail
    refine (new_ok 0 (by decide) (by decide) _).mono ?_
    rintro e w1 ⟨rfl, hA, hb1, hs1⟩
    have HT1 := Lib.hid (show One w w1 w.heap.size (.new 0) from ⟨hA, hb1⟩)
    have hl := Lib.hid (Nat.le_refl w.heap.size)
    clear hA hb1 hs1
    go_wp2_with fail
    refine (awake38 _).mono ?_
    rintro e w2 ⟨rfl, hb⟩
    have HB := Lib.hid (below_then HT1.out.below_ hb)
    clear hb HT1
    go_wp2_with fail
    go_ret
    exact ⟨rfl, HB.out⟩
  by_cases g2 : other < 0
  · go_enter Try.func9, Try.ntmps9
    go_wp2_with fail
    refine (new_ok 0 (by decide) (by decide) _).mono ?_
    rintro e w1 ⟨rfl, hA, hb1, hs1⟩
    have HT1 := Lib.hid (show One w w1 w.heap.size (.new 0) from ⟨hA, hb1⟩)
    have hl := Lib.hid (Nat.le_refl w.heap.size)
    clear hA hb1 hs1
    go_wp2_with fail
    refine (awake38 _).mono ?_
    rintro e w2 ⟨rfl, hb⟩
    have HB := Lib.hid (below_then HT1.out.below_ hb)
    clear hb HT1
    go_wp2_with fail
    go_ret
    exact ⟨rfl, HB.out⟩
  by_cases g3 : 65535 < other
  · go_enter Try.func9, Try.ntmps9
    go_wp2_with fail
    refine (new_ok 0 (by decide) (by decide) _).mono ?_
    rintro e w1 ⟨rfl, hA, hb1, hs1⟩
    have HT1 := Lib.hid (show One w w1 w.heap.size (.new 0) from ⟨hA, hb1⟩)
    have hl := Lib.hid (Nat.le_refl w.heap.size)
    clear hA hb1 hs1
    go_wp2_with fail
    refine (awake38 _).mono ?_
    rintro e w2 ⟨rfl, hb⟩
    have HB := Lib.hid (below_then HT1.out.below_ hb)
    clear hb HT1
    go_wp2_with fail
    go_ret
    exact ⟨rfl, HB.out⟩
  by_cases g4 : port < 0
  · go_enter Try.func9, Try.ntmps9
    go_wp2_with fail
    refine (new_ok 0 (by decide) (by decide) _).mono ?_
    rintro e w1 ⟨rfl, hA, hb1, hs1⟩
    have HT1 := Lib.hid (show One w w1 w.heap.size (.new 0) from ⟨hA, hb1⟩)
    have hl := Lib.hid (Nat.le_refl w.heap.size)
    clear hA hb1 hs1
    go_wp2_with fail
    refine (awake38 _).mono ?_
    rintro e w2 ⟨rfl, hb⟩
    have HB := Lib.hid (below_then HT1.out.below_ hb)
    clear hb HT1
    go_wp2_with fail
    go_ret
    exact ⟨rfl, HB.out⟩
  by_cases g5 : 65535 < port
  · go_enter Try.func9, Try.ntmps9
    go_wp2_with fail
    refine (new_ok 0 (by decide) (by decide) _).mono ?_
    rintro e w1 ⟨rfl, hA, hb1, hs1⟩
    have HT1 := Lib.hid (show One w w1 w.heap.size (.new 0) from ⟨hA, hb1⟩)
    have hl := Lib.hid (Nat.le_refl w.heap.size)
    clear hA hb1 hs1
    go_wp2_with fail
    refine (awake38 _).mono ?_
    rintro e w2 ⟨rfl, hb⟩
    have HB := Lib.hid (below_then HT1.out.below_ hb)
    clear hb HT1
    go_wp2_with fail
    go_ret
    exact ⟨rfl, HB.out⟩
  by_cases g6 : other = seq
  · have b6 : (other == seq) = true := by simpa using g6
    go_enter Try.func9, Try.ntmps9
    go_wp2_with fail
    refine (new_ok 0 (by decide) (by decide) _).mono ?_
    rintro e w1 ⟨rfl, hA, hb1, hs1⟩
    have HT1 := Lib.hid (show One w w1 w.heap.size (.new 0) from ⟨hA, hb1⟩)
    have hl := Lib.hid (Nat.le_refl w.heap.size)
    clear hA hb1 hs1
    go_wp2_with fail
    refine (awake38 _).mono ?_
    rintro e w2 ⟨rfl, hb⟩
    have HB := Lib.hid (below_then HT1.out.below_ hb)
    clear hb HT1
    go_wp2_with fail
    go_ret
    exact ⟨rfl, HB.out⟩
  have b6 : (other == seq) = false := by simpa using g6
  by_cases g7 : port = 1
  · have b7 : (port == 1) = true := by simpa using g7
    go_enter Try.func9, Try.ntmps9
    go_wp2_with fail
    refine (new_ok 0 (by decide) (by decide) _).mono ?_
    rintro e w1 ⟨rfl, hA, hb1, hs1⟩
    have HT1 := Lib.hid (show One w w1 w.heap.size (.new 0) from ⟨hA, hb1⟩)
    have hl := Lib.hid (Nat.le_refl w.heap.size)
    clear hA hb1 hs1
    go_wp2_with fail
    refine (awake38 _).mono ?_
    rintro e w2 ⟨rfl, hb⟩
    have HB := Lib.hid (below_then HT1.out.below_ hb)
    clear hb HT1
    go_wp2_with fail
    go_ret
    exact ⟨rfl, HB.out⟩
  have b7 : (port == 1) = false := by simpa using g7
  have hs : 0 ≤ seq ∧ seq ≤ 65535 := by omega
  have ho : 0 ≤ other ∧ other ≤ 65535 := by omega
  have z0 : (0 : Int) ≤ 0 ∧ (0 : Int) ≤ 255 := by decide
  have a0 : (-1125899906842624 : Int) ≤ 0 ∧ (0 : Int) ≤ 1125899906842624 := by decide
  have a1 : (-1125899906842624 : Int) ≤ 100 ∧ (100 : Int) ≤ 1125899906842624 := by decide
  have i0 : instB 0 = true := by decide
  have i1 : instB 100 = true := by decide
  have m0 : ∀ w, Calls Try.prog 30 #[.int .i64 0, .int .i64 seq, .int .i64 0, .int .i64 0] w fun e w' => e = .returned (msgD 0 seq 0 0 0 0).v ∧ Below w.heap.size w w' := message_any 0 seq 0 0 (by decide) (by decide) (by decide) (by decide)
  have m8o : ∀ w, Calls Try.prog 30 #[.int .i64 8, .int .i64 other, .int .i64 0, .int .i64 0] w fun e w' => e = .returned (msgD 8 other 0 0 0 0).v ∧ Below w.heap.size w w' := message_any 8 other 0 0 (by decide) (by decide) (by decide) (by decide)
  have m8s : ∀ w, Calls Try.prog 30 #[.int .i64 8, .int .i64 seq, .int .i64 0, .int .i64 0] w fun e w' => e = .returned (msgD 8 seq 0 0 0 0).v ∧ Below w.heap.size w w' := message_any 8 seq 0 0 (by decide) (by decide) (by decide) (by decide)
  have m9o : ∀ w, Calls Try.prog 30 #[.int .i64 9, .int .i64 other, .int .i64 100, .int .i64 0] w fun e w' => e = .returned (msgD 9 other 100 0 0 0).v ∧ Below w.heap.size w w' := message_any 9 other 100 0 (by decide) (by decide) (by decide) (by decide)
  have m9s : ∀ w, Calls Try.prog 30 #[.int .i64 9, .int .i64 seq, .int .i64 100, .int .i64 0] w fun e w' => e = .returned (msgD 9 seq 100 0 0 0).v ∧ Below w.heap.size w w' := message_any 9 seq 100 0 (by decide) (by decide) (by decide) (by decide)
  obtain ⟨e_c1, x_c1⟩ := sync_two (.new 0) seq 0 0 0 100 hs a0 z0 rfl i1
  obtain ⟨x1, hx_c1⟩ : ∃ y, syncX (.new 0) (msgD 0 seq 0 0 512 0) 100 = y := ⟨_, rfl⟩
  have c1 : ∀ b w, ExAt w b (.new 0) → Calls Try.prog 27 #[.pointer (some ⟨b, 0, none⟩), (msgD 0 seq 0 0 512 0).v, .int .i64 100] w fun e w' => e = .returned (.int .i64 0) ∧ ExAt w' b x1 ∧ Touch b w w' := fun b w h => by have k := sync_any (.new 0) b (msgD 0 seq 0 0 512 0) rfl 100 w h; rw [e_c1, hx_c1] at k; exact k
  rw [x_c1] at hx_c1
  obtain ⟨e_c2, x_c2⟩ := follow_miss x1 other 0 0 0 ho a0 z0 (by rw [← hx_c1]; rfl) (.inr (by rw [← hx_c1]; exact fun e => g6 e.symm))
  obtain ⟨x2, hx_c2⟩ : ∃ y, followX x1 (msgD 8 other 0 0 0 0) = y := ⟨_, rfl⟩
  have c2 : ∀ b w, ExAt w b x1 → Calls Try.prog 28 #[.pointer (some ⟨b, 0, none⟩), (msgD 8 other 0 0 0 0).v] w fun e w' => e = .returned (.int .i64 11) ∧ ExAt w' b x2 ∧ Touch b w w' := fun b w h => by have k := follow_any x1 b (msgD 8 other 0 0 0 0) rfl w h; rw [e_c2, hx_c2] at k; exact k
  rw [x_c2] at hx_c2
  obtain ⟨e_c3, x_c3⟩ := follow_hit x2 seq 0 0 0 hs a0 z0 (by rw [← hx_c2, ← hx_c1]; rfl) (by rw [← hx_c2, ← hx_c1]) (by rw [← hx_c2, ← hx_c1]; rfl) (by rw [← hx_c2, ← hx_c1]; rfl) (by rw [← hx_c2, ← hx_c1]; rfl)
  obtain ⟨x3, hx_c3⟩ : ∃ y, followX x2 (msgD 8 seq 0 0 0 0) = y := ⟨_, rfl⟩
  have c3 : ∀ b w, ExAt w b x2 → Calls Try.prog 28 #[.pointer (some ⟨b, 0, none⟩), (msgD 8 seq 0 0 0 0).v] w fun e w' => e = .returned (.int .i64 0) ∧ ExAt w' b x3 ∧ Touch b w w' := fun b w h => by have k := follow_any x2 b (msgD 8 seq 0 0 0 0) rfl w h; rw [e_c3, hx_c3] at k; exact k
  rw [x_c3] at hx_c3
  obtain ⟨e_c4, x_c4⟩ := follow_miss x3 seq 0 0 0 hs a0 z0 (by rw [← hx_c3, ← hx_c2, ← hx_c1]; rfl) (.inl (by rw [← hx_c3]))
  obtain ⟨x4, hx_c4⟩ : ∃ y, followX x3 (msgD 8 seq 0 0 0 0) = y := ⟨_, rfl⟩
  have c4 : ∀ b w, ExAt w b x3 → Calls Try.prog 28 #[.pointer (some ⟨b, 0, none⟩), (msgD 8 seq 0 0 0 0).v] w fun e w' => e = .returned (.int .i64 11) ∧ ExAt w' b x4 ∧ Touch b w w' := fun b w h => by have k := follow_any x3 b (msgD 8 seq 0 0 0 0) rfl w h; rw [e_c4, hx_c4] at k; exact k
  rw [x_c4] at hx_c4
  obtain ⟨e_c5, x_c5⟩ := req_ok x4 seq 0 hs i0
  obtain ⟨x5, hx_c5⟩ : ∃ y, reqX x4 seq 0 = y := ⟨_, rfl⟩
  have c5 : ∀ b w, ExAt w b x4 → Calls Try.prog 31 #[.pointer (some ⟨b, 0, none⟩), .int .i64 seq, .int .i64 0] w fun e w' => e = .returned (.int .i64 0) ∧ ExAt w' b x5 ∧ Touch b w w' := fun b w h => by have k := request_any x4 b seq 0 w h; rw [e_c5, hx_c5] at k; exact k
  rw [x_c5] at hx_c5
  have d5 : x5.dom = 0 := by rw [← hx_c5, ← hx_c4, ← hx_c3, ← hx_c2, ← hx_c1]; rfl
  have q5 : x5.seq = seq := by rw [← hx_c5]
  have p5 : x5.pending = true := by rw [← hx_c5]
  have k5 : x5.complete = true := by rw [← hx_c5, ← hx_c4, ← hx_c3]
  obtain ⟨e_c6, x_c6⟩ := resp_miss x5 other 100 0 0 9 1 ho a1 z0 d5 (.inl (by rw [q5]; exact fun e => g6 e.symm))
  obtain ⟨x6, hx_c6⟩ : ∃ y, respX x5 (msgD 9 other 100 0 0 0) 9 1 = y := ⟨_, rfl⟩
  have c6 : ∀ b w, ExAt w b x5 → Calls Try.prog 32 #[.pointer (some ⟨b, 0, none⟩), (msgD 9 other 100 0 0 0).v, .int .u64 9, .int .i64 1] w fun e w' => e = .returned (.int .i64 11) ∧ ExAt w' b x6 ∧ Touch b w w' := fun b w h => by have k := resp_any x5 b (msgD 9 other 100 0 0 0) rfl 9 1 w h; rw [e_c6, hx_c6] at k; exact k
  rw [x_c6] at hx_c6
  obtain ⟨e_c7, x_c7⟩ := resp_miss x6 seq 100 0 0 9 port hs a1 z0 (by rw [← hx_c6]; exact d5) (.inr g7)
  obtain ⟨x7, hx_c7⟩ : ∃ y, respX x6 (msgD 9 seq 100 0 0 0) 9 port = y := ⟨_, rfl⟩
  have c7 : ∀ b w, ExAt w b x6 → Calls Try.prog 32 #[.pointer (some ⟨b, 0, none⟩), (msgD 9 seq 100 0 0 0).v, .int .u64 9, .int .i64 port] w fun e w' => e = .returned (.int .i64 11) ∧ ExAt w' b x7 ∧ Touch b w w' := fun b w h => by have k := resp_any x6 b (msgD 9 seq 100 0 0 0) rfl 9 port w h; rw [e_c7, hx_c7] at k; exact k
  rw [x_c7] at hx_c7
  obtain ⟨e_c8, x_c8⟩ := resp_hit x7 seq 100 0 0 hs a1 z0 (by rw [← hx_c7, ← hx_c6]; exact d5) (by rw [← hx_c7, ← hx_c6]; exact p5) (by rw [← hx_c7, ← hx_c6]; exact q5) (by rw [← hx_c7, ← hx_c6]; exact k5)
  obtain ⟨x8, hx_c8⟩ : ∃ y, respX x7 (msgD 9 seq 100 0 0 0) 9 1 = y := ⟨_, rfl⟩
  have c8 : ∀ b w, ExAt w b x7 → Calls Try.prog 32 #[.pointer (some ⟨b, 0, none⟩), (msgD 9 seq 100 0 0 0).v, .int .u64 9, .int .i64 1] w fun e w' => e = .returned (.int .i64 0) ∧ ExAt w' b x8 ∧ Touch b w w' := fun b w h => by have k := resp_any x7 b (msgD 9 seq 100 0 0 0) rfl 9 1 w h; rw [e_c8, hx_c8] at k; exact k
  rw [x_c8] at hx_c8
  have M0 := Lib.hid m0
  have M8O := Lib.hid m8o
  have M8S := Lib.hid m8s
  have M9O := Lib.hid m9o
  have M9S := Lib.hid m9s
  have C1 := Lib.hid c1
  have C2 := Lib.hid c2
  have C3 := Lib.hid c3
  have C4 := Lib.hid c4
  have C5 := Lib.hid c5
  have C6 := Lib.hid c6
  have C7 := Lib.hid c7
  have C8 := Lib.hid c8
  clear m0 m8o m8s m9o m9s c1 c2 c3 c4 c5 c6 c7 c8 e_c1 e_c2 e_c3 e_c4 e_c5 e_c6 e_c7 e_c8 x_c1 x_c2 x_c3 x_c4 x_c5 x_c6 x_c7 x_c8 hx_c1 hx_c2 hx_c3 hx_c4 hx_c5 hx_c6 hx_c7 hx_c8
  clear hs ho z0 a0 a1 i0 i1 d5 q5 p5 k5
  go_enter Try.func9, Try.ntmps9
  go_wp2_with fail
  refine (new_ok 0 (by decide) (by decide) _).mono ?_
  rintro e w1 ⟨rfl, hA, hb1, hs1⟩
  have HT1 := Lib.hid (show One w w1 w.heap.size (.new 0) from ⟨hA, hb1⟩)
  have hl := Lib.hid (Nat.le_refl w.heap.size)
  clear hA hb1 hs1
  go_wp2_with fail
  refine (M0.out _).mono ?_
  rintro e w2 ⟨rfl, hb⟩
  have HT2 := Lib.hid (HT1.out.below hb)
  clear hb HT1
  go_wp2_with (first | (refine store_ptp_new (p := msgD 0 seq 0 0 0 0) (by simp) rfl _ _ (by rfl) rfl rfl rfl ?_) | (refine load_ptp_at (p := (msgD 0 seq 0 0 512 0)) (PtpBox.range (PtpBox.of (heap_at (by simp)))) _ (by rfl) rfl rfl ?_))
  refine (C1.out _ _ (HT2.out.alloc _).ex).mono ?_
  rintro e w3 ⟨rfl, hx, ht⟩
  have HT3 := Lib.hid ((HT2.out.alloc _).set hl.out hx ht)
  clear hx ht HT2
  go_wp2_with fail
  refine (M8O.out _).mono ?_
  rintro e w4 ⟨rfl, hb⟩
  have HT4 := Lib.hid (HT3.out.below hb)
  clear hb HT3
  go_wp2_with fail
  refine (C2.out _ _ HT4.out.ex).mono ?_
  rintro e w5 ⟨rfl, hx, ht⟩
  have HT5 := Lib.hid (HT4.out.set hl.out hx ht)
  clear hx ht HT4
  go_wp2_with fail
  refine (M8S.out _).mono ?_
  rintro e w6 ⟨rfl, hb⟩
  have HT6 := Lib.hid (HT5.out.below hb)
  clear hb HT5
  go_wp2_with fail
  refine (C3.out _ _ HT6.out.ex).mono ?_
  rintro e w7 ⟨rfl, hx, ht⟩
  have HT7 := Lib.hid (HT6.out.set hl.out hx ht)
  clear hx ht HT6
  go_wp2_with fail
  refine (M8S.out _).mono ?_
  rintro e w8 ⟨rfl, hb⟩
  have HT8 := Lib.hid (HT7.out.below hb)
  clear hb HT7
  go_wp2_with fail
  refine (C4.out _ _ HT8.out.ex).mono ?_
  rintro e w9 ⟨rfl, hx, ht⟩
  have HT9 := Lib.hid (HT8.out.set hl.out hx ht)
  clear hx ht HT8
  go_wp2_with fail
  refine (C5.out _ _ HT9.out.ex).mono ?_
  rintro e w10 ⟨rfl, hx, ht⟩
  have HT10 := Lib.hid (HT9.out.set hl.out hx ht)
  clear hx ht HT9
  go_wp2_with fail
  refine (M9O.out _).mono ?_
  rintro e w11 ⟨rfl, hb⟩
  have HT11 := Lib.hid (HT10.out.below hb)
  clear hb HT10
  go_wp2_with fail
  refine (C6.out _ _ HT11.out.ex).mono ?_
  rintro e w12 ⟨rfl, hx, ht⟩
  have HT12 := Lib.hid (HT11.out.set hl.out hx ht)
  clear hx ht HT11
  go_wp2_with fail
  refine (M9S.out _).mono ?_
  rintro e w13 ⟨rfl, hb⟩
  have HT13 := Lib.hid (HT12.out.below hb)
  clear hb HT12
  go_wp2_with fail
  refine (C7.out _ _ HT13.out.ex).mono ?_
  rintro e w14 ⟨rfl, hx, ht⟩
  have HT14 := Lib.hid (HT13.out.set hl.out hx ht)
  clear hx ht HT13
  go_wp2_with fail
  refine (M9S.out _).mono ?_
  rintro e w15 ⟨rfl, hb⟩
  have HT15 := Lib.hid (HT14.out.below hb)
  clear hb HT14
  go_wp2_with fail
  refine (C8.out _ _ HT15.out.ex).mono ?_
  rintro e w16 ⟨rfl, hx, ht⟩
  have HT16 := Lib.hid (HT15.out.set hl.out hx ht)
  clear hx ht HT15
  go_wp2_with fail
  refine (awake38 _).mono ?_
  rintro e w17 ⟨rfl, hb⟩
  have HB := Lib.hid (below_then HT16.out.below_ hb)
  clear hb HT16
  go_wp2_with fail
  go_ret
  exact ⟨rfl, HB.out⟩
end Go.Proofs.Ytkjnhabflkaopaa
