/- What 'play' leaves (written by gen_play.py). -/
import Derived.WalkKit
import Derived.LoopTactic
import Derived.Outline
import Derived.Lib.Hide
import Derived.Test.YtkjnhabflkaopaaE12
namespace Go.Proofs.Ytkjnhabflkaopaa
open Go.RowKit
set_option linter.unusedVariables false
set_option linter.unusedSimpArgs false

theorem nano_mul (c : Int) : nanoF (c * 65536) = c := by unfold nanoF; omega
theorem sum_zero (c : Int) (h0 : -9223372036854775808 ≤ c) (h1 : c ≤ 9223372036854775807) : sumF 0 c = c := by
  have hw : wrap64 (0 + c) = c := by rw [Int.zero_add]; exact IntWalk.wrap64_in c ⟨h0, h1⟩
  have ho : overB 0 c = false := by
    unfold overB
    rw [hw]
    have hz : IntKind.i64.wrap 0 = 0 := by decide
    have e : bits .xor .i64 c c = 0 := by simp [bits, hz]
    rw [e]
    simp [bits, hz]
  unfold sumF
  rw [ho, hw]
  rfl
/-- An exchange, whose block alone is written; the path lies as it did. -/
structure Pl (w0 w : World) (b g : Nat) (y : Ex) (x : Pth) : Prop where
  ex : ExAt w b y
  t : Touch b w0 w
  p : PthAt w g x
  lt : g < w.heap.size
theorem Pl.below {w0 w w' : World} {b g : Nat} {y : Ex} {x : Pth} (h : Pl w0 w b g y x) (k : Below w.heap.size w w') : Pl w0 w' b g y x := ⟨h.ex.below k, h.t.trans (.of k), h.p.below k, Nat.lt_of_lt_of_le h.lt k.size⟩
theorem Pl.set {w0 w w' : World} {b g : Nat} {y y' : Ex} {x : Pth} (h : Pl w0 w b g y x) (hg : g ≠ b) (k : ExAt w' b y') (t : Touch b w w') : Pl w0 w' b g y' x := ⟨k, h.t.trans t, h.p.touch t hg, Nat.lt_of_lt_of_le h.lt t.size⟩
theorem Pl.alloc {w0 w : World} {b g : Nat} {y : Ex} {x : Pth} (h : Pl w0 w b g y x) (o : Obj) : Pl w0 (w.alloc o) b g y x := h.below ((Below.refl _ _).alloc (Nat.le_refl _) o)
structure PlayEnd (x : Pth) (y : Ex) : Prop where
  known : y.known = true
  delay : y.delay = (x.there_ + x.back) / 2
  gap : y.gap = x.there_ + x.ahead
set_option maxRecDepth 100000 in
set_option maxHeartbeats 8000000 in
theorem play_any (x : Pth) (two : Bool) (hx : smallB x = true) (b : Nat) (w : World) (h : ExAt w b (.new 0)) : Calls Try.prog 24 #[.pointer (some ⟨b, 0, none⟩), x.v, .bool two] w fun e w' => e = .returned (.bool true) ∧ ∃ y, ExAt w' b y ∧ Touch b w w' ∧ PlayEnd x y := by
  obtain ⟨⟨u0, v0⟩, ⟨u1, v1⟩, ⟨u2, v2⟩, ⟨u3, v3⟩, ⟨u4, v4⟩, ⟨u5, v5⟩, u6, v6⟩ := smallB_true hx
  clear hx
  have z0 : (0 : Int) ≤ 0 ∧ (0 : Int) ≤ 255 := by decide
  have a0 : (-1125899906842624 : Int) ≤ 0 ∧ (0 : Int) ≤ 1125899906842624 := by decide
  have s1 : (0 : Int) ≤ 1 ∧ (1 : Int) ≤ 65535 := by decide
  have s2 : (0 : Int) ≤ 2 ∧ (2 : Int) ≤ 65535 := by decide
  have aS : -1125899906842624 ≤ x.sync ∧ x.sync ≤ 1125899906842624 := by omega
  have aR : -1125899906842624 ≤ x.req + x.back + x.sr ∧ x.req + x.back + x.sr ≤ 1125899906842624 := by omega
  have iT : instB (x.sync + x.there_ + x.ss + x.ahead) = true := by simp [instB]; omega
  have iR : instB (x.req + x.ahead) = true := by simp [instB]; omega
  have m0 : ∀ w, Calls Try.prog 30 #[.int .i64 0, .int .i64 1, .int .i64 (0), .int .i64 (0)] w fun e w' => e = .returned (msgD 0 1 (0) (0) 0 0).v ∧ Below w.heap.size w w' := message_any 0 1 (0) (0) (by omega) (by omega) (by omega) (by omega)
  have m0s : ∀ w, Calls Try.prog 30 #[.int .i64 0, .int .i64 1, .int .i64 (x.sync), .int .i64 (x.ss)] w fun e w' => e = .returned (msgD 0 1 (x.sync) (x.ss) 0 0).v ∧ Below w.heap.size w w' := message_any 0 1 (x.sync) (x.ss) (by omega) (by omega) (by omega) (by omega)
  have m8 : ∀ w, Calls Try.prog 30 #[.int .i64 8, .int .i64 1, .int .i64 (x.sync), .int .i64 (x.ss)] w fun e w' => e = .returned (msgD 8 1 (x.sync) (x.ss) 0 0).v ∧ Below w.heap.size w w' := message_any 8 1 (x.sync) (x.ss) (by omega) (by omega) (by omega) (by omega)
  have m9 : ∀ w, Calls Try.prog 30 #[.int .i64 9, .int .i64 2, .int .i64 (x.req + x.back + x.sr), .int .i64 (x.sr)] w fun e w' => e = .returned (msgD 9 2 (x.req + x.back + x.sr) (x.sr) 0 0).v ∧ Below w.heap.size w w' := message_any 9 2 (x.req + x.back + x.sr) (x.sr) (by omega) (by omega) (by omega) (by omega)
  cases two
  · obtain ⟨e_c1, x_c1⟩ := sync_one (.new 0) 1 x.sync x.ss 0 (x.sync + x.there_ + x.ss + x.ahead) s1 aS z0 rfl iT
    obtain ⟨x2, hx_c1⟩ : ∃ y, syncX (.new 0) (msgD 0 1 x.sync x.ss 0 0) (x.sync + x.there_ + x.ss + x.ahead) = y := ⟨_, rfl⟩
    have c1 : ∀ b w, ExAt w b (.new 0) → Calls Try.prog 27 #[.pointer (some ⟨b, 0, none⟩), (msgD 0 1 x.sync x.ss 0 0).v, .int .i64 (x.sync + x.there_ + x.ss + x.ahead)] w fun e w' => e = .returned (.int .i64 0) ∧ ExAt w' b x2 ∧ Touch b w w' := fun b w h => by have k := sync_any (.new 0) b (msgD 0 1 x.sync x.ss 0 0) rfl (x.sync + x.there_ + x.ss + x.ahead) w h; rw [e_c1, hx_c1] at k; exact k
    rw [x_c1] at hx_c1
    have d2 : x2.dom = 0 := by rw [← hx_c1]; rfl
    have k2 : x2.complete = true := by rw [← hx_c1]
    have g2 : x2.gap = x.there_ + x.ahead := by rw [← hx_c1]; show wrap64 (wrap64 ((x.sync + x.there_ + x.ss + x.ahead) - x.sync) - nanoF (x.ss * 65536)) = _; rw [nano_mul, IntWalk.wrap64_in ((x.sync + x.there_ + x.ss + x.ahead) - x.sync) (by omega), IntWalk.wrap64_in _ (by omega)]; omega
    obtain ⟨e_c3, x_c3⟩ := req_ok x2 2 (x.req + x.ahead) s2 iR
    obtain ⟨x3, hx_c3⟩ : ∃ y, reqX x2 2 (x.req + x.ahead) = y := ⟨_, rfl⟩
    have c3 : ∀ b w, ExAt w b x2 → Calls Try.prog 31 #[.pointer (some ⟨b, 0, none⟩), .int .i64 2, .int .i64 (x.req + x.ahead)] w fun e w' => e = .returned (.int .i64 0) ∧ ExAt w' b x3 ∧ Touch b w w' := fun b w h => by have k := request_any x2 b 2 (x.req + x.ahead) w h; rw [e_c3, hx_c3] at k; exact k
    rw [x_c3] at hx_c3
    obtain ⟨e_c4, x_c4⟩ := resp_hit x3 2 (x.req + x.back + x.sr) x.sr 0 s2 aR z0 (by rw [← hx_c3]; exact d2) (by rw [← hx_c3]) (by rw [← hx_c3]) (by rw [← hx_c3]; exact k2)
    obtain ⟨x4, hx_c4⟩ : ∃ y, respX x3 (msgD 9 2 (x.req + x.back + x.sr) x.sr 0 0) 9 1 = y := ⟨_, rfl⟩
    have c4 : ∀ b w, ExAt w b x3 → Calls Try.prog 32 #[.pointer (some ⟨b, 0, none⟩), (msgD 9 2 (x.req + x.back + x.sr) x.sr 0 0).v, .int .u64 9, .int .i64 1] w fun e w' => e = .returned (.int .i64 0) ∧ ExAt w' b x4 ∧ Touch b w w' := fun b w h => by have k := resp_any x3 b (msgD 9 2 (x.req + x.back + x.sr) x.sr 0 0) rfl 9 1 w h; rw [e_c4, hx_c4] at k; exact k
    rw [x_c4] at hx_c4
    have hE : PlayEnd x x4 := by
      have g3 : x3.gap = x.there_ + x.ahead := by rw [← hx_c3]; exact g2
      have t3 : x3.t3 = x.req + x.ahead := by rw [← hx_c3]
      refine ⟨by rw [← hx_c4], ?_, by rw [← hx_c4]; exact g3⟩
      rw [← hx_c4]
      show max 0 (meanF x3 (x.req + x.back + x.sr) (x.sr * 65536)) = _
      unfold meanF
      rw [nano_mul, g3, t3, IntWalk.wrap64_in (x.there_ + x.ahead + (x.req + x.back + x.sr)) (by omega), IntWalk.wrap64_in (x.there_ + x.ahead + (x.req + x.back + x.sr) - (x.req + x.ahead)) (by omega), IntWalk.wrap64_in _ (by omega)]
      omega
    have M0S := Lib.hid m0s
    have M9 := Lib.hid m9
    have C1 := Lib.hid c1
    have C3 := Lib.hid c3
    have C4 := Lib.hid c4
    have HE := Lib.hid hE
    clear m0s m9 c1 c3 c4 e_c1 e_c3 e_c4 x_c1 x_c3 x_c4 hx_c1 hx_c3 hx_c4 hE d2 k2 g2 z0 a0 s1 s2 aS aR iT iR
    clear m0 m8
    have hgb : w.heap.size ≠ b := Nat.ne_of_gt h.lt
    have HGB := Lib.hid hgb
    have H0 := Lib.hid h
    clear h hgb
    go_enter Try.func24, Try.ntmps24
    refine seq_opaque ?_
    intro T HT
    go_wp2_with fail
    generalize hW : w.alloc _ = w0
    have HT0 := Lib.hid (show Pl w w0 b w.heap.size (.new 0) x from by rw [← hW]; exact ⟨H0.out.below ((Below.refl _ _).alloc (Nat.le_refl _) _), .of ((Below.refl _ _).alloc (Nat.le_refl _) _), PthAt.of (heap_alloc_new w _), by simp⟩)
    rw [HT.out]
    clear hW HT
    obtain ⟨c0, c1, c2, c3, c4, c5, c6⟩ := HT0.out.p
    have hg := HT0.out.lt
    go_wp2_with fail
    refine (M0S.out _).mono ?_
    rintro e w1 ⟨rfl, hb⟩
    have HT1 := Lib.hid (HT0.out.below hb)
    clear hb HT0
    clear c0 c1 c2 c3 c4 c5 c6 hg
    obtain ⟨c0, c1, c2, c3, c4, c5, c6⟩ := HT1.out.p
    have hg := HT1.out.lt
    go_wp2_with fail
    refine (C1.out _ _ HT1.out.ex).mono ?_
    rintro e w2 ⟨rfl, hx, ht⟩
    have HT2 := Lib.hid (HT1.out.set HGB.out hx ht)
    clear hx ht HT1
    clear c0 c1 c2 c3 c4 c5 c6 hg
    obtain ⟨c0, c1, c2, c3, c4, c5, c6⟩ := HT2.out.p
    have hg := HT2.out.lt
    go_wp2_with fail
    refine (C3.out _ _ HT2.out.ex).mono ?_
    rintro e w3 ⟨rfl, hx, ht⟩
    have HT3 := Lib.hid (HT2.out.set HGB.out hx ht)
    clear hx ht HT2
    clear c0 c1 c2 c3 c4 c5 c6 hg
    obtain ⟨c0, c1, c2, c3, c4, c5, c6⟩ := HT3.out.p
    have hg := HT3.out.lt
    go_wp2_with fail
    refine (M9.out _).mono ?_
    rintro e w4 ⟨rfl, hb⟩
    have HT4 := Lib.hid (HT3.out.below hb)
    clear hb HT3
    clear c0 c1 c2 c3 c4 c5 c6 hg
    obtain ⟨c0, c1, c2, c3, c4, c5, c6⟩ := HT4.out.p
    have hg := HT4.out.lt
    go_wp2_with fail
    refine (C4.out _ _ HT4.out.ex).mono ?_
    rintro e w5 ⟨rfl, hx, ht⟩
    have HT5 := Lib.hid (HT4.out.set HGB.out hx ht)
    clear hx ht HT4
    clear c0 c1 c2 c3 c4 c5 c6 hg
    obtain ⟨c0, c1, c2, c3, c4, c5, c6⟩ := HT5.out.p
    have hg := HT5.out.lt
    go_wp2_with fail
    go_ret
    exact ⟨rfl, x4, HT5.out.ex, HT5.out.t, HE.out⟩
  · obtain ⟨e_c1, x_c1⟩ := sync_two (.new 0) 1 0 0 0 (x.sync + x.there_ + x.ss + x.ahead) s1 a0 z0 rfl iT
    obtain ⟨x1, hx_c1⟩ : ∃ y, syncX (.new 0) (msgD 0 1 0 0 512 0) (x.sync + x.there_ + x.ss + x.ahead) = y := ⟨_, rfl⟩
    have c1 : ∀ b w, ExAt w b (.new 0) → Calls Try.prog 27 #[.pointer (some ⟨b, 0, none⟩), (msgD 0 1 0 0 512 0).v, .int .i64 (x.sync + x.there_ + x.ss + x.ahead)] w fun e w' => e = .returned (.int .i64 0) ∧ ExAt w' b x1 ∧ Touch b w w' := fun b w h => by have k := sync_any (.new 0) b (msgD 0 1 0 0 512 0) rfl (x.sync + x.there_ + x.ss + x.ahead) w h; rw [e_c1, hx_c1] at k; exact k
    rw [x_c1] at hx_c1
    obtain ⟨e_c2, x_c2⟩ := follow_hit x1 1 x.sync x.ss 0 s1 aS z0 (by rw [← hx_c1]; rfl) (by rw [← hx_c1]) (by rw [← hx_c1]; rfl) (by rw [← hx_c1]; rfl) (by rw [← hx_c1]; rfl)
    obtain ⟨x2, hx_c2⟩ : ∃ y, followX x1 (msgD 8 1 x.sync x.ss 0 0) = y := ⟨_, rfl⟩
    have c2 : ∀ b w, ExAt w b x1 → Calls Try.prog 28 #[.pointer (some ⟨b, 0, none⟩), (msgD 8 1 x.sync x.ss 0 0).v] w fun e w' => e = .returned (.int .i64 0) ∧ ExAt w' b x2 ∧ Touch b w w' := fun b w h => by have k := follow_any x1 b (msgD 8 1 x.sync x.ss 0 0) rfl w h; rw [e_c2, hx_c2] at k; exact k
    rw [x_c2] at hx_c2
    have d2 : x2.dom = 0 := by rw [← hx_c2, ← hx_c1]; rfl
    have k2 : x2.complete = true := by rw [← hx_c2]
    have g2 : x2.gap = x.there_ + x.ahead := by rw [← hx_c2, ← hx_c1]; show wrap64 (wrap64 ((x.sync + x.there_ + x.ss + x.ahead) - x.sync) - nanoF (sumF 0 (x.ss * 65536))) = _; rw [sum_zero _ (by omega) (by omega), nano_mul, IntWalk.wrap64_in ((x.sync + x.there_ + x.ss + x.ahead) - x.sync) (by omega), IntWalk.wrap64_in _ (by omega)]; omega
    obtain ⟨e_c3, x_c3⟩ := req_ok x2 2 (x.req + x.ahead) s2 iR
    obtain ⟨x3, hx_c3⟩ : ∃ y, reqX x2 2 (x.req + x.ahead) = y := ⟨_, rfl⟩
    have c3 : ∀ b w, ExAt w b x2 → Calls Try.prog 31 #[.pointer (some ⟨b, 0, none⟩), .int .i64 2, .int .i64 (x.req + x.ahead)] w fun e w' => e = .returned (.int .i64 0) ∧ ExAt w' b x3 ∧ Touch b w w' := fun b w h => by have k := request_any x2 b 2 (x.req + x.ahead) w h; rw [e_c3, hx_c3] at k; exact k
    rw [x_c3] at hx_c3
    obtain ⟨e_c4, x_c4⟩ := resp_hit x3 2 (x.req + x.back + x.sr) x.sr 0 s2 aR z0 (by rw [← hx_c3]; exact d2) (by rw [← hx_c3]) (by rw [← hx_c3]) (by rw [← hx_c3]; exact k2)
    obtain ⟨x4, hx_c4⟩ : ∃ y, respX x3 (msgD 9 2 (x.req + x.back + x.sr) x.sr 0 0) 9 1 = y := ⟨_, rfl⟩
    have c4 : ∀ b w, ExAt w b x3 → Calls Try.prog 32 #[.pointer (some ⟨b, 0, none⟩), (msgD 9 2 (x.req + x.back + x.sr) x.sr 0 0).v, .int .u64 9, .int .i64 1] w fun e w' => e = .returned (.int .i64 0) ∧ ExAt w' b x4 ∧ Touch b w w' := fun b w h => by have k := resp_any x3 b (msgD 9 2 (x.req + x.back + x.sr) x.sr 0 0) rfl 9 1 w h; rw [e_c4, hx_c4] at k; exact k
    rw [x_c4] at hx_c4
    have hE : PlayEnd x x4 := by
      have g3 : x3.gap = x.there_ + x.ahead := by rw [← hx_c3]; exact g2
      have t3 : x3.t3 = x.req + x.ahead := by rw [← hx_c3]
      refine ⟨by rw [← hx_c4], ?_, by rw [← hx_c4]; exact g3⟩
      rw [← hx_c4]
      show max 0 (meanF x3 (x.req + x.back + x.sr) (x.sr * 65536)) = _
      unfold meanF
      rw [nano_mul, g3, t3, IntWalk.wrap64_in (x.there_ + x.ahead + (x.req + x.back + x.sr)) (by omega), IntWalk.wrap64_in (x.there_ + x.ahead + (x.req + x.back + x.sr) - (x.req + x.ahead)) (by omega), IntWalk.wrap64_in _ (by omega)]
      omega
    have M0 := Lib.hid m0
    have M8 := Lib.hid m8
    have M9 := Lib.hid m9
    have C1 := Lib.hid c1
    have C2 := Lib.hid c2
    have C3 := Lib.hid c3
    have C4 := Lib.hid c4
    have HE := Lib.hid hE
    clear m0 m8 m9 c1 c2 c3 c4 e_c1 e_c2 e_c3 e_c4 x_c1 x_c2 x_c3 x_c4 hx_c1 hx_c2 hx_c3 hx_c4 hE d2 k2 g2 z0 a0 s1 s2 aS aR iT iR
    clear m0s
    have hgb : w.heap.size ≠ b := Nat.ne_of_gt h.lt
    have HGB := Lib.hid hgb
    have H0 := Lib.hid h
    clear h hgb
    go_enter Try.func24, Try.ntmps24
    refine seq_opaque ?_
    intro T HT
    go_wp2_with fail
    generalize hW : w.alloc _ = w0
    have HT0 := Lib.hid (show Pl w w0 b w.heap.size (.new 0) x from by rw [← hW]; exact ⟨H0.out.below ((Below.refl _ _).alloc (Nat.le_refl _) _), .of ((Below.refl _ _).alloc (Nat.le_refl _) _), PthAt.of (heap_alloc_new w _), by simp⟩)
    rw [HT.out]
    clear hW HT
    obtain ⟨c0, c1, c2, c3, c4, c5, c6⟩ := HT0.out.p
    have hg := HT0.out.lt
    go_wp2_with fail
    refine (M0.out _).mono ?_
    rintro e w1 ⟨rfl, hb⟩
    have HT1 := Lib.hid (HT0.out.below hb)
    clear hb HT0
    clear c0 c1 c2 c3 c4 c5 c6 hg
    obtain ⟨c0, c1, c2, c3, c4, c5, c6⟩ := HT1.out.p
    have hg := HT1.out.lt
    go_wp2_with (first | (refine store_ptp_new (p := msgD 0 1 0 0 0 0) (by simp) rfl _ _ (by rfl) rfl rfl rfl ?_) | (refine load_ptp_at (p := (msgD 0 1 0 0 512 0)) (PtpBox.range (PtpBox.of (heap_at (by simp)))) _ (by rfl) rfl rfl ?_))
    refine (C1.out _ _ (HT1.out.alloc _).ex).mono ?_
    rintro e w2 ⟨rfl, hx, ht⟩
    have HT2 := Lib.hid ((HT1.out.alloc _).set HGB.out hx ht)
    clear hx ht HT1
    clear c0 c1 c2 c3 c4 c5 c6 hg
    obtain ⟨c0, c1, c2, c3, c4, c5, c6⟩ := HT2.out.p
    have hg := HT2.out.lt
    go_wp2_with fail
    refine (M8.out _).mono ?_
    rintro e w3 ⟨rfl, hb⟩
    have HT3 := Lib.hid (HT2.out.below hb)
    clear hb HT2
    clear c0 c1 c2 c3 c4 c5 c6 hg
    obtain ⟨c0, c1, c2, c3, c4, c5, c6⟩ := HT3.out.p
    have hg := HT3.out.lt
    go_wp2_with fail
    refine (C2.out _ _ HT3.out.ex).mono ?_
    rintro e w4 ⟨rfl, hx, ht⟩
    have HT4 := Lib.hid (HT3.out.set HGB.out hx ht)
    clear hx ht HT3
    clear c0 c1 c2 c3 c4 c5 c6 hg
    obtain ⟨c0, c1, c2, c3, c4, c5, c6⟩ := HT4.out.p
    have hg := HT4.out.lt
    go_wp2_with fail
    refine (C3.out _ _ HT4.out.ex).mono ?_
    rintro e w5 ⟨rfl, hx, ht⟩
    have HT5 := Lib.hid (HT4.out.set HGB.out hx ht)
    clear hx ht HT4
    clear c0 c1 c2 c3 c4 c5 c6 hg
    obtain ⟨c0, c1, c2, c3, c4, c5, c6⟩ := HT5.out.p
    have hg := HT5.out.lt
    go_wp2_with fail
    refine (M9.out _).mono ?_
    rintro e w6 ⟨rfl, hb⟩
    have HT6 := Lib.hid (HT5.out.below hb)
    clear hb HT5
    clear c0 c1 c2 c3 c4 c5 c6 hg
    obtain ⟨c0, c1, c2, c3, c4, c5, c6⟩ := HT6.out.p
    have hg := HT6.out.lt
    go_wp2_with fail
    refine (C4.out _ _ HT6.out.ex).mono ?_
    rintro e w7 ⟨rfl, hx, ht⟩
    have HT7 := Lib.hid (HT6.out.set HGB.out hx ht)
    clear hx ht HT6
    clear c0 c1 c2 c3 c4 c5 c6 hg
    obtain ⟨c0, c1, c2, c3, c4, c5, c6⟩ := HT7.out.p
    have hg := HT7.out.lt
    go_wp2_with fail
    go_ret
    exact ⟨rfl, x4, HT7.out.ex, HT7.out.t, HE.out⟩
end Go.Proofs.Ytkjnhabflkaopaa
