/- The walk of TopPeer (written by gen_toppeer.py). -/
import Derived.WalkKit
import Derived.LoopTactic
import Derived.Outline
import Derived.Lib.Hide
import Derived.Test.YtkjnhabflkaopaaP4
namespace Go.Proofs.Ytkjnhabflkaopaa
open Go.RowKit
set_option linter.unusedVariables false
set_option linter.unusedSimpArgs false

/-- A way lies in a block of its own. -/
structure WayAt (w : World) (g : Nat) (a : WayA) : Prop where
  c0 : w.cell? ⟨g, 0, none⟩ = some (.int .i64 a.at_)
  c1 : w.cell? ⟨g, 1, none⟩ = some (.int .i64 a.off)
  c2 : w.cell? ⟨g, 2, none⟩ = some (.int .i64 a.there_)
  c3 : w.cell? ⟨g, 3, none⟩ = some (.int .i64 a.back)
  c4 : w.cell? ⟨g, 4, none⟩ = some (.slice a.A a.len a.cap)
theorem WayAt.of {w : World} {g : Nat} {a : WayA} {t : TypeId} (h : w.heap[g]? = some (.cells #[.int .i64 a.at_, .int .i64 a.off, .int .i64 a.there_, .int .i64 a.back, .slice a.A a.len a.cap] t (0, 0))) : WayAt w g a := by
  constructor <;> (rw [cell_of_row w g _ _ t (0, 0) h]; rfl)
theorem WayAt.below {w w' : World} {g : Nat} {a : WayA} (h : WayAt w g a) (k : Below w.heap.size w w') : WayAt w' g a := ⟨cell_below k h.c0, cell_below k h.c1, cell_below k h.c2, cell_below k h.c3, cell_below k h.c4⟩
theorem WayAt.touch {b : Nat} {w w' : World} {g : Nat} {a : WayA} (h : WayAt w g a) (k : Touch b w w') (hg : g ≠ b) : WayAt w' g a := ⟨k.cell' h.c0 hg, k.cell' h.c1 hg, k.cell' h.c2 hg, k.cell' h.c3 hg, k.cell' h.c4 hg⟩
structure Lnk (w0 w : World) (b g : Nat) (y : Px) (a : WayA) : Prop where
  ex : PxAt w b y
  t : Below w0.heap.size w0 w
  p : WayAt w g a
theorem Lnk.below {w0 w w' : World} {b g : Nat} {y : Px} {a : WayA} (h : Lnk w0 w b g y a) (k : Below w.heap.size w w') : Lnk w0 w' b g y a := ⟨h.ex.below k, below_then h.t k, h.p.below k⟩
theorem Lnk.set {w0 w w' : World} {b g : Nat} {y y' : Px} {a : WayA} (h : Lnk w0 w b g y a) (hg : g ≠ b) (hl : w0.heap.size ≤ b) (k : PxAt w' b y') (t : Touch b w w') : Lnk w0 w' b g y' a := ⟨k, Touch.below h.t t hl (Nat.le_refl _), h.p.touch t hg⟩
set_option maxRecDepth 100000 in
set_option maxHeartbeats 8000000 in
theorem TopPeer_walk (a : WayA) (hold : Int) (w : World) (ok : a.Ok w) : Calls Try.prog 3 #[a.v, .int .i64 hold] w fun e w' => e = .returned (.bool true) ∧ Below w.heap.size w w' := by
  go_enter Try.func3, Try.ntmps3
  refine seq_opaque ?_
  intro T HT
  go_wp2_with fail
  generalize hW : w.alloc _ = w0
  have hp0 : WayAt w0 w.heap.size a := by rw [← hW]; exact WayAt.of (heap_alloc_new w _)
  have hb0 : Below w.heap.size w w0 := by rw [← hW]; exact (Below.refl _ _).alloc (Nat.le_refl _) _
  have hok0 : a.Ok w0 := ⟨ok.le, ok.most, fun h => by obtain ⟨g, o, e, hg, hr⟩ := ok.row h; exact ⟨g, o, e, Nat.lt_of_lt_of_le hg hb0.size, fun i hi => by obtain ⟨v, hv⟩ := hr i hi; exact ⟨v, (hb0.cell hg).trans hv⟩⟩⟩
  rw [HT.out]
  have OK0 := Lib.hid hok0
  have HP0 := Lib.hid hp0
  have HB0 := Lib.hid hb0
  clear hW HT hok0 hb0 ok
  obtain ⟨c0, c1, c2, c3, c4⟩ := hp0
  go_wp2_with fail
  refine (within_way a _ OK0.out).mono ?_
  rintro e w1 ⟨q, rfl, hb1, hq⟩
  have HP1 := Lib.hid (HP0.out.below hb1)
  have HB1 := Lib.hid (below_then HB0.out hb1)
  have hs1 : w.heap.size < w1.heap.size := World.block_lt_of_cell? w1 _ HP1.out.c0
  clear hb1 c0 c1 c2 c3 c4 OK0 HP0 HB0
  cases q
  · clear hq
    go_wp2_with fail
    go_ret
    exact ⟨rfl, HB1.out⟩
  have hin := hq rfl
  clear hq
  obtain ⟨⟨u0, v0⟩, ⟨u1, v1⟩, ⟨u2, v2⟩, u3, v3⟩ := hin
  by_cases g0 : hold < 0
  · have d0 : decide (hold < 0) = true := by simpa using g0
    go_wp2_with fail
    go_ret
    exact ⟨rfl, HB1.out⟩
  have d0 : decide (hold < 0) = false := by simpa using g0
  by_cases g1 : 1099511627776 < hold
  · have d1 : decide (1099511627776 < hold) = true := by simpa using g1
    go_wp2_with fail
    go_ret
    exact ⟨rfl, HB1.out⟩
  have d1 : decide (1099511627776 < hold) = false := by simpa using g1
  have iA : instB a.at_ = true := by simp [instB]; omega
  have i4 : instB (a.at_ + a.there_ + hold + a.back) = true := by simp [instB]; omega
  have K1 := Lib.hid (preq_ok .new w1.heap.size 4 a.at_ (by decide) (by decide) iA)
  obtain ⟨x1, hx1⟩ : ∃ x : Px, { Px.new with pending := true, seq := 4, t1 := a.at_ } = x := ⟨_, rfl⟩
  have st2 := stamped_any (a.at_ + a.there_ + a.off) (by omega) (by omega)
  have st3 := stamped_any ((a.at_ + a.there_ + a.off) + hold) (by omega) (by omega)
  have pa2 := peer_at (a.at_ + a.there_ + a.off) (by omega) (by omega)
  have pa3 := peer_at ((a.at_ + a.there_ + a.off) + hold) (by omega) (by omega)
  have k2 := presp_ok x1 w1.heap.size (peerM 3 (a.at_ + a.there_ + a.off)) rfl (a.at_ + a.there_ + hold + a.back) 2 1 (a.at_ + a.there_ + a.off) (peer_check 3 (a.at_ + a.there_ + a.off) (.inl rfl) (by omega) (by omega)) rfl (by rw [← hx1]; rfl) (by rw [← hx1]) (by rw [← hx1]; rfl) rfl rfl pa2.1 pa2.2 i4
  obtain ⟨x2, hx2⟩ : ∃ x : Px, { x1 with pending := false, waiting := true, resp := (peerM 3 (a.at_ + a.there_ + a.off)), from_ := x1.t1, t2 := (a.at_ + a.there_ + a.off), t4 := (a.at_ + a.there_ + hold + a.back) } = x := ⟨_, rfl⟩
  rw [hx2] at k2
  have hD : wrap64 (wrap64 (wrap64 (x2.t4 - x2.from_) - wrap64 (((a.at_ + a.there_ + a.off) + hold) - x2.t2)) - nanoF (sumF x2.resp.corr (peerM 10 ((a.at_ + a.there_ + a.off) + hold)).corr)) = a.there_ + a.back := by
    rw [← hx2, ← hx1]
    show wrap64 (wrap64 (wrap64 ((a.at_ + a.there_ + hold + a.back) - a.at_) - wrap64 (((a.at_ + a.there_ + a.off) + hold) - (a.at_ + a.there_ + a.off))) - nanoF (sumF 0 0)) = _
    have e0 : nanoF (sumF 0 0) = 0 := by decide +kernel
    rw [e0, IntWalk.wrap64_in ((a.at_ + a.there_ + hold + a.back) - a.at_) (by omega), IntWalk.wrap64_in (((a.at_ + a.there_ + a.off) + hold) - (a.at_ + a.there_ + a.off)) (by omega), IntWalk.wrap64_in ((a.at_ + a.there_ + hold + a.back) - a.at_ - (((a.at_ + a.there_ + a.off) + hold) - (a.at_ + a.there_ + a.off))) (by omega), IntWalk.wrap64_in _ (by omega)]
    omega
  have k3 := pfollow_ok x2 w1.heap.size (peerM 10 ((a.at_ + a.there_ + a.off) + hold)) rfl 2 1 ((a.at_ + a.there_ + a.off) + hold) (a.there_ + a.back) (peer_check 10 ((a.at_ + a.there_ + a.off) + hold) (.inr rfl) (by omega) (by omega)) rfl (by rw [← hx2, ← hx1]; rfl) (by rw [← hx2]) (by rw [← hx2]; rfl) (by rw [← hx2]; rfl) (by rw [← hx2]; rfl) rfl rfl pa3.1 pa3.2 (by rw [← hx2, ← hx1]; rfl) hD (by omega) (by omega)
  obtain ⟨x3, hx3⟩ : ∃ x : Px, { x2 with waiting := false, f0 := ((a.at_ + a.there_ + a.off) + hold), f1 := x2.t4, l0 := ((a.at_ + a.there_ + a.off) + hold), l1 := x2.t4, d0 := (a.there_ + a.back) / 2, complete := 1 } = x := ⟨_, rfl⟩
  rw [hx3] at k3
  have k4 := pdelay_ok x3 w1.heap.size (by rw [← hx3]) (by rw [← hx3]; show 0 ≤ (a.there_ + a.back) / 2; omega) (by rw [← hx3]; show (a.there_ + a.back) / 2 ≤ _; omega)
  rw [show x3.d0 = (a.there_ + a.back) / 2 from by rw [← hx3]] at k4
  have k1 := K1.out
  rw [hx1] at k1
  have KQ := Lib.hid k1
  have KR := Lib.hid k2
  have KF := Lib.hid k3
  have KD := Lib.hid k4
  have S2 := Lib.hid st2
  have S3 := Lib.hid st3
  clear k1 k2 k3 k4 K1 hx1 hx2 hx3 hD pa2 pa3 st2 st3 iA i4
  obtain ⟨c0, c1, c2, c3, c4⟩ := HP1.out
  go_wp2_with fail
  refine (pnew_ok _).mono ?_
  rintro e w2 ⟨rfl, hA, hb, hs2⟩
  have HT2 := Lib.hid (show Lnk w w2 w1.heap.size w.heap.size .new a from ⟨hA, below_then HB1.out hb, HP1.out.below hb⟩)
  have HL := Lib.hid (show w.heap.size ≠ w1.heap.size ∧ w.heap.size ≤ w1.heap.size from ⟨Nat.ne_of_lt hs1, Nat.le_of_lt hs1⟩)
  clear hA hb hs2 c0 c1 c2 c3 c4 HP1 HB1 hs1
  generalize w1.heap.size = b at *
  obtain ⟨c0, c1, c2, c3, c4⟩ := HT2.out.p
  go_wp2_with fail
  refine (KQ.out _ HT2.out.ex).mono ?_
  rintro e w3 ⟨rfl, hx, ht⟩
  have HT3 := Lib.hid (HT2.out.set HL.out.1 HL.out.2 hx ht)
  clear hx ht c0 c1 c2 c3 c4 HT2
  obtain ⟨c0, c1, c2, c3, c4⟩ := HT3.out.p
  go_wp2_with fail
  refine (S2.out _).mono ?_
  rintro e w4 ⟨rfl, hb⟩
  have HT4 := Lib.hid (HT3.out.below hb)
  clear hb c0 c1 c2 c3 c4 HT3
  obtain ⟨c0, c1, c2, c3, c4⟩ := HT4.out.p
  go_wp2_with fail
  refine (KR.out _ HT4.out.ex).mono ?_
  rintro e w5 ⟨rfl, hx, ht⟩
  have HT5 := Lib.hid (HT4.out.set HL.out.1 HL.out.2 hx ht)
  clear hx ht c0 c1 c2 c3 c4 HT4
  obtain ⟨c0, c1, c2, c3, c4⟩ := HT5.out.p
  go_wp2_with fail
  refine (S3.out _).mono ?_
  rintro e w6 ⟨rfl, hb⟩
  have HT6 := Lib.hid (HT5.out.below hb)
  clear hb c0 c1 c2 c3 c4 HT5
  obtain ⟨c0, c1, c2, c3, c4⟩ := HT6.out.p
  go_wp2_with fail
  refine (KF.out _ HT6.out.ex).mono ?_
  rintro e w7 ⟨rfl, hx, ht⟩
  have HT7 := Lib.hid (HT6.out.set HL.out.1 HL.out.2 hx ht)
  clear hx ht c0 c1 c2 c3 c4 HT6
  obtain ⟨c0, c1, c2, c3, c4⟩ := HT7.out.p
  go_wp2_with fail
  refine (KD.out _ HT7.out.ex).mono ?_
  rintro e w8 ⟨rfl, hb⟩
  have HT8 := Lib.hid (HT7.out.below hb)
  clear hb c0 c1 c2 c3 c4 HT7
  obtain ⟨c0, c1, c2, c3, c4⟩ := HT8.out.p
  go_wp2_with fail
  go_ret
  exact ⟨rfl, HT8.out.t⟩
end Go.Proofs.Ytkjnhabflkaopaa
