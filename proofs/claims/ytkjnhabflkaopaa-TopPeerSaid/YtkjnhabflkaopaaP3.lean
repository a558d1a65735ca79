/- p2p: Follow and Delay, on the way that TopPeer takes. -/
import Derived.WalkKit
import Derived.LoopTactic
import Derived.Outline
import Derived.Lib.Hide
import Derived.Deep.QuietTactic
import Derived.BigQuiet
import Derived.BigRegion
import Derived.Deep.RegionHeld3
import Derived.Test.YtkjnhabflkaopaaP2
namespace Go.Proofs.Ytkjnhabflkaopaa
open Go.RowKit
set_option linter.unusedVariables false
set_option linter.unusedSimpArgs false

theorem PxAt.range {w : World} {b : Nat} {x : Px} (h : PxAt w b x) : w.rangeAt b 5 x.resp.cells := fun j v hv => by
  have hj : j < 21 := (List.getElem?_eq_some_iff.1 hv).1
  rw [h.cell, ← hv]
  have : (x.cells.toList.drop 5).take 21 = x.resp.cells := rfl
  rw [← this, List.getElem?_take, if_pos hj, List.getElem?_drop]
  simp
theorem store_lit {ops : Array Oper} {rest : List Oper} {op : Oper} {a : Act} {w : World} {Q : Exit → Act → World → Prop} {c : Array Value} {p : Ptp} {g : Nat} (hg : g = w.heap.size) (hc : c.size = 21) (x y : Operand) (hw : Region.wanted op (yielded ops a.tmps) = true)
    (ho : op.op = .store 38 x y) (hx : a.eval x = .pointer (some ⟨g, 0, none⟩)) (hy : a.eval y = p.v) (k : wpList Try.prog ops Q rest (a.put op.dst undef) (w.alloc (.cells #[.int .i64 p.kind, .int .i64 p.domain, .int .i64 p.flags, .int .i64 p.corr, .int .u64 p.clock, .int .i64 p.port, .int .i64 p.seq, .int .i64 p.logInt, .int .i64 p.sec, .int .i64 p.nano, .int .u64 p.reqClock, .int .i64 p.reqPort, .int .i64 p.ann.utc, .int .i64 p.ann.p1, .int .i64 p.ann.cls, .int .i64 p.ann.acc, .int .i64 p.ann.var, .int .i64 p.ann.p2, .int .u64 p.ann.gm, .int .i64 p.ann.steps, .int .i64 p.ann.source] 38))) :
    wpList Try.prog ops Q (op :: rest) a (w.alloc (.cells c 38)) := store_ptp_new hg hc x y hw ho hx hy k
set_option maxRecDepth 100000 in
set_option maxHeartbeats 8000000 in
theorem pfollow_ok (x : Px) (b : Nat) (p : Ptp) (wf : (Lit.int .i64 p.kind).wf = true) (cl po v D : Int) (h0 : checkF p = 0) (hk : p.kind = 10) (hd : p.domain = x.dom) (hp : x.waiting = true) (hq : p.seq = x.resp.seq) (hcl : p.clock = x.resp.clock) (hpt : p.port = x.resp.port)
    (hc : p.reqClock = cl) (hpo : p.reqPort = po) (ha : atF p.sec p.nano = v) (hab : atB p.sec p.nano = true) (hz : x.complete = 0)
    (hD : wrap64 (wrap64 (wrap64 (x.t4 - x.from_) - wrap64 (v - x.t2)) - nanoF (sumF x.resp.corr p.corr)) = D) (hD0 : 0 ≤ D) (hD1 : D ≤ 9223372036854775807) (w : World) (hx : PxAt w b x) :
    Calls Try.prog 16 #[.pointer (some ⟨b, 0, none⟩), p.v, .int .u64 cl, .int .i64 po] w fun e w' =>
      e = .returned (.int .i64 0) ∧ PxAt w' b { x with waiting := false, f0 := v, f1 := x.t4, l0 := v, l1 := x.t4, d0 := D / 2, complete := 1 } ∧ Touch b w w' := by
  have CK := Lib.hid (pcheck_ok x b p wf 10 h0 hk hd)
  have hi := pinst_any p
  rw [ha, hab] at hi
  have HI := Lib.hid hi
  have hfl := floor2_any D hD0 hD1
  rw [← hD] at hfl
  have HFL := Lib.hid hfl
  have HX := Lib.hid hx
  have g1 : (p.seq != x.resp.seq) = false := by simpa using hq
  have g2 : (p.reqClock != cl) = false := by simpa using hc
  have g3 : (p.reqPort != po) = false := by simpa using hpo
  have g4 : (p.clock != x.resp.clock) = false := by simpa using hcl
  have g5 : (p.port != x.resp.port) = false := by simpa using hpt
  have hbl := hx.lt
  have HPE := Lib.hid hp
  have HZ := Lib.hid hz
  have HD := Lib.hid hD
  clear hi hx hq hc hpo h0 hk hd wf ha hab hp hcl hpt hz hfl hD
  go_enter Try.func16, Try.ntmps16
  refine seq_opaque ?_
  intro T HT
  go_wp2_with fail
  generalize hW : w.alloc _ = W
  have hw : Below w.heap.size w W := by rw [← hW]; exact (Below.refl _ _).alloc (Nat.le_refl _) _
  have hp : PtpBox W w.heap.size p := by rw [← hW]; exact PtpBox.of (heap_alloc_new w _)
  have hs : w.heap.size < W.heap.size := by rw [← hW]; simp
  rw [HT.out]
  have HP := Lib.hid hp
  clear hW HT
  go_wp2_with (refine load_ptp HP.out _ rfl rfl rfl ?_)
  refine (CK.out W (HX.out.below hw)).mono ?_
  rintro e w1 ⟨rfl, hb1⟩
  have hB := below_then hw hb1
  have HX1 := Lib.hid (HX.out.below hB)
  have HP1 := Lib.hid (hp.below hs hb1)
  have HB1 := Lib.hid hB
  have hs1 : w.heap.size < w1.heap.size := by have := hb1.size; omega
  have hs1b : b < w1.heap.size := HX1.out.lt
  clear hw hp hs hb1 HP hB
  have y1 : w1.cell? ⟨b, 4, none⟩ = some (.bool x.waiting) := HX1.out.cell 4
  rw [HPE.out] at y1
  have c4 : w1.cell? ⟨w.heap.size, 4, none⟩ = some (.int .u64 p.clock) := HP1.out 4 (by decide)
  have c5 : w1.cell? ⟨w.heap.size, 5, none⟩ = some (.int .i64 p.port) := HP1.out 5 (by decide)
  have c6 : w1.cell? ⟨w.heap.size, 6, none⟩ = some (.int .i64 p.seq) := HP1.out 6 (by decide)
  have c9 : w1.cell? ⟨w.heap.size, 10, none⟩ = some (.int .u64 p.reqClock) := HP1.out 10 (by decide)
  have c10 : w1.cell? ⟨w.heap.size, 11, none⟩ = some (.int .i64 p.reqPort) := HP1.out 11 (by decide)
  go_wp2_with (first | (refine load_ptp_at (p := x.resp) HX1.out.range _ (by rfl) rfl rfl ?_) | (refine store_lit (p := x.resp) (by simp) rfl _ _ (by rfl) rfl rfl rfl ?_) | (refine load_ptp_at (p := p) (PtpBox.range (HP1.out.below hs1 ((Below.refl _ _).alloc (Nat.le_refl _) _))) _ (by rfl) rfl rfl ?_))
  generalize hw2 : w1.alloc _ = w2
  have hb12 : Below w1.heap.size w1 w2 := by rw [← hw2]; exact (Below.refl _ _).alloc (Nat.le_refl _) _
  have r3 : w2.cell? ⟨w1.heap.size, 3, none⟩ = some (.int .i64 x.resp.corr) := by rw [← hw2, cell_of_row _ _ 3 _ _ (0, 0) (heap_alloc_new w1 _)]; rfl
  have HB2 := Lib.hid (below_then HB1.out hb12)
  have HX2 := Lib.hid (HX1.out.below hb12)
  have p3 : w2.cell? ⟨w.heap.size, 3, none⟩ = some (.int .i64 p.corr) := (HP1.out.below hs1 hb12) 3 (by decide)
  have hGb : w1.heap.size ≠ b := Nat.ne_of_gt hs1b
  have hne : w.heap.size ≠ b := by omega
  clear hw2 y1 c4 c5 c6 c9 c10 HB1 HX1 HP1 hs1 hb12 hs1b
  generalize w1.heap.size = G at *
  refine (HI.out _).mono ?_
  rintro e w3 ⟨rfl, hb3⟩
  have HB3 := Lib.hid (below_then HB2.out hb3)
  have hx3 := HX2.out.below hb3
  have r3' : w3.cell? ⟨G, 3, none⟩ = some (.int .i64 x.resp.corr) := cell_below hb3 r3
  have p3' : w3.cell? ⟨w.heap.size, 3, none⟩ = some (.int .i64 p.corr) := cell_below hb3 p3
  have z4 : w3.cell? ⟨b, 4, none⟩ = some (.bool x.waiting) := hx3.cell 4
  have f4 := hx3.free 4
  have HX3 := Lib.hid hx3
  have hne' : b ≠ w.heap.size := hne.symm
  have hGb' : b ≠ G := hGb.symm
  clear hb3 hx3 HB2 HX2 r3 p3
  go_wp2_with (go_at_call 29; refine (addc_any _ _ _).mono ?_; rintro e _ ⟨rfl, rfl⟩)
  generalize hw4 : World.setCell _ _ _ = w4
  have hx4 : PxAt w4 b { x with waiting := false } := by rw [← hw4]; exact heap_set HX3.out 4 _
  have HT4 := Lib.hid (show Touch b w w4 from by rw [← hw4]; exact (Touch.of HB3.out).set _ _)
  have k26 : w4.cell? ⟨b, 26, none⟩ = some (.int .i64 x.from_) := hx4.cell 26
  have k27 : w4.cell? ⟨b, 27, none⟩ = some (.int .i64 x.t2) := hx4.cell 27
  have k28 : w4.cell? ⟨b, 28, none⟩ = some (.int .i64 x.t4) := hx4.cell 28
  have HX4 := Lib.hid hx4
  clear hw4 hx4 HX3 HB3 z4 f4 r3' p3'
  go_quiet (first | (go_at_call 39; exact quiet_same (nano_any _ _)) | (go_at_call 38; exact quiet_same (HFL.out _)))
  generalize hw5 : w4.drewN _ = w5
  have hx5 : PxAt w5 b { x with waiting := false } := by rw [← hw5]; exact HX4.out
  have HT5 := Lib.hid (show Touch b w w5 from by rw [← hw5]; exact HT4.out.drewN _)
  have k28' : w5.cell? ⟨b, 28, none⟩ = some (.int .i64 x.t4) := hx5.cell 28
  have k29 : w5.cell? ⟨b, 29, none⟩ = some (.int .i64 x.complete) := hx5.cell 29
  have k38 : w5.cell? ⟨b, 38, none⟩ = some (.int .i64 x.f0) := hx5.cell 38
  have k39 : w5.cell? ⟨b, 39, none⟩ = some (.int .i64 x.f1) := hx5.cell 39
  have k40 : w5.cell? ⟨b, 40, none⟩ = some (.int .i64 x.l0) := hx5.cell 40
  have k41 : w5.cell? ⟨b, 41, none⟩ = some (.int .i64 x.l1) := hx5.cell 41
  rw [HZ.out] at k29
  have f38 := hx5.free 38
  have f39 := hx5.free 39
  have f40 := hx5.free 40
  have f41 := hx5.free 41
  have HX5 := Lib.hid hx5
  clear hw5 hx5 k26 k27 k28 HX4 HT4
  go_wp2_with fail
  generalize hw6 : World.setCell _ _ _ = w6
  have hx6 : PxAt w6 b { x with waiting := false, f0 := v, f1 := x.t4, l0 := v, l1 := x.t4 } := by rw [← hw6]; exact heap_set (heap_set (heap_set (heap_set HX5.out 38 _) 39 _) 40 _) 41 _
  have HT6 := Lib.hid (show Touch b w w6 from by rw [← hw6]; exact (((HT5.out.set _ _).set _ _).set _ _).set _ _)
  have k29 : w6.cell? ⟨b, 29, none⟩ = some (.int .i64 x.complete) := hx6.cell 29
  rw [HZ.out] at k29
  have k30 : w6.cell? ⟨b, 30, none⟩ = some (.int .i64 x.d0) := hx6.cell 30
  have f30 := hx6.free 30
  have HX6 := Lib.hid hx6
  clear hw6 hx6 k28' k38 k39 k40 k41 f38 f39 f40 f41 HX5 HT5
  go_region_held3 (fun w' => w'.cell? ⟨b, 29, none⟩ = some (.int .i64 0)) (first | exact cell_set_drew (by decide) (by assumption) | go_keep) (fail)
  have ife : (if 0 < wrap64 (wrap64 (wrap64 (x.t4 - x.from_) - wrap64 (v - x.t2)) - nanoF (sumF x.resp.corr p.corr)) / 2 then wrap64 (wrap64 (wrap64 (x.t4 - x.from_) - wrap64 (v - x.t2)) - nanoF (sumF x.resp.corr p.corr)) / 2 else 0) = D / 2 := by rw [HD.out]; split <;> omega
  rw [ife]
  generalize hw7 : World.drew _ = w7
  have hx7 : PxAt w7 b { x with waiting := false, f0 := v, f1 := x.t4, l0 := v, l1 := x.t4, d0 := D / 2 } := by rw [← hw7]; exact heap_set HX6.out 30 _
  have HT7 := Lib.hid (show Touch b w w7 from by rw [← hw7]; exact (HT6.out.set _ _).drewN 1)
  have k29' : w7.cell? ⟨b, 29, none⟩ = some (.int .i64 x.complete) := hx7.cell 29
  rw [HZ.out] at k29'
  have f29 := hx7.free 29
  have HX7 := Lib.hid hx7
  clear hw7 hx7 k29 k30 f30 HX6 HT6 ife
  go_wp2_with fail
  go_ret
  exact ⟨rfl, heap_set HX7.out 29 _, HT7.out.set _ _⟩
theorem pdelay_ok (x : Px) (b : Nat) (hz : x.complete = 1) (h0 : 0 ≤ x.d0) (h1 : x.d0 ≤ 4611686018427387904) (w : World) (hx : PxAt w b x) : Calls Try.prog 17 #[.pointer (some ⟨b, 0, none⟩)] w fun e w' => e = .returned (.tuple #[.int .i64 x.d0, .bool true]) ∧ Below w.heap.size w w' := by
  have k29 : w.cell? ⟨b, 29, none⟩ = some (.int .i64 x.complete) := hx.cell 29
  have k30 : w.cell? ⟨b, 30, none⟩ = some (.int .i64 x.d0) := hx.cell 30
  rw [hz] at k29
  obtain ⟨d, hd⟩ : ∃ d, x.d0 = d := ⟨_, rfl⟩
  rw [hd] at k30 h0 h1
  rw [hd]
  clear hx hz hd
  go_enter Try.func17, Try.ntmps17
  go_wp2_with fail
  go_loop [5, 28] (fun s i => ∃ k : Nat, k ≤ 1 ∧ i = .int .i64 k ∧ s = .int .i64 (if k = 0 then 0 else d)) (fun _ i => 1 - (intOf i).toNat)
  case atStart => exact ⟨0, by omega, rfl, rfl⟩
  case round =>
    obtain ⟨k, hk, rfl, rfl⟩ := hrel
    obtain rfl | rfl : k = 0 ∨ k = 1 := by omega
    · go_wp2_with fail
      go_round
      case rel => exact ⟨1, by omega, by go_num, by simp⟩
      case measure => simp [intOf]
    · go_wp2_with fail
      go_ret2
      exact ⟨by simp, Below.refl _ _⟩
end Go.Proofs.Ytkjnhabflkaopaa
