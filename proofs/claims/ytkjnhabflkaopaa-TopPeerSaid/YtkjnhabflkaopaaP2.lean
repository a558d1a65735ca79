/- The state of p2p; New, Request, check, Response (written by gen_p2.py). -/
import Derived.WalkKit
import Derived.LoopTactic
import Derived.Outline
import Derived.Lib.Hide
import Derived.Deep.QuietTactic
import Derived.BigQuiet
import Derived.BigRegion
import Derived.Deep.RegionHeld3
import Derived.Test.YtkjnhabflkaopaaP1
import Derived.Test.YtkjnhabflkaopaaE4
namespace Go.Proofs.Ytkjnhabflkaopaa
open Go.RowKit
set_option linter.unusedVariables false
set_option linter.unusedSimpArgs false

/-- The measurement of a link: at most one delay. -/
structure Px where
  dom : Int
  pending : Bool
  seq : Int
  t1 : Int
  waiting : Bool
  resp : Ptp
  from_ : Int
  t2 : Int
  t4 : Int
  complete : Int
  d0 : Int
  f0 : Int
  f1 : Int
  l0 : Int
  l1 : Int
def Px.new : Px := ⟨0, false, 0, 0, false, .zero, 0, 0, 0, 0, 0, 0, 0, 0, 0⟩
abbrev Px.cells (x : Px) : Array Value := #[.int .i64 x.dom, .bool x.pending, .int .i64 x.seq, .int .i64 x.t1, .bool x.waiting, .int .i64 x.resp.kind, .int .i64 x.resp.domain, .int .i64 x.resp.flags, .int .i64 x.resp.corr, .int .u64 x.resp.clock, .int .i64 x.resp.port, .int .i64 x.resp.seq, .int .i64 x.resp.logInt, .int .i64 x.resp.sec, .int .i64 x.resp.nano, .int .u64 x.resp.reqClock, .int .i64 x.resp.reqPort, .int .i64 x.resp.ann.utc, .int .i64 x.resp.ann.p1, .int .i64 x.resp.ann.cls, .int .i64 x.resp.ann.acc, .int .i64 x.resp.ann.var, .int .i64 x.resp.ann.p2, .int .u64 x.resp.ann.gm, .int .i64 x.resp.ann.steps, .int .i64 x.resp.ann.source, .int .i64 x.from_, .int .i64 x.t2, .int .i64 x.t4, .int .i64 x.complete, .int .i64 x.d0, .int .i64 0, .int .i64 0, .int .i64 0, .int .i64 0, .int .i64 0, .int .i64 0, .int .i64 0, .int .i64 x.f0, .int .i64 x.f1, .int .i64 x.l0, .int .i64 x.l1]
def PxAt (w : World) (b : Nat) (x : Px) : Prop := w.heap[b]? = some (.cells x.cells 70 (0, 0))
theorem PxAt.lt {w : World} {b : Nat} {x : Px} (h : PxAt w b x) : b < w.heap.size := (Array.getElem?_eq_some_iff.1 h).1
theorem PxAt.cell {w : World} {b : Nat} {x : Px} (h : PxAt w b x) (j : Nat) : w.cell? ⟨b, j, none⟩ = x.cells[j]? := cell_of_row w b j _ _ (0, 0) h
theorem PxAt.free {w : World} {b : Nat} {x : Px} (h : PxAt w b x) (j : Nat) : w.frozen? ⟨b, j, none⟩ = false := frozen_of_row w b j _ _ h
theorem PxAt.below {w w' : World} {c : Nat} {x : Px} (h : PxAt w c x) (k : Below w.heap.size w w') : PxAt w' c x := (k.block c h.lt).trans h
theorem pnew_ok (w : World) : Calls Try.prog 12 #[.int .i64 0] w fun e w' => e = .returned (.pointer (some ⟨w.heap.size, 0, none⟩)) ∧ PxAt w' w.heap.size .new ∧ Below w.heap.size w w' ∧ w.heap.size < w'.heap.size := by
  go_enter Try.func12, Try.ntmps12
  go_wp2_with fail
  go_ret
  exact ⟨rfl, heap_alloc_new _ _, (Below.refl _ _).alloc (Nat.le_refl _) _, by simp⟩
theorem preq_ok (x : Px) (b : Nat) (s t : Int) (hs : 0 ≤ s) (hs2 : s ≤ 65535) (ht : instB t = true) (w : World) (hx : PxAt w b x) : Calls Try.prog 13 #[.pointer (some ⟨b, 0, none⟩), .int .i64 s, .int .i64 t] w fun e w' => e = .returned (.int .i64 0) ∧ PxAt w' b { x with pending := true, seq := s, t1 := t } ∧ Touch b w w' := by
  have hi := loc_any t
  rw [ht] at hi
  have HI := Lib.hid hi
  have HX := Lib.hid hx
  have c1 : w.cell? ⟨b, 1, none⟩ = some (.bool x.pending) := hx.cell 1
  have c2 : w.cell? ⟨b, 2, none⟩ = some (.int .i64 x.seq) := hx.cell 2
  have c3 : w.cell? ⟨b, 3, none⟩ = some (.int .i64 x.t1) := hx.cell 3
  have f1 := hx.free 1
  have f2 := hx.free 2
  have f3 := hx.free 3
  clear hi hx ht
  go_enter Try.func13, Try.ntmps13
  go_wp2_with (go_at_call 34; refine (HI.out _).mono ?_; rintro e _ ⟨rfl, rfl⟩)
  go_ret
  exact ⟨rfl, heap_set (heap_set (heap_set HX.out 1 _) 2 _) 3 _, (((Touch.refl _ _).set _ _).set _ _).set _ _⟩
set_option maxRecDepth 100000 in
set_option maxHeartbeats 4000000 in
theorem pcheck_ok (x : Px) (b : Nat) (p : Ptp) (wf : (Lit.int .i64 p.kind).wf = true) (k : Int) (h0 : checkF p = 0) (hk : p.kind = k) (hd : p.domain = x.dom) (w : World) (hx : PxAt w b x) : Calls Try.prog 35 #[.pointer (some ⟨b, 0, none⟩), p.v, .int .i64 k] w fun e w' => e = .returned (.int .i64 0) ∧ Below w.heap.size w w' := by
  have ck : ∀ w, Calls Try.prog 40 #[p.v] w fun e w' => e = .returned (.int .i64 0) ∧ Below w.heap.size w w' := fun w => by have := check_any p wf w; rwa [h0] at this
  have CK := Lib.hid ck
  have HX := Lib.hid hx
  have hkb : (p.kind != k) = false := by simpa using hk
  have hdb : (p.domain != x.dom) = false := by simpa using hd
  clear ck wf hx hk hd h0
  go_enter Try.func35, Try.ntmps35
  refine seq_opaque ?_
  intro T HT
  go_wp2_with fail
  generalize hW : w.alloc _ = W
  have hw : Below w.heap.size w W := by rw [← hW]; exact (Below.refl _ _).alloc (Nat.le_refl _) _
  have hp : PtpBox W w.heap.size p := by rw [← hW]; exact PtpBox.of (heap_alloc_new w _)
  have hs : w.heap.size < W.heap.size := by rw [← hW]; simp
  rw [HT.out]
  have HP := Lib.hid hp
  clear hW HT
  go_wp2_with (refine load_ptp HP.out _ rfl rfl rfl ?_)
  refine (CK.out W).mono ?_
  rintro e w1 ⟨rfl, hb1⟩
  have hB := below_then hw hb1
  have hp1 := hp.below hs hb1
  have c0 : w1.cell? ⟨w.heap.size, 0, none⟩ = some (.int .i64 p.kind) := hp1 0 (by decide)
  have c1 : w1.cell? ⟨w.heap.size, 1, none⟩ = some (.int .i64 p.domain) := hp1 1 (by decide)
  have x0 : w1.cell? ⟨b, 0, none⟩ = some (.int .i64 x.dom) := (HX.out.below hB).cell 0
  have HB := Lib.hid hB
  clear hw hp hs hb1 hp1 hB
  go_wp2_with fail
  go_quiet (fail)
  go_wp2_with fail
  go_ret
  exact ⟨rfl, below_drewN HB.out _⟩
theorem set_resp (x : Px) (p : Ptp) : setList (x.cells.setIfInBounds 4 (.bool true)) 5 p.cells = ({ x with waiting := true, resp := p } : Px).cells := by
  simp [setList, Ptp.cells, Px.cells]
theorem cell_apart {w : World} {b j i : Nat} {v c : Value} (h : w.cell? ⟨b, j, none⟩ = some c) (hj : i ≠ j) : (w.setCell ⟨b, i, none⟩ v).cell? ⟨b, j, none⟩ = some c := (World.cell?_setCell_other w _ _ _ (fun e => hj (congrArg Addr.off e))).trans h
set_option maxRecDepth 100000 in
set_option maxHeartbeats 8000000 in
theorem presp_ok (x : Px) (b : Nat) (p : Ptp) (wf : (Lit.int .i64 p.kind).wf = true) (t4 cl po v : Int) (h0 : checkF p = 0) (hk : p.kind = 3) (hd : p.domain = x.dom) (hp : x.pending = true) (hq : p.seq = x.seq) (hc : p.reqClock = cl) (hpo : p.reqPort = po)
    (ha : atF p.sec p.nano = v) (hab : atB p.sec p.nano = true) (ht : instB t4 = true) (w : World) (hx : PxAt w b x) : Calls Try.prog 14 #[.pointer (some ⟨b, 0, none⟩), p.v, .int .i64 t4, .int .u64 cl, .int .i64 po] w fun e w' =>
      e = .returned (.int .i64 0) ∧ PxAt w' b { x with pending := false, waiting := true, resp := p, from_ := x.t1, t2 := v, t4 := t4 } ∧ Touch b w w' := by
  have CK := Lib.hid (pcheck_ok x b p wf 3 h0 hk hd)
  have hi := pinst_any p
  rw [ha, hab] at hi
  have HI := Lib.hid hi
  have hl := loc_any t4
  rw [ht] at hl
  have HL := Lib.hid hl
  have HX := Lib.hid hx
  have g1 : (p.seq != x.seq) = false := by simpa using hq
  have g2 : (p.reqClock != cl) = false := by simpa using hc
  have g3 : (p.reqPort != po) = false := by simpa using hpo
  have ho : ∀ v ∈ p.cells, v.oneCell' = true := by intro v hv; simp [Ptp.cells] at hv; rcases hv with h | h | h | h | h | h | h | h | h | h | h | h | h | h | h | h | h | h | h | h | h <;> (subst h; rfl)
  have hbl := hx.lt
  have HPE := Lib.hid hp
  clear hi hl hx hq hc hpo h0 hk hd wf ha hab ht hp
  go_enter Try.func14, Try.ntmps14
  refine seq_opaque ?_
  intro T HT
  go_wp2_with fail
  generalize hW : w.alloc _ = W
  have hw : Below w.heap.size w W := by rw [← hW]; exact (Below.refl _ _).alloc (Nat.le_refl _) _
  have hp : PtpBox W w.heap.size p := by rw [← hW]; exact PtpBox.of (heap_alloc_new w _)
  have hs : w.heap.size < W.heap.size := by rw [← hW]; simp
  rw [HT.out]
  have HP := Lib.hid hp
  clear hW HT
  go_wp2_with (refine load_ptp HP.out _ rfl rfl rfl ?_)
  refine (CK.out W (HX.out.below hw)).mono ?_
  rintro e w1 ⟨rfl, hb1⟩
  have hB := below_then hw hb1
  have HX1 := Lib.hid (HX.out.below hB)
  have HP1 := Lib.hid (hp.below hs hb1)
  have HB1 := Lib.hid hB
  have hs1 : w.heap.size < w1.heap.size := by have := hb1.size; omega
  clear hw hp hs hb1 HP hB
  have y1 : w1.cell? ⟨b, 1, none⟩ = some (.bool x.pending) := HX1.out.cell 1
  rw [HPE.out] at y1
  have y2 : w1.cell? ⟨b, 2, none⟩ = some (.int .i64 x.seq) := HX1.out.cell 2
  have c6 : w1.cell? ⟨w.heap.size, 6, none⟩ = some (.int .i64 p.seq) := HP1.out 6 (by decide)
  have c9 : w1.cell? ⟨w.heap.size, 10, none⟩ = some (.int .u64 p.reqClock) := HP1.out 10 (by decide)
  have c10 : w1.cell? ⟨w.heap.size, 11, none⟩ = some (.int .i64 p.reqPort) := HP1.out 11 (by decide)
  go_wp2_with fail
  go_quiet (fail)
  generalize hw2 : w1.drewN _ = w2
  have HB2 := Lib.hid (show Below w.heap.size w w2 from by rw [← hw2]; exact below_drewN HB1.out _)
  have HX2 := Lib.hid (show PxAt w2 b x from by rw [← hw2]; exact HX1.out)
  have HP2 := Lib.hid (show PtpBox w2 w.heap.size p from by rw [← hw2]; exact HP1.out)
  have hs2 : w.heap.size < w2.heap.size := by rw [← hw2]; exact hs1
  clear hw2 y1 y2 c6 c9 c10 HB1 HX1 HP1 hs1
  go_wp2_with (refine load_ptp HP2.out _ rfl rfl rfl ?_)
  refine (HI.out _).mono ?_
  rintro e w3 ⟨rfl, hb3⟩
  have HB3 := Lib.hid (below_then HB2.out hb3)
  have hx3 := HX2.out.below hb3
  have HP3 := Lib.hid (HP2.out.below hs2 hb3)
  have z1 : w3.cell? ⟨b, 1, none⟩ = some (.bool x.pending) := hx3.cell 1
  have f1 := hx3.free 1
  have HX3 := Lib.hid hx3
  have hne : w.heap.size ≠ b := by omega
  have hne' : b ≠ w.heap.size := by omega
  have hs3 : w.heap.size < w3.heap.size := Nat.lt_of_lt_of_le hs2 hb3.size
  clear hb3 hx3 HB2 HX2 HP2
  go_wp2_with (go_at_call 34; refine (HL.out _).mono ?_; rintro e _ ⟨rfl, rfl⟩)
  generalize hw4 : World.setCell _ _ _ = w4
  have hx4 : PxAt w4 b { x with pending := false } := by rw [← hw4]; exact heap_set HX3.out 1 _
  have ht4 : Touch b w w4 := by rw [← hw4]; exact (Touch.of HB3.out).set _ _
  have hp4 : PtpBox w4 w.heap.size p := HP3.out.touch (show Touch b w3 w4 by rw [← hw4]; exact (Touch.refl b w3).set _ _) hne hs3
  have HX4 := Lib.hid hx4
  have HT4 := Lib.hid ht4
  clear hw4 HX3 HB3 HP3 z1 f1 ht4
  have hc3 : w4.cell? ⟨b, 3, none⟩ = some (.int .i64 x.t1) := hx4.cell 3
  refine wp_region_held_drew (S := fun w' => w'.rangeAt w.heap.size 0 p.cells ∧ w'.cell? ⟨b, 3, none⟩ = some (.int .i64 x.t1)) (by kernel_rfl) ⟨hp4.range, hc3⟩ (fun hHeld => ?_)
  have HX5 : PxAt w4.drew b { x with pending := false } := HX4.out
  have HT5 : Touch b w w4.drew := HT4.out.drewN 1
  clear hx4 hp4 hc3
  generalize w4.drew = w5 at *
  have th : w5.there b 5 21 := fun j hj => ⟨by rw [HX5.cell]; rcases j with _ | _ | _ | _ | _ | _ | _ | _ | _ | _ | _ | _ | _ | _ | _ | _ | _ | _ | _ | _ | _ | j <;> first | rfl | omega, HX5.free _⟩
  have k4 : w5.cell? ⟨b, 4, none⟩ = some (.bool x.waiting) := HX5.cell 4
  have f4 := HX5.free 4
  have TH := Lib.hid th
  have HXX := Lib.hid HX5
  have HTT := Lib.hid HT5
  clear th HX5 HT5
  refine wpAnyH_take (i := 0) (oi := _) (v := ?_) rfl (by kernel_rfl) (by kernel_rfl) (by kernel_rfl) (fun _ _ _ h => h) (Or.inl ⟨by rfl, ?_⟩) hHeld ?_
  rotate_left
  · intro w hSw
    obtain ⟨hS1, hS2⟩ := hSw
    go_simp
    with_reducible rfl
  simp only [Act.put, List.setIfInBounds_toArray, List.set_cons_zero, List.set_cons_succ]
  refine wpAnyH_take (i := 1) (oi := _) (v := ?_) rfl (by kernel_rfl) (by kernel_rfl) (by kernel_rfl) (fun _ _ _ h => h) (Or.inl ⟨by rfl, ?_⟩) hHeld ?_
  rotate_left
  · intro w hSw
    obtain ⟨hS1, hS2⟩ := hSw
    go_simp
    with_reducible rfl
  simp only [Act.put, List.setIfInBounds_toArray, List.set_cons_zero, List.set_cons_succ]
  refine wpAnyH_take (i := 2) (oi := _) (v := ?_) rfl (by kernel_rfl) (by kernel_rfl) (by kernel_rfl) (fun _ _ _ h => h) (Or.inl ⟨by rfl, ?_⟩) hHeld ?_
  rotate_left
  · intro w hSw
    obtain ⟨hS1, hS2⟩ := hSw
    go_simp
    with_reducible rfl
  simp only [Act.put, List.setIfInBounds_toArray, List.set_cons_zero, List.set_cons_succ]
  refine wpAnyH_take (i := 3) (oi := _) (v := ?_) rfl (by kernel_rfl) (by kernel_rfl) (by kernel_rfl) (fun _ _ _ h => h) (Or.inl ⟨by rfl, ?_⟩) hHeld ?_
  rotate_left
  · intro w hSw
    obtain ⟨hS1, hS2⟩ := hSw
    go_simp
    with_reducible rfl
  simp only [Act.put, List.setIfInBounds_toArray, List.set_cons_zero, List.set_cons_succ]
  refine wpAnyH_take (i := 4) (oi := _) (v := ?_) rfl (by kernel_rfl) (by kernel_rfl) (by kernel_rfl) (fun _ _ _ h => h) (Or.inl ⟨by rfl, ?_⟩) hHeld ?_
  rotate_left
  · intro w hSw
    obtain ⟨hS1, hS2⟩ := hSw
    go_simp
    with_reducible rfl
  simp only [Act.put, List.setIfInBounds_toArray, List.set_cons_zero, List.set_cons_succ]
  refine' wpAnyH_take (i := 5) (oi := _) (v := _) rfl (by kernel_rfl) (by kernel_rfl) (by kernel_rfl) (fun _ _ _ h => h) (yieldsIf_load_mid (by rfl) _ _ rfl _ _ rfl p.cells _ (fun w h => h.1) Try.underlying38 rfl infoPtp) hHeld ?_
  simp only [Act.put, List.setIfInBounds_toArray, List.set_cons_zero, List.set_cons_succ]
  refine wpAnyH_take (i := 6) (oi := _) (v := ?_) rfl (by kernel_rfl) (by kernel_rfl) (by kernel_rfl) (fun _ _ _ h => h) (Or.inl ⟨by rfl, ?_⟩) hHeld ?_
  rotate_left
  · intro w hSw
    obtain ⟨hS1, hS2⟩ := hSw
    go_simp
    with_reducible rfl
  simp only [Act.put, List.setIfInBounds_toArray, List.set_cons_zero, List.set_cons_succ]
  refine wpAnyH_take (i := 7) (oi := _) (v := ?_) rfl (by kernel_rfl) (by kernel_rfl) (by kernel_rfl) (fun _ _ _ h => h) (Or.inl ⟨by rfl, ?_⟩) hHeld ?_
  rotate_left
  · intro w hSw
    obtain ⟨hS1, hS2⟩ := hSw
    go_simp
    with_reducible rfl
  simp only [Act.put, List.setIfInBounds_toArray, List.set_cons_zero, List.set_cons_succ]
  refine wpAnyH_take (i := 8) (oi := _) (v := ?_) rfl (by kernel_rfl) (by kernel_rfl) (by kernel_rfl) (fun _ _ _ h => h) (Or.inl ⟨by rfl, ?_⟩) hHeld ?_
  rotate_left
  · intro w hSw
    obtain ⟨hS1, hS2⟩ := hSw
    go_simp
    with_reducible rfl
  simp only [Act.put, List.setIfInBounds_toArray, List.set_cons_zero, List.set_cons_succ]
  refine wpAnyH_take (i := 9) (oi := _) (v := ?_) rfl (by kernel_rfl) (by kernel_rfl) (by kernel_rfl) (fun _ _ _ h => h) (Or.inl ⟨by rfl, ?_⟩) hHeld ?_
  rotate_left
  · intro w hSw
    obtain ⟨hS1, hS2⟩ := hSw
    go_simp
    with_reducible rfl
  simp only [Act.put, List.setIfInBounds_toArray, List.set_cons_zero, List.set_cons_succ]
  refine wpAnyH_take (i := 10) (oi := _) (v := ?_) rfl (by kernel_rfl) (by kernel_rfl) (by kernel_rfl) (fun _ _ _ h => h) (Or.inl ⟨by rfl, ?_⟩) hHeld ?_
  rotate_left
  · intro w hSw
    obtain ⟨hS1, hS2⟩ := hSw
    go_simp
    with_reducible rfl
  simp only [Act.put, List.setIfInBounds_toArray, List.set_cons_zero, List.set_cons_succ]
  refine wpAnyH_take (i := 11) (oi := _) (v := ?_) rfl (by kernel_rfl) (by kernel_rfl) (by kernel_rfl) (fun _ _ _ h => h) (Or.inl ⟨by rfl, ?_⟩) hHeld ?_
  rotate_left
  · intro w hSw
    obtain ⟨hS1, hS2⟩ := hSw
    go_simp
    with_reducible rfl
  simp only [Act.put, List.setIfInBounds_toArray, List.set_cons_zero, List.set_cons_succ]
  refine wpAnyH_take (i := 12) (oi := _) (v := ?_) rfl (by kernel_rfl) (by kernel_rfl) (by kernel_rfl) (fun _ _ _ h => h) (Or.inl ⟨by rfl, ?_⟩) hHeld ?_
  rotate_left
  · intro w hSw
    obtain ⟨hS1, hS2⟩ := hSw
    go_simp
    with_reducible rfl
  simp only [Act.put, List.setIfInBounds_toArray, List.set_cons_zero, List.set_cons_succ]
  refine wpAnyH_take (i := 13) (oi := _) (v := ?_) rfl (by kernel_rfl) (by kernel_rfl) (by kernel_rfl) (fun _ _ _ h => h) (Or.inl ⟨by rfl, ?_⟩) hHeld ?_
  rotate_left
  · intro w hSw
    obtain ⟨hS1, hS2⟩ := hSw
    go_simp
    with_reducible rfl
  simp only [Act.put, List.setIfInBounds_toArray, List.set_cons_zero, List.set_cons_succ]
  refine wpAnyH_ready (rs := [14]) (by kernel_rfl) (by simp) ?_
  refine AllReadyH.cons rfl (fun K hK => ?_) AllReadyH.nil
  go_simp
  refine hK.out _ _ ⟨World.rangeAt_setCells_apart hHeld.1 b 4 [.bool true] (Or.inl hne), cell_apart hHeld.2 (by decide)⟩ (fun hHeld => ?_)
  clear hK K
  have TH2 := Lib.hid (show (w5.setCell ⟨b, 4, none⟩ (.bool true)).there b 5 21 from fun j hj => ⟨World.isSome_setCells b [.bool true] 4 w5 _ (TH.out j hj).1, by rw [World.frozen?_setCell]; exact (TH.out j hj).2⟩)
  refine wpAnyH_take (i := 15) (oi := _) (v := ?_) rfl (by kernel_rfl) (by kernel_rfl) (by kernel_rfl) (fun _ _ _ h => h) (Or.inl ⟨by rfl, ?_⟩) hHeld ?_
  rotate_left
  · intro w hSw
    obtain ⟨hS1, hS2⟩ := hSw
    go_simp
    with_reducible rfl
  simp only [Act.put, List.setIfInBounds_toArray, List.set_cons_zero, List.set_cons_succ]
  refine wpAnyH_take (i := 16) (oi := _) (v := ?_) rfl (by kernel_rfl) (by kernel_rfl) (by kernel_rfl) (fun _ _ _ h => h) (Or.inl ⟨by rfl, ?_⟩) hHeld ?_
  rotate_left
  · intro w hSw
    obtain ⟨hS1, hS2⟩ := hSw
    go_simp
    with_reducible rfl
  simp only [Act.put, List.setIfInBounds_toArray, List.set_cons_zero, List.set_cons_succ]
  refine wpAnyH_ready (rs := [17]) (by kernel_rfl) (by simp) ?_
  refine AllReadyH.cons rfl (fun K hK => ?_) AllReadyH.nil
  rw [if_pos (by rfl)]
  refine wp_store_mid _ _ _ rfl b 5 p.cells.toArray rfl rfl TH2.out infoPtp (all_oneCell_toArray ho) ?_
  refine hK.out _ _ ⟨World.rangeAt_setCells_apart hHeld.1 b 5 p.cells (Or.inl hne), (World.cell?_setCells_out b p.cells 5 _ ⟨b, 3, none⟩ (fun _ _ => .inl (show 3 < 5 by decide))).trans hHeld.2⟩ (fun hHeld => ?_)
  clear hK K
  simp only [Act.put, List.setIfInBounds_toArray, List.set_cons_zero, List.set_cons_succ, List.toList_toArray]
  have hx6 := heap_sets p.cells 5 _ _ (heap_set HXX.out 4 (.bool true))
  rw [set_resp] at hx6
  have HX6 := Lib.hid (show PxAt _ b _ from hx6)
  clear hx6
  have HT6 := Lib.hid (Touch.sets p.cells 5 _ (HTT.out.set (b := b) 4 (.bool true)))
  generalize (w5.setCell ⟨b, 4, none⟩ (.bool true)).setCells b 5 p.cells = w6 at *
  have k26 : w6.cell? ⟨b, 26, none⟩ = some (.int .i64 x.from_) := HX6.out.cell 26
  have k27 : w6.cell? ⟨b, 27, none⟩ = some (.int .i64 x.t2) := HX6.out.cell 27
  have k28 : w6.cell? ⟨b, 28, none⟩ = some (.int .i64 x.t4) := HX6.out.cell 28
  have f26 := HX6.out.free 26
  have f27 := HX6.out.free 27
  have f28 := HX6.out.free 28
  refine wpAnyH_take (i := 18) (oi := _) (v := ?_) rfl (by kernel_rfl) (by kernel_rfl) (by kernel_rfl) (fun _ _ _ h => h) (Or.inl ⟨by rfl, ?_⟩) hHeld ?_
  rotate_left
  · intro w hSw
    obtain ⟨hS1, hS2⟩ := hSw
    go_simp
    with_reducible rfl
  simp only [Act.put, List.setIfInBounds_toArray, List.set_cons_zero, List.set_cons_succ]
  refine wpAnyH_take (i := 19) (oi := _) (v := ?_) rfl (by kernel_rfl) (by kernel_rfl) (by kernel_rfl) (fun _ _ _ h => h) (Or.inl ⟨by rfl, ?_⟩) hHeld ?_
  rotate_left
  · intro w hSw
    obtain ⟨hS1, hS2⟩ := hSw
    go_simp
    with_reducible rfl
  simp only [Act.put, List.setIfInBounds_toArray, List.set_cons_zero, List.set_cons_succ]
  refine wpAnyH_ready (rs := [20]) (by kernel_rfl) (by simp) ?_
  refine AllReadyH.cons rfl (fun K hK => ?_) AllReadyH.nil
  go_simp
  refine hK.out _ _ ⟨World.rangeAt_setCells_apart hHeld.1 b 26 [.int .i64 x.t1] (Or.inl hne), cell_apart hHeld.2 (by decide)⟩ (fun hHeld => ?_)
  clear hK K
  refine wpAnyH_take (i := 21) (oi := _) (v := ?_) rfl (by kernel_rfl) (by kernel_rfl) (by kernel_rfl) (fun _ _ _ h => h) (Or.inl ⟨by rfl, ?_⟩) hHeld ?_
  rotate_left
  · intro w hSw
    obtain ⟨hS1, hS2⟩ := hSw
    go_simp
    with_reducible rfl
  simp only [Act.put, List.setIfInBounds_toArray, List.set_cons_zero, List.set_cons_succ]
  refine wpAnyH_take (i := 22) (oi := _) (v := ?_) rfl (by kernel_rfl) (by kernel_rfl) (by kernel_rfl) (fun _ _ _ h => h) (Or.inl ⟨by rfl, ?_⟩) hHeld ?_
  rotate_left
  · intro w hSw
    obtain ⟨hS1, hS2⟩ := hSw
    go_simp
    with_reducible rfl
  simp only [Act.put, List.setIfInBounds_toArray, List.set_cons_zero, List.set_cons_succ]
  refine wpAnyH_ready (rs := [23]) (by kernel_rfl) (by simp) ?_
  refine AllReadyH.cons rfl (fun K hK => ?_) AllReadyH.nil
  go_simp
  refine hK.out _ _ ⟨World.rangeAt_setCells_apart hHeld.1 b 27 [.int .i64 v] (Or.inl hne), cell_apart hHeld.2 (by decide)⟩ (fun hHeld => ?_)
  clear hK K
  refine wpAnyH_take (i := 24) (oi := _) (v := ?_) rfl (by kernel_rfl) (by kernel_rfl) (by kernel_rfl) (fun _ _ _ h => h) (Or.inl ⟨by rfl, ?_⟩) hHeld ?_
  rotate_left
  · intro w hSw
    obtain ⟨hS1, hS2⟩ := hSw
    go_simp
    with_reducible rfl
  simp only [Act.put, List.setIfInBounds_toArray, List.set_cons_zero, List.set_cons_succ]
  refine wpAnyH_take (i := 25) (oi := _) (v := ?_) rfl (by kernel_rfl) (by kernel_rfl) (by kernel_rfl) (fun _ _ _ h => h) (Or.inl ⟨by rfl, ?_⟩) hHeld ?_
  rotate_left
  · intro w hSw
    obtain ⟨hS1, hS2⟩ := hSw
    go_simp
    with_reducible rfl
  simp only [Act.put, List.setIfInBounds_toArray, List.set_cons_zero, List.set_cons_succ]
  refine wpAnyH_ready (rs := [26]) (by kernel_rfl) (by simp) ?_
  refine AllReadyH.cons rfl (fun K hK => ?_) AllReadyH.nil
  go_simp
  refine hK.out _ _ ⟨World.rangeAt_setCells_apart hHeld.1 b 28 [.int .i64 t4] (Or.inl hne), cell_apart hHeld.2 (by decide)⟩ (fun hHeld => ?_)
  clear hK K
  refine wpAnyH_done (by kernel_rfl) ?_ _
  clear hHeld
  go_wp2_with fail
  go_ret
  exact ⟨rfl, heap_set (heap_set (heap_set HX6.out 26 _) 27 _) 28 _, ((HT6.out.set _ _).set _ _).set _ _⟩
end Go.Proofs.Ytkjnhabflkaopaa
