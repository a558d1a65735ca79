/- The walk of E2eSteps (written by gen_steps.py). -/
import Derived.WalkKit
import Derived.LoopTactic
import Derived.Outline
import Derived.Lib.Hide
import Derived.Deep.QuietTactic
import Derived.BigQuiet
import Derived.BigRegion
import Derived.Deep.RegionHeld3
import Derived.Test.YtkjnhabflkaopaaE11
import Derived.Test.YtkjnhabflkaopaaE14
namespace Go.Proofs.Ytkjnhabflkaopaa
open Go.RowKit
set_option linter.unusedVariables false
set_option linter.unusedSimpArgs false

def HeapP (w : World) (g : Nat) (p : Ptp) : Prop := w.heap[g]? = some (.cells p.cells.toArray 38 (0, 0))
theorem HeapP.lt {w : World} {g : Nat} {p : Ptp} (h : HeapP w g p) : g < w.heap.size := (Array.getElem?_eq_some_iff.1 h).1
theorem HeapP.box {w : World} {g : Nat} {p : Ptp} (h : HeapP w g p) : PtpBox w g p := PtpBox.of h
theorem HeapP.range {w : World} {g : Nat} {p : Ptp} (h : HeapP w g p) : w.rangeAt g 0 p.cells := h.box.range
theorem HeapP.below {w w' : World} {g : Nat} {p : Ptp} (h : HeapP w g p) (k : Below w.heap.size w w') : HeapP w' g p := (k.block g h.lt).trans h
theorem HeapP.touch {b : Nat} {w w' : World} {g : Nat} {p : Ptp} (h : HeapP w g p) (k : Touch b w w') (hg : g ≠ b) : HeapP w' g p := (k.block g h.lt hg).trans h
theorem HeapP.other {b : Nat} {w : World} {g j : Nat} {v : Value} {p : Ptp} (h : HeapP w g p) (hg : g ≠ b) : HeapP (w.setCell ⟨b, j, none⟩ v) g p := (heap_setCell_other w ⟨b, j, none⟩ g v hg).trans h
theorem HeapP.up {w : World} {g : Nat} {p : Ptp} (h : HeapP w g p) (o : Obj) : HeapP (w.alloc o) g p := h.below ((Below.refl _ _).alloc (Nat.le_refl _) o)
theorem store_ptp_lit {ops : Array Oper} {rest : List Oper} {op : Oper} {a : Act} {w : World} {Q : Exit → Act → World → Prop} {c : Array Value} {p : Ptp} {g : Nat} (hg : g = w.heap.size) (hc : c.size = 21) (x y : Operand) (hw : Region.wanted op (yielded ops a.tmps) = true)
    (ho : op.op = .store 38 x y) (hx : a.eval x = .pointer (some ⟨g, 0, none⟩)) (hy : a.eval y = p.v) (k : wpList Try.prog ops Q rest (a.put op.dst undef) (w.alloc (.cells #[.int .i64 p.kind, .int .i64 p.domain, .int .i64 p.flags, .int .i64 p.corr, .int .u64 p.clock, .int .i64 p.port, .int .i64 p.seq, .int .i64 p.logInt, .int .i64 p.sec, .int .i64 p.nano, .int .u64 p.reqClock, .int .i64 p.reqPort, .int .i64 p.ann.utc, .int .i64 p.ann.p1, .int .i64 p.ann.cls, .int .i64 p.ann.acc, .int .i64 p.ann.var, .int .i64 p.ann.p2, .int .u64 p.ann.gm, .int .i64 p.ann.steps, .int .i64 p.ann.source] 38))) :
    wpList Try.prog ops Q (op :: rest) a (w.alloc (.cells c 38)) := store_ptp_new hg hc x y hw ho hx hy k
theorem ExAt.other {b : Nat} {w : World} {g j : Nat} {v : Value} {x : Ex} (h : ExAt w g x) (hg : g ≠ b) : ExAt (w.setCell ⟨b, j, none⟩ v) g x := (heap_setCell_other w ⟨b, j, none⟩ g v hg).trans h
set_option maxRecDepth 100000 in
set_option maxHeartbeats 8000000 in
theorem E2eSteps_walk (p q : Ptp) (t : Int) (wp : (Lit.int .i64 p.kind).wf = true) (wq : (Lit.int .i64 q.kind).wf = true) (w : World) : Calls Try.prog 7 #[p.v, q.v, .int .i64 t] w fun e w' => e = .returned (.bool true) ∧ Below w.heap.size w w' := by
  by_cases glo : p.domain < 0
  · have ho : p.domain < 0 ∨ 255 < p.domain := by omega
    have HN := Lib.hid (new_bad p.domain ho)
    have dlo : decide (p.domain < 0) = true := by simpa using glo
    go_enter Try.func7, Try.ntmps7
    refine seq_opaque ?_
    intro T HT
    go_wp2_with fail
    generalize hW : (w.alloc _).alloc _ = w0
    have hp0 : w0.heap[w.heap.size]? = some (.cells p.cells.toArray 38 (0, 0)) := by rw [← hW]; exact heap_alloc_old (heap_alloc_new w _) _
    have hq0 : w0.heap[w.heap.size + 1]? = some (.cells q.cells.toArray 38 (0, 0)) := by rw [← hW]; exact heap_at (by simp)
    have hb0 : Below w.heap.size w w0 := by rw [← hW]; exact ((Below.refl _ _).alloc (Nat.le_refl _) _).alloc (by simp) _
    have hs0 : w.heap.size + 1 < w0.heap.size := by rw [← hW]; simp
    rw [HT.out]
    clear hW HT
    have d1 : w0.cell? ⟨w.heap.size, 1, none⟩ = some (.int .i64 p.domain) := PtpBox.of hp0 1 (by decide)
    have HP0 := Lib.hid hp0
    have HQ0 := Lib.hid hq0
    have HB0 := Lib.hid hb0
    clear hp0 hq0 hb0
    clear ho
    go_wp2_with fail
    go_quiet ((go_at_call 21; exact quiet_same (HN.out _)))
    generalize hw1 : w0.drewN _ = w1
    have HB1 := Lib.hid (show Below w.heap.size w w1 from by rw [← hw1]; exact below_drewN HB0.out _)
    have e1 : w1.cell? ⟨w.heap.size, 1, none⟩ = some (.int .i64 p.domain) := by rw [← hw1]; exact d1
    clear hw1 d1
    go_wp2_with fail
    refine (awake38 _).mono ?_
    rintro e w2 ⟨rfl, hb⟩
    have HBE := Lib.hid (below_then HB1.out hb)
    clear hb
    go_wp2_with fail
    go_ret
    exact ⟨rfl, HBE.out⟩
  by_cases ghi : 255 < p.domain
  · have ho : p.domain < 0 ∨ 255 < p.domain := by omega
    have HN := Lib.hid (new_bad p.domain ho)
    have dhi : decide (255 < p.domain) = true := by simpa using ghi
    have dlo : decide (p.domain < 0) = false := by simpa using glo
    go_enter Try.func7, Try.ntmps7
    refine seq_opaque ?_
    intro T HT
    go_wp2_with fail
    generalize hW : (w.alloc _).alloc _ = w0
    have hp0 : w0.heap[w.heap.size]? = some (.cells p.cells.toArray 38 (0, 0)) := by rw [← hW]; exact heap_alloc_old (heap_alloc_new w _) _
    have hq0 : w0.heap[w.heap.size + 1]? = some (.cells q.cells.toArray 38 (0, 0)) := by rw [← hW]; exact heap_at (by simp)
    have hb0 : Below w.heap.size w w0 := by rw [← hW]; exact ((Below.refl _ _).alloc (Nat.le_refl _) _).alloc (by simp) _
    have hs0 : w.heap.size + 1 < w0.heap.size := by rw [← hW]; simp
    rw [HT.out]
    clear hW HT
    have d1 : w0.cell? ⟨w.heap.size, 1, none⟩ = some (.int .i64 p.domain) := PtpBox.of hp0 1 (by decide)
    have HP0 := Lib.hid hp0
    have HQ0 := Lib.hid hq0
    have HB0 := Lib.hid hb0
    clear hp0 hq0 hb0
    clear ho
    go_wp2_with fail
    go_quiet ((go_at_call 21; exact quiet_same (HN.out _)))
    generalize hw1 : w0.drewN _ = w1
    have HB1 := Lib.hid (show Below w.heap.size w w1 from by rw [← hw1]; exact below_drewN HB0.out _)
    have e1 : w1.cell? ⟨w.heap.size, 1, none⟩ = some (.int .i64 p.domain) := by rw [← hw1]; exact d1
    clear hw1 d1
    go_wp2_with fail
    refine (awake38 _).mono ?_
    rintro e w2 ⟨rfl, hb⟩
    have HBE := Lib.hid (below_then HB1.out hb)
    clear hb
    go_wp2_with fail
    go_ret
    exact ⟨rfl, HBE.out⟩
  have h0 : 0 ≤ p.domain := by omega
  have h1 : p.domain ≤ 255 := by omega
  have HN := Lib.hid (new_ok p.domain h0 h1)
  obtain ⟨P, hP⟩ : ∃ P : Ptp, { p with flags := bits .or .i64 p.flags 512 } = P := ⟨_, rfl⟩
  have wP : (Lit.int .i64 P.kind).wf = true := by rw [← hP]; exact wp
  have h2 : twoB P.flags = true := by rw [← hP]; exact two_or _
  have PD := Lib.hid (show P.domain = p.domain from by rw [← hP])
  obtain ⟨e1, he1⟩ : ∃ e, syncE (.new p.domain) P t = e := ⟨_, rfl⟩
  obtain ⟨x1, hx1⟩ : ∃ x, syncX (.new p.domain) P t = x := ⟨_, rfl⟩
  have cs : ∀ b w, ExAt w b (.new p.domain) → Calls Try.prog 27 #[.pointer (some ⟨b, 0, none⟩), P.v, .int .i64 t] w fun e w' => e = .returned (.int .i64 e1) ∧ ExAt w' b x1 ∧ Touch b w w' := fun b w h => by have k := sync_any (.new p.domain) b P wP t w h; rw [he1, hx1] at k; exact k
  obtain ⟨e2, he2⟩ : ∃ e, followE x1 q = e := ⟨_, rfl⟩
  obtain ⟨x2, hx2⟩ : ∃ x, followX x1 q = x := ⟨_, rfl⟩
  have cf : ∀ b w, ExAt w b x1 → Calls Try.prog 28 #[.pointer (some ⟨b, 0, none⟩), q.v] w fun e w' => e = .returned (.int .i64 e2) ∧ ExAt w' b x2 ∧ Touch b w w' := fun b w h => by have k := follow_any x1 b q wq w h; rw [he2, hx2] at k; exact k
  have CS := Lib.hid cs
  have CF := Lib.hid cf
  clear cs cf
  by_cases z1 : e1 = 0
  rotate_left
  · have bb : (e1 != 0) = true := by simpa using z1
    clear he1 hx1 he2 hx2 wP h2 wp wq h0 h1 glo ghi
    go_enter Try.func7, Try.ntmps7
    refine seq_opaque ?_
    intro T HT
    go_wp2_with fail
    generalize hW : (w.alloc _).alloc _ = w0
    have hp0 : w0.heap[w.heap.size]? = some (.cells p.cells.toArray 38 (0, 0)) := by rw [← hW]; exact heap_alloc_old (heap_alloc_new w _) _
    have hq0 : w0.heap[w.heap.size + 1]? = some (.cells q.cells.toArray 38 (0, 0)) := by rw [← hW]; exact heap_at (by simp)
    have hb0 : Below w.heap.size w w0 := by rw [← hW]; exact ((Below.refl _ _).alloc (Nat.le_refl _) _).alloc (by simp) _
    have hs0 : w.heap.size + 1 < w0.heap.size := by rw [← hW]; simp
    rw [HT.out]
    clear hW HT
    have d1 : w0.cell? ⟨w.heap.size, 1, none⟩ = some (.int .i64 p.domain) := PtpBox.of hp0 1 (by decide)
    have HP0 := Lib.hid hp0
    have HQ0 := Lib.hid hq0
    have HB0 := Lib.hid hb0
    clear hp0 hq0 hb0
    go_wp2_with fail
    go_region_held3 (fun w' => w'.cell? ⟨w.heap.size, 1, none⟩ = some (.int .i64 p.domain)) (first | exact cell_below (by assumption) (by assumption) | go_keep) (first | (go_at_call 21; refine (HN.out _).mono ?_; rintro e w' ⟨rfl, hA, hb, hl⟩))
    rename_i w1 hA1 hb1 hl1 hHd
    have sz : w0.drew.heap.size = w0.heap.size := rfl
    rw [sz] at hA1 hb1 hl1
    have hd1 : Below w0.heap.size w0 w1 := ⟨hb1.os, hb1.tape, hb1.output, hb1.size, hb1.block⟩
    have hd2 := below_then hd1 hb
    have hp2 : HeapP w' w.heap.size p := HeapP.below (show HeapP w0 w.heap.size p from HP0.out) hd2
    have HQ2 := Lib.hid (HeapP.below (show HeapP w0 (w.heap.size + 1) q from HQ0.out) hd2)
    have HA2 := Lib.hid (hA1.below hb)
    have HC2 := Lib.hid hA
    have HB2 := Lib.hid (below_then HB0.out hd2)
    have l0 : w.heap.size < w0.heap.size := by omega
    have l1 : w0.heap.size < w1.heap.size := hl1
    clear hA hA1 hb hb1 hl hl1 hHd d1 HP0 HQ0 HB0 hd1 hd2 sz
    generalize w0.heap.size = A at *
    generalize w1.heap.size = B at *
    have c1 : w'.cell? ⟨w.heap.size, 1, none⟩ = some (.int .i64 p.domain) := hp2.box 1 (by decide)
    have c2 : w'.cell? ⟨w.heap.size, 2, none⟩ = some (.int .i64 p.flags) := hp2.box 2 (by decide)
    have f2 : w'.frozen? ⟨w.heap.size, 2, none⟩ = false := frozen_of_row _ _ 2 _ _ hp2
    have HPS := Lib.hid (show HeapP (w'.setCell ⟨w.heap.size, 2, none⟩ (.int .i64 (bits .or .i64 p.flags 512))) w.heap.size P from by rw [← hP]; exact heap_set hp2 2 _)
    have HL := Lib.hid (show w.heap.size ≠ A ∧ w.heap.size + 1 ≠ A ∧ w.heap.size ≠ B ∧ w.heap.size + 1 ≠ B ∧ A ≠ B ∧ w.heap.size ≤ A ∧ w.heap.size ≤ B from by omega)
    clear hp2
    go_wp2_with (refine load_ptp_at HPS.out.range _ (by rfl) rfl rfl ?_)
    generalize hw3 : World.setCell _ _ _ = w3
    rw [hw3] at HPS
    have HA3 := Lib.hid (show ExAt w3 A (.new p.domain) from by rw [← hw3]; exact HA2.out.other HL.out.1.symm)
    have HC3 := Lib.hid (show ExAt w3 B (.new p.domain) from by rw [← hw3]; exact HC2.out.other HL.out.2.2.1.symm)
    have HQ3 := Lib.hid (show HeapP w3 (w.heap.size + 1) q from by rw [← hw3]; exact HQ2.out.other (by omega))
    have HB3 := Lib.hid (show Below w.heap.size w w3 from by rw [← hw3]; exact HB2.out.setCell (p := ⟨w.heap.size, 2, none⟩) (Nat.le_refl _) _)
    clear hw3 c1 c2 f2 HA2 HC2 HQ2 HB2
    refine (CS.out A w3 HA3.out).mono ?_
    rintro e w4 ⟨rfl, hx, ht⟩
    have HA4 := Lib.hid hx
    have HC4 := Lib.hid (HC3.out.touch ht HL.out.2.2.2.2.1.symm)
    have HP4 := Lib.hid (HPS.out.touch ht HL.out.1)
    have HQ4 := Lib.hid (HQ3.out.touch ht HL.out.2.1)
    have HB4 := Lib.hid (Touch.below HB3.out ht HL.out.2.2.2.2.2.1 (Nat.le_refl _))
    clear hx ht HA3 HC3 HPS HQ3 HB3
    go_wp2_with fail
    refine (awake38 _).mono ?_
    rintro e w5 ⟨rfl, hb⟩
    have HBE := Lib.hid (below_then HB4.out hb)
    clear hb
    go_wp2_with fail
    go_ret
    exact ⟨rfl, HBE.out⟩
  subst z1
  by_cases z2 : e2 = 0
  rotate_left
  · have bb : (e2 != 0) = true := by simpa using z2
    clear he1 hx1 he2 hx2 wP h2 wp wq h0 h1 glo ghi
    go_enter Try.func7, Try.ntmps7
    refine seq_opaque ?_
    intro T HT
    go_wp2_with fail
    generalize hW : (w.alloc _).alloc _ = w0
    have hp0 : w0.heap[w.heap.size]? = some (.cells p.cells.toArray 38 (0, 0)) := by rw [← hW]; exact heap_alloc_old (heap_alloc_new w _) _
    have hq0 : w0.heap[w.heap.size + 1]? = some (.cells q.cells.toArray 38 (0, 0)) := by rw [← hW]; exact heap_at (by simp)
    have hb0 : Below w.heap.size w w0 := by rw [← hW]; exact ((Below.refl _ _).alloc (Nat.le_refl _) _).alloc (by simp) _
    have hs0 : w.heap.size + 1 < w0.heap.size := by rw [← hW]; simp
    rw [HT.out]
    clear hW HT
    have d1 : w0.cell? ⟨w.heap.size, 1, none⟩ = some (.int .i64 p.domain) := PtpBox.of hp0 1 (by decide)
    have HP0 := Lib.hid hp0
    have HQ0 := Lib.hid hq0
    have HB0 := Lib.hid hb0
    clear hp0 hq0 hb0
    go_wp2_with fail
    go_region_held3 (fun w' => w'.cell? ⟨w.heap.size, 1, none⟩ = some (.int .i64 p.domain)) (first | exact cell_below (by assumption) (by assumption) | go_keep) (first | (go_at_call 21; refine (HN.out _).mono ?_; rintro e w' ⟨rfl, hA, hb, hl⟩))
    rename_i w1 hA1 hb1 hl1 hHd
    have sz : w0.drew.heap.size = w0.heap.size := rfl
    rw [sz] at hA1 hb1 hl1
    have hd1 : Below w0.heap.size w0 w1 := ⟨hb1.os, hb1.tape, hb1.output, hb1.size, hb1.block⟩
    have hd2 := below_then hd1 hb
    have hp2 : HeapP w' w.heap.size p := HeapP.below (show HeapP w0 w.heap.size p from HP0.out) hd2
    have HQ2 := Lib.hid (HeapP.below (show HeapP w0 (w.heap.size + 1) q from HQ0.out) hd2)
    have HA2 := Lib.hid (hA1.below hb)
    have HC2 := Lib.hid hA
    have HB2 := Lib.hid (below_then HB0.out hd2)
    have l0 : w.heap.size < w0.heap.size := by omega
    have l1 : w0.heap.size < w1.heap.size := hl1
    clear hA hA1 hb hb1 hl hl1 hHd d1 HP0 HQ0 HB0 hd1 hd2 sz
    generalize w0.heap.size = A at *
    generalize w1.heap.size = B at *
    have c1 : w'.cell? ⟨w.heap.size, 1, none⟩ = some (.int .i64 p.domain) := hp2.box 1 (by decide)
    have c2 : w'.cell? ⟨w.heap.size, 2, none⟩ = some (.int .i64 p.flags) := hp2.box 2 (by decide)
    have f2 : w'.frozen? ⟨w.heap.size, 2, none⟩ = false := frozen_of_row _ _ 2 _ _ hp2
    have HPS := Lib.hid (show HeapP (w'.setCell ⟨w.heap.size, 2, none⟩ (.int .i64 (bits .or .i64 p.flags 512))) w.heap.size P from by rw [← hP]; exact heap_set hp2 2 _)
    have HL := Lib.hid (show w.heap.size ≠ A ∧ w.heap.size + 1 ≠ A ∧ w.heap.size ≠ B ∧ w.heap.size + 1 ≠ B ∧ A ≠ B ∧ w.heap.size ≤ A ∧ w.heap.size ≤ B from by omega)
    clear hp2
    go_wp2_with (refine load_ptp_at HPS.out.range _ (by rfl) rfl rfl ?_)
    generalize hw3 : World.setCell _ _ _ = w3
    rw [hw3] at HPS
    have HA3 := Lib.hid (show ExAt w3 A (.new p.domain) from by rw [← hw3]; exact HA2.out.other HL.out.1.symm)
    have HC3 := Lib.hid (show ExAt w3 B (.new p.domain) from by rw [← hw3]; exact HC2.out.other HL.out.2.2.1.symm)
    have HQ3 := Lib.hid (show HeapP w3 (w.heap.size + 1) q from by rw [← hw3]; exact HQ2.out.other (by omega))
    have HB3 := Lib.hid (show Below w.heap.size w w3 from by rw [← hw3]; exact HB2.out.setCell (p := ⟨w.heap.size, 2, none⟩) (Nat.le_refl _) _)
    clear hw3 c1 c2 f2 HA2 HC2 HQ2 HB2
    refine (CS.out A w3 HA3.out).mono ?_
    rintro e w4 ⟨rfl, hx, ht⟩
    have HA4 := Lib.hid hx
    have HC4 := Lib.hid (HC3.out.touch ht HL.out.2.2.2.2.1.symm)
    have HP4 := Lib.hid (HPS.out.touch ht HL.out.1)
    have HQ4 := Lib.hid (HQ3.out.touch ht HL.out.2.1)
    have HB4 := Lib.hid (Touch.below HB3.out ht HL.out.2.2.2.2.2.1 (Nat.le_refl _))
    clear hx ht HA3 HC3 HPS HQ3 HB3
    go_wp2_with (refine load_ptp_at HQ4.out.range _ (by rfl) rfl rfl ?_)
    refine (CF.out A w4 HA4.out).mono ?_
    rintro e w5 ⟨rfl, hx, ht⟩
    have HA5 := Lib.hid hx
    have HC5 := Lib.hid (HC4.out.touch ht HL.out.2.2.2.2.1.symm)
    have HP5 := Lib.hid (HP4.out.touch ht HL.out.1)
    have HQ5 := Lib.hid (HQ4.out.touch ht HL.out.2.1)
    have HB5 := Lib.hid (Touch.below HB4.out ht HL.out.2.2.2.2.2.1 (Nat.le_refl _))
    clear hx ht HA4 HC4 HP4 HQ4 HB4
    go_wp2_with fail
    refine (awake38 _).mono ?_
    rintro e w6 ⟨rfl, hb⟩
    have HBE := Lib.hid (below_then HB5.out hb)
    clear hb
    go_wp2_with fail
    go_ret
    exact ⟨rfl, HBE.out⟩
  subst z2
  rw [← hx1] at he2 hx2
  obtain ⟨o1, o2, o3, o4, o5, o6⟩ := sync_of_two h2 he1 he2
  rw [hx2] at o2 o4 o6
  obtain ⟨y1, hy1⟩ : ∃ x, syncX (.new p.domain) (oneP P q) t = x := ⟨_, rfl⟩
  rw [hy1] at o2 o3 o5
  have co : ∀ b w, ExAt w b (.new p.domain) → Calls Try.prog 27 #[.pointer (some ⟨b, 0, none⟩), (oneP P q).v, .int .i64 t] w fun e w' => e = .returned (.int .i64 0) ∧ ExAt w' b y1 ∧ Touch b w w' := fun b w h => by have k := sync_any (.new p.domain) b (oneP P q) wP t w h; rw [o1, hy1] at k; exact k
  obtain ⟨x3, hx3⟩ : ∃ z, reqX x2 7 50 = z := ⟨_, rfl⟩
  have ra : ∀ b w, ExAt w b x2 → Calls Try.prog 31 #[.pointer (some ⟨b, 0, none⟩), .int .i64 7, .int .i64 50] w fun e w' => e = .returned (.int .i64 0) ∧ ExAt w' b x3 ∧ Touch b w w' := fun b w h => by have k := request_any x2 b 7 50 w h; rw [(req_ok x2 7 50 (by decide) (by decide)).1, hx3] at k; exact k
  rw [(req_ok x2 7 50 (by decide) (by decide)).2] at hx3
  obtain ⟨y3, hy3⟩ : ∃ z, reqX y1 7 50 = z := ⟨_, rfl⟩
  have rb : ∀ b w, ExAt w b y1 → Calls Try.prog 31 #[.pointer (some ⟨b, 0, none⟩), .int .i64 7, .int .i64 50] w fun e w' => e = .returned (.int .i64 0) ∧ ExAt w' b y3 ∧ Touch b w w' := fun b w h => by have k := request_any y1 b 7 50 w h; rw [(req_ok y1 7 50 (by decide) (by decide)).1, hy3] at k; exact k
  rw [(req_ok y1 7 50 (by decide) (by decide)).2] at hy3
  obtain ⟨Ex4, Xx4⟩ := (resp_hit x3 7 100 0 p.domain (by decide) (by decide) ⟨h0, h1⟩ (by rw [← hx3]; exact o4) (by rw [← hx3]) (by rw [← hx3]) (by rw [← hx3]; exact o6))
  obtain ⟨x4, hx4⟩ : ∃ z, respX x3 (msgD 9 7 100 0 0 p.domain) 9 1 = z := ⟨_, rfl⟩
  have pa : ∀ b w, ExAt w b x3 → Calls Try.prog 32 #[.pointer (some ⟨b, 0, none⟩), (msgD 9 7 100 0 0 p.domain).v, .int .u64 9, .int .i64 1] w fun e w' => e = .returned (.int .i64 0) ∧ ExAt w' b x4 ∧ Touch b w w' := fun b w h => by have k := resp_any x3 b (msgD 9 7 100 0 0 p.domain) rfl 9 1 w h; rw [Ex4, hx4] at k; exact k
  rw [Xx4] at hx4
  obtain ⟨Ey4, Xy4⟩ := (resp_hit y3 7 100 0 p.domain (by decide) (by decide) ⟨h0, h1⟩ (by rw [← hy3]; exact o3) (by rw [← hy3]) (by rw [← hy3]) (by rw [← hy3]; exact o5))
  obtain ⟨y4, hy4⟩ : ∃ z, respX y3 (msgD 9 7 100 0 0 p.domain) 9 1 = z := ⟨_, rfl⟩
  have pb : ∀ b w, ExAt w b y3 → Calls Try.prog 32 #[.pointer (some ⟨b, 0, none⟩), (msgD 9 7 100 0 0 p.domain).v, .int .u64 9, .int .i64 1] w fun e w' => e = .returned (.int .i64 0) ∧ ExAt w' b y4 ∧ Touch b w w' := fun b w h => by have k := resp_any y3 b (msgD 9 7 100 0 0 p.domain) rfl 9 1 w h; rw [Ey4, hy4] at k; exact k
  rw [Xy4] at hy4
  have g4 : y4.gap = x4.gap := by rw [← hx4, ← hy4, ← hx3, ← hy3]; exact o2
  have d4 : y4.delay = x4.delay := by rw [← hx4, ← hy4]; show max 0 (meanF y3 100 _) = max 0 (meanF x3 100 _); unfold meanF; rw [← hx3, ← hy3]; show max 0 (wrap64 (wrap64 (wrap64 (y1.gap + 100) - 50) - _) / 2) = _; rw [o2]
  have kx : x4.known = true := by rw [← hx4]
  have ky : y4.known = true := by rw [← hy4]
  have og : offF y4 = offF x4 := by unfold offF; rw [kx, ky, g4, d4]
  obtain ⟨dl, hdl⟩ : ∃ z, x4.delay = z := ⟨_, rfl⟩
  obtain ⟨of_, hof⟩ : ∃ z, offF x4 = z := ⟨_, rfl⟩
  have da : ∀ b w, ExAt w b x4 → Calls Try.prog 25 #[.pointer (some ⟨b, 0, none⟩)] w fun e w' => e = .returned (.tuple #[.int .i64 dl, .bool true]) ∧ Below w.heap.size w w' := fun b w h => by have k := delay_any x4 b w h; rw [hdl, kx] at k; exact k
  have db : ∀ b w, ExAt w b y4 → Calls Try.prog 25 #[.pointer (some ⟨b, 0, none⟩)] w fun e w' => e = .returned (.tuple #[.int .i64 dl, .bool true]) ∧ Below w.heap.size w w' := fun b w h => by have k := delay_any y4 b w h; rw [d4, hdl, ky] at k; exact k
  have oa : ∀ b w, ExAt w b x4 → Calls Try.prog 26 #[.pointer (some ⟨b, 0, none⟩)] w fun e w' => e = .returned (.tuple #[.int .i64 of_, .bool true]) ∧ Below w.heap.size w w' := fun b w h => by have k := offset_any x4 b w h; rw [hof, kx] at k; exact k
  have ob : ∀ b w, ExAt w b y4 → Calls Try.prog 26 #[.pointer (some ⟨b, 0, none⟩)] w fun e w' => e = .returned (.tuple #[.int .i64 of_, .bool true]) ∧ Below w.heap.size w w' := fun b w h => by have k := offset_any y4 b w h; rw [og, hof, ky] at k; exact k
  have mm : ∀ w, Calls Try.prog 30 #[.int .i64 9, .int .i64 7, .int .i64 100, .int .i64 0] w fun e w' => e = .returned (msgD 9 7 100 0 0 0).v ∧ Below w.heap.size w w' := message_any 9 7 100 0 (by decide) (by decide) (by decide) (by decide)
  have Kco := Lib.hid co
  have Kra := Lib.hid ra
  have Krb := Lib.hid rb
  have Kpa := Lib.hid pa
  have Kpb := Lib.hid pb
  have Kda := Lib.hid da
  have Kdb := Lib.hid db
  have Koa := Lib.hid oa
  have Kob := Lib.hid ob
  have MM := Lib.hid mm
  clear co ra rb pa pb da db oa ob mm
  clear o1 o2 o3 o4 o5 o6 hy1 hx3 hy3 Ex4 Xx4 hx4 Ey4 Xy4 hy4 g4 d4 kx ky og hdl hof
  clear he1 hx1 he2 hx2 wP h2 wp wq h0 h1 glo ghi
  go_enter Try.func7, Try.ntmps7
  refine seq_opaque ?_
  intro T HT
  go_wp2_with fail
  generalize hW : (w.alloc _).alloc _ = w0
  have hp0 : w0.heap[w.heap.size]? = some (.cells p.cells.toArray 38 (0, 0)) := by rw [← hW]; exact heap_alloc_old (heap_alloc_new w _) _
  have hq0 : w0.heap[w.heap.size + 1]? = some (.cells q.cells.toArray 38 (0, 0)) := by rw [← hW]; exact heap_at (by simp)
  have hb0 : Below w.heap.size w w0 := by rw [← hW]; exact ((Below.refl _ _).alloc (Nat.le_refl _) _).alloc (by simp) _
  have hs0 : w.heap.size + 1 < w0.heap.size := by rw [← hW]; simp
  rw [HT.out]
  clear hW HT
  have d1 : w0.cell? ⟨w.heap.size, 1, none⟩ = some (.int .i64 p.domain) := PtpBox.of hp0 1 (by decide)
  have HP0 := Lib.hid hp0
  have HQ0 := Lib.hid hq0
  have HB0 := Lib.hid hb0
  clear hp0 hq0 hb0
  go_wp2_with fail
  go_region_held3 (fun w' => w'.cell? ⟨w.heap.size, 1, none⟩ = some (.int .i64 p.domain)) (first | exact cell_below (by assumption) (by assumption) | go_keep) (first | (go_at_call 21; refine (HN.out _).mono ?_; rintro e w' ⟨rfl, hA, hb, hl⟩))
  rename_i w1 hA1 hb1 hl1 hHd
  have sz : w0.drew.heap.size = w0.heap.size := rfl
  rw [sz] at hA1 hb1 hl1
  have hd1 : Below w0.heap.size w0 w1 := ⟨hb1.os, hb1.tape, hb1.output, hb1.size, hb1.block⟩
  have hd2 := below_then hd1 hb
  have hp2 : HeapP w' w.heap.size p := HeapP.below (show HeapP w0 w.heap.size p from HP0.out) hd2
  have HQ2 := Lib.hid (HeapP.below (show HeapP w0 (w.heap.size + 1) q from HQ0.out) hd2)
  have HA2 := Lib.hid (hA1.below hb)
  have HC2 := Lib.hid hA
  have HB2 := Lib.hid (below_then HB0.out hd2)
  have l0 : w.heap.size < w0.heap.size := by omega
  have l1 : w0.heap.size < w1.heap.size := hl1
  clear hA hA1 hb hb1 hl hl1 hHd d1 HP0 HQ0 HB0 hd1 hd2 sz
  generalize w0.heap.size = A at *
  generalize w1.heap.size = B at *
  have c1 : w'.cell? ⟨w.heap.size, 1, none⟩ = some (.int .i64 p.domain) := hp2.box 1 (by decide)
  have c2 : w'.cell? ⟨w.heap.size, 2, none⟩ = some (.int .i64 p.flags) := hp2.box 2 (by decide)
  have f2 : w'.frozen? ⟨w.heap.size, 2, none⟩ = false := frozen_of_row _ _ 2 _ _ hp2
  have HPS := Lib.hid (show HeapP (w'.setCell ⟨w.heap.size, 2, none⟩ (.int .i64 (bits .or .i64 p.flags 512))) w.heap.size P from by rw [← hP]; exact heap_set hp2 2 _)
  have HL := Lib.hid (show w.heap.size ≠ A ∧ w.heap.size + 1 ≠ A ∧ w.heap.size ≠ B ∧ w.heap.size + 1 ≠ B ∧ A ≠ B ∧ w.heap.size ≤ A ∧ w.heap.size ≤ B from by omega)
  clear hp2
  go_wp2_with (refine load_ptp_at HPS.out.range _ (by rfl) rfl rfl ?_)
  generalize hw3 : World.setCell _ _ _ = w3
  rw [hw3] at HPS
  have HA3 := Lib.hid (show ExAt w3 A (.new p.domain) from by rw [← hw3]; exact HA2.out.other HL.out.1.symm)
  have HC3 := Lib.hid (show ExAt w3 B (.new p.domain) from by rw [← hw3]; exact HC2.out.other HL.out.2.2.1.symm)
  have HQ3 := Lib.hid (show HeapP w3 (w.heap.size + 1) q from by rw [← hw3]; exact HQ2.out.other (by omega))
  have HB3 := Lib.hid (show Below w.heap.size w w3 from by rw [← hw3]; exact HB2.out.setCell (p := ⟨w.heap.size, 2, none⟩) (Nat.le_refl _) _)
  clear hw3 c1 c2 f2 HA2 HC2 HQ2 HB2
  refine (CS.out A w3 HA3.out).mono ?_
  rintro e w4 ⟨rfl, hx, ht⟩
  have HA4 := Lib.hid hx
  have HC4 := Lib.hid (HC3.out.touch ht HL.out.2.2.2.2.1.symm)
  have HP4 := Lib.hid (HPS.out.touch ht HL.out.1)
  have HQ4 := Lib.hid (HQ3.out.touch ht HL.out.2.1)
  have HB4 := Lib.hid (Touch.below HB3.out ht HL.out.2.2.2.2.2.1 (Nat.le_refl _))
  clear hx ht HA3 HC3 HPS HQ3 HB3
  go_wp2_with (refine load_ptp_at HQ4.out.range _ (by rfl) rfl rfl ?_)
  refine (CF.out A w4 HA4.out).mono ?_
  rintro e w5 ⟨rfl, hx, ht⟩
  have HA5 := Lib.hid hx
  have HC5 := Lib.hid (HC4.out.touch ht HL.out.2.2.2.2.1.symm)
  have HP5 := Lib.hid (HP4.out.touch ht HL.out.1)
  have HQ5 := Lib.hid (HQ4.out.touch ht HL.out.2.1)
  have HB5 := Lib.hid (Touch.below HB4.out ht HL.out.2.2.2.2.2.1 (Nat.le_refl _))
  clear hx ht HA4 HC4 HP4 HQ4 HB4
  have q8 : w5.cell? ⟨w.heap.size + 1, 8, none⟩ = some (.int .i64 q.sec) := HQ5.out.box 8 (by decide)
  have q9 : w5.cell? ⟨w.heap.size + 1, 9, none⟩ = some (.int .i64 q.nano) := HQ5.out.box 9 (by decide)
  have q3 : w5.cell? ⟨w.heap.size + 1, 3, none⟩ = some (.int .i64 q.corr) := HQ5.out.box 3 (by decide)
  have p2 : w5.cell? ⟨w.heap.size, 2, none⟩ = some (.int .i64 P.flags) := HP5.out.box 2 (by decide)
  have p3 : w5.cell? ⟨w.heap.size, 3, none⟩ = some (.int .i64 P.corr) := HP5.out.box 3 (by decide)
  have t0 : w.heap.size < w5.heap.size := HP5.out.lt
  have t1 : w.heap.size + 1 < w5.heap.size := HQ5.out.lt
  go_wp2_with (first | (refine load_ptp_at HP5.out.range _ (by rfl) rfl rfl ?_) | (refine store_ptp_lit (p := P) (by simp) rfl _ _ (by rfl) rfl rfl rfl ?_) | (go_at_call 29; refine (addc_any _ _ _).mono ?_; rintro e _ ⟨rfl, rfl⟩) | (refine load_ptp_at (p := (oneP P q)) (PtpBox.range (PtpBox.of (heap_at (by simp)))) _ (by rfl) rfl rfl ?_))
  refine (Kco.out B _ (HC5.out.below ((Below.refl _ _).alloc (Nat.le_refl _) _))).mono ?_
  rintro e w6 ⟨rfl, hx, ht⟩
  have HC6 := Lib.hid hx
  have HA6 := Lib.hid ((HA5.out.below ((Below.refl _ _).alloc (Nat.le_refl _) _)).touch ht HL.out.2.2.2.2.1)
  have HP6 := Lib.hid ((HP5.out.up _).touch ht HL.out.2.2.1)
  have HB6 := Lib.hid (Touch.below (below_then HB5.out ((Below.refl _ _).alloc (Nat.le_refl _) _)) ht HL.out.2.2.2.2.2.2 (Nat.le_refl _))
  clear hx ht HA5 HC5 HP5 HQ5 HB5 q8 q9 q3 p2 p3 t0 t1
  go_wp2_with fail
  refine (MM.out _).mono ?_
  rintro e w7 ⟨rfl, hb⟩
  have HC7 := Lib.hid (HC6.out.below hb)
  have HA7 := Lib.hid (HA6.out.below hb)
  have HP7 := Lib.hid (HP6.out.below hb)
  have HB7 := Lib.hid (below_then HB6.out hb)
  have c1 : w7.cell? ⟨w.heap.size, 1, none⟩ = some (.int .i64 p.domain) := (HP7.out.box 1 (by decide)).trans (by rw [show P.cells[1]? = some (.int .i64 P.domain) from rfl, PD.out])
  have t0 : w.heap.size < w7.heap.size := HP7.out.lt
  clear hb HC6 HA6 HP6 HB6
  go_wp2_with (refine store_ptp_lit (p := msgD 9 7 100 0 0 0) (by simp) rfl _ _ (by rfl) rfl rfl rfl ?_)
  generalize hw8 : w7.alloc _ = w8
  have HR8 := Lib.hid (show HeapP w8 w7.heap.size (msgD 9 7 100 0 0 p.domain) from by rw [← hw8]; exact heap_alloc_new w7 _)
  have HA8 := Lib.hid (show ExAt w8 A x2 from by rw [← hw8]; exact HA7.out.below ((Below.refl _ _).alloc (Nat.le_refl _) _))
  have HC8 := Lib.hid (show ExAt w8 B y1 from by rw [← hw8]; exact HC7.out.below ((Below.refl _ _).alloc (Nat.le_refl _) _))
  have HB8 := Lib.hid (show Below w.heap.size w w8 from by rw [← hw8]; exact below_then HB7.out ((Below.refl _ _).alloc (Nat.le_refl _) _))
  have HG := Lib.hid (show w7.heap.size ≠ A ∧ w7.heap.size ≠ B from ⟨Nat.ne_of_gt HA7.out.lt, Nat.ne_of_gt HC7.out.lt⟩)
  clear hw8 HA7 HC7 HP7 HB7 c1 t0
  generalize w7.heap.size = G at *
  refine (Kra.out A _ HA8.out).mono ?_
  rintro e w9 ⟨rfl, hx, ht⟩
  have HA9 := Lib.hid hx
  have HC9 := Lib.hid (HC8.out.touch ht HL.out.2.2.2.2.1.symm)
  have HR9 := Lib.hid (HR8.out.touch ht HG.out.1)
  have HB9 := Lib.hid (Touch.below HB8.out ht HL.out.2.2.2.2.2.1 (Nat.le_refl _))
  clear hx ht HA8 HC8 HR8 HB8
  go_wp2_with fail
  refine (Krb.out B _ HC9.out).mono ?_
  rintro e w10 ⟨rfl, hx, ht⟩
  have HC10 := Lib.hid hx
  have HA10 := Lib.hid (HA9.out.touch ht HL.out.2.2.2.2.1)
  have HR10 := Lib.hid (HR9.out.touch ht HG.out.2)
  have HB10 := Lib.hid (Touch.below HB9.out ht HL.out.2.2.2.2.2.2 (Nat.le_refl _))
  clear hx ht HA9 HC9 HR9 HB9
  go_wp2_with (refine load_ptp_at HR10.out.range _ (by rfl) rfl rfl ?_)
  refine (Kpa.out A _ HA10.out).mono ?_
  rintro e w11 ⟨rfl, hx, ht⟩
  have HA11 := Lib.hid hx
  have HC11 := Lib.hid (HC10.out.touch ht HL.out.2.2.2.2.1.symm)
  have HR11 := Lib.hid (HR10.out.touch ht HG.out.1)
  have HB11 := Lib.hid (Touch.below HB10.out ht HL.out.2.2.2.2.2.1 (Nat.le_refl _))
  clear hx ht HA10 HC10 HR10 HB10
  go_wp2_with (refine load_ptp_at HR11.out.range _ (by rfl) rfl rfl ?_)
  refine (Kpb.out B _ HC11.out).mono ?_
  rintro e w12 ⟨rfl, hx, ht⟩
  have HC12 := Lib.hid hx
  have HA12 := Lib.hid (HA11.out.touch ht HL.out.2.2.2.2.1)
  have HR12 := Lib.hid (HR11.out.touch ht HG.out.2)
  have HB12 := Lib.hid (Touch.below HB11.out ht HL.out.2.2.2.2.2.2 (Nat.le_refl _))
  clear hx ht HA11 HC11 HR11 HB11
  go_wp2_with fail
  refine (Kda.out A _ HA12.out).mono ?_
  rintro e w13 ⟨rfl, hb⟩
  have HA13 := Lib.hid (HA12.out.below hb)
  have HC13 := Lib.hid (HC12.out.below hb)
  have HB13 := Lib.hid (below_then HB12.out hb)
  clear hb HA12 HC12 HB12
  go_wp2_with fail
  refine (Kdb.out B _ HC13.out).mono ?_
  rintro e w14 ⟨rfl, hb⟩
  have HA14 := Lib.hid (HA13.out.below hb)
  have HC14 := Lib.hid (HC13.out.below hb)
  have HB14 := Lib.hid (below_then HB13.out hb)
  clear hb HA13 HC13 HB13
  go_wp2_with fail
  refine (Koa.out A _ HA14.out).mono ?_
  rintro e w15 ⟨rfl, hb⟩
  have HA15 := Lib.hid (HA14.out.below hb)
  have HC15 := Lib.hid (HC14.out.below hb)
  have HB15 := Lib.hid (below_then HB14.out hb)
  clear hb HA14 HC14 HB14
  go_wp2_with fail
  refine (Kob.out B _ HC15.out).mono ?_
  rintro e w16 ⟨rfl, hb⟩
  have HA16 := Lib.hid (HA15.out.below hb)
  have HC16 := Lib.hid (HC15.out.below hb)
  have HB16 := Lib.hid (below_then HB15.out hb)
  clear hb HA15 HC15 HB15
  go_wp2_with fail
  refine (awake38 _).mono ?_
  rintro e w17 ⟨rfl, hb⟩
  have HBE := Lib.hid (below_then HB16.out hb)
  clear hb
  go_wp2_with fail
  go_ret
  exact ⟨rfl, HBE.out⟩
end Go.Proofs.Ytkjnhabflkaopaa
