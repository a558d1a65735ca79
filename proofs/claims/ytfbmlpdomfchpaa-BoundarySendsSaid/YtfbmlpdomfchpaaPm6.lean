/- Of, of package dataset and of the reference of layer 34 (written by gen_of.py). -/
import Derived.WalkKit
import Derived.LoopTactic
import Derived.Outline
import Derived.Lib.Hide
import Derived.Test.YtfbmlpdomfchpaaMem
import Derived.Test.YtfbmlpdomfchpaaJPb
namespace Go.Proofs.Ytfbmlpdomfchpaa
open Go.RowKit
set_option linter.unusedVariables false
set_option linter.unusedSimpArgs false

theorem free_blk {w : World} {g : Nat} {t : TypeId} {cs : Array Value} (h : w.heap[g]? = some (.cells cs t (0, 0))) (i : Nat) : w.frozen? ⟨g, i, none⟩ = false := by simp [World.frozen?, h]
theorem setDS_below {B : Nat} {w X : World} (h : Below B w X) {g : Nat} (hg : B ≤ g) (v0 v1 v2 v3 v4 v5 v6 v7 v8 v9 v10 : Value) : Below B w (((((((((((X.setCell ⟨g, 0, none⟩ v0).setCell ⟨g, 1, none⟩ v1).setCell ⟨g, 2, none⟩ v2).setCell ⟨g, 3, none⟩ v3).setCell ⟨g, 4, none⟩ v4).setCell ⟨g, 5, none⟩ v5).setCell ⟨g, 6, none⟩ v6).setCell ⟨g, 7, none⟩ v7).setCell ⟨g, 8, none⟩ v8).setCell ⟨g, 9, none⟩ v9).setCell ⟨g, 10, none⟩ v10) :=
  (((((((((((h.setCell (p := ⟨g, 0, none⟩) hg v0).setCell (p := ⟨g, 1, none⟩) hg v1).setCell (p := ⟨g, 2, none⟩) hg v2).setCell (p := ⟨g, 3, none⟩) hg v3).setCell (p := ⟨g, 4, none⟩) hg v4).setCell (p := ⟨g, 5, none⟩) hg v5).setCell (p := ⟨g, 6, none⟩) hg v6).setCell (p := ⟨g, 7, none⟩) hg v7).setCell (p := ⟨g, 8, none⟩) hg v8).setCell (p := ⟨g, 9, none⟩) hg v9).setCell (p := ⟨g, 10, none⟩) hg v10)
def ofF (p : Ptp) (recv rport : Int) : DS := if checkF p ≠ 0 then .zero else if p.kind ≠ 11 then .zero else ⟨p.ann.p1, p.ann.cls, p.ann.acc, p.ann.var, p.ann.p2, p.ann.gm, p.ann.steps, p.clock, p.port, recv, rport⟩
def ofE (p : Ptp) : Int := if checkF p ≠ 0 then checkF p else if p.kind ≠ 11 then 8 else 0
set_option maxRecDepth 100000 in
set_option maxHeartbeats 4000000 in
theorem of_any (p : Ptp) (wf : (Lit.int .i64 p.kind).wf = true) (recv rport : Int) (w : World) : Calls Try.prog 16 #[p.v, .int .u64 recv, .int .i64 rport] w fun e w' => e = .returned (.tuple #[(ofF p recv rport).v, .int .i64 (ofE p)]) ∧ Below w.heap.size w w' := by
  obtain ⟨r, hr⟩ : ∃ r, ofF p recv rport = r := ⟨_, rfl⟩
  obtain ⟨n, hn⟩ : ∃ n, ofE p = n := ⟨_, rfl⟩
  obtain ⟨c, hc⟩ : ∃ c, checkF p = c := ⟨_, rfl⟩
  have ck : ∀ w, Calls Try.prog 17 #[p.v] w fun e w' => e = .returned (.int .i64 c) ∧ Below w.heap.size w w' := fun w => by have := check_any p wf w; rwa [hc] at this
  rw [hr, hn]
  simp only [ofF, ofE, hc] at hr hn
  have CK := Lib.hid ck
  have HR := Lib.hid hr
  have HN := Lib.hid hn
  clear ck hr hn hc wf
  go_enter Try.func16, Try.ntmps16
  refine seq_opaque ?_
  intro T HT
  go_wp2_with fail
  generalize hW : (w.alloc _).alloc _ = W
  have hw : Below w.heap.size w W := by rw [← hW]; exact ((Below.refl _ _).alloc (Nat.le_refl _) _).alloc (by simp) _
  have hp : PtpBox W w.heap.size p := by rw [← hW]; exact PtpBox.of (heap_alloc_old (heap_alloc_new w _) _)
  have hf0 : ∀ j, W.frozen? ⟨w.heap.size + 1, j, none⟩ = false := by rw [← hW]; exact fun j => free_blk (heap_at (by simp)) j
  have hR0 : BoxAt W (w.heap.size + 1) .zero := by rw [← hW]; exact BoxAt.of (heap_at (by simp))
  have hs : w.heap.size + 1 < W.heap.size := by rw [← hW]; simp
  rw [HT.out]
  have HP := Lib.hid hp
  clear hW HT
  go_wp2_with (refine load_ptp HP.out _ rfl rfl rfl ?_)
  refine (CK.out _).mono ?_
  rintro e w1 ⟨rfl, hb1⟩
  have HB1 := Lib.hid (below_then hw hb1)
  have hp1 := hp.below (by omega) hb1
  have hR := hR0.below hb1
  have hf : ∀ j, w1.frozen? ⟨w.heap.size + 1, j, none⟩ = false := fun j => (hb1.frozen (p := ⟨w.heap.size + 1, j, none⟩) hs).trans (hf0 j)
  have hs1 : w.heap.size + 1 < w1.heap.size := by have := hb1.size; omega
  have hs2 : w.heap.size < w1.heap.size := by omega
  clear hw hp hb1 hR0 hf0 hs
  obtain ⟨x0, x1, x2, x3, x4, x5, x6, x7, x8, x9, x10⟩ := hR
  have f0 := hf 0
  have f1 := hf 1
  have f2 := hf 2
  have f3 := hf 3
  have f4 := hf 4
  have f5 := hf 5
  have f6 := hf 6
  have f7 := hf 7
  have f8 := hf 8
  have f9 := hf 9
  have f10 := hf 10
  clear hf
  by_cases hc0 : c = 0
  · subst hc0
    have c0 : w1.cell? ⟨w.heap.size, 0, none⟩ = some (.int .i64 p.kind) := hp1 0 (by decide)
    by_cases hk : p.kind = 11
    · have hkb : (p.kind != 11) = false := by simpa using hk
      have hr : r = ⟨p.ann.p1, p.ann.cls, p.ann.acc, p.ann.var, p.ann.p2, p.ann.gm, p.ann.steps, p.clock, p.port, recv, rport⟩ := by rw [← HR.out]; simp [hk]
      have hn : n = 0 := by rw [← HN.out]; simp [hk]
      subst hr hn
      clear hk
      have c4 : w1.cell? ⟨w.heap.size, 4, none⟩ = some (.int .u64 p.clock) := hp1 4 (by decide)
      have c5 : w1.cell? ⟨w.heap.size, 5, none⟩ = some (.int .i64 p.port) := hp1 5 (by decide)
      have c12 : w1.cell? ⟨w.heap.size, 12, none⟩ = some (.int .i64 p.ann.utc) := hp1 12 (by decide)
      have c13 : w1.cell? ⟨w.heap.size, 13, none⟩ = some (.int .i64 p.ann.p1) := hp1 13 (by decide)
      have c14 : w1.cell? ⟨w.heap.size, 14, none⟩ = some (.int .i64 p.ann.cls) := hp1 14 (by decide)
      have c15 : w1.cell? ⟨w.heap.size, 15, none⟩ = some (.int .i64 p.ann.acc) := hp1 15 (by decide)
      have c16 : w1.cell? ⟨w.heap.size, 16, none⟩ = some (.int .i64 p.ann.var) := hp1 16 (by decide)
      have c17 : w1.cell? ⟨w.heap.size, 17, none⟩ = some (.int .i64 p.ann.p2) := hp1 17 (by decide)
      have c18 : w1.cell? ⟨w.heap.size, 18, none⟩ = some (.int .u64 p.ann.gm) := hp1 18 (by decide)
      have c19 : w1.cell? ⟨w.heap.size, 19, none⟩ = some (.int .i64 p.ann.steps) := hp1 19 (by decide)
      have c20 : w1.cell? ⟨w.heap.size, 20, none⟩ = some (.int .i64 p.ann.source) := hp1 20 (by decide)
      clear hp1
      go_wp2_with fail
      refine bodyPost_ret (v := .tuple #[DS.v ⟨p.ann.p1, p.ann.cls, p.ann.acc, p.ann.var, p.ann.p2, p.ann.gm, p.ann.steps, p.clock, p.port, recv, rport⟩, .int .i64 0]) (by simp [results, Try.results16, go_sem, DS.zero, hs1, hs2, x0, x1, x2, x3, x4, x5, x6, x7, x8, x9, x10]) rfl ⟨rfl, (setDS_below HB1.out (by omega) _ _ _ _ _ _ _ _ _ _ _).alloc (by simp; omega) _⟩
    · have hkb : (p.kind != 11) = true := by simpa using hk
      have hr : r = .zero := by rw [← HR.out]; simp [hk]
      have hn : n = 8 := by rw [← HN.out]; simp [hk]
      subst hr hn
      clear hk hp1
      go_wp2_with fail
      refine bodyPost_ret (v := .tuple #[DS.zero.v, .int .i64 8]) (by simp [results, Try.results16, go_sem, DS.zero, hs1, hs2, x0, x1, x2, x3, x4, x5, x6, x7, x8, x9, x10]) rfl ⟨rfl, (setDS_below HB1.out (by omega) _ _ _ _ _ _ _ _ _ _ _)⟩
  · have hcb : (c != 0) = true := by simpa using hc0
    have hr : r = .zero := by rw [← HR.out]; simp [hc0]
    have hn : n = c := by rw [← HN.out]; simp [hc0]
    subst hr hn
    clear hc0 hp1
    go_wp2_with fail
    refine bodyPost_ret (v := .tuple #[DS.zero.v, .int .i64 n]) (by simp [results, Try.results16, go_sem, DS.zero, hs1, hs2, x0, x1, x2, x3, x4, x5, x6, x7, x8, x9, x10]) rfl ⟨rfl, (setDS_below HB1.out (by omega) _ _ _ _ _ _ _ _ _ _ _)⟩
end Go.Proofs.Ytfbmlpdomfchpaa
