/- ptpmsg.inRange (written by gen_range.py). -/
import Derived.WalkKit
import Derived.LoopTactic
import Derived.Outline
import Derived.Lib.Hide
import Derived.Test.YtfbmlpdomfchpaaJPa
namespace Go.Proofs.Ytfbmlpdomfchpaa
open Go.RowKit
set_option linter.unusedVariables false
set_option linter.unusedSimpArgs false

def Ptp.cells (p : Ptp) : List Value := [.int .i64 p.kind, .int .i64 p.domain, .int .i64 p.flags, .int .i64 p.corr, .int .u64 p.clock, .int .i64 p.port, .int .i64 p.seq, .int .i64 p.logInt, .int .i64 p.sec, .int .i64 p.nano, .int .u64 p.reqClock, .int .i64 p.reqPort, .int .i64 p.ann.utc, .int .i64 p.ann.p1, .int .i64 p.ann.cls, .int .i64 p.ann.acc, .int .i64 p.ann.var, .int .i64 p.ann.p2, .int .u64 p.ann.gm, .int .i64 p.ann.steps, .int .i64 p.ann.source]
def Ann.cells (a : Ann) : List Value := [.int .i64 a.utc, .int .i64 a.p1, .int .i64 a.cls, .int .i64 a.acc, .int .i64 a.var, .int .i64 a.p2, .int .u64 a.gm, .int .i64 a.steps, .int .i64 a.source]
/-- A message lies in a block of its own; so does what it announces. -/
def PtpBox (w : World) (g : Nat) (p : Ptp) : Prop := ∀ j, j < 21 → w.cell? ⟨g, j, none⟩ = p.cells[j]?
def AnnBox (w : World) (g : Nat) (a : Ann) : Prop := ∀ j, j < 9 → w.cell? ⟨g, j, none⟩ = a.cells[j]?
theorem PtpBox.of {w : World} {g : Nat} {p : Ptp} {t : TypeId} (h : w.heap[g]? = some (.cells p.cells.toArray t (0, 0))) : PtpBox w g p := fun j hj => by rw [cell_of_row w g j _ _ (0, 0) h]; simp
theorem AnnBox.of {w : World} {g : Nat} {p : Ann} {t : TypeId} (h : w.heap[g]? = some (.cells p.cells.toArray t (0, 0))) : AnnBox w g p := fun j hj => by rw [cell_of_row w g j _ _ (0, 0) h]; simp
theorem PtpBox.below {w w1 : World} {g : Nat} {p : Ptp} (h : PtpBox w g p) (hg : g < w.heap.size) (hb : Below w.heap.size w w1) : PtpBox w1 g p := fun j hj => (hb.cell hg).trans (h j hj)
theorem AnnBox.below {w w1 : World} {g : Nat} {p : Ann} (h : AnnBox w g p) (hg : g < w.heap.size) (hb : Below w.heap.size w w1) : AnnBox w1 g p := fun j hj => (hb.cell hg).trans (h j hj)
def inB (p : Ptp) : Bool := wi p.domain 0 255 && (wi p.flags 0 65535 && (wi p.port 0 65535 && (wi p.seq 0 65535 && (wi p.logInt (-128) 127 && (stampB p.sec p.nano && (wi p.reqPort 0 65535 && (wi p.ann.utc (-32768) 32767 && (wi p.ann.p1 0 255 && (wi p.ann.cls 0 255 && (wi p.ann.acc 0 255 && (wi p.ann.var 0 65535 && (wi p.ann.p2 0 255 && (wi p.ann.steps 0 65535 && (wi p.ann.source 0 255))))))))))))))
set_option maxRecDepth 100000 in
set_option maxHeartbeats 4000000 in
theorem inRange_any (p : Ptp) (w : World) : Calls Try.prog 34 #[p.v] w fun e w' => e = .returned (.bool (inB p)) ∧ Below w.heap.size w w' := by
  go_enter Try.func34, Try.ntmps34
  go_wp2_with fail
  generalize hW : (w.alloc _).alloc _ = W
  have hw : Below w.heap.size w W := by rw [← hW]; exact ((Below.refl _ _).alloc (Nat.le_refl _) _).alloc (by simp) _
  have hp : PtpBox W w.heap.size p := by rw [← hW]; exact PtpBox.of (heap_alloc_old (heap_alloc_new w _) _)
  have ha : AnnBox W (w.heap.size + 1) p.ann := by rw [← hW]; exact AnnBox.of (heap_at (by simp))
  have hs : w.heap.size + 1 < W.heap.size := by rw [← hW]; simp
  clear hW
  have c1 : W.cell? ⟨w.heap.size, 1, none⟩ = some (.int .i64 p.domain) := hp 1 (by decide)
  have c2 : W.cell? ⟨w.heap.size, 2, none⟩ = some (.int .i64 p.flags) := hp 2 (by decide)
  have c5 : W.cell? ⟨w.heap.size, 5, none⟩ = some (.int .i64 p.port) := hp 5 (by decide)
  have c6 : W.cell? ⟨w.heap.size, 6, none⟩ = some (.int .i64 p.seq) := hp 6 (by decide)
  have c7 : W.cell? ⟨w.heap.size, 7, none⟩ = some (.int .i64 p.logInt) := hp 7 (by decide)
  have c8 : W.cell? ⟨w.heap.size, 8, none⟩ = some (.int .i64 p.sec) := hp 8 (by decide)
  have c9 : W.cell? ⟨w.heap.size, 9, none⟩ = some (.int .i64 p.nano) := hp 9 (by decide)
  have HW := Lib.hid hw
  have HP := Lib.hid hp
  have HA := Lib.hid ha
  clear hw hp ha
  refine (within_any _ _ _ _).mono ?_
  rintro e _ ⟨rfl, rfl⟩
  cases h0 : wi p.domain 0 255
  · go_wp2_with fail
    go_ret
    exact ⟨by simp [inB, h0], HW.out⟩
  go_wp2_with fail
  refine (within_any _ _ _ _).mono ?_
  rintro e _ ⟨rfl, rfl⟩
  cases h1 : wi p.flags 0 65535
  · go_wp2_with fail
    go_ret
    exact ⟨by simp [inB, h0, h1], HW.out⟩
  go_wp2_with fail
  refine (within_any _ _ _ _).mono ?_
  rintro e _ ⟨rfl, rfl⟩
  cases h2 : wi p.port 0 65535
  · go_wp2_with fail
    go_ret
    exact ⟨by simp [inB, h0, h1, h2], HW.out⟩
  go_wp2_with fail
  refine (within_any _ _ _ _).mono ?_
  rintro e _ ⟨rfl, rfl⟩
  cases h3 : wi p.seq 0 65535
  · go_wp2_with fail
    go_ret
    exact ⟨by simp [inB, h0, h1, h2, h3], HW.out⟩
  go_wp2_with fail
  refine (within_any _ _ _ _).mono ?_
  rintro e _ ⟨rfl, rfl⟩
  cases h4 : wi p.logInt (-128) 127
  · go_wp2_with fail
    go_ret
    exact ⟨by simp [inB, h0, h1, h2, h3, h4], HW.out⟩
  go_wp2_with fail
  refine (stamp_any p.sec p.nano _).mono ?_
  rintro e w1 ⟨rfl, hb1⟩
  have HB1 := Lib.hid (below_then HW.out hb1)
  have d11 : w1.cell? ⟨w.heap.size, 11, none⟩ = some (.int .i64 p.reqPort) := (HP.out.below (by omega) hb1) 11 (by decide)
  have a0 : w1.cell? ⟨w.heap.size + 1, 0, none⟩ = some (.int .i64 p.ann.utc) := (HA.out.below hs hb1) 0 (by decide)
  have a1 : w1.cell? ⟨w.heap.size + 1, 1, none⟩ = some (.int .i64 p.ann.p1) := (HA.out.below hs hb1) 1 (by decide)
  have a2 : w1.cell? ⟨w.heap.size + 1, 2, none⟩ = some (.int .i64 p.ann.cls) := (HA.out.below hs hb1) 2 (by decide)
  have a3 : w1.cell? ⟨w.heap.size + 1, 3, none⟩ = some (.int .i64 p.ann.acc) := (HA.out.below hs hb1) 3 (by decide)
  have a4 : w1.cell? ⟨w.heap.size + 1, 4, none⟩ = some (.int .i64 p.ann.var) := (HA.out.below hs hb1) 4 (by decide)
  have a5 : w1.cell? ⟨w.heap.size + 1, 5, none⟩ = some (.int .i64 p.ann.p2) := (HA.out.below hs hb1) 5 (by decide)
  have a7 : w1.cell? ⟨w.heap.size + 1, 7, none⟩ = some (.int .i64 p.ann.steps) := (HA.out.below hs hb1) 7 (by decide)
  have a8 : w1.cell? ⟨w.heap.size + 1, 8, none⟩ = some (.int .i64 p.ann.source) := (HA.out.below hs hb1) 8 (by decide)
  clear hb1 c1 c2 c5 c6 c7 c8 c9
  cases h5 : stampB p.sec p.nano
  all_goals simp only [Bool.false_eq_true, if_false, if_true]
  · go_wp2_with fail
    go_ret
    exact ⟨by simp [inB, h0, h1, h2, h3, h4, h5], HB1.out⟩
  go_wp2_with fail
  refine (within_any _ _ _ _).mono ?_
  rintro e _ ⟨rfl, rfl⟩
  cases h6 : wi p.reqPort 0 65535
  · go_wp2_with fail
    go_ret
    exact ⟨by simp [inB, h0, h1, h2, h3, h4, h5, h6], HB1.out⟩
  go_wp2_with fail
  refine (within_any _ _ _ _).mono ?_
  rintro e _ ⟨rfl, rfl⟩
  cases h7 : wi p.ann.utc (-32768) 32767
  · go_wp2_with fail
    go_ret
    exact ⟨by simp [inB, h0, h1, h2, h3, h4, h5, h6, h7], HB1.out⟩
  go_wp2_with fail
  refine (within_any _ _ _ _).mono ?_
  rintro e _ ⟨rfl, rfl⟩
  cases h8 : wi p.ann.p1 0 255
  · go_wp2_with fail
    go_ret
    exact ⟨by simp [inB, h0, h1, h2, h3, h4, h5, h6, h7, h8], HB1.out⟩
  go_wp2_with fail
  refine (within_any _ _ _ _).mono ?_
  rintro e _ ⟨rfl, rfl⟩
  cases h9 : wi p.ann.cls 0 255
  · go_wp2_with fail
    go_ret
    exact ⟨by simp [inB, h0, h1, h2, h3, h4, h5, h6, h7, h8, h9], HB1.out⟩
  go_wp2_with fail
  refine (within_any _ _ _ _).mono ?_
  rintro e _ ⟨rfl, rfl⟩
  cases h10 : wi p.ann.acc 0 255
  · go_wp2_with fail
    go_ret
    exact ⟨by simp [inB, h0, h1, h2, h3, h4, h5, h6, h7, h8, h9, h10], HB1.out⟩
  go_wp2_with fail
  refine (within_any _ _ _ _).mono ?_
  rintro e _ ⟨rfl, rfl⟩
  cases h11 : wi p.ann.var 0 65535
  · go_wp2_with fail
    go_ret
    exact ⟨by simp [inB, h0, h1, h2, h3, h4, h5, h6, h7, h8, h9, h10, h11], HB1.out⟩
  go_wp2_with fail
  refine (within_any _ _ _ _).mono ?_
  rintro e _ ⟨rfl, rfl⟩
  cases h12 : wi p.ann.p2 0 255
  · go_wp2_with fail
    go_ret
    exact ⟨by simp [inB, h0, h1, h2, h3, h4, h5, h6, h7, h8, h9, h10, h11, h12], HB1.out⟩
  go_wp2_with fail
  refine (within_any _ _ _ _).mono ?_
  rintro e _ ⟨rfl, rfl⟩
  cases h13 : wi p.ann.steps 0 65535
  · go_wp2_with fail
    go_ret
    exact ⟨by simp [inB, h0, h1, h2, h3, h4, h5, h6, h7, h8, h9, h10, h11, h12, h13], HB1.out⟩
  go_wp2_with fail
  refine (within_any _ _ _ _).mono ?_
  rintro e _ ⟨rfl, rfl⟩
  cases h14 : wi p.ann.source 0 255
  · go_wp2_with fail
    go_ret
    exact ⟨by simp [inB, h0, h1, h2, h3, h4, h5, h6, h7, h8, h9, h10, h11, h12, h13, h14], HB1.out⟩
  go_wp2_with fail
  go_ret
  exact ⟨by simp [inB, h0, h1, h2, h3, h4, h5, h6, h7, h8, h9, h10, h11, h12, h13, h14], HB1.out⟩
end Go.Proofs.Ytfbmlpdomfchpaa
