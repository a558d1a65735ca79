/- The walk of DatasetQuality. -/
import Derived.WalkKit
import Derived.LoopTactic
import Derived.Outline
import Derived.Lib.Hide
import Derived.BigRegion
import Derived.Test.YthehhcaohhlccaaDs10
import Derived.Test.YthehhcaohhlccaaDsPlain2
namespace Go.Proofs.Ythehhcaohhlccaa
open Go.RowKit
set_option linter.unusedVariables false
set_option linter.unusedSimpArgs false

def HopAt (w : World) (g : Nat) (h : Hop) : Prop := w.cell? ⟨g, 0, none⟩ = some (.int .u64 h.sender) ∧ w.cell? ⟨g, 1, none⟩ = some (.int .u64 h.recv) ∧ w.cell? ⟨g, 2, none⟩ = some (.int .i64 h.sport) ∧ w.cell? ⟨g, 3, none⟩ = some (.int .i64 h.rport)
theorem HopAt.of {w : World} {g : Nat} {h : Hop} {t : TypeId} (k : w.heap[g]? = some (.cells #[.int .u64 h.sender, .int .u64 h.recv, .int .i64 h.sport, .int .i64 h.rport] t (0, 0))) : HopAt w g h := by
  refine ⟨?_, ?_, ?_, ?_⟩ <;> (rw [cell_of_row w g _ _ t (0, 0) k]; rfl)
theorem HopAt.below {w w1 : World} {g : Nat} {h : Hop} (k : HopAt w g h) (hb : Below w.heap.size w w1) : HopAt w1 g h := by
  obtain ⟨h0, h1, h2, h3⟩ := k
  exact ⟨cell_below hb h0, cell_below hb h1, cell_below hb h2, cell_below hb h3⟩
theorem free_of_blk {w : World} {g : Nat} {t : TypeId} {cs : Array Value} (h : w.heap[g]? = some (.cells cs t (0, 0))) (i : Nat) : w.frozen? ⟨g, i, none⟩ = false := by simp [World.frozen?, h]
def turned (a : DS) (h : Hop) : DS := { a with steps := h.sport, sender := h.sender, sport := h.rport, recv := h.recv, rport := h.sport }
theorem quality_same (a b : DS) (h : Hop) (hg : a.gm = b.gm) (w : World) : Calls Try.prog 6 #[a.v, b.v, h.v] w fun e w' => e = .returned (.bool true) ∧ Below w.heap.size w w' := by
  have hg' : (a.gm == b.gm) = true := by simpa using hg
  clear hg
  go_enter Try.func6, Try.ntmps6
  go_wp2_with (go_at_call 17; refine (awake34 _).mono ?_; rintro e w1 ⟨rfl, hb⟩)
  go_ret
  exact ⟨rfl, ((((Below.refl _ _).alloc (Nat.le_refl _) _).alloc (by simp) _).alloc (by simp; omega) _).trans (hb.mono (by simp; omega))⟩
set_option maxHeartbeats 800000 in
theorem DatasetQuality_walk (a b : DS) (h : Hop) (ha : I64 a.steps) (hb : I64 b.steps) (hh : I64 h.sport) (w : World) : Calls Try.prog 6 #[a.v, b.v, h.v] w fun e w' => e = .returned (.bool true) ∧ Below w.heap.size w w' := by
  by_cases hg : a.gm = b.gm
  · exact quality_same a b h hg w
  have hg' : (a.gm == b.gm) = false := by simpa using hg
  obtain ⟨t, ht⟩ : ∃ t, lessB a b = t := ⟨_, rfl⟩
  have c1 : ∀ w, Calls Try.prog 15 #[a.v, b.v] w fun e w' => e = .returned (.int .i64 (if t = true then 1 else 3)) ∧ Below w.heap.size w w' := fun w => by
    have := compare_calls a b ha hb w; rwa [compare_quality hg, ht] at this
  have c2 : ∀ w, Calls Try.prog 15 #[(turned a h).v, b.v] w fun e w' => e = .returned (.int .i64 (if t = true then 1 else 3)) ∧ Below w.heap.size w w' := fun w => by
    have := compare_calls (turned a h) b hh hb w; rwa [compare_quality (show ¬ (turned a h).gm = b.gm from hg), less_quality (a' := turned a h) hg rfl, ht] at this
  have c3 : ∀ w, Calls Try.prog 18 #[a.v, b.v] w fun e w' => e = .returned (.bool t) ∧ Below w.heap.size w w' := fun w => by
    have := less_any a b w; rwa [ht] at this
  clear ha hb hh ht hg
  cases t with
  | true =>
    simp only [if_true] at c1 c2
    have C1 := Lib.hid c1
    have C2 := Lib.hid c2
    have C3 := Lib.hid c3
    clear c1 c2 c3
    go_enter Try.func6, Try.ntmps6
    go_wp2_with fail
    generalize hW : ((w.alloc _).alloc _).alloc _ = W
    have hw : Below w.heap.size w W := by rw [← hW]; exact (((Below.refl _ _).alloc (Nat.le_refl _) _).alloc (by simp) _).alloc (by simp; omega) _
    have kA : BoxAt W w.heap.size a := by rw [← hW]; exact BoxAt.of (heap_alloc_old (heap_alloc_old (heap_alloc_new w _) _) _)
    have kF : ∀ j, W.frozen? ⟨w.heap.size, j, none⟩ = false := fun j => by rw [← hW]; exact free_of_blk (heap_alloc_old (heap_alloc_old (heap_alloc_new w _) _) _) j
    have kB : BoxAt W (w.heap.size + 1) b := by rw [← hW]; exact BoxAt.of (heap_alloc_old (heap_at (by simp)) _)
    have kH : HopAt W (w.heap.size + 1 + 1) h := by rw [← hW]; exact HopAt.of (heap_at (by simp))
    have hz : w.heap.size + 3 ≤ W.heap.size := by rw [← hW]; simp
    have HW := Lib.hid hw
    have HZ := Lib.hid hz
    clear hW hw hz
    have KA := Lib.hid kA
    have KB := Lib.hid kB
    have KF := Lib.hid kF
    have KH := Lib.hid kH
    clear kF kH
    obtain ⟨a0, a1, a2, a3, a4, a5, a6, a7, a8, a9, a10⟩ := kA.aft
    obtain ⟨b0, b1, b2, b3, b4, b5, b6, b7, b8, b9, b10⟩ := kB.aft
    clear kA kB
    refine (calm_next (w := W) (Below.refl _ _) (C1.out _)).mono ?_
    rintro e _ ⟨rfl, u1, rfl⟩
    go_wp2_with fail
    refine (calm_of (C3.out _)).mono ?_
    rintro e _ ⟨rfl, u2, rfl⟩
    clear a0 a1 a2 a3 a4 a5 a6 a7 a8 a9 a10 b0 b1 b2 b3 b4 b5 b6 b7 b8 b9 b10
    have kA := KA.out.below u2.below
    have kB := KB.out.below u2.below
    have kH := KH.out.below u2.below
    have kF : ∀ j, u2.now.frozen? ⟨w.heap.size, j, none⟩ = false := fun j => (u2.below.frozen (p := ⟨w.heap.size, j, none⟩) (by have := HZ.out; simp; omega)).trans (KF.out j)
    have hx : Below w.heap.size w u2.now := below_then HW.out u2.below
    have HX := Lib.hid hx
    clear hx
    generalize u2.now = X at *
    obtain ⟨a0, a1, a2, a3, a4, a5, a6, a7, a8, a9, a10⟩ := kA
    obtain ⟨b0, b1, b2, b3, b4, b5, b6, b7, b8, b9, b10⟩ := kB
    obtain ⟨h0, h1, h2, h3⟩ := kH
    have f6 := kF 6
    have f7 := kF 7
    have f8 := kF 8
    have f9 := kF 9
    have f10 := kF 10
    clear kF
    go_wp2_with fail
    go_region
    have hy := (((((HX.out.setCell (p := ⟨w.heap.size, 6, none⟩) (Nat.le_refl _) (.int .i64 h.sport)).setCell (p := ⟨w.heap.size, 7, none⟩) (Nat.le_refl _) (.int .u64 h.sender)).setCell (p := ⟨w.heap.size, 8, none⟩) (Nat.le_refl _) (.int .i64 h.rport)).setCell (p := ⟨w.heap.size, 9, none⟩) (Nat.le_refl _) (.int .u64 h.recv)).setCell (p := ⟨w.heap.size, 10, none⟩) (Nat.le_refl _) (.int .i64 h.sport)).drew
    have HY := Lib.hid hy
    clear hy
    go_wp2_with fail
    refine (C2.out _).mono ?_
    rintro e w3 ⟨rfl, hb3⟩
    have HY2 := Lib.hid (below_then HY.out hb3)
    clear hb3
    go_wp2_with fail
    refine (awake34 _).mono ?_
    rintro e w4 ⟨rfl, hb4⟩
    go_wp2_with fail
    go_ret
    exact ⟨rfl, below_then HY2.out hb4⟩
  | false =>
    simp only [Bool.false_eq_true, if_false] at c1 c2
    have C1 := Lib.hid c1
    have C2 := Lib.hid c2
    have C3 := Lib.hid c3
    clear c1 c2 c3
    go_enter Try.func6, Try.ntmps6
    go_wp2_with fail
    generalize hW : ((w.alloc _).alloc _).alloc _ = W
    have hw : Below w.heap.size w W := by rw [← hW]; exact (((Below.refl _ _).alloc (Nat.le_refl _) _).alloc (by simp) _).alloc (by simp; omega) _
    have kA : BoxAt W w.heap.size a := by rw [← hW]; exact BoxAt.of (heap_alloc_old (heap_alloc_old (heap_alloc_new w _) _) _)
    have kF : ∀ j, W.frozen? ⟨w.heap.size, j, none⟩ = false := fun j => by rw [← hW]; exact free_of_blk (heap_alloc_old (heap_alloc_old (heap_alloc_new w _) _) _) j
    have kB : BoxAt W (w.heap.size + 1) b := by rw [← hW]; exact BoxAt.of (heap_alloc_old (heap_at (by simp)) _)
    have kH : HopAt W (w.heap.size + 1 + 1) h := by rw [← hW]; exact HopAt.of (heap_at (by simp))
    have hz : w.heap.size + 3 ≤ W.heap.size := by rw [← hW]; simp
    have HW := Lib.hid hw
    have HZ := Lib.hid hz
    clear hW hw hz
    have KA := Lib.hid kA
    have KB := Lib.hid kB
    have KF := Lib.hid kF
    have KH := Lib.hid kH
    clear kF kH
    obtain ⟨a0, a1, a2, a3, a4, a5, a6, a7, a8, a9, a10⟩ := kA.aft
    obtain ⟨b0, b1, b2, b3, b4, b5, b6, b7, b8, b9, b10⟩ := kB.aft
    clear kA kB
    refine (calm_next (w := W) (Below.refl _ _) (C1.out _)).mono ?_
    rintro e _ ⟨rfl, u1, rfl⟩
    go_wp2_with fail
    refine (calm_of (C3.out _)).mono ?_
    rintro e _ ⟨rfl, u2, rfl⟩
    clear a0 a1 a2 a3 a4 a5 a6 a7 a8 a9 a10 b0 b1 b2 b3 b4 b5 b6 b7 b8 b9 b10
    have kA := KA.out.below u2.below
    have kB := KB.out.below u2.below
    have kH := KH.out.below u2.below
    have kF : ∀ j, u2.now.frozen? ⟨w.heap.size, j, none⟩ = false := fun j => (u2.below.frozen (p := ⟨w.heap.size, j, none⟩) (by have := HZ.out; simp; omega)).trans (KF.out j)
    have hx : Below w.heap.size w u2.now := below_then HW.out u2.below
    have HX := Lib.hid hx
    clear hx
    generalize u2.now = X at *
    obtain ⟨a0, a1, a2, a3, a4, a5, a6, a7, a8, a9, a10⟩ := kA
    obtain ⟨b0, b1, b2, b3, b4, b5, b6, b7, b8, b9, b10⟩ := kB
    obtain ⟨h0, h1, h2, h3⟩ := kH
    have f6 := kF 6
    have f7 := kF 7
    have f8 := kF 8
    have f9 := kF 9
    have f10 := kF 10
    clear kF
    go_wp2_with fail
    go_region
    have hy := (((((HX.out.setCell (p := ⟨w.heap.size, 6, none⟩) (Nat.le_refl _) (.int .i64 h.sport)).setCell (p := ⟨w.heap.size, 7, none⟩) (Nat.le_refl _) (.int .u64 h.sender)).setCell (p := ⟨w.heap.size, 8, none⟩) (Nat.le_refl _) (.int .i64 h.rport)).setCell (p := ⟨w.heap.size, 9, none⟩) (Nat.le_refl _) (.int .u64 h.recv)).setCell (p := ⟨w.heap.size, 10, none⟩) (Nat.le_refl _) (.int .i64 h.sport)).drew
    have HY := Lib.hid hy
    clear hy
    go_wp2_with fail
    refine (C2.out _).mono ?_
    rintro e w3 ⟨rfl, hb3⟩
    have HY2 := Lib.hid (below_then HY.out hb3)
    clear hb3
    go_wp2_with fail
    refine (awake34 _).mono ?_
    rintro e w4 ⟨rfl, hb4⟩
    go_wp2_with fail
    go_ret
    exact ⟨rfl, below_then HY2.out hb4⟩
end Go.Proofs.Ythehhcaohhlccaa
