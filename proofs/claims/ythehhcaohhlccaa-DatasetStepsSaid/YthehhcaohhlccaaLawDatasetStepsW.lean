/- The walk of DatasetSteps. -/
import Derived.WalkKit
import Derived.LoopTactic
import Derived.Outline
import Derived.Lib.Hide
import Derived.Test.YthehhcaohhlccaaDs10
namespace Go.Proofs.Ythehhcaohhlccaa
open Go.RowKit
set_option linter.unusedVariables false
set_option linter.unusedSimpArgs false

def HopAt (w : World) (g : Nat) (h : Hop) : Prop := w.cell? ⟨g, 0, none⟩ = some (.int .u64 h.sender) ∧ w.cell? ⟨g, 1, none⟩ = some (.int .u64 h.recv) ∧ w.cell? ⟨g, 2, none⟩ = some (.int .i64 h.sport) ∧ w.cell? ⟨g, 3, none⟩ = some (.int .i64 h.rport)
theorem HopAt.of {w : World} {g : Nat} {h : Hop} {t : TypeId} (k : w.heap[g]? = some (.cells #[.int .u64 h.sender, .int .u64 h.recv, .int .i64 h.sport, .int .i64 h.rport] t (0, 0))) : HopAt w g h := by
  refine ⟨?_, ?_, ?_, ?_⟩ <;> (rw [cell_of_row w g _ _ t (0, 0) k]; rfl)
theorem HopAt.below {w w1 : World} {g : Nat} {h : Hop} (k : HopAt w g h) (hb : Below w.heap.size w w1) : HopAt w1 g h := by
  obtain ⟨h0, h1, h2, h3⟩ := k
  exact ⟨cell_below hb h0, cell_below hb h1, cell_below hb h2, cell_below hb h3⟩
theorem HopAt.aft {w : World} {g : Nat} {h : Hop} (k : HopAt w g h) : (∀ u : Aft w, u.now.cell? ⟨g, 0, none⟩ = some (.int .u64 h.sender)) ∧ (∀ u : Aft w, u.now.cell? ⟨g, 1, none⟩ = some (.int .u64 h.recv)) ∧ (∀ u : Aft w, u.now.cell? ⟨g, 2, none⟩ = some (.int .i64 h.sport)) ∧ (∀ u : Aft w, u.now.cell? ⟨g, 3, none⟩ = some (.int .i64 h.rport)) := by
  obtain ⟨h0, h1, h2, h3⟩ := k
  exact ⟨fun u => u.cell h0, fun u => u.cell h1, fun u => u.cell h2, fun u => u.cell h3⟩
def QualAt (w : World) (g : Nat) (q : Qual) : Prop := w.cell? ⟨g, 0, none⟩ = some (.int .i64 q.p1) ∧ w.cell? ⟨g, 1, none⟩ = some (.int .i64 q.cls) ∧ w.cell? ⟨g, 2, none⟩ = some (.int .i64 q.acc) ∧ w.cell? ⟨g, 3, none⟩ = some (.int .i64 q.var) ∧ w.cell? ⟨g, 4, none⟩ = some (.int .i64 q.p2)
theorem QualAt.of {w : World} {g : Nat} {q : Qual} {t : TypeId} (k : w.heap[g]? = some (.cells #[.int .i64 q.p1, .int .i64 q.cls, .int .i64 q.acc, .int .i64 q.var, .int .i64 q.p2] t (0, 0))) : QualAt w g q := by
  refine ⟨?_, ?_, ?_, ?_, ?_⟩ <;> (rw [cell_of_row w g _ _ t (0, 0) k]; rfl)
theorem QualAt.below {w w1 : World} {g : Nat} {q : Qual} (k : QualAt w g q) (hb : Below w.heap.size w w1) : QualAt w1 g q := by
  obtain ⟨h0, h1, h2, h3, h4⟩ := k
  exact ⟨cell_below hb h0, cell_below hb h1, cell_below hb h2, cell_below hb h3, cell_below hb h4⟩
theorem QualAt.aft {w : World} {g : Nat} {q : Qual} (k : QualAt w g q) : (∀ u : Aft w, u.now.cell? ⟨g, 0, none⟩ = some (.int .i64 q.p1)) ∧ (∀ u : Aft w, u.now.cell? ⟨g, 1, none⟩ = some (.int .i64 q.cls)) ∧ (∀ u : Aft w, u.now.cell? ⟨g, 2, none⟩ = some (.int .i64 q.acc)) ∧ (∀ u : Aft w, u.now.cell? ⟨g, 3, none⟩ = some (.int .i64 q.var)) ∧ (∀ u : Aft w, u.now.cell? ⟨g, 4, none⟩ = some (.int .i64 q.p2)) := by
  obtain ⟨h0, h1, h2, h3, h4⟩ := k
  exact ⟨fun u => u.cell h0, fun u => u.cell h1, fun u => u.cell h2, fun u => u.cell h3, fun u => u.cell h4⟩

set_option maxHeartbeats 800000 in
theorem DatasetSteps_walk (d : DS) (q : Qual) (h : Hop) (hd : I64 d.steps) (w : World) : Calls Try.prog 8 #[d.v, q.v, h.v] w fun e w' => e = .returned (.bool true) ∧ Below w.heap.size w w' := by
  obtain ⟨x, hx⟩ : ∃ x, stepF d h.sender h.sport h.recv h.rport = x := ⟨_, rfl⟩
  obtain ⟨n, hn⟩ : ∃ n, stepE d = n := ⟨_, rfl⟩
  have c1 : ∀ w, Calls Try.prog 23 #[d.v, .int .u64 h.sender, .int .i64 h.sport, .int .u64 h.recv, .int .i64 h.rport] w fun e w' => e = .returned (.tuple #[x.v, .int .i64 n]) ∧ Below w.heap.size w w' := fun w => by
    have := step_any d h.sender h.sport h.recv h.rport hd.1 w; rwa [hx, hn] at this
  have c2 : ∀ w, Calls Try.prog 24 #[d.v, .int .u64 h.sender, .int .i64 h.sport, .int .u64 h.recv, .int .i64 h.rport] w fun e w' => e = .returned (.tuple #[x.v, .int .i64 n]) ∧ Below w.heap.size w w' := fun w => by
    have := rstep_any d h.sender h.sport h.recv h.rport hd.1 w; rwa [hx, hn] at this
  obtain ⟨o, ho⟩ : ∃ o, ownF q h.sender = o := ⟨_, rfl⟩
  have c3 : ∀ w, Calls Try.prog 25 #[q.v, .int .u64 h.sender] w fun e w' => e = .returned o.v ∧ Below w.heap.size w w' := fun w => by
    have := own_any q h.sender w; rwa [ho] at this
  have c4 : ∀ w, Calls Try.prog 26 #[q.v, .int .u64 h.sender] w fun e w' => e = .returned o.v ∧ Below w.heap.size w w' := fun w => by
    have := rown_any q h.sender w; rwa [ho] at this
  have C1 := Lib.hid c1
  have C2 := Lib.hid c2
  have C3 := Lib.hid c3
  have C4 := Lib.hid c4
  clear hd hx hn ho c1 c2 c3 c4
  go_enter Try.func8, Try.ntmps8
  go_wp2_with fail
  generalize hW : ((w.alloc _).alloc _).alloc _ = W
  have hw : Below w.heap.size w W := by rw [← hW]; exact (((Below.refl _ _).alloc (Nat.le_refl _) _).alloc (by simp) _).alloc (by simp; omega) _
  have kD : BoxAt W w.heap.size d := by rw [← hW]; exact BoxAt.of (heap_alloc_old (heap_alloc_old (heap_alloc_new w _) _) _)
  have kQ : QualAt W (w.heap.size + 1) q := by rw [← hW]; exact QualAt.of (heap_alloc_old (heap_at (by simp)) _)
  have kH : HopAt W (w.heap.size + 1 + 1) h := by rw [← hW]; exact HopAt.of (heap_at (by simp))
  have hz : w.heap.size + 3 ≤ W.heap.size := by rw [← hW]; simp
  have HW := Lib.hid hw
  clear hW hw
  refine (calm_next (w := W) (Below.refl _ _) (C1.out _)).mono ?_
  rintro e _ ⟨rfl, u1, rfl⟩
  have hz1 := u1.below.size
  have l0 : w.heap.size < u1.now.heap.size := by omega
  have l1 : w.heap.size + 1 < u1.now.heap.size := by omega
  have l2 : w.heap.size + 1 + 1 < u1.now.heap.size := by omega
  obtain ⟨d0, d1, d2, d3, d4, d5, d6, d7, d8, d9, d10⟩ := kD.aft
  obtain ⟨q0, q1, q2, q3, q4⟩ := kQ.aft
  obtain ⟨h0, h1, h2, h3⟩ := kH.aft
  go_wp2_with fail
  clear d0 d1 d2 d3 d4 d5 d6 d7 d8 d9 d10 q0 q1 q2 q3 q4 h0 h1 h2 h3
  generalize hV : u1.now.alloc _ = V
  have hbV : Below W.heap.size W V := by rw [← hV]; exact below_then u1.below ((Below.refl _ _).alloc (Nat.le_refl _) _)
  have kX : BoxAt V u1.now.heap.size x := by rw [← hV]; exact BoxAt.of (heap_alloc_new _ _)
  have kQ := kQ.below hbV
  have kH := kH.below hbV
  have hzV : u1.now.heap.size + 1 ≤ V.heap.size := by rw [← hV]; simp
  have hv : Below w.heap.size w V := below_then HW.out hbV
  have HV := Lib.hid hv
  clear hV hv hbV kD HW
  generalize u1.now.heap.size = g1 at *
  refine (calm_next (w := V) (Below.refl _ _) (C2.out _)).mono ?_
  rintro e _ ⟨rfl, u2, rfl⟩
  go_wp2_with fail
  generalize hY : u2.now.alloc _ = Y
  have hbY : Below V.heap.size V Y := by rw [← hY]; exact below_then u2.below ((Below.refl _ _).alloc (Nat.le_refl _) _)
  have kX2 : BoxAt Y u2.now.heap.size x := by rw [← hY]; exact BoxAt.of (heap_alloc_new _ _)
  have kX := kX.below hbY
  have kQ := kQ.below hbY
  have kH := kH.below hbY
  have hy : Below w.heap.size w Y := below_then HV.out hbY
  have HY := Lib.hid hy
  clear hY hy hbY HV
  generalize u2.now.heap.size = g2 at *
  obtain ⟨d0, d1, d2, d3, d4, d5, d6, d7, d8, d9, d10⟩ := kX.aft
  obtain ⟨e0, e1, e2, e3, e4, e5, e6, e7, e8, e9, e10⟩ := kX2.aft
  obtain ⟨q0, q1, q2, q3, q4⟩ := kQ.aft
  obtain ⟨h0, h1, h2, h3⟩ := kH.aft
  clear kX kX2 kQ kH
  have he := eql_ds x x
  have hd : decide (x = x) = true := by simp
  have ho := eql_ds o o
  have hdo : decide (o = o) = true := by simp
  refine wp_region_calm (by kernel_rfl) (by kernel_rfl) ?_
  repeat (go_big_quiet_step (first | (go_at_call 25; exact calm_of (C3.out _)) | (go_at_call 26; exact calm_of (C4.out _)) | (go_at_call 17; exact calm_of (awake34 _))))
  refine wpQuiet_nil ?_
  rintro _ ⟨u, rfl⟩
  go_wp2
  go_ret
  exact ⟨rfl, below_then HY.out u.below⟩
end Go.Proofs.Ythehhcaohhlccaa
