/- The walk of the examples of chapter 36. -/
import Derived.WalkKit
import Derived.LoopTactic
import Derived.Outline
import Derived.Lib.Hide
import Derived.Deep.RegionHeld3
import Derived.Deep.DrawnRows
import Derived.Test.YthehhcaohhlccaaDe5
namespace Go.Proofs.Ythehhcaohhlccaa
open Go.RowKit
set_option linter.unusedVariables false
set_option linter.unusedSimpArgs false

theorem lt_box {w : World} {g : Nat} {d : DS} (h : BoxAt w g d) : g < w.heap.size := World.block_lt_of_cell? w _ h.1
theorem PBRow.drew {w : World} {b o : Nat} {l : List PB} (h : PBRow w b o l) : PBRow w.drew b o l := h
set_option maxRecDepth 100000 in
set_option maxHeartbeats 4000000 in
theorem awake36 (w : World) : Calls Try.prog 36 #[] w fun e w' => e = .returned (.bool true) ∧ Below w.heap.size w w' := by
  have hmk : ∀ w, (Instr.makeSlice 46 (.int .i64 1) (.int .i64 1)).run Try.prog w = .ok (.slice (some ⟨w.heap.size, 0, none⟩) 1 1) (w.alloc (.cells #[.bool false, .int .i64 0, .int .i64 0, .int .i64 0, .int .i64 0, .int .i64 0, .int .u64 0, .int .i64 0, .int .u64 0, .int .i64 0, .int .u64 0, .int .i64 0] 54)) := fun _ => by kernel_rfl
  go_enter Try.func36, Try.ntmps36
  go_wp2_with fail
  refine (dec_nil36 _).mono ?_
  rintro e w1 ⟨g1, rfl, hb1⟩
  have hs1 : w.heap.size < w1.heap.size := by have := hb1.size; simp at this; omega
  have k1 : BoxAt w1 w.heap.size q36 := (BoxAt.of (heap_alloc_new w _)).below hb1
  have hb := below_then ((Below.refl w.heap.size w).alloc (Nat.le_refl _) _) hb1
  have HB1 := Lib.hid hb
  clear hb hb1
  have K1 := Lib.hid k1
  obtain ⟨q0, q1, q2, q3, q4, q5, q6, q7, q8, q9, q10⟩ := k1
  go_wp2_with fail
  go_region_held3 (fun w' => w'.cell? ⟨w.heap.size, 0, none⟩ = some (.int .i64 q36.p1) ∧ w'.cell? ⟨w.heap.size, 1, none⟩ = some (.int .i64 q36.cls) ∧ w'.cell? ⟨w.heap.size, 2, none⟩ = some (.int .i64 q36.acc) ∧ w'.cell? ⟨w.heap.size, 3, none⟩ = some (.int .i64 q36.var) ∧ w'.cell? ⟨w.heap.size, 4, none⟩ = some (.int .i64 q36.p2) ∧ w'.cell? ⟨w.heap.size, 5, none⟩ = some (.int .u64 q36.gm) ∧ w'.cell? ⟨w.heap.size, 6, none⟩ = some (.int .i64 q36.steps) ∧ w'.cell? ⟨w.heap.size, 7, none⟩ = some (.int .u64 q36.sender) ∧ w'.cell? ⟨w.heap.size, 8, none⟩ = some (.int .i64 q36.sport) ∧ w'.cell? ⟨w.heap.size, 9, none⟩ = some (.int .u64 q36.recv) ∧ w'.cell? ⟨w.heap.size, 10, none⟩ = some (.int .i64 q36.rport)) (first | go_keep | exact K1.out.below (below_then (((Below.refl w1.heap.size w1).alloc (Nat.le_refl _) _).drew) hb2))
    ((go_at_call 27; refine (dec_one36 _ _ (PBRow.drew (PBRow.one (PBAt.of (p := .zero) (heap_alloc_new w1 _))))).mono ?_; rintro e w2 ⟨g2, rfl, hb2, hr2⟩))
  have hb := below_then (((Below.refl w1.heap.size w1).alloc (Nat.le_refl _) _).drew) hb2
  have HB2 := Lib.hid (below_then HB1.out hb)
  have HR2 := Lib.hid hr2
  have K2 := Lib.hid (K1.out.below hb)
  clear hb hb2 hr2 q0 q1 q2 q3 q4 q5 q6 q7 q8 q9 q10 hs1 K1 HB1
  go_wp2_with fail
  refine (dec_six36 _ _ (PBRow.one (PBAt.of (p := .zero) (heap_alloc_new w2 _)))).mono ?_
  rintro e w3 ⟨g3, rfl, hb3, hr3⟩
  have hb := below_then ((Below.refl w2.heap.size w2).alloc (Nat.le_refl _) _) hb3
  have HB3 := Lib.hid (below_then HB2.out hb)
  have HR2' := Lib.hid (HR2.out.below hb)
  have HR3 := Lib.hid hr3
  have k3 := K2.out.below hb
  have hs3 : w.heap.size < w3.heap.size := lt_box k3
  have K3 := Lib.hid k3
  clear hb hb3 hr3 HR2 K2 HB2
  obtain ⟨q0, q1, q2, q3, q4, q5, q6, q7, q8, q9, q10⟩ := k3
  go_wp2_with fail
  refine (dec_two36 _ _ (PBRow.of (heap_alloc_new w3 _) two36 rfl)).mono ?_
  rintro e w4 ⟨g4, rfl, hb4, hr4⟩
  have hb := below_then ((Below.refl w3.heap.size w3).alloc (Nat.le_refl _) _) hb4
  have k4 := K3.out.below hb
  have r2 := HR2'.out.below hb
  have r3 := HR3.out.below hb
  have hp : PBRow w4 w3.heap.size 0 two36 := (PBRow.of (heap_alloc_new w3 _) two36 rfl).below hb4
  have HB4 := Lib.hid (below_then HB3.out hb)
  have hs4 : w.heap.size < w4.heap.size := lt_box k4
  have hs5 : w3.heap.size < w4.heap.size := by have := hb4.size; simp at this; omega
  have hs6 : g2 < w4.heap.size := World.block_lt_of_cell? _ _ (r2 0 (by decide))
  have hs7 : g3 < w4.heap.size := World.block_lt_of_cell? _ _ (r3 0 (by decide))
  have hs8 : g4 < w4.heap.size := World.block_lt_of_cell? _ _ (hr4 0 (by decide))
  have K4 := Lib.hid k4
  have R2 := Lib.hid r2
  have R3 := Lib.hid r3
  have R4 := Lib.hid hr4
  have HP4 := Lib.hid hp
  clear hb hb4 hr4 r2 r3 hp HR2' HR3 K3 HB3 q0 q1 q2 q3 q4 q5 q6 q7 q8 q9 q10 hs3
  generalize w3.heap.size = gp at *
  obtain ⟨q0, q1, q2, q3, q4, q5, q6, q7, q8, q9, q10⟩ := k4
  have hP := HP4.out 0 (by decide)
  have ph : w4.cell? ⟨gp, 0, none⟩ = some (.bool true) := hP.1
  have p0 : w4.cell? ⟨gp, 1, none⟩ = some (.int .i64 s36.p1) := hP.2.1
  have p1 : w4.cell? ⟨gp, 2, none⟩ = some (.int .i64 s36.cls) := hP.2.2.1
  have p2 : w4.cell? ⟨gp, 3, none⟩ = some (.int .i64 s36.acc) := hP.2.2.2.1
  have p3 : w4.cell? ⟨gp, 4, none⟩ = some (.int .i64 s36.var) := hP.2.2.2.2.1
  have p4 : w4.cell? ⟨gp, 5, none⟩ = some (.int .i64 s36.p2) := hP.2.2.2.2.2.1
  have p5 : w4.cell? ⟨gp, 6, none⟩ = some (.int .u64 s36.gm) := hP.2.2.2.2.2.2.1
  have p6 : w4.cell? ⟨gp, 7, none⟩ = some (.int .i64 s36.steps) := hP.2.2.2.2.2.2.2.1
  have p7 : w4.cell? ⟨gp, 8, none⟩ = some (.int .u64 s36.sender) := hP.2.2.2.2.2.2.2.2.1
  have p8 : w4.cell? ⟨gp, 9, none⟩ = some (.int .i64 s36.sport) := hP.2.2.2.2.2.2.2.2.2.1
  have p9 : w4.cell? ⟨gp, 10, none⟩ = some (.int .u64 s36.recv) := hP.2.2.2.2.2.2.2.2.2.2.1
  have p10 : w4.cell? ⟨gp, 11, none⟩ = some (.int .i64 s36.rport) := hP.2.2.2.2.2.2.2.2.2.2.2
  clear hP
  have HS := Lib.hid (show ∀ X : World, Below w4.heap.size w4 X → (X.cell? ⟨w.heap.size, 0, none⟩ = some (.int .i64 q36.p1) ∧ X.cell? ⟨w.heap.size, 1, none⟩ = some (.int .i64 q36.cls) ∧ X.cell? ⟨w.heap.size, 2, none⟩ = some (.int .i64 q36.acc) ∧ X.cell? ⟨w.heap.size, 3, none⟩ = some (.int .i64 q36.var) ∧ X.cell? ⟨w.heap.size, 4, none⟩ = some (.int .i64 q36.p2) ∧ X.cell? ⟨w.heap.size, 5, none⟩ = some (.int .u64 q36.gm) ∧ X.cell? ⟨w.heap.size, 6, none⟩ = some (.int .i64 q36.steps) ∧ X.cell? ⟨w.heap.size, 7, none⟩ = some (.int .u64 q36.sender) ∧ X.cell? ⟨w.heap.size, 8, none⟩ = some (.int .i64 q36.sport) ∧ X.cell? ⟨w.heap.size, 9, none⟩ = some (.int .u64 q36.recv) ∧ X.cell? ⟨w.heap.size, 10, none⟩ = some (.int .i64 q36.rport) ∧ X.cell? ⟨gp, 0, none⟩ = some (.bool true) ∧ X.cell? ⟨gp, 1, none⟩ = some (.int .i64 s36.p1) ∧ X.cell? ⟨gp, 2, none⟩ = some (.int .i64 s36.cls) ∧ X.cell? ⟨gp, 3, none⟩ = some (.int .i64 s36.acc) ∧ X.cell? ⟨gp, 4, none⟩ = some (.int .i64 s36.var) ∧ X.cell? ⟨gp, 5, none⟩ = some (.int .i64 s36.p2) ∧ X.cell? ⟨gp, 6, none⟩ = some (.int .u64 s36.gm) ∧ X.cell? ⟨gp, 7, none⟩ = some (.int .i64 s36.steps) ∧ X.cell? ⟨gp, 8, none⟩ = some (.int .u64 s36.sender) ∧ X.cell? ⟨gp, 9, none⟩ = some (.int .i64 s36.sport) ∧ X.cell? ⟨gp, 10, none⟩ = some (.int .u64 s36.recv) ∧ X.cell? ⟨gp, 11, none⟩ = some (.int .i64 s36.rport)) from fun X hb => ⟨cell_below hb q0, cell_below hb q1, cell_below hb q2, cell_below hb q3, cell_below hb q4, cell_below hb q5, cell_below hb q6, cell_below hb q7, cell_below hb q8, cell_below hb q9, cell_below hb q10, cell_below hb ph, cell_below hb p0, cell_below hb p1, cell_below hb p2, cell_below hb p3, cell_below hb p4, cell_below hb p5, cell_below hb p6, cell_below hb p7, cell_below hb p8, cell_below hb p9, cell_below hb p10⟩)
  have he1 := eql_ds s36 s36
  have hd1 : decide (s36 = s36) = true := by simp
  have he2 := eql_ds q36 q36
  have hd2 : decide (q36 = q36) = true := by simp
  go_wp2_with fail
  go_region_held3 (fun X => X.cell? ⟨w.heap.size, 0, none⟩ = some (.int .i64 q36.p1) ∧ X.cell? ⟨w.heap.size, 1, none⟩ = some (.int .i64 q36.cls) ∧ X.cell? ⟨w.heap.size, 2, none⟩ = some (.int .i64 q36.acc) ∧ X.cell? ⟨w.heap.size, 3, none⟩ = some (.int .i64 q36.var) ∧ X.cell? ⟨w.heap.size, 4, none⟩ = some (.int .i64 q36.p2) ∧ X.cell? ⟨w.heap.size, 5, none⟩ = some (.int .u64 q36.gm) ∧ X.cell? ⟨w.heap.size, 6, none⟩ = some (.int .i64 q36.steps) ∧ X.cell? ⟨w.heap.size, 7, none⟩ = some (.int .u64 q36.sender) ∧ X.cell? ⟨w.heap.size, 8, none⟩ = some (.int .i64 q36.sport) ∧ X.cell? ⟨w.heap.size, 9, none⟩ = some (.int .u64 q36.recv) ∧ X.cell? ⟨w.heap.size, 10, none⟩ = some (.int .i64 q36.rport) ∧ X.cell? ⟨gp, 0, none⟩ = some (.bool true) ∧ X.cell? ⟨gp, 1, none⟩ = some (.int .i64 s36.p1) ∧ X.cell? ⟨gp, 2, none⟩ = some (.int .i64 s36.cls) ∧ X.cell? ⟨gp, 3, none⟩ = some (.int .i64 s36.acc) ∧ X.cell? ⟨gp, 4, none⟩ = some (.int .i64 s36.var) ∧ X.cell? ⟨gp, 5, none⟩ = some (.int .i64 s36.p2) ∧ X.cell? ⟨gp, 6, none⟩ = some (.int .u64 s36.gm) ∧ X.cell? ⟨gp, 7, none⟩ = some (.int .i64 s36.steps) ∧ X.cell? ⟨gp, 8, none⟩ = some (.int .u64 s36.sender) ∧ X.cell? ⟨gp, 9, none⟩ = some (.int .i64 s36.sport) ∧ X.cell? ⟨gp, 10, none⟩ = some (.int .u64 s36.recv) ∧ X.cell? ⟨gp, 11, none⟩ = some (.int .i64 s36.rport))
    (first | go_keep | exact HS.out _ hE.out | exact HS.out _ hD.out | exact HS.out _ hC.out | exact HS.out _ hB.out | exact HS.out _ hA.out)
    (first
      | (go_at_call 54; (with_reducible refine (equal_same [2] 1 g2 _ 1 1 rfl (by decide) _ ?_ ?_).mono ?_); exact R2.out.below ((Below.refl w4.heap.size w4).alloc (Nat.le_refl _) _).drew; exact RowAt.of (heap_alloc_new _ _) rfl; rintro e wA ⟨rfl, hx⟩; have hA := Lib.hid (below_then (((Below.refl w4.heap.size w4).alloc (Nat.le_refl _) _).drew) hx); clear hx)
      | (go_at_call 54; (with_reducible refine (equal_same [1] 1 g3 _ 1 1 rfl (by decide) _ ?_ ?_).mono ?_); exact R3.out.below (below_then hA.out ((Below.refl _ _).alloc (Nat.le_refl _) _)); exact RowAt.of (heap_alloc_new _ _) rfl; rintro e wB ⟨rfl, hx⟩; have hB := Lib.hid (below_then hA.out (below_then ((Below.refl _ _).alloc (Nat.le_refl _) _) hx)); clear hx)
      | (go_at_call 54; (with_reducible refine (equal_same [6, 3] 2 g4 _ 2 2 rfl (by decide) _ ?_ ?_).mono ?_); exact R4.out.below (below_then hB.out ((Below.refl _ _).alloc (Nat.le_refl _) _)); exact RowAt.of (heap_alloc_new _ _) rfl; rintro e wC ⟨rfl, hx⟩; have hC := Lib.hid (below_then hB.out (below_then ((Below.refl _ _).alloc (Nat.le_refl _) _) hx)); clear hx)
      | (go_at_call 28; (with_reducible refine (mas_two36 _ gp ?_).mono ?_); exact HP4.out.below hC.out; rintro e wD ⟨rfl, hx⟩; have hD := Lib.hid (below_then hC.out hx); clear hx)
      | (go_at_call 28; (with_reducible refine (mas_nil36 _).mono ?_); rintro e wE ⟨rfl, hx⟩; have hE := Lib.hid (below_then hD.out hx); clear hx)
      | (go_at_call 31; (with_reducible refine (ann36 _).mono ?_); rintro e wF ⟨rfl, rfl⟩))
  all_goals go_wp2
  all_goals go_ret
  all_goals exact ⟨rfl, below_then HB4.out hE.out⟩
end Go.Proofs.Ythehhcaohhlccaa
