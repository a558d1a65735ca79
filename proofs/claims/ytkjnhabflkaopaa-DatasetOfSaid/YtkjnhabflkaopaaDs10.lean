/- The walk of the examples of chapter 34. -/
import Derived.WalkKit
import Derived.LoopTactic
import Derived.Outline
import Derived.Lib.Hide
import Derived.Test.YtkjnhabflkaopaaDs8
import Derived.Test.YtkjnhabflkaopaaDs9
namespace Go.Proofs.Ytkjnhabflkaopaa
open Go.RowKit
set_option linter.unusedVariables false
set_option linter.unusedSimpArgs false

def exA : DS := ⟨0, 0, 0, 0, 0, 1, 1, 0, 0, 0, 0⟩
def exB : DS := ⟨0, 0, 0, 0, 0, 1, 3, 0, 0, 0, 0⟩
def exC : DS := ⟨128, 6, 0, 0, 0, 9, 20, 0, 0, 0, 0⟩
def exD : DS := ⟨128, 7, 0, 0, 0, 2, 0, 0, 0, 0, 0⟩
def exO : DS := ⟨1, 0, 0, 0, 5, 7, 0, 7, 0, 7, 0⟩
theorem ex1 (w : World) : Calls Try.prog 43 #[exA.v, exB.v] w fun e w' => e = .returned (.int .i64 1) ∧ Below w.heap.size w w' := compare_calls exA exB (by unfold I64; decide) (by unfold I64; decide) w
theorem ex2 (w : World) : Calls Try.prog 43 #[exC.v, exD.v] w fun e w' => e = .returned (.int .i64 1) ∧ Below w.heap.size w w' := compare_calls exC exD (by unfold I64; decide) (by unfold I64; decide) w
theorem ex3 (w : World) : Calls Try.prog 44 #[exC.v, exD.v] w fun e w' => e = .returned (.bool true) ∧ Below w.heap.size w w' := less_any exC exD w
theorem ex4 (w : World) : Calls Try.prog 44 #[exD.v, exC.v] w fun e w' => e = .returned (.bool false) ∧ Below w.heap.size w w' := less_any exD exC w
theorem ex5 (w : World) : Calls Try.prog 42 #[(⟨1, 0, 0, 0, 5⟩ : Qual).v, .int .u64 7] w fun e w' => e = .returned exO.v ∧ Below w.heap.size w w' := own_any ⟨1, 0, 0, 0, 5⟩ 7 w
theorem ex6 (w : World) : Calls Try.prog 43 #[exO.v, exO.v] w fun e w' => e = .returned (.int .i64 0) ∧ Below w.heap.size w w' := compare_calls exO exO (by unfold I64; decide) (by unfold I64; decide) w
theorem ex7 (w : World) (b c : Nat) (hr : DSRow w b 0 [exD, exC, exC]) : Calls Try.prog 45 #[.slice (some ⟨b, 0, none⟩) 3 c] w fun e w' => e = .returned (.int .i64 1) ∧ Below w.heap.size w w' := best_any [exD, exC, exC] b 0 c w (by decide) hr

/-- The cells of a data set, and of a list of them. -/
def DS.cells (d : DS) : List Value := [.int .i64 d.p1, .int .i64 d.cls, .int .i64 d.acc, .int .i64 d.var, .int .i64 d.p2, .int .u64 d.gm, .int .i64 d.steps, .int .u64 d.sender, .int .i64 d.sport, .int .u64 d.recv, .int .i64 d.rport]
theorem flat_at (l : List DS) (i j : Nat) (hi : i < l.length) (hj : j < 11) : (l.flatMap DS.cells)[i * 11 + j]? = (l.getD i .zero).cells[j]? := by
  induction l generalizing i with
  | nil => simp at hi
  | cons d l ih =>
    rw [List.flatMap_cons]
    cases i with
    | zero =>
      rw [List.getElem?_append_left (by simp [DS.cells]; omega)]
      simp
    | succ i =>
      rw [List.getElem?_append_right (by simp [DS.cells]; omega)]
      have := ih i (by simpa using hi)
      simp only [List.getD_cons_succ]
      rw [← this]
      congr 1
      simp [DS.cells]
      omega
theorem DSRow.of {w : World} {g : Nat} {cs : Array Value} {t : TypeId} (h : w.heap[g]? = some (.cells cs t (0, 0))) (l : List DS) (hc : cs = (l.flatMap DS.cells).toArray) : DSRow w g 0 l := by
  intro i hi
  have hx : ∀ j, j < 11 → w.cell? ⟨g, 0 + i * 11 + j, none⟩ = (l.getD i .zero).cells[j]? := fun j hj => by
    rw [cell_of_row w g _ _ _ (0, 0) h, hc, Nat.zero_add, ← flat_at l i j hi hj]
    simp
  exact ⟨hx 0 (by omega), hx 1 (by omega), hx 2 (by omega), hx 3 (by omega), hx 4 (by omega), hx 5 (by omega), hx 6 (by omega), hx 7 (by omega), hx 8 (by omega), hx 9 (by omega), hx 10 (by omega)⟩
theorem BoxAt.aft {w : World} {b : Nat} {d : DS} (h : BoxAt w b d) :
  (∀ u : Aft w, u.now.cell? ⟨b, 0, none⟩ = some (.int .i64 d.p1)) ∧ (∀ u : Aft w, u.now.cell? ⟨b, 1, none⟩ = some (.int .i64 d.cls)) ∧ (∀ u : Aft w, u.now.cell? ⟨b, 2, none⟩ = some (.int .i64 d.acc)) ∧ (∀ u : Aft w, u.now.cell? ⟨b, 3, none⟩ = some (.int .i64 d.var)) ∧ (∀ u : Aft w, u.now.cell? ⟨b, 4, none⟩ = some (.int .i64 d.p2)) ∧ (∀ u : Aft w, u.now.cell? ⟨b, 5, none⟩ = some (.int .u64 d.gm)) ∧ (∀ u : Aft w, u.now.cell? ⟨b, 6, none⟩ = some (.int .i64 d.steps)) ∧ (∀ u : Aft w, u.now.cell? ⟨b, 7, none⟩ = some (.int .u64 d.sender)) ∧ (∀ u : Aft w, u.now.cell? ⟨b, 8, none⟩ = some (.int .i64 d.sport)) ∧ (∀ u : Aft w, u.now.cell? ⟨b, 9, none⟩ = some (.int .u64 d.recv)) ∧ (∀ u : Aft w, u.now.cell? ⟨b, 10, none⟩ = some (.int .i64 d.rport)) := by
  obtain ⟨h0, h1, h2, h3, h4, h5, h6, h7, h8, h9, h10⟩ := h
  exact ⟨fun u => u.cell h0, fun u => u.cell h1, fun u => u.cell h2, fun u => u.cell h3, fun u => u.cell h4, fun u => u.cell h5, fun u => u.cell h6, fun u => u.cell h7, fun u => u.cell h8, fun u => u.cell h9, fun u => u.cell h10⟩
/-- A contract that leaves what was there, met in a world after w, a block more having been made perhaps. -/
theorem calm_next {P : Program} {f : FuncId} {args : Array Value} {w x : World} {v : Value} (hx : Below w.heap.size w x)
    (h : Calls P f args x fun e w' => e = .returned v ∧ Below x.heap.size x w') : Calls P f args x fun e w'' => e = .returned v ∧ ∃ u' : Aft w, w'' = u'.now :=
  h.mono fun _ w' ⟨he, hb⟩ => ⟨he, ⟨w', below_then hx hb⟩, rfl⟩

set_option maxHeartbeats 800000 in
theorem awake34 (w : World) : Calls Try.prog 20 #[] w fun e w' => e = .returned (.bool true) ∧ Below w.heap.size w w' := by
  have H1 := Lib.hid ex1
  have H2 := Lib.hid ex2
  have H3 := Lib.hid ex3
  have H4 := Lib.hid ex4
  have H5 := Lib.hid ex5
  have H6 := Lib.hid ex6
  have H7 := Lib.hid ex7
  go_enter Try.func20, Try.ntmps20
  go_wp2_with fail
  refine (H5.out _).mono ?_
  rintro e w1 ⟨rfl, hb⟩
  have hA : BoxAt w1 w.heap.size exA := (BoxAt.of (heap_alloc_old (heap_alloc_old (heap_alloc_old (heap_alloc_new w _) _) _) _)).below hb
  have hB : BoxAt w1 (w.heap.size + 1) exB := (BoxAt.of (heap_alloc_old (heap_alloc_old (heap_at (by simp)) _) _)).below hb
  have hC : BoxAt w1 (w.heap.size + 1 + 1) exC := (BoxAt.of (heap_alloc_old (heap_at (by simp)) _)).below hb
  have hD : BoxAt w1 (w.heap.size + 1 + 1 + 1) exD := (BoxAt.of (heap_at (by simp))).below hb
  have hw1 : Below w.heap.size w w1 := (((((Below.refl _ _).alloc (Nat.le_refl _) _).alloc (by simp) _).alloc (by simp; omega) _).alloc (by simp; omega) _).trans (hb.mono (by simp; omega))
  have HW1 := Lib.hid hw1
  have hsz : w.heap.size + 1 + 1 + 1 + 1 ≤ w1.heap.size := by have := hb.size; simpa using this
  have hn0 : w.heap.size < w1.heap.size := by omega
  have hn1 : w.heap.size + 1 < w1.heap.size := by omega
  clear hw1 hb hsz
  have kA := Lib.hid hA
  have kB := Lib.hid hB
  have kC := Lib.hid hC
  have kD := Lib.hid hD
  clear hC hD
  obtain ⟨a0, a1, a2, a3, a4, a5, a6, a7, a8, a9, a10⟩ := hA
  obtain ⟨b0, b1, b2, b3, b4, b5, b6, b7, b8, b9, b10⟩ := hB
  go_wp2_with fail
  generalize hW : w1.alloc _ = W
  have hb1 : Below w1.heap.size w1 W := by rw [← hW]; exact (Below.refl _ _).alloc (Nat.le_refl _) _
  have hO : BoxAt W w1.heap.size exO := by rw [← hW]; exact BoxAt.of (heap_alloc_new w1 _)
  have hw : Below w.heap.size w W := below_then HW1.out hb1
  have HW := Lib.hid hw
  clear hn0 hn1
  clear a0 a1 a2 a3 a4 a5 a6 a7 a8 a9 a10 b0 b1 b2 b3 b4 b5 b6 b7 b8 b9 b10 hW hw HW1
  obtain ⟨c0, c1, c2, c3, c4, c5, c6, c7, c8, c9, c10⟩ := (kC.out.below hb1).aft
  obtain ⟨d0, d1, d2, d3, d4, d5, d6, d7, d8, d9, d10⟩ := (kD.out.below hb1).aft
  obtain ⟨o0, o1, o2, o3, o4, o5, o6, o7, o8, o9, o10⟩ := hO.aft
  clear hO kA kB kC kD hb1
  refine (calm_next (w := W) (Below.refl _ _) (H1.out _)).mono ?_
  rintro e _ ⟨rfl, u1, rfl⟩
  go_wp2_with fail
  refine (calm_of (H2.out _)).mono ?_
  rintro e _ ⟨rfl, u2, rfl⟩
  go_wp2_with fail
  refine (calm_of (H3.out _)).mono ?_
  rintro e _ ⟨rfl, u3, rfl⟩
  go_wp2_with fail
  refine (calm_of (H4.out _)).mono ?_
  rintro e _ ⟨rfl, u4, rfl⟩
  go_wp2_with fail
  refine (calm_of (best_nil _ _ _)).mono ?_
  rintro e _ ⟨rfl, u5, rfl⟩
  have he : ∀ w, (binOp .eql 44 exO.v (.agg #[.int .i64 1, .int .i64 0, .int .i64 0, .int .i64 0, .int .i64 5, .int .u64 7, .int .i64 0, .int .u64 7, .int .i64 0, .int .u64 7, .int .i64 0])).run Try.prog w = .ok (.bool true) w := fun w => eql_ds exO exO w
  go_wp2_with fail
  refine (calm_next (w := W) (below_then u5.below ((Below.refl _ _).alloc (Nat.le_refl _) _)) (H7.out _ _ _ (DSRow.of (heap_alloc_new _ _) _ rfl))).mono ?_
  rintro e _ ⟨rfl, u6, rfl⟩
  go_wp2_with fail
  refine (calm_of (H6.out _)).mono ?_
  rintro e _ ⟨rfl, u7, rfl⟩
  go_wp2_with fail
  go_ret
  exact ⟨rfl, below_then HW.out u7.below⟩
end Go.Proofs.Ytkjnhabflkaopaa
