/- Several texts in one: Ds1, Ds2, Ds3. -/
import Derived.WalkKit
import Derived.Test.YtfbmlpdomfchpaaProg
import Derived.Test.YtfbmlpdomfchpaaJPl
import Derived.LoopTactic
import Derived.Outline
import Derived.Lib.Hide
import Derived.WideLaws
/- The walks of package dataset: order, verdict, compare. -/
namespace Go.Proofs.Ytfbmlpdomfchpaa
open Go.RowKit

theorem cmpI_lt {a b : Int} (h : a < b) : cmpI a b = -1 := by simp [cmpI, h]
theorem cmpI_gt {a b : Int} (h : b < a) : cmpI a b = 1 := by simp [cmpI, h, show ¬ a < b from by omega]
theorem cmpI_eq {a b : Int} (h1 : ¬ a < b) (h2 : ¬ b < a) : cmpI a b = 0 := by simp [cmpI, h1, h2]
theorem ret_int {k : IntKind} {a b : Int} (h : a = b) : Ending.returned (.int k a) = .returned (.int k b) := by rw [h]
theorem ret_bool {a b : Bool} (h : a = b) : Ending.returned (.bool a) = .returned (.bool b) := by rw [h]

theorem order_int (a b : Int) (w : World) : Calls Try.prog 49 #[.int .i64 a, .int .i64 b] w fun e w' => e = .returned (.int .i64 (cmpI a b)) ∧ w = w' := by
  by_cases h1 : a < b
  · go_enter Try.func49, Try.ntmps49
    go_wp2
    go_ret
    exact ⟨ret_int (cmpI_lt h1).symm, rfl⟩
  · by_cases h2 : b < a
    · go_enter Try.func49, Try.ntmps49
      go_wp2
      go_ret
      exact ⟨ret_int (cmpI_gt h2).symm, rfl⟩
    · go_enter Try.func49, Try.ntmps49
      go_wp2
      go_ret
      exact ⟨ret_int (cmpI_eq (by omega) (by omega)).symm, rfl⟩
theorem order_u64 (a b : Int) (w : World) : Calls Try.prog 50 #[.int .u64 a, .int .u64 b] w fun e w' => e = .returned (.int .i64 (cmpI a b)) ∧ w = w' := by
  by_cases h1 : a < b
  · go_enter Try.func50, Try.ntmps50
    go_wp2
    go_ret
    exact ⟨ret_int (cmpI_lt h1).symm, rfl⟩
  · by_cases h2 : b < a
    · go_enter Try.func50, Try.ntmps50
      go_wp2
      go_ret
      exact ⟨ret_int (cmpI_gt h2).symm, rfl⟩
    · go_enter Try.func50, Try.ntmps50
      go_wp2
      go_ret
      exact ⟨ret_int (cmpI_eq (by omega) (by omega)).symm, rfl⟩
/-- A data set as a value. -/
abbrev DS.v (d : DS) : Value := .agg #[.int .i64 d.p1, .int .i64 d.cls, .int .i64 d.acc, .int .i64 d.var, .int .i64 d.p2, .int .u64 d.gm, .int .i64 d.steps, .int .u64 d.sender, .int .i64 d.sport, .int .u64 d.recv, .int .i64 d.rport]

theorem compare_any (a b : DS) (k : Nat) (hk : k < 11) (w : World) : Calls Try.prog 29 #[a.v, b.v, .int .i64 k] w fun e w' => e = .returned (.int .i64 (cmpI (fld a k) (fld b k))) ∧ Below w.heap.size w w' := by
  obtain rfl | rfl | rfl | rfl | rfl | rfl | rfl | rfl | rfl | rfl | rfl : k = 0 ∨ k = 1 ∨ k = 2 ∨ k = 3 ∨ k = 4 ∨ k = 5 ∨ k = 6 ∨ k = 7 ∨ k = 8 ∨ k = 9 ∨ k = 10 := by omega
  all_goals
    go_enter Try.func29, Try.ntmps29
    go_wp2_with (first | (go_at_call 49; refine (order_int _ _ _).mono ?_; rintro e w' ⟨rfl, rfl⟩) | (go_at_call 50; refine (order_u64 _ _ _).mono ?_; rintro e w' ⟨rfl, rfl⟩))
    go_ret
    exact ⟨rfl, ((Below.refl _ _).alloc (Nat.le_refl _) _).alloc (by simp) _⟩

end Go.Proofs.Ytfbmlpdomfchpaa
/- The walks of package dataset: lists, Less, Compare. -/
namespace Go.Proofs.Ytfbmlpdomfchpaa
open Go.RowKit

/-- A list of whole numbers lies at an address. -/
def RowAt (w : World) (b : Nat) (fs : List Int) : Prop := ∀ j, j < fs.length → w.cell? ⟨b, j, none⟩ = some (.int .i64 (fs.getD j 0))

theorem RowAt.below {w w1 : World} {b : Nat} {fs : List Int} (h : RowAt w b fs) (hb : Below w.heap.size w w1) : RowAt w1 b fs := fun j hj => (hb.cell (World.block_lt_of_cell? w _ (h j hj))).trans (h j hj)

theorem listsF_drop (a b : DS) (fs : List Int) (k : Nat) (hk : k < fs.length) : listsF a b (fs.drop k) = if cmpI (fld a (fs.getD k 0)) (fld b (fs.getD k 0)) = 0 then listsF a b (fs.drop (k + 1)) else cmpI (fld a (fs.getD k 0)) (fld b (fs.getD k 0)) := by
  rw [List.drop_eq_getElem_cons hk, listsF, List.getD_eq_getElem?_getD, List.getElem?_eq_getElem hk]; rfl

/-- A data set lies in a block of its own. -/
def BoxAt (w : World) (g : Nat) (d : DS) : Prop :=
  w.cell? ⟨g, 0, none⟩ = some (.int .i64 d.p1) ∧ w.cell? ⟨g, 1, none⟩ = some (.int .i64 d.cls) ∧ w.cell? ⟨g, 2, none⟩ = some (.int .i64 d.acc) ∧ w.cell? ⟨g, 3, none⟩ = some (.int .i64 d.var) ∧ w.cell? ⟨g, 4, none⟩ = some (.int .i64 d.p2) ∧ w.cell? ⟨g, 5, none⟩ = some (.int .u64 d.gm) ∧ w.cell? ⟨g, 6, none⟩ = some (.int .i64 d.steps) ∧ w.cell? ⟨g, 7, none⟩ = some (.int .u64 d.sender) ∧ w.cell? ⟨g, 8, none⟩ = some (.int .i64 d.sport) ∧ w.cell? ⟨g, 9, none⟩ = some (.int .u64 d.recv) ∧ w.cell? ⟨g, 10, none⟩ = some (.int .i64 d.rport)
theorem cell_below {w w1 : World} (hb : Below w.heap.size w w1) {a : Addr} {v : Value} (hc : w.cell? a = some v) : w1.cell? a = some v := (hb.cell (World.block_lt_of_cell? w a hc)).trans hc
theorem BoxAt.below {w w1 : World} {g : Nat} {d : DS} (h : BoxAt w g d) (hb : Below w.heap.size w w1) : BoxAt w1 g d := by
  obtain ⟨h0, h1, h2, h3, h4, h5, h6, h7, h8, h9, h10⟩ := h
  exact ⟨cell_below hb h0, cell_below hb h1, cell_below hb h2, cell_below hb h3, cell_below hb h4, cell_below hb h5, cell_below hb h6, cell_below hb h7, cell_below hb h8, cell_below hb h9, cell_below hb h10⟩
theorem BoxAt.of {w : World} {g : Nat} {d : DS} {t : TypeId} (h : w.heap[g]? = some (.cells #[.int .i64 d.p1, .int .i64 d.cls, .int .i64 d.acc, .int .i64 d.var, .int .i64 d.p2, .int .u64 d.gm, .int .i64 d.steps, .int .u64 d.sender, .int .i64 d.sport, .int .u64 d.recv, .int .i64 d.rport] t (0, 0))) : BoxAt w g d := by
  refine ⟨?_, ?_, ?_, ?_, ?_, ?_, ?_, ?_, ?_, ?_, ?_⟩ <;> (rw [cell_of_row w g _ _ t (0, 0) h]; rfl)
theorem heap_alloc_old {w : World} {g : Nat} {o : Obj} (h : w.heap[g]? = some o) (o' : Obj) : (w.alloc o').heap[g]? = some o :=
  (Below.heap_alloc w o' g (Array.getElem?_eq_some_iff.1 h).1).trans h

set_option maxHeartbeats 400000 in
theorem lists_any (a b : DS) (g : Nat) (c : Nat) (fs : List Int) (hfs : ∀ x ∈ fs, 0 ≤ x ∧ x < 11) (hl : fs.length ≤ 1000) (w : World) (hr : RowAt w g fs) :
    Calls Try.prog 30 #[.agg #[.func (.func 29) #[] #[]], a.v, b.v, .slice (some ⟨g, 0, none⟩) fs.length c] w fun e w' => e = .returned (.int .i64 (listsF a b fs)) ∧ Below w.heap.size w w' := by
  have HR := Lib.hid hr
  have HF := Lib.hid hfs
  clear hr hfs
  go_enter Try.func30, Try.ntmps30
  go_wp2
  go_loopw [14] (fun i wr => ∃ k : Nat, k ≤ fs.length ∧ i = .int .i64 k ∧ listsF a b fs = listsF a b (fs.drop k) ∧ Below w.heap.size w wr ∧ w.heap.size + 3 ≤ wr.heap.size ∧ wr.cell? ⟨w.heap.size, 0, none⟩ = some (.func (.func 29) #[] #[]) ∧ BoxAt wr (w.heap.size + 1) a ∧ BoxAt wr (w.heap.size + 1 + 1) b) (fun i _ => fs.length - (intOf i).toNat)
  case atStart =>
    refine ⟨0, Nat.zero_le _, rfl, rfl, (((Below.refl _ _).alloc (Nat.le_refl _) _).alloc (by simp) _).alloc (by simp; omega) _, by simp, ?_, ?_, ?_⟩
    · exact (cell_of_row _ _ 0 _ _ (0, 0) (heap_alloc_old (heap_alloc_old (heap_alloc_new w _) _) _)).trans rfl
    · exact BoxAt.of (heap_alloc_old (by simpa using heap_alloc_new (w.alloc (.cells #[.func (.func 29) #[] #[]] 82)) _) _)
    · exact BoxAt.of (by simpa using heap_alloc_new ((w.alloc (.cells #[.func (.func 29) #[] #[]] 82)).alloc _) _)
  case round =>
    obtain ⟨k, hk, rfl, he, hb, hsz, hf, hA, hB⟩ := hrel
    have HE := Lib.hid he
    have HB := Lib.hid hb
    have HA := Lib.hid hA
    have HB2 := Lib.hid hB
    clear he hb
    obtain ⟨a0, a1, a2, a3, a4, a5, a6, a7, a8, a9, a10⟩ := hA
    obtain ⟨b0, b1, b2, b3, b4, b5, b6, b7, b8, b9, b10⟩ := hB
    by_cases hlt : k < fs.length
    · obtain ⟨n, hn⟩ : ∃ n : Nat, fs.getD k 0 = n ∧ n < 11 := by
        have := HF.out (fs.getD k 0) (by rw [List.getD_eq_getElem?_getD, List.getElem?_eq_getElem hlt]; exact List.getElem_mem hlt)
        exact ⟨(fs.getD k 0).toNat, by omega, by omega⟩
      have hx : wr.cell? ⟨g, k, none⟩ = some (.int .i64 n) := by
        rw [← hn.1]; exact cell_below HB.out (HR.out k hlt)
      have hstep := listsF_drop a b fs k hlt
      rw [hn.1] at hstep
      have HS := Lib.hid hstep
      have HN := Lib.hid hn.1
      have hn11 := hn.2
      clear hstep hn
      go_wp2_with (go_at_call 29; refine (compare_any a b _ (by omega) _).mono ?_; rintro e w1 ⟨rfl, hb1⟩)
      · have hne : (cmpI (fld a n) (fld b n) != 0) = true := by assumption
        go_ret
        refine ⟨ret_int ?_, HB.out.trans (hb1.mono (by omega))⟩
        rw [HE.out, HS.out, if_neg (by simpa using hne)]
      · have heq : (cmpI (fld a n) (fld b n) != 0) = false := by assumption
        go_roundw
        case rel =>
          refine ⟨k + 1, by omega, by go_num, ?_, HB.out.trans (hb1.mono (by omega)), by have := hb1.size; omega, cell_below hb1 hf, HA.out.below hb1, HB2.out.below hb1⟩
          rw [HE.out, HS.out, if_pos (by simpa using heq)]
        case measure => simp [intOf]; omega
    · obtain rfl : k = fs.length := by omega
      go_wp2
      go_ret
      exact ⟨ret_int (by rw [HE.out]; simp [listsF]), HB.out⟩
end Go.Proofs.Ytfbmlpdomfchpaa
/- The walks of package dataset: Less, Compare; the reference's numbers, ints, longer. -/
namespace Go.Proofs.Ytfbmlpdomfchpaa
open Go.RowKit

theorem RowAt.of {w : World} {g : Nat} {fs : List Int} {t : TypeId} {cs : Array Value} (h : w.heap[g]? = some (.cells cs t (0, 0))) (hc : cs = (fs.map (Value.int .i64)).toArray) : RowAt w g fs := fun j hj => by
  rw [cell_of_row w g j _ _ (0, 0) h, hc]
  simp [List.getElem?_eq_getElem hj, List.getD_eq_getElem?_getD]

theorem less_any (a b : DS) (w : World) : Calls Try.prog 14 #[a.v, b.v] w fun e w' => e = .returned (.bool (lessB a b)) ∧ Below w.heap.size w w' := by
  have HL := fun w g c h => lists_any a b g c allF (by decide) (by decide) w h
  have HL := Lib.hid HL
  go_enter Try.func14, Try.ntmps14
  go_wp2_with fail
  refine (HL.out _ _ _ ?_).mono ?_
  · refine RowAt.of (t := 3) (cs := #[.int .i64 0, .int .i64 1, .int .i64 2, .int .i64 3, .int .i64 4, .int .i64 5, .int .i64 6, .int .i64 7, .int .i64 8, .int .i64 9, .int .i64 10]) (by simpa using heap_alloc_new ((w.alloc _).alloc _) _) rfl
  · rintro e w1 ⟨rfl, hb⟩
    go_wp2
    go_ret
    refine ⟨ret_bool ?_, ?_⟩
    · simp [lessB, lists_all]
    · exact ((((Below.refl _ _).alloc (Nat.le_refl _) _).alloc (by simp) _).alloc (by simp; omega) _).trans (hb.mono (by simp; omega))

end Go.Proofs.Ytfbmlpdomfchpaa
