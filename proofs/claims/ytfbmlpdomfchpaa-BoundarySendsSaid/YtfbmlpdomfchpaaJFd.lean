/- Several texts in one: F7, F8. -/
import Derived.WalkKit
import Derived.LoopTactic
import Derived.Outline
import Derived.Lib.Hide
import Derived.Test.YtfbmlpdomfchpaaJFc
import Derived.Deep.RegionLaw
import Derived.Lib.SliceRun
import Derived.Test.YtfbmlpdomfchpaaE4
/- Messages that are refused. -/
namespace Go.Proofs.Ytfbmlpdomfchpaa
open Go.RowKit
set_option linter.unusedVariables false
set_option linter.unusedSimpArgs false

def hearE (f : Fr) (d : DS) (at_ : Int) : Int := if at_ < 0 ∨ 1125899906842624 < at_ then 3 else if at_ < f.last then 12 else if d.sender = d.recv then 18 else if 32 ≤ d.steps then 3 else 0
theorem hear_nil (d : DS) (at_ : Int) (w : World) : Calls Try.prog 43 #[.pointer none, d.v, .int .i64 at_] w fun e w' => e = .returned (.int .i64 1) ∧ Below w.heap.size w w' := by
  go_enter Try.func43, Try.ntmps43
  go_wp2_with fail
  go_ret
  exact ⟨rfl, (Below.refl _ _).alloc (Nat.le_refl _) _⟩
set_option maxHeartbeats 2000000 in
theorem hear_bad {f : Fr} {base b : Nat} {lv : Value} {hs : List Value} {w : World} (hF : FrAt w base b f lv hs) (d : DS) (at_ : Int) (he : hearE f d at_ ≠ 0) :
    Calls Try.prog 43 #[.pointer (some ⟨b, 0, none⟩), d.v, .int .i64 at_] w fun e w' => e = .returned (.int .i64 (hearE f d at_)) ∧ Below w.heap.size w w' := by
  have c2 : w.cell? ⟨b, 2, none⟩ = some (.int .i64 f.last) := hF.cell 2
  have hbl := hF.lt
  obtain ⟨r, hr⟩ : ∃ r, hearE f d at_ = r := ⟨_, rfl⟩
  rw [hr] at he ⊢
  have HR := Lib.hid hr
  have HE := Lib.hid he
  clear hF hr he
  by_cases g0 : at_ < 0
  · have e : r = 3 := by rw [← HR.out]; simp [hearE, g0]
    subst e
    have d0 : decide (at_ < 0) = true := by simpa using g0
    go_enter Try.func43, Try.ntmps43
    go_wp2_with fail
    go_ret
    exact ⟨rfl, (Below.refl _ _).alloc (Nat.le_refl _) _⟩
  have d0 : decide (at_ < 0) = false := by simpa using g0
  by_cases g1 : 1125899906842624 < at_
  · have e : r = 3 := by rw [← HR.out]; simp [hearE, g1]
    subst e
    have d1 : decide (1125899906842624 < at_) = true := by simpa using g1
    go_enter Try.func43, Try.ntmps43
    go_wp2_with fail
    go_ret
    exact ⟨rfl, (Below.refl _ _).alloc (Nat.le_refl _) _⟩
  have d1 : decide (1125899906842624 < at_) = false := by simpa using g1
  by_cases g2 : at_ < f.last
  · have e : r = 12 := by rw [← HR.out]; simp [hearE, g0, g1, g2]
    subst e
    have d2 : decide (at_ < f.last) = true := by simpa using g2
    go_enter Try.func43, Try.ntmps43
    go_wp2_with fail
    go_ret
    exact ⟨rfl, (Below.refl _ _).alloc (Nat.le_refl _) _⟩
  have d2 : decide (at_ < f.last) = false := by simpa using g2
  by_cases g3 : d.sender = d.recv
  · have e : r = 18 := by rw [← HR.out]; simp [hearE, g0, g1, g2, g3]
    subst e
    have d3 : (d.sender == d.recv) = true := by simpa using g3
    go_enter Try.func43, Try.ntmps43
    go_wp2_with fail
    go_ret
    exact ⟨rfl, (Below.refl _ _).alloc (Nat.le_refl _) _⟩
  have d3 : (d.sender == d.recv) = false := by simpa using g3
  by_cases g4 : 32 ≤ d.steps
  · have e : r = 3 := by rw [← HR.out]; simp [hearE, g0, g1, g2, g3, g4]
    subst e
    have d4 : decide (32 ≤ d.steps) = true := by simpa using g4
    go_enter Try.func43, Try.ntmps43
    go_wp2_with fail
    go_ret
    exact ⟨rfl, (Below.refl _ _).alloc (Nat.le_refl _) _⟩
  exact absurd (by rw [← HR.out]; simp [hearE, g0, g1, g2, g3, g4]) HE.out
end Go.Proofs.Ytfbmlpdomfchpaa
/- slices.Delete of one record. -/
namespace Go.Proofs.Ytfbmlpdomfchpaa
open Go.RowKit
set_option linter.unusedVariables false
set_option linter.unusedSimpArgs false

theorem touch_sets {b : Nat} {u : World} : ∀ (vs : List Value) (o : Nat) (w : World), Touch b u w → Touch b u (w.setCells b o vs)
  | [], _, _, h => h
  | v :: r, o, w, h => touch_sets r (o + 1) _ (h.set o v)
theorem setList_size : ∀ (vs : List Value) (o : Nat) (cs : Array Value), (setList cs o vs).size = cs.size
  | [], _, _ => rfl
  | v :: r, o, cs => by rw [setList, setList_size r]; simp
theorem setList_get : ∀ (vs : List Value) (o : Nat) (cs : Array Value) (j : Nat), o + vs.length ≤ cs.size → (setList cs o vs)[j]? = if o ≤ j ∧ j < o + vs.length then vs[j - o]? else cs[j]?
  | [], o, cs, j, _ => by rw [setList, if_neg (by intro h; have := h.2; simp at this; omega)]
  | v :: r, o, cs, j, h => by
    simp only [List.length_cons] at h ⊢
    rw [setList, setList_get r (o + 1) _ j (by simp; omega)]
    by_cases h1 : j = o
    · subst h1
      rw [if_neg (by omega), if_pos (by omega), Nat.sub_self, Array.getElem?_setIfInBounds, if_pos rfl, if_pos (by omega)]
      rfl
    · by_cases h2 : o + 1 ≤ j ∧ j < o + 1 + r.length
      · rw [if_pos h2, if_pos (by omega), show j - o = (j - (o + 1)) + 1 from by omega]
        simp
      · rw [if_neg h2, if_neg (by omega), Array.getElem?_setIfInBounds_ne (by omega)]
def Rc.zero : Rc := ⟨0, 0, .zero, []⟩
theorem zeroRec (w : World) : (zeroValue 117).run Try.prog w = .ok (Rc.zero.v (.slice none 0 0)) w := by kernel_rfl
theorem infoRecB : (Try.prog.info? 117).map (fun i => (i.zero, i.size, i.bytes)) = some (some (Rc.zero.v (.slice none 0 0)), 14, 128) := by kernel_rfl
theorem run_clear_rec (w : World) (ty : TypeId) (b o c : Nat) (hc : ∀ j, j < 14 → (w.cell? ⟨b, o + j, none⟩).isSome = true) (hf : ∀ j, j < 14 → w.frozen? ⟨b, o + j, none⟩ = false) :
    (Builtin.clear_ #[98] ty #[.slice (some ⟨b, o, none⟩) 1 c]).run Try.prog w = .ok (.tuple #[]) (w.setCells b o (Rc.zero.cells (.slice none 0 0))) := by
  have hzc : (Builtin.zeroCells (Rc.zero.v (.slice none 0 0)).cells 1).toList = Rc.zero.cells (.slice none 0 0) := by kernel_rfl
  have hst := run_storeCells_cells (P := Try.prog) b o (Rc.zero.cells (.slice none 0 0)) 0 w (fun j hj => hc j hj) (fun j hj => hf j hj) (fun v hv => List.all_eq_true.1 (show (Rc.zero.cells (.slice none 0 0)).all (·.oneCell') = true from by kernel_rfl) v hv)
  simp only [Nat.add_zero] at hst
  simp [Builtin.clear_, run_underlying Try.underlying98, zeroRec]
  rw [show (Builtin.zeroCells (Value.agg #[Value.int IntKind.u64 0, Value.int IntKind.i64 0, Value.int IntKind.i64 0, Value.int IntKind.i64 0, Value.int IntKind.i64 0, Value.int IntKind.i64 0, Value.int IntKind.i64 0, Value.int IntKind.u64 0, Value.int IntKind.i64 0, Value.int IntKind.u64 0, Value.int IntKind.i64 0, Value.int IntKind.u64 0, Value.int IntKind.i64 0, Value.slice none 0 0]).cells 1).toList = Rc.zero.cells (.slice none 0 0) from hzc, hst]
  rfl
theorem rows_drop : ∀ (k : Nat) (l : List Rc) (hs : List Value), hs.length = l.length → (rowsF l hs).drop (k * 14) = rowsF (l.drop k) (hs.drop k)
  | 0, l, hs, _ => by simp
  | k + 1, [], hs, h => by
    have : hs = [] := List.length_eq_zero_iff.1 h
    subst this
    simp [rowsF]
  | k + 1, a :: l, [], h => by simp at h
  | k + 1, a :: l, b :: hs, h => by
    rw [rowsF, show (k + 1) * 14 = (a.cells b).length + k * 14 from by rw [rec_len]; omega, List.drop_length_add_append]
    simpa using rows_drop k l hs (by simpa using h)
theorem rows_take : ∀ (k : Nat) (l : List Rc) (hs : List Value), hs.length = l.length → (rowsF l hs).take (k * 14) = rowsF (l.take k) (hs.take k)
  | 0, l, hs, _ => by simp [rowsF]
  | k + 1, [], hs, h => by
    have : hs = [] := List.length_eq_zero_iff.1 h
    subst this
    simp [rowsF]
  | k + 1, a :: l, [], h => by simp at h
  | k + 1, a :: l, b :: hs, h => by
    rw [rowsF, show (k + 1) * 14 = (a.cells b).length + k * 14 from by rw [rec_len]; omega, List.take_length_add_append]
    have := rows_take k l hs (by simpa using h)
    simp [rowsF, this]
theorem rows_len : ∀ (l : List Rc) (hs : List Value), hs.length = l.length → (rowsF l hs).length = l.length * 14
  | [], _, _ => by simp [rowsF]
  | a :: l, [], h => by simp at h
  | a :: l, b :: hs, h => by
    rw [rowsF, List.length_append, rec_len, rows_len l hs (by simpa using h)]
    simp; omega
theorem rows_append : ∀ (l l' : List Rc) (hs hs' : List Value), hs.length = l.length → rowsF (l ++ l') (hs ++ hs') = rowsF l hs ++ rowsF l' hs'
  | [], l', hs, hs', h => by
    have : hs = [] := List.length_eq_zero_iff.1 h
    subst this
    simp [rowsF]
  | a :: l, l', [], hs', h => by simp at h
  | a :: l, l', b :: hs, hs', h => by
    simp only [List.cons_append, rowsF, rows_append l l' hs hs' (by simpa using h), List.append_assoc]
end Go.Proofs.Ytfbmlpdomfchpaa
