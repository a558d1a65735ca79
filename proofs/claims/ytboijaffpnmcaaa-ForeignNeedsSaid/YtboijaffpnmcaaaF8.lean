/- slices.Delete of one record. -/
import Derived.WalkKit
import Derived.LoopTactic
import Derived.Outline
import Derived.Lib.Hide
import Derived.Deep.RegionLaw
import Derived.Lib.SliceRun
import Derived.Test.YtboijaffpnmcaaaF7
namespace Go.Proofs.Ytboijaffpnmcaaa
open Go.RowKit
set_option linter.unusedVariables false
set_option linter.unusedSimpArgs false

def setList (cs : Array Value) : Nat → List Value → Array Value
  | _, [] => cs
  | o, v :: r => setList (cs.setIfInBounds o v) (o + 1) r
theorem heap_sets {b : Nat} {t : TypeId} : ∀ (vs : List Value) (o : Nat) (w : World) (cs : Array Value), w.heap[b]? = some (.cells cs t (0, 0)) → (w.setCells b o vs).heap[b]? = some (.cells (setList cs o vs) t (0, 0))
  | [], _, _, _, h => h
  | v :: r, o, w, cs, h => heap_sets r (o + 1) _ _ (heap_set h o v)
theorem touch_sets {b : Nat} {u : World} : ∀ (vs : List Value) (o : Nat) (w : World), Touch b u w → Touch b u (w.setCells b o vs)
  | [], _, _, h => h
  | v :: r, o, w, h => touch_sets r (o + 1) _ (h.set o v)
theorem setList_size : ∀ (vs : List Value) (o : Nat) (cs : Array Value), (setList cs o vs).size = cs.size
  | [], _, _ => rfl
  | v :: r, o, cs => by rw [setList, setList_size r]; simp
theorem setList_get : ∀ (vs : List Value) (o : Nat) (cs : Array Value) (j : Nat), o + vs.length ≤ cs.size → (setList cs o vs)[j]? = if o ≤ j ∧ j < o + vs.length then vs[j - o]? else cs[j]?
  | [], o, cs, j, _ => by rw [setList, if_neg (by intro h; have := h.2; simp at this; omega)]
  | v :: r, o, cs, j, h => by
    simp only [List.length_cons] at h ⊢
    rw [setList, setList_get r (o + 1) _ j (by simp; omega)]
    by_cases h1 : j = o
    · subst h1
      rw [if_neg (by omega), if_pos (by omega), Nat.sub_self, Array.getElem?_setIfInBounds, if_pos rfl, if_pos (by omega)]
      rfl
    · by_cases h2 : o + 1 ≤ j ∧ j < o + 1 + r.length
      · rw [if_pos h2, if_pos (by omega), show j - o = (j - (o + 1)) + 1 from by omega]
        simp
      · rw [if_neg h2, if_neg (by omega), Array.getElem?_setIfInBounds_ne (by omega)]
def Rc.zero : Rc := ⟨0, 0, .zero, []⟩
theorem zeroRec (w : World) : (zeroValue 57).run Try.prog w = .ok (Rc.zero.v (.slice none 0 0)) w := by kernel_rfl
theorem infoRecB : (Try.prog.info? 57).map (fun i => (i.zero, i.size, i.bytes)) = some (some (Rc.zero.v (.slice none 0 0)), 14, 128) := by kernel_rfl
theorem run_clear_rec (w : World) (ty : TypeId) (b o c : Nat) (hc : ∀ j, j < 14 → (w.cell? ⟨b, o + j, none⟩).isSome = true) (hf : ∀ j, j < 14 → w.frozen? ⟨b, o + j, none⟩ = false) :
    (Builtin.clear_ #[50] ty #[.slice (some ⟨b, o, none⟩) 1 c]).run Try.prog w = .ok (.tuple #[]) (w.setCells b o (Rc.zero.cells (.slice none 0 0))) := by
  have hzc : (Builtin.zeroCells (Rc.zero.v (.slice none 0 0)).cells 1).toList = Rc.zero.cells (.slice none 0 0) := by kernel_rfl
  have hst := run_storeCells_cells (P := Try.prog) b o (Rc.zero.cells (.slice none 0 0)) 0 w (fun j hj => hc j hj) (fun j hj => hf j hj) (fun v hv => List.all_eq_true.1 (show (Rc.zero.cells (.slice none 0 0)).all (·.oneCell') = true from by kernel_rfl) v hv)
  simp only [Nat.add_zero] at hst
  simp [Builtin.clear_, run_underlying Try.underlying50, zeroRec]
  rw [show (Builtin.zeroCells (Value.agg #[Value.int IntKind.u64 0, Value.int IntKind.i64 0, Value.int IntKind.i64 0, Value.int IntKind.i64 0, Value.int IntKind.i64 0, Value.int IntKind.i64 0, Value.int IntKind.i64 0, Value.int IntKind.u64 0, Value.int IntKind.i64 0, Value.int IntKind.u64 0, Value.int IntKind.i64 0, Value.int IntKind.u64 0, Value.int IntKind.i64 0, Value.slice none 0 0]).cells 1).toList = Rc.zero.cells (.slice none 0 0) from hzc, hst]
  rfl
theorem rows_drop : ∀ (k : Nat) (l : List Rc) (hs : List Value), hs.length = l.length → (rowsF l hs).drop (k * 14) = rowsF (l.drop k) (hs.drop k)
  | 0, l, hs, _ => by simp
  | k + 1, [], hs, h => by
    have : hs = [] := List.length_eq_zero_iff.1 h
    subst this
    simp [rowsF]
  | k + 1, a :: l, [], h => by simp at h
  | k + 1, a :: l, b :: hs, h => by
    rw [rowsF, show (k + 1) * 14 = (a.cells b).length + k * 14 from by rw [rec_len]; omega, List.drop_length_add_append]
    simpa using rows_drop k l hs (by simpa using h)
theorem rows_take : ∀ (k : Nat) (l : List Rc) (hs : List Value), hs.length = l.length → (rowsF l hs).take (k * 14) = rowsF (l.take k) (hs.take k)
  | 0, l, hs, _ => by simp [rowsF]
  | k + 1, [], hs, h => by
    have : hs = [] := List.length_eq_zero_iff.1 h
    subst this
    simp [rowsF]
  | k + 1, a :: l, [], h => by simp at h
  | k + 1, a :: l, b :: hs, h => by
    rw [rowsF, show (k + 1) * 14 = (a.cells b).length + k * 14 from by rw [rec_len]; omega, List.take_length_add_append]
    have := rows_take k l hs (by simpa using h)
    simp [rowsF, this]
theorem rows_len : ∀ (l : List Rc) (hs : List Value), hs.length = l.length → (rowsF l hs).length = l.length * 14
  | [], _, _ => by simp [rowsF]
  | a :: l, [], h => by simp at h
  | a :: l, b :: hs, h => by
    rw [rowsF, List.length_append, rec_len, rows_len l hs (by simpa using h)]
    simp; omega
theorem rows_append : ∀ (l l' : List Rc) (hs hs' : List Value), hs.length = l.length → rowsF (l ++ l') (hs ++ hs') = rowsF l hs ++ rowsF l' hs'
  | [], l', hs, hs', h => by
    have : hs = [] := List.length_eq_zero_iff.1 h
    subst this
    simp [rowsF]
  | a :: l, l', [], hs', h => by simp at h
  | a :: l, l', b :: hs, hs', h => by
    simp only [List.cons_append, rowsF, rows_append l l' hs hs' (by simpa using h), List.append_assoc]
end Go.Proofs.Ytboijaffpnmcaaa
