/- slices.DeleteFunc of records: the laws. -/
import Derived.WalkKit
import Derived.Lib.Hide
import Derived.Deep.MidRow
import Derived.BigQuiet
import Derived.Test.YtboijaffpnmcaaaF13
namespace Go.Proofs.Ytboijaffpnmcaaa
open Go.RowKit
set_option linter.unusedVariables false
set_option linter.unusedSimpArgs false

/-- What stays of the first j records. -/
def keptTo (p : Rc → Bool) (l : List Rc) (hs : List Value) (j : Nat) : List (Rc × Value) := ((l.zip hs).take j).filter (fun x => !p x.1)
def keptL (p : Rc → Bool) (l : List Rc) (hs : List Value) : List (Rc × Value) := (l.zip hs).filter (fun x => !p x.1)
theorem zip_at {l : List Rc} {hs : List Value} {q : Nat} {r : Rc} {x : Value} (h1 : l[q]? = some r) (h2 : hs[q]? = some x) : (l.zip hs)[q]? = some (r, x) := List.getElem?_zip_eq_some.2 ⟨h1, h2⟩
theorem kept_next {p : Rc → Bool} {l : List Rc} {hs : List Value} {j : Nat} {r : Rc} {x : Value} (h1 : l[j]? = some r) (h2 : hs[j]? = some x) : keptTo p l hs (j + 1) = keptTo p l hs j ++ if p r = true then [] else [(r, x)] := by
  unfold keptTo
  rw [List.take_add_one, zip_at h1 h2]
  cases h : p r <;> simp [h]
theorem kept_all {p : Rc → Bool} {l : List Rc} {hs : List Value} (h : hs.length = l.length) : keptTo p l hs l.length = keptL p l hs := by
  unfold keptTo keptL
  rw [List.take_of_length_le (by simp [h])]
theorem kept_first {p : Rc → Bool} {l : List Rc} {hs : List Value} {i : Nat} {r : Rc} {x : Value} (h1 : l[i]? = some r) (h2 : hs[i]? = some x) (hp : p r = true) (hn : ∀ j a, j < i → l[j]? = some a → p a = false) : keptTo p l hs (i + 1) = (l.zip hs).take i := by
  rw [kept_next h1 h2, if_pos hp, List.append_nil]
  unfold keptTo
  rw [List.filter_eq_self]
  intro a ha
  obtain ⟨j, hj, rfl⟩ := List.getElem_of_mem ha
  rw [List.length_take] at hj
  have e : ((l.zip hs).take i)[j]? = some (((l.zip hs).take i)[j]'(by rw [List.length_take]; exact hj)) := List.getElem?_eq_getElem _
  rw [List.getElem?_take, if_pos (by omega), List.getElem?_zip_eq_some] at e
  rw [hn j _ (by omega) e.1]
  rfl
theorem kept_none {p : Rc → Bool} {l : List Rc} {hs : List Value} (h : hs.length = l.length) (hn : ∀ a ∈ l, p a = false) : (keptL p l hs).map (·.1) = l ∧ (keptL p l hs).map (·.2) = hs := by
  have e : keptL p l hs = l.zip hs := by
    unfold keptL
    rw [List.filter_eq_self]
    intro a ha
    rw [hn a.1 (List.of_mem_zip ha).1]
    rfl
  rw [e]
  exact ⟨List.map_fst_zip (by omega), List.map_snd_zip (by omega)⟩
/-- What stays comes from somewhere. -/
theorem sub_at {α : Type} {a b : List α} (h : List.Sublist a b) : ∃ σ : Nat → Nat, (∀ i j, σ i = σ j → i = j) ∧ ∀ i x, a[i]? = some x → b[σ i]? = some x := by
  induction h with
  | slnil => exact ⟨id, fun i j h => h, fun i x h => h⟩
  | cons c h ih =>
    obtain ⟨σ, h1, h2⟩ := ih
    exact ⟨fun i => σ i + 1, fun i j h => h1 i j (by have h : σ i + 1 = σ j + 1 := h; omega), fun i x h => by simpa using h2 i x h⟩
  | cons_cons c h ih =>
    obtain ⟨σ, h1, h2⟩ := ih
    refine ⟨fun i => match i with | 0 => 0 | i + 1 => σ i + 1, fun i j h => ?_, fun i x h => ?_⟩
    · cases i <;> cases j <;> simp at h ⊢
      exact h1 _ _ h
    · cases i with
      | zero => simpa using h
      | succ i => simpa using h2 i x (by simpa using h)
theorem kept_at (p : Rc → Bool) (l : List Rc) (hs : List Value) (h : hs.length = l.length) : ∃ σ : Nat → Nat, (∀ i j, σ i = σ j → i = j) ∧ (∀ i r, ((keptL p l hs).map (·.1))[i]? = some r → l[σ i]? = some r) ∧ (∀ i x, ((keptL p l hs).map (·.2))[i]? = some x → hs[σ i]? = some x) := by
  obtain ⟨σ, h1, h2⟩ := sub_at (show List.Sublist (keptL p l hs) (l.zip hs) from List.filter_sublist)
  refine ⟨σ, h1, fun i r hr => ?_, fun i x hx => ?_⟩
  · rw [List.getElem?_map, Option.map_eq_some_iff] at hr
    obtain ⟨a, ha, rfl⟩ := hr
    exact (List.getElem?_zip_eq_some.1 (h2 i a ha)).1
  · rw [List.getElem?_map, Option.map_eq_some_iff] at hx
    obtain ⟨a, ha, rfl⟩ := hx
    exact (List.getElem?_zip_eq_some.1 (h2 i a ha)).2
theorem kept_fst (p : Rc → Bool) : ∀ (l : List Rc) (hs : List Value), hs.length = l.length → (keptL p l hs).map (·.1) = l.filter (fun r => !p r)
  | [], hs, _ => by simp [keptL]
  | a :: l, [], h => by simp at h
  | a :: l, b :: hs, h => by
    have ih := kept_fst p l hs (by simpa using h)
    unfold keptL at ih ⊢
    cases hp : p a <;> simp [hp, ih]
/-- Records that lie one behind another are a row. -/
theorem rows_of {w : World} {g : Nat} {cur : Array Value} {e : TypeId} (hg : w.heap[g]? = some (.cells cur e (0, 0))) {l : List Rc} {hs : List Value} (hlen : hs.length = l.length) (hsz : l.length * 14 ≤ cur.size)
    (hr : ∀ q r x, l[q]? = some r → hs[q]? = some x → w.rangeAt g (q * 14) (r.cells x)) : cur.toList.take (l.length * 14) = rowsF l hs := by
  apply List.ext_getElem?
  intro j
  rw [List.getElem?_take, Array.getElem?_toList]
  by_cases hj : j < l.length * 14
  · rw [if_pos hj]
    obtain ⟨q, p, rfl, hp⟩ : ∃ q p, j = q * 14 + p ∧ p < 14 := ⟨j / 14, j % 14, by omega, by omega⟩
    have hq : q < l.length := by omega
    obtain ⟨a, ha⟩ : ∃ a, l[q]? = some a := ⟨_, List.getElem?_eq_getElem hq⟩
    obtain ⟨x, hx⟩ : ∃ x, hs[q]? = some x := ⟨_, List.getElem?_eq_getElem (by rw [hlen]; exact hq)⟩
    rw [rows_at l hs q p a x ha hx hp, ← cell_of_row w g _ _ _ (0, 0) hg]
    obtain ⟨v, hv⟩ : ∃ v, (a.cells x)[p]? = some v := ⟨_, List.getElem?_eq_getElem (by rw [rec_len]; exact hp)⟩
    rw [hv]
    exact hr q a x ha hx p v hv
  · rw [if_neg hj, List.getElem?_eq_none (by rw [rows_len _ _ hlen]; omega)]
theorem zeros_one (z : Array Value) (hz : z.all (·.oneCell') = true) (h0 : 0 < z.size) (n : Nat) : ∀ v ∈ (Builtin.zeroCells z n).toList, v.oneCell' = true := by
  intro v hv
  simp only [Builtin.zeroCells, Array.toList_map, List.mem_map] at hv
  obtain ⟨i, _, rfl⟩ := hv
  have hi : i % z.size < z.size := Nat.mod_lt _ h0
  rw [getElem!_pos z _ hi]
  exact (Array.all_eq_true.1 hz) _ hi
theorem run_clear_recs (w : World) (ty : TypeId) (b o m c : Nat) (hc : ∀ j, j < (m + 1) * 14 → (w.cell? ⟨b, o + j, none⟩).isSome = true) (hf : ∀ j, w.frozen? ⟨b, o + j, none⟩ = false) :
    ∃ zs : List Value, zs.length = (m + 1) * 14 ∧ (Builtin.clear_ #[50] ty #[.slice (some ⟨b, o, none⟩) (m + 1) c]).run Try.prog w = .ok (.tuple #[]) (w.setCells b o zs) := by
  obtain ⟨zs, hzs⟩ : ∃ zs, (Builtin.zeroCells (Value.agg #[Value.int IntKind.u64 0, Value.int IntKind.i64 0, Value.int IntKind.i64 0, Value.int IntKind.i64 0, Value.int IntKind.i64 0, Value.int IntKind.i64 0, Value.int IntKind.i64 0, Value.int IntKind.u64 0, Value.int IntKind.i64 0, Value.int IntKind.u64 0, Value.int IntKind.i64 0, Value.int IntKind.u64 0, Value.int IntKind.i64 0, Value.slice none 0 0]).cells (m + 1)).toList = zs := ⟨_, rfl⟩
  have hl : zs.length = (m + 1) * 14 := by
    rw [← hzs, Array.length_toList, size_zeroCells]
    rfl
  have h1 : ∀ v ∈ zs, v.oneCell' = true := by
    rw [← hzs]
    exact zeros_one _ (by kernel_rfl) (by decide) _
  have hst := run_storeCells_cells (P := Try.prog) b o zs 0 w (fun j hj => hc j (by omega)) (fun j hj => hf j) h1
  simp only [Nat.add_zero] at hst
  refine ⟨zs, hl, ?_⟩
  simp [Builtin.clear_, run_underlying Try.underlying50, zeroRec]
  rw [hzs, hst]
  rfl
theorem rec_one (r : Rc) (x : Value) (hx : x.oneCell' = true) : (r.cells x).toArray.all (·.oneCell') = true := by
  rw [Array.all_eq_true_iff_forall_mem]
  intro u hu
  simp only [Rc.cells, List.mem_toArray, List.mem_cons, List.not_mem_nil, or_false] at hu
  rcases hu with rfl | rfl | rfl | rfl | rfl | rfl | rfl | rfl | rfl | rfl | rfl | rfl | rfl | rfl
  all_goals first | rfl | exact hx
theorem store_rec_k {ops : Array Oper} {rest : List Oper} {op : Oper} {a : Act} {w : World} {Q : Exit → Act → World → Prop} {g o : Nat} {r : Rc} {h : Value} {cur : Array Value} {e : TypeId} (hh : h.oneCell' = true) (hg : w.heap[g]? = some (.cells cur e (0, 0))) (hsz : o + 14 ≤ cur.size) (x y : Operand) (hw : Region.wanted op (yielded ops a.tmps) = true)
    (ho : op.op = .store 57 x y) (hx : a.eval x = .pointer (some ⟨g, o, none⟩)) (hy : a.eval y = r.v h) (k : ∀ w', Hid (w'.heap[g]? = some (.cells (setList cur o (r.cells h)) e (0, 0)) ∧ Touch g w w') → wpList Try.prog ops Q rest (a.put op.dst undef) w') : wpList Try.prog ops Q (op :: rest) a w :=
  BigFrame.wpList_want hw fun K hK => wp_store_mid _ x y ho g o (r.cells h).toArray hx hy (fun j hj => ⟨by rw [cell_of_row w g _ _ _ (0, 0) hg, Array.getElem?_eq_getElem (by have : j < 14 := hj; omega)]; rfl, frozen_of_row w g _ _ _ hg⟩) infoRec (rec_one r h hh) (hK _ _ (k _ ⟨heap_sets (r.cells h) o w cur hg, touch_sets (r.cells h) o w (Touch.refl g w)⟩))
/-- What a record's store leaves elsewhere. -/
theorem range_set {w w' : World} {g : Nat} {cur : Array Value} {e : TypeId} (hg : w.heap[g]? = some (.cells cur e (0, 0))) {o : Nat} {vs : List Value} (hg' : w'.heap[g]? = some (.cells (setList cur o vs) e (0, 0))) (hsz : o + vs.length ≤ cur.size) {q : Nat} {cs : List Value} (hr : w.rangeAt g q cs) (hq : q + cs.length ≤ o ∨ o + vs.length ≤ q) : w'.rangeAt g q cs := by
  intro j v hv
  have hj := (List.getElem?_eq_some_iff.1 hv).1
  have := hr j v hv
  rw [cell_of_row w g _ _ _ (0, 0) hg] at this
  rw [cell_of_row w' g _ _ _ (0, 0) hg', setList_get _ _ _ _ hsz, if_neg (by omega)]
  exact this
theorem range_new {w' : World} {g : Nat} {cur : Array Value} {e : TypeId} {o : Nat} {vs : List Value} (hg' : w'.heap[g]? = some (.cells (setList cur o vs) e (0, 0))) (hsz : o + vs.length ≤ cur.size) : w'.rangeAt g o vs := by
  intro j v hv
  have hj := (List.getElem?_eq_some_iff.1 hv).1
  rw [cell_of_row w' g _ _ _ (0, 0) hg', setList_get _ _ _ _ hsz, if_pos (by omega), show o + j - o = j from by omega]
  exact hv
end Go.Proofs.Ytboijaffpnmcaaa
