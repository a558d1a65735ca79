/- Several texts in one: F14, F15, F16. -/
import Derived.WalkKit
import Derived.Lib.Hide
import Derived.Deep.MidRow
import Derived.BigQuiet
import Derived.Test.YtfbmlpdomfchpaaF13
import Derived.LoopTactic
import Derived.Outline
import Derived.Deep.RegionWith
/- slices.DeleteFunc of records: the laws. -/
namespace Go.Proofs.Ytfbmlpdomfchpaa
open Go.RowKit
set_option linter.unusedVariables false
set_option linter.unusedSimpArgs false

/-- What stays of the first j records. -/
def keptTo (p : Rc → Bool) (l : List Rc) (hs : List Value) (j : Nat) : List (Rc × Value) := ((l.zip hs).take j).filter (fun x => !p x.1)
def keptL (p : Rc → Bool) (l : List Rc) (hs : List Value) : List (Rc × Value) := (l.zip hs).filter (fun x => !p x.1)
theorem zip_at {l : List Rc} {hs : List Value} {q : Nat} {r : Rc} {x : Value} (h1 : l[q]? = some r) (h2 : hs[q]? = some x) : (l.zip hs)[q]? = some (r, x) := List.getElem?_zip_eq_some.2 ⟨h1, h2⟩
theorem kept_next {p : Rc → Bool} {l : List Rc} {hs : List Value} {j : Nat} {r : Rc} {x : Value} (h1 : l[j]? = some r) (h2 : hs[j]? = some x) : keptTo p l hs (j + 1) = keptTo p l hs j ++ if p r = true then [] else [(r, x)] := by
  unfold keptTo
  rw [List.take_add_one, zip_at h1 h2]
  cases h : p r <;> simp [h]
theorem kept_all {p : Rc → Bool} {l : List Rc} {hs : List Value} (h : hs.length = l.length) : keptTo p l hs l.length = keptL p l hs := by
  unfold keptTo keptL
  rw [List.take_of_length_le (by simp [h])]
theorem kept_first {p : Rc → Bool} {l : List Rc} {hs : List Value} {i : Nat} {r : Rc} {x : Value} (h1 : l[i]? = some r) (h2 : hs[i]? = some x) (hp : p r = true) (hn : ∀ j a, j < i → l[j]? = some a → p a = false) : keptTo p l hs (i + 1) = (l.zip hs).take i := by
  rw [kept_next h1 h2, if_pos hp, List.append_nil]
  unfold keptTo
  rw [List.filter_eq_self]
  intro a ha
  obtain ⟨j, hj, rfl⟩ := List.getElem_of_mem ha
  rw [List.length_take] at hj
  have e : ((l.zip hs).take i)[j]? = some (((l.zip hs).take i)[j]'(by rw [List.length_take]; exact hj)) := List.getElem?_eq_getElem _
  rw [List.getElem?_take, if_pos (by omega), List.getElem?_zip_eq_some] at e
  rw [hn j _ (by omega) e.1]
  rfl
theorem kept_none {p : Rc → Bool} {l : List Rc} {hs : List Value} (h : hs.length = l.length) (hn : ∀ a ∈ l, p a = false) : (keptL p l hs).map (·.1) = l ∧ (keptL p l hs).map (·.2) = hs := by
  have e : keptL p l hs = l.zip hs := by
    unfold keptL
    rw [List.filter_eq_self]
    intro a ha
    rw [hn a.1 (List.of_mem_zip ha).1]
    rfl
  rw [e]
  exact ⟨List.map_fst_zip (by omega), List.map_snd_zip (by omega)⟩
/-- What stays comes from somewhere. -/
theorem sub_at {α : Type} {a b : List α} (h : List.Sublist a b) : ∃ σ : Nat → Nat, (∀ i j, σ i = σ j → i = j) ∧ ∀ i x, a[i]? = some x → b[σ i]? = some x := by
  induction h with
  | slnil => exact ⟨id, fun i j h => h, fun i x h => h⟩
  | cons c h ih =>
    obtain ⟨σ, h1, h2⟩ := ih
    exact ⟨fun i => σ i + 1, fun i j h => h1 i j (by have h : σ i + 1 = σ j + 1 := h; omega), fun i x h => by simpa using h2 i x h⟩
  | cons_cons c h ih =>
    obtain ⟨σ, h1, h2⟩ := ih
    refine ⟨fun i => match i with | 0 => 0 | i + 1 => σ i + 1, fun i j h => ?_, fun i x h => ?_⟩
    · cases i <;> cases j <;> simp at h ⊢
      exact h1 _ _ h
    · cases i with
      | zero => simpa using h
      | succ i => simpa using h2 i x (by simpa using h)
theorem kept_at (p : Rc → Bool) (l : List Rc) (hs : List Value) (h : hs.length = l.length) : ∃ σ : Nat → Nat, (∀ i j, σ i = σ j → i = j) ∧ (∀ i r, ((keptL p l hs).map (·.1))[i]? = some r → l[σ i]? = some r) ∧ (∀ i x, ((keptL p l hs).map (·.2))[i]? = some x → hs[σ i]? = some x) := by
  obtain ⟨σ, h1, h2⟩ := sub_at (show List.Sublist (keptL p l hs) (l.zip hs) from List.filter_sublist)
  refine ⟨σ, h1, fun i r hr => ?_, fun i x hx => ?_⟩
  · rw [List.getElem?_map, Option.map_eq_some_iff] at hr
    obtain ⟨a, ha, rfl⟩ := hr
    exact (List.getElem?_zip_eq_some.1 (h2 i a ha)).1
  · rw [List.getElem?_map, Option.map_eq_some_iff] at hx
    obtain ⟨a, ha, rfl⟩ := hx
    exact (List.getElem?_zip_eq_some.1 (h2 i a ha)).2
theorem kept_fst (p : Rc → Bool) : ∀ (l : List Rc) (hs : List Value), hs.length = l.length → (keptL p l hs).map (·.1) = l.filter (fun r => !p r)
  | [], hs, _ => by simp [keptL]
  | a :: l, [], h => by simp at h
  | a :: l, b :: hs, h => by
    have ih := kept_fst p l hs (by simpa using h)
    unfold keptL at ih ⊢
    cases hp : p a <;> simp [hp, ih]
/-- Records that lie one behind another are a row. -/
theorem rows_of {w : World} {g : Nat} {cur : Array Value} {e : TypeId} (hg : w.heap[g]? = some (.cells cur e (0, 0))) {l : List Rc} {hs : List Value} (hlen : hs.length = l.length) (hsz : l.length * 14 ≤ cur.size)
    (hr : ∀ q r x, l[q]? = some r → hs[q]? = some x → w.rangeAt g (q * 14) (r.cells x)) : cur.toList.take (l.length * 14) = rowsF l hs := by
  apply List.ext_getElem?
  intro j
  rw [List.getElem?_take, Array.getElem?_toList]
  by_cases hj : j < l.length * 14
  · rw [if_pos hj]
    obtain ⟨q, p, rfl, hp⟩ : ∃ q p, j = q * 14 + p ∧ p < 14 := ⟨j / 14, j % 14, by omega, by omega⟩
    have hq : q < l.length := by omega
    obtain ⟨a, ha⟩ : ∃ a, l[q]? = some a := ⟨_, List.getElem?_eq_getElem hq⟩
    obtain ⟨x, hx⟩ : ∃ x, hs[q]? = some x := ⟨_, List.getElem?_eq_getElem (by rw [hlen]; exact hq)⟩
    rw [rows_at l hs q p a x ha hx hp, ← cell_of_row w g _ _ _ (0, 0) hg]
    obtain ⟨v, hv⟩ : ∃ v, (a.cells x)[p]? = some v := ⟨_, List.getElem?_eq_getElem (by rw [rec_len]; exact hp)⟩
    rw [hv]
    exact hr q a x ha hx p v hv
  · rw [if_neg hj, List.getElem?_eq_none (by rw [rows_len _ _ hlen]; omega)]
theorem zeros_one (z : Array Value) (hz : z.all (·.oneCell') = true) (h0 : 0 < z.size) (n : Nat) : ∀ v ∈ (Builtin.zeroCells z n).toList, v.oneCell' = true := by
  intro v hv
  simp only [Builtin.zeroCells, Array.toList_map, List.mem_map] at hv
  obtain ⟨i, _, rfl⟩ := hv
  have hi : i % z.size < z.size := Nat.mod_lt _ h0
  rw [getElem!_pos z _ hi]
  exact (Array.all_eq_true.1 hz) _ hi
theorem run_clear_recs (w : World) (ty : TypeId) (b o m c : Nat) (hc : ∀ j, j < (m + 1) * 14 → (w.cell? ⟨b, o + j, none⟩).isSome = true) (hf : ∀ j, w.frozen? ⟨b, o + j, none⟩ = false) :
    ∃ zs : List Value, zs.length = (m + 1) * 14 ∧ (Builtin.clear_ #[98] ty #[.slice (some ⟨b, o, none⟩) (m + 1) c]).run Try.prog w = .ok (.tuple #[]) (w.setCells b o zs) := by
  obtain ⟨zs, hzs⟩ : ∃ zs, (Builtin.zeroCells (Value.agg #[Value.int IntKind.u64 0, Value.int IntKind.i64 0, Value.int IntKind.i64 0, Value.int IntKind.i64 0, Value.int IntKind.i64 0, Value.int IntKind.i64 0, Value.int IntKind.i64 0, Value.int IntKind.u64 0, Value.int IntKind.i64 0, Value.int IntKind.u64 0, Value.int IntKind.i64 0, Value.int IntKind.u64 0, Value.int IntKind.i64 0, Value.slice none 0 0]).cells (m + 1)).toList = zs := ⟨_, rfl⟩
  have hl : zs.length = (m + 1) * 14 := by
    rw [← hzs, Array.length_toList, size_zeroCells]
    rfl
  have h1 : ∀ v ∈ zs, v.oneCell' = true := by
    rw [← hzs]
    exact zeros_one _ (by kernel_rfl) (by decide) _
  have hst := run_storeCells_cells (P := Try.prog) b o zs 0 w (fun j hj => hc j (by omega)) (fun j hj => hf j) h1
  simp only [Nat.add_zero] at hst
  refine ⟨zs, hl, ?_⟩
  simp [Builtin.clear_, run_underlying Try.underlying98, zeroRec]
  rw [hzs, hst]
  rfl
theorem rec_one (r : Rc) (x : Value) (hx : x.oneCell' = true) : (r.cells x).toArray.all (·.oneCell') = true := by
  rw [Array.all_eq_true_iff_forall_mem]
  intro u hu
  simp only [Rc.cells, List.mem_toArray, List.mem_cons, List.not_mem_nil, or_false] at hu
  rcases hu with rfl | rfl | rfl | rfl | rfl | rfl | rfl | rfl | rfl | rfl | rfl | rfl | rfl | rfl
  all_goals first | rfl | exact hx
theorem store_rec_k {ops : Array Oper} {rest : List Oper} {op : Oper} {a : Act} {w : World} {Q : Exit → Act → World → Prop} {g o : Nat} {r : Rc} {h : Value} {cur : Array Value} {e : TypeId} (hh : h.oneCell' = true) (hg : w.heap[g]? = some (.cells cur e (0, 0))) (hsz : o + 14 ≤ cur.size) (x y : Operand) (hw : Region.wanted op (yielded ops a.tmps) = true)
    (ho : op.op = .store 117 x y) (hx : a.eval x = .pointer (some ⟨g, o, none⟩)) (hy : a.eval y = r.v h) (k : ∀ w', Hid (w'.heap[g]? = some (.cells (setList cur o (r.cells h)) e (0, 0)) ∧ Touch g w w') → wpList Try.prog ops Q rest (a.put op.dst undef) w') : wpList Try.prog ops Q (op :: rest) a w :=
  BigFrame.wpList_want hw fun K hK => wp_store_mid _ x y ho g o (r.cells h).toArray hx hy (fun j hj => ⟨by rw [cell_of_row w g _ _ _ (0, 0) hg, Array.getElem?_eq_getElem (by have : j < 14 := hj; omega)]; rfl, frozen_of_row w g _ _ _ hg⟩) infoRec (rec_one r h hh) (hK _ _ (k _ ⟨heap_sets (r.cells h) o w cur hg, touch_sets (r.cells h) o w (Touch.refl g w)⟩))
/-- What a record's store leaves elsewhere. -/
theorem range_set {w w' : World} {g : Nat} {cur : Array Value} {e : TypeId} (hg : w.heap[g]? = some (.cells cur e (0, 0))) {o : Nat} {vs : List Value} (hg' : w'.heap[g]? = some (.cells (setList cur o vs) e (0, 0))) (hsz : o + vs.length ≤ cur.size) {q : Nat} {cs : List Value} (hr : w.rangeAt g q cs) (hq : q + cs.length ≤ o ∨ o + vs.length ≤ q) : w'.rangeAt g q cs := by
  intro j v hv
  have hj := (List.getElem?_eq_some_iff.1 hv).1
  have := hr j v hv
  rw [cell_of_row w g _ _ _ (0, 0) hg] at this
  rw [cell_of_row w' g _ _ _ (0, 0) hg', setList_get _ _ _ _ hsz, if_neg (by omega)]
  exact this
theorem range_new {w' : World} {g : Nat} {cur : Array Value} {e : TypeId} {o : Nat} {vs : List Value} (hg' : w'.heap[g]? = some (.cells (setList cur o vs) e (0, 0))) (hsz : o + vs.length ≤ cur.size) : w'.rangeAt g o vs := by
  intro j v hv
  have hj := (List.getElem?_eq_some_iff.1 hv).1
  rw [cell_of_row w' g _ _ _ (0, 0) hg', setList_get _ _ _ _ hsz, if_pos (by omega), show o + j - o = j from by omega]
  exact hv
end Go.Proofs.Ytfbmlpdomfchpaa
/- slices.DeleteFunc of records: the walk. -/
namespace Go.Proofs.Ytfbmlpdomfchpaa
open Go.RowKit
set_option linter.unusedVariables false
set_option linter.unusedSimpArgs false

/-- How the records lie in the midst of the loop: j have been looked at. -/
structure MidDel (p : Rc → Bool) (l : List Rc) (hs : List Value) (g cap : Nat) (w wr : World) (j : Nat) : Prop where
  keep : Keep (fun q => q = g) w wr
  row : ∃ cur, wr.heap[g]? = some (.cells cur 117 (0, 0)) ∧ cur.size = cap * 14
  left : ∀ q r x, (keptTo p l hs j)[q]? = some (r, x) → wr.rangeAt g (q * 14) (r.cells x)
  right : ∀ q r x, j ≤ q → l[q]? = some r → hs[q]? = some x → wr.rangeAt g (q * 14) (r.cells x)
  less : (keptTo p l hs j).length < j
theorem MidDel.below {p : Rc → Bool} {l : List Rc} {hs : List Value} {g cap : Nat} {w wr w' : World} {j : Nat} (h : MidDel p l hs g cap w wr j) (k : Below wr.heap.size wr w') : MidDel p l hs g cap w w' j := by
  obtain ⟨cur, hc, hs⟩ := h.row
  exact ⟨h.keep.thenBelow k, ⟨cur, (k.block g (Array.getElem?_eq_some_iff.1 hc).1).trans hc, hs⟩, fun q r x e => rangeAt_below (h.left q r x e) k, fun q r x hj e1 e2 => rangeAt_below (h.right q r x hj e1 e2) k, h.less⟩
theorem MidDel.skip {p : Rc → Bool} {l : List Rc} {hs : List Value} {g cap : Nat} {w wr : World} {j : Nat} (h : MidDel p l hs g cap w wr j) {r : Rc} {x : Value} (h1 : l[j]? = some r) (h2 : hs[j]? = some x) (hp : p r = true) : MidDel p l hs g cap w wr (j + 1) ∧ (keptTo p l hs (j + 1)).length = (keptTo p l hs j).length := by
  have e := kept_next (p := p) h1 h2
  rw [if_pos hp, List.append_nil] at e
  exact ⟨⟨h.keep, h.row, by rw [e]; exact h.left, fun q r x hj => h.right q r x (by omega), by rw [e]; have := h.less; omega⟩, by rw [e]⟩
theorem MidDel.move {p : Rc → Bool} {l : List Rc} {hs : List Value} {g cap : Nat} {w wr w' : World} {j i : Nat} (h : MidDel p l hs g cap w wr j) (hi : (keptTo p l hs j).length = i) {r : Rc} {x : Value} (h1 : l[j]? = some r) (h2 : hs[j]? = some x) (hp : p r = false) (hjc : j < cap) {cur : Array Value} (hg : wr.heap[g]? = some (.cells cur 117 (0, 0)))
    (hg' : w'.heap[g]? = some (.cells (setList cur (i * 14) (r.cells x)) 117 (0, 0))) (ht : Touch g wr w') : MidDel p l hs g cap w w' (j + 1) ∧ (keptTo p l hs (j + 1)).length = i + 1 := by
  have e := kept_next (p := p) h1 h2
  rw [if_neg (by rw [hp]; simp)] at e
  have hl := h.less
  obtain ⟨cur0, hc, hs0⟩ := h.row
  rw [hg] at hc
  injection hc with hc
  injection hc with hc _ _
  subst hc
  have hsz : i * 14 + (r.cells x).length ≤ cur.size := by rw [rec_len, hs0]; omega
  refine ⟨⟨h.keep.thenTouch ht (.inl rfl), ⟨_, hg', by rw [setList_size]; exact hs0⟩, fun q a y hq => ?_, fun q a y hj e1 e2 => ?_, by rw [e, List.length_append]; simp; omega⟩, by rw [e, List.length_append, hi]; rfl⟩
  · rw [e, List.getElem?_append] at hq
    split at hq
    · exact range_set hg hg' hsz (h.left q a y hq) (.inl (by rw [rec_len]; omega))
    · rename_i hn
      have hq2 := (List.getElem?_eq_some_iff.1 hq).1
      simp at hq2
      have hqi : q = i := by omega
      subst hqi
      rw [hi, Nat.sub_self] at hq
      simp at hq
      obtain ⟨rfl, rfl⟩ := hq
      exact range_new hg' hsz
  · exact range_set hg hg' hsz (h.right q a y (by omega) e1 e2) (.inr (by rw [rec_len]; omega))
set_option maxRecDepth 100000 in
set_option maxHeartbeats 4000000 in
theorem rdelf_any {w : World} {v : Value} {l : List Rc} {hs : List Value} {base : Nat} (hown : w.ownsRow base 117 14 v l.length (rowsF l hs)) (hlen : hs.length = l.length) (hbig : l.length ≤ 1000) (hsl : ∀ (i : Nat) (x : Value), hs[i]? = some x → ∃ A n c, x = Value.slice A n c) (p : Rc → Bool) (F : FuncId) (caps : Array Value) (eg : ∀ args w, (callFunc F args).run Try.prog w = .ok (.enter F args) w)
    (hp : ∀ (i : Nat) (r : Rc) (h : Value) (w' : World), l[i]? = some r → hs[i]? = some h → Keep (fun q => v.ownBlock = some q) w w' → Calls Try.prog F (#[r.v h] ++ caps) w' fun e w'' => e = .returned (.bool (p r)) ∧ Below w'.heap.size w' w'') :
    Calls Try.prog 73 #[v, .func (.func F) #[] caps] w fun e w' => ∃ v', e = .returned v' ∧ w'.ownsRow base 117 14 v' (keptL p l hs).length (rowsF ((keptL p l hs).map (·.1)) ((keptL p l hs).map (·.2))) ∧ v'.ownBlock = v.ownBlock ∧ Keep (fun q => v.ownBlock = some q) w w' := by
  have hidx := index_any hown hlen hbig p F caps eg (fun i r h w' h1 h2 hb => hp i r h w' h1 h2 (.of hb))
  have HIDX := Lib.hid hidx
  have HOWN := Lib.hid hown
  have HP := Lib.hid hp
  have HLEN := Lib.hid hlen
  have HSL := Lib.hid hsl
  obtain ⟨A, c, rfl⟩ : ∃ A c, v = .slice A l.length c := by
    rcases hown.2 with ⟨e, hn⟩ | ⟨g, cap, cur, e, _⟩
    · exact ⟨none, 0, by rw [e, hn]⟩
    · exact ⟨_, _, e⟩
  clear hidx hown hp hlen hsl
  rcases hfi : l.findIdx? p with _ | i
  · have HN := Lib.hid (show ∀ a ∈ l, p a = false from by simpa using List.findIdx?_eq_none_iff.1 hfi)
    have HF := Lib.hid (idx_miss hfi)
    clear hfi
    go_enter Try.func73, Try.ntmps73
    go_wp2_with fail
    refine HIDX.out.mono ?_
    rintro e w1 ⟨rfl, hb1⟩
    rw [HF.out]
    have HB1 := Lib.hid hb1
    clear hb1 HIDX HF
    go_wp2_with fail
    go_ret
    obtain ⟨h1, h2⟩ := kept_none HLEN.out HN.out
    have e3 : (keptL p l hs).length = l.length := by rw [← congrArg List.length h1]; simp
    refine ⟨_, rfl, ?_, rfl, .of HB1.out⟩
    rw [h1, h2, e3]
    exact ownsRow_below HOWN.out HB1.out
  · obtain ⟨hil, hpi, hno⟩ := List.findIdx?_eq_some_iff_getElem.1 hfi
    have HF := Lib.hid (idx_hit hfi)
    obtain ⟨n, hn⟩ : ∃ n, l.length = n := ⟨_, rfl⟩
    have hown := HOWN.out
    rcases hown.2 with ⟨_, e⟩ | ⟨g, cap, cur, e, hbg, hg, hle, hcm, hsz, htk⟩
    · omega
    have e1 : A = some ⟨g, 0, none⟩ := by injection e
    have e2 : c = cap := by injection e
    subst e1 e2
    have hrg := owns_rec hown rfl HLEN.out
    have HRG := Lib.hid (show ∀ i r x, l[i]? = some r → hs[i]? = some x → w.rangeAt g (i * 14) (r.cells x) from by
      rcases hrg with ⟨e, _⟩ | ⟨g', cap', e, _, _, _, _, h⟩
      · exact absurd e (by simp)
      · injection e with e1 _ _
        injection e1 with e1
        injection e1 with e1 _ _
        subst e1
        exact h)
    unfold maxLen at hcm
    have hgl : g < w.heap.size := (Array.getElem?_eq_some_iff.1 hg).1
    have HR0 := Lib.hid (show ∃ cur, w.heap[g]? = some (.cells cur 117 (0, 0)) ∧ cur.size = c * 14 from ⟨cur, hg, hsz⟩)
    have HK0 := Lib.hid (show keptTo p l hs (i + 1) = (l.zip hs).take i from by
      refine kept_first (List.getElem?_eq_getElem hil) (List.getElem?_eq_getElem (by rw [HLEN.out]; exact hil)) hpi fun j a hj ha => ?_
      obtain ⟨h1, rfl⟩ := List.getElem?_eq_some_iff.1 ha
      simpa using hno j hj)
    have HM0 := Lib.hid (show MidDel p l hs g c w w (i + 1) from ⟨.refl _ _, HR0.out, fun q r x hq => by
      rw [HK0.out, List.getElem?_take] at hq
      split at hq
      · rw [List.getElem?_zip_eq_some] at hq
        exact HRG.out q r x hq.1 hq.2
      · exact absurd hq (by simp), fun q r x _ => HRG.out q r x, by rw [HK0.out, List.length_take]; omega⟩)
    have HL0 := Lib.hid (show (keptTo p l hs (i + 1)).length = i from by rw [HK0.out, List.length_take, List.length_zip, HLEN.out]; have := hil; simp only [Nat.min_self]; omega)
    have HBG := Lib.hid hbg
    rw [hn] at hil hle hbig
    have HN := Lib.hid hn
    clear hfi hpi hno hown e htk hsz hg hrg hbg HR0 HK0 HRG
    rw [hn] at HIDX HP ⊢
    have HPP := HP
    clear hn HP
    go_enter Try.func73, Try.ntmps73
    go_wp2_with fail
    refine HIDX.out.mono ?_
    rintro e w1 ⟨rfl, hb1⟩
    rw [HF.out]
    have HB1 := Lib.hid hb1
    have HM1 := Lib.hid (HM0.out.below hb1)
    have hi1 : ((i : Int) == -1) = false := by simp <;> omega
    clear hb1 HIDX HF HM0
    go_wp2_with fail
    go_loopw [5, 6] (fun vi vj wr => ∃ (a j : Nat), j ≤ n ∧ vi = .int .i64 a ∧ vj = .int .i64 j ∧ a = (keptTo p l hs j).length ∧ MidDel p l hs g c w wr j) (fun _ vj _ => n - (intOf vj).toNat)
    case atStart => exact ⟨i, i + 1, by omega, rfl, rfl, HL0.out.symm, HM1.out⟩
    case round =>
      obtain ⟨a, j, hj, rfl, rfl, ha, hM⟩ := hrel
      have hal := hM.less
      rw [← ha] at hal
      have HM := Lib.hid hM
      have HA := Lib.hid ha
      clear hM ha HM1 HL0
      have ha0 : (0 : Int) ≤ (a : Int) := by omega
      have ha1 : (a : Int) < (n : Int) := by omega
      by_cases hlt : j < n
      · have hj0 : (0 : Int) ≤ (j : Int) := by omega
        have hj1 : (j : Int) < (n : Int) := by omega
        obtain ⟨r, hr⟩ : ∃ r, l[j]? = some r := ⟨_, List.getElem?_eq_getElem (by rw [HN.out]; exact hlt)⟩
        obtain ⟨x, hx⟩ : ∃ x, hs[j]? = some x := ⟨_, List.getElem?_eq_getElem (by rw [HLEN.out, HN.out]; exact hlt)⟩
        obtain ⟨xa, xn, xc, rfl⟩ := HSL.out j x hx
        have HRJ := Lib.hid (HM.out.right j r _ (Nat.le_refl _) hr hx)
        have HR := Lib.hid hr
        have HX := Lib.hid hx
        clear hr hx
        go_upto_region 8 with (refine load_rec HRJ.out _ (by rfl) rfl rfl ?_)
        generalize hW1 : wr.alloc _ = W1
        have hbW : Below wr.heap.size wr W1 := by rw [← hW1]; exact (Below.refl _ _).alloc (Nat.le_refl _) _
        have hbx : W1.rangeAt wr.heap.size 0 (r.cells (.slice xa xn xc)) := by
          rw [← hW1]
          intro t v hv
          rw [Nat.zero_add, cell_of_row _ _ t _ _ (0, 0) (heap_alloc_new wr _), ← hv]
          simp [Rc.cells]
        have HMW := Lib.hid (HM.out.below hbW)
        have HBX := Lib.hid hbx
        obtain ⟨B, hB⟩ : ∃ B, wr.heap.size = B := ⟨_, rfl⟩
        rw [hB] at HBX ⊢
        have HCALL := Lib.hid (HPP.out j r _ W1 HR.out HX.out (HMW.out.keep.wide (fun q hq => by rw [show q = g from hq]; rfl)))
        clear hW1 hbW hbx HM HRJ hB
        go_wp2_with (refine load_rec HBX.out _ (by rfl) rfl rfl ?_)
        refine HCALL.out.mono ?_
        rintro e w2 ⟨rfl, hb2⟩
        have HM2 := Lib.hid (HMW.out.below hb2)
        have HBX2 := Lib.hid (rangeAt_below HBX.out hb2)
        clear hb2 HMW HBX HCALL
        cases hpr : p r
        · obtain ⟨cur, hcur, hcs⟩ := HM2.out.row
          have HCUR := Lib.hid hcur
          have hsz : a * 14 + 14 ≤ cur.size := by rw [hcs]; omega
          have HSZ := Lib.hid hsz
          have HPR := Lib.hid hpr
          clear hcur hcs hsz hpr
          go_wp2_with (first | (refine load_rec HBX2.out _ (by rfl) rfl rfl ?_) | (refine store_rec_k (r := r) (h := .slice xa xn xc) rfl HCUR.out HSZ.out _ _ (by rfl) rfl rfl rfl ?_; intro w3 h3))
          go_roundw
          case rel =>
            obtain ⟨h1, h2⟩ := HM2.out.move HA.out.symm HR.out HX.out HPR.out (by omega) HCUR.out h3.out.1 h3.out.2
            exact ⟨a + 1, j + 1, by omega, by go_num, by go_num, h2.symm, h1⟩
          case measure => simp [intOf]; omega
        · have HPR := Lib.hid hpr
          clear hpr
          go_wp2_with fail
          go_roundw
          case rel =>
            obtain ⟨h1, h2⟩ := HM2.out.skip HR.out HX.out HPR.out
            exact ⟨a, j + 1, by omega, rfl, by go_num, by rw [h2]; exact HA.out, h1⟩
          case measure => simp [intOf]; omega
      · obtain rfl : j = n := by omega
        obtain ⟨cur, hcur, hcs⟩ := HM.out.row
        obtain ⟨m, hm⟩ : ∃ m, j - a = m + 1 := ⟨j - a - 1, by omega⟩
        obtain ⟨zs, hzl, hclr⟩ := run_clear_recs wr 0 g (a * 14) m (c - a) (fun q hq => by
          rw [cell_of_row wr g _ _ _ (0, 0) hcur, Array.getElem?_eq_getElem (by rw [hcs]; omega)]; rfl) (fun q => frozen_of_row wr g _ _ _ hcur)
        have hh := heap_sets zs (a * 14) wr cur hcur
        have ht := touch_sets zs (a * 14) wr (Touch.refl g wr)
        generalize hW2 : wr.setCells g (a * 14) zs = W2 at hclr hh ht
        have hca : ¬ c = a := by omega
        have hac : a ≤ c := by omega
        have haj : a ≤ j := by omega
        have hb1 : (a : Int) ≤ (j : Int) := by omega
        have hb2 : (j : Int) ≤ (c : Int) := by omega
        have hb3 : (a : Int) ≤ (c : Int) := by omega
        have HFIN := Lib.hid (And.intro hh (And.intro ht (And.intro hcs (And.intro hzl hcur))))
        have HMM := Lib.hid hm
        clear hW2 hh ht hcs hzl hcur
        go_wp2_with fail
        go_ret
        obtain ⟨hh, ht, hcs, hzl, hcur⟩ := HFIN.out
        have hlen := HLEN.out
        have e : keptTo p l hs j = keptL p l hs := by rw [← HN.out]; exact kept_all hlen
        have hla : (keptL p l hs).length = a := by rw [← e]; exact HA.out.symm
        have hkk : Keep (fun q => (Value.slice (some ⟨g, 0, none⟩) j c).ownBlock = some q) w W2 := (HM.out.keep.thenTouch ht (.inl rfl)).wide (fun q hq => by rw [show q = g from hq]; rfl)
        have hl1 : ((keptL p l hs).map (·.2)).length = ((keptL p l hs).map (·.1)).length := by simp
        have hl2 : ((keptL p l hs).map (·.1)).length = a := by rw [List.length_map, hla]
        have hrows := rows_of hh (l := (keptL p l hs).map (·.1)) (hs := (keptL p l hs).map (·.2)) hl1 (by rw [hl2, setList_size, hcs]; omega) (fun q r x h1 h2 => by
          have hq : q < a := by rw [← hl2]; exact (List.getElem?_eq_some_iff.1 h1).1
          have hk : (keptTo p l hs j)[q]? = some (r, x) := by
            rw [e]
            rw [List.getElem?_map, Option.map_eq_some_iff] at h1 h2
            obtain ⟨y, hy, rfl⟩ := h1
            obtain ⟨y2, hy2, rfl⟩ := h2
            rw [hy] at hy2
            injection hy2 with hy2
            subst hy2
            exact hy
          exact range_set hcur hh (by rw [hzl, hcs]; omega) (HM.out.left q r x hk) (.inl (by rw [rec_len]; omega)))
        refine ⟨_, rfl, ⟨by rw [rows_len _ _ hl1, hl2, hla], .inr ⟨g, c, _, by show Value.slice (some ⟨g, 0, none⟩) a c = _; rw [hla], HBG.out, hh, by rw [hla]; omega, by unfold maxLen; omega, by rw [setList_size, hcs], ?_⟩⟩, rfl, hkk⟩
        rw [hl2] at hrows
        rw [hla]
        exact hrows
end Go.Proofs.Ytfbmlpdomfchpaa
/- Forget. -/
namespace Go.Proofs.Ytfbmlpdomfchpaa
open Go.RowKit
set_option linter.unusedVariables false
set_option linter.unusedSimpArgs false

/-- Has a record no recent message? -/
def staleB (f : Fr) (at_ : Int) (r : Rc) : Bool := ((recentF f.window f.last at_ r.heard : Nat) : Int) == 0
def forgetF (f : Fr) (at_ : Int) : Fr := { f with list := f.list.filter (fun r => !staleB f at_ r) }
theorem stale_any {f : Fr} {b q1 q2 : Nat} {at_ : Int} {w : World} (c0 : w.cell? ⟨b, 0, none⟩ = some (.int .i64 f.window)) (c2 : w.cell? ⟨b, 2, none⟩ = some (.int .i64 f.last)) (x1 : w.cell? ⟨q1, 0, none⟩ = some (.pointer (some ⟨b, 0, none⟩))) (x2 : w.cell? ⟨q2, 0, none⟩ = some (.int .i64 at_)) (r : Rc) {A : Option Addr} {n c : Nat} {base : Nat} (hown : w.ownsRow base 3 1 (.slice A n c) r.heard.length (intsV r.heard)) (hr : r.heard ≠ []) (ok : f.Ok) (ha1 : at_ ≤ 9223372036854775807) :
    Calls Try.prog 74 #[r.v (.slice A n c), .pointer (some ⟨q1, 0, none⟩), .pointer (some ⟨q2, 0, none⟩)] w fun e w' => e = .returned (.bool (staleB f at_ r)) ∧ Below w.heap.size w w' := by
  have HREC := Lib.hid (fun (w' : World) (h : Below w.heap.size w w') => recent_any (cell_below h c0) (cell_below h c2) r (ownsRow_below hown h) hr ok.w0 ok.w1 ok.l0 ok.l1 ha1)
  have hq1 := World.block_lt_of_cell? w _ x1
  have hq2 := World.block_lt_of_cell? w _ x2
  obtain ⟨z, hz⟩ : ∃ z, staleB f at_ r = z := ⟨_, rfl⟩
  rw [hz]
  have HZ := Lib.hid hz
  clear hz hown hr c0 c2
  go_enter Try.func74, Try.ntmps74
  go_upto_region 1 with fail
  generalize hW1 : w.alloc _ = W1
  have hbW : Below w.heap.size w W1 := by rw [← hW1]; exact (Below.refl _ _).alloc (Nat.le_refl _) _
  have hbx : W1.rangeAt w.heap.size 0 (r.cells (.slice A n c)) := by
    rw [← hW1]
    intro t v hv
    rw [Nat.zero_add, cell_of_row _ _ t _ _ (0, 0) (heap_alloc_new w _), ← hv]
    simp [Rc.cells]
  have HBW := Lib.hid hbW
  have HBX := Lib.hid hbx
  have y1 := cell_below hbW x1
  have y2 := cell_below hbW x2
  obtain ⟨B, hB⟩ : ∃ B, w.heap.size = B := ⟨_, rfl⟩
  rw [hB] at HBX ⊢
  clear hW1 hbW hbx x1 x2 hB
  go_wp2_with (refine load_rec HBX.out _ (by rfl) rfl rfl ?_)
  refine (HREC.out W1 HBW.out).mono ?_
  rintro e w2 ⟨rfl, hb2⟩
  have HB2 := Lib.hid (below_then HBW.out hb2)
  obtain ⟨m, hm⟩ : ∃ m, recentF f.window f.last at_ r.heard = m := ⟨_, rfl⟩
  have hs : ((m : Int) == 0) = z := by rw [← HZ.out, staleB, hm]
  rw [hm]
  clear hb2 y1 y2 HREC hm
  cases z
  all_goals go_wp2_with fail
  all_goals go_ret
  all_goals exact ⟨rfl, HB2.out⟩
theorem forget_enters : ∀ args w, (callFunc 74 args).run Try.prog w = .ok (.enter 74 args) w := enters_of Try.func74 (by kernel_rfl) rfl
theorem fforget_nil (at_ : Int) (w : World) : Calls Try.prog 54 #[.pointer none, .int .i64 at_] w fun e w' => e = .returned (.int .i64 0) ∧ Below w.heap.size w w' := by
  go_enter Try.func54, Try.ntmps54
  go_wp2_with fail
  go_ret
  exact ⟨rfl, below_then ((Below.refl _ _).alloc (Nat.le_refl _) _) ((Below.refl _ _).alloc (Nat.le_refl _) _)⟩
/-- What DeleteFunc leaves of the records, ahead of the store. -/
theorem forget_facts {W w2 : World} {base b n c q1 : Nat} {f : Fr} {A : Option Addr} {hs : List Value} {v' : Value} {p : Rc → Bool} {x1 : Value} (hF : FrAt W base b f (.slice A n c) hs) (hq1 : W.cell? ⟨q1, 0, none⟩ = some x1) (hqm : q1 ≠ b ∧ (Value.slice A n c).ownBlock ≠ some q1)
    (h : w2.ownsRow base 117 14 v' (keptL p f.list hs).length (rowsF ((keptL p f.list hs).map (·.1)) ((keptL p f.list hs).map (·.2))) ∧ v'.ownBlock = (Value.slice A n c).ownBlock ∧ Keep (fun q => (Value.slice A n c).ownBlock = some q) W.drew w2) :
    ∃ A' c', v' = .slice A' (keptL p f.list hs).length c' ∧ w2.cell? ⟨q1, 0, none⟩ = some x1 ∧ w2.cell? ⟨b, 3, none⟩ = some (.slice A n c) ∧ w2.frozen? ⟨b, 3, none⟩ = false ∧ (w2.setCell ⟨b, 3, none⟩ (.slice A' (keptL p f.list hs).length c')).cell? ⟨q1, 0, none⟩ = some x1 ∧ (w2.setCell ⟨b, 3, none⟩ (.slice A' (keptL p f.list hs).length c')).cell? ⟨b, 3, none⟩ = some (.slice A' (keptL p f.list hs).length c') ∧
      Hid (FrAt (w2.setCell ⟨b, 3, none⟩ (.slice A' (keptL p f.list hs).length c')) base b { f with list := f.list.filter (fun r => !p r) } (.slice A' (keptL p f.list hs).length c') ((keptL p f.list hs).map (·.2)) ∧ Keep (fun g => g = b ∨ (Value.slice A n c).ownBlock = some g) W (w2.setCell ⟨b, 3, none⟩ (.slice A' (keptL p f.list hs).length c')) ∧ ∀ g, mine b (.slice A' (keptL p f.list hs).length c') ((keptL p f.list hs).map (·.2)) g → mine b (.slice A n c) hs g) := by
  obtain ⟨hown, hob, hk0⟩ := h
  obtain ⟨A', c', rfl⟩ : ∃ A' c', v' = .slice A' (keptL p f.list hs).length c' := by
    rcases hown.2 with ⟨e, hn⟩ | ⟨g, cap, cur, e, _⟩
    · exact ⟨none, 0, by rw [e, hn]⟩
    · exact ⟨_, _, e⟩
  have hbl := hF.lt
  have hk : Keep (fun q => (Value.slice A n c).ownBlock = some q) W w2 := (Keep.of (M := fun q => (Value.slice A n c).ownBlock = some q) (below_drewN (Below.refl W.heap.size W) 1)).trans hk0 (fun g hg => .inl hg)
  have hh := (hk.block b hbl hF.lb).trans hF.head
  have hs2 := heap_set hh 3 (.slice A' (keptL p f.list hs).length c')
  have k2 : Keep (fun g => g = b ∨ (Value.slice A n c).ownBlock = some g) W (w2.setCell ⟨b, 3, none⟩ (.slice A' (keptL p f.list hs).length c')) := (hk.wide (fun g hg => .inr hg)).thenTouch ((Touch.refl b w2).set 3 _) (.inl (.inl rfl))
  obtain ⟨σ, h1, h2, h3⟩ := kept_at p f.list hs hF.hlen
  have hfst := kept_fst p f.list hs hF.hlen
  have hl2 : ((keptL p f.list hs).map (·.2)).length = (f.list.filter (fun r => !p r)).length := by rw [← hfst]; simp
  have hl3 : (keptL p f.list hs).length = (f.list.filter (fun r => !p r)).length := by rw [← hfst]; simp
  refine ⟨A', c', rfl, hk.cell hq1 hqm.2, cell_of_row w2 b 3 _ _ (0, 0) hh, frozen_of_row w2 b 3 _ _ hh, k2.cell hq1 (by rintro (e | e); exact hqm.1 e; exact hqm.2 e), ?_, ?_, k2, mine_sub hob σ h3⟩
  · rw [cell_of_row _ b 3 _ _ (0, 0) hs2]
    rfl
  · refine hF.sub k2 (by rw [hs2]; rfl) hl2 ?_ hob σ h1 (fun i r h => h2 i r (by rw [hfst]; exact h)) h3
    show World.ownsRow _ base _ 14 _ (f.list.filter (fun r => !p r)).length (rowsF (f.list.filter (fun r => !p r)) _)
    rw [← hl3, ← hfst]
    exact ownsRow_keep hown (Keep.touch (M := fun q => q = b) ((Touch.refl b w2).set 3 _) rfl) (fun q hq e => hF.lb (by rw [← hob, hq, e]))
set_option maxRecDepth 100000 in
set_option maxHeartbeats 4000000 in
theorem fforget_any {f : Fr} {base b : Nat} {lv : Value} {hs : List Value} {w : World} (hF : FrAt w base b f lv hs) (ok : f.Ok) (hbig : f.list.length ≤ 1000) (at_ : Int) (ha1 : at_ ≤ 9223372036854775807) :
    Calls Try.prog 54 #[.pointer (some ⟨b, 0, none⟩), .int .i64 at_] w fun e w' => e = .returned (.int .i64 ((f.list.length : Int) - ((forgetF f at_).list.length : Int))) ∧ ∃ lv' hs', FrAt w' base b (forgetF f at_) lv' hs' ∧ Keep (fun g => g = b ∨ lv.ownBlock = some g) w w' ∧ ∀ g, mine b lv' hs' g → mine b lv hs g := by
  obtain ⟨A, c, rfl⟩ : ∃ A c, lv = .slice A f.list.length c := by
    rcases hF.form with ⟨rfl, e⟩ | ⟨g, cap, rfl, _⟩
    · exact ⟨none, 0, by rw [e]; rfl⟩
    · exact ⟨_, _, rfl⟩
  have hbl := hF.lt
  have HF := Lib.hid hF
  have HOK := Lib.hid ok
  have hll : (keptL (staleB f at_) f.list hs).length = (forgetF f at_).list.length := by rw [show (forgetF f at_).list = f.list.filter (fun r => !staleB f at_ r) from rfl, ← kept_fst _ _ _ hF.hlen]; simp
  have hlf : (forgetF f at_).list.length ≤ f.list.length := List.length_filter_le _ _
  obtain ⟨m, hm⟩ : ∃ m, (forgetF f at_).list.length = m := ⟨_, rfl⟩
  obtain ⟨n, hn⟩ : ∃ n, f.list.length = n := ⟨_, rfl⟩
  rw [hm] at hll hlf ⊢
  rw [hn] at hbig hlf ⊢
  have HN := Lib.hid hn
  have HLL := Lib.hid hll
  rw [hn] at HF
  clear hF ok hm hn hll
  go_enter Try.func54, Try.ntmps54
  have C3 := HF.out.cell 3
  go_upto_region 4 with fail
  generalize hW : World.alloc (World.alloc w _) _ = W
  have hb0 : Below w.heap.size w W := by rw [← hW]; exact below_then ((Below.refl _ _).alloc (Nat.le_refl _) _) ((Below.refl _ _).alloc (Nat.le_refl _) _)
  have hF0 := HF.out.below hb0
  have x1 : W.cell? ⟨w.heap.size, 0, none⟩ = some (.pointer (some ⟨b, 0, none⟩)) := by
    rw [← hW]
    refine cell_below ((Below.refl _ _).alloc (Nat.le_refl _) _) ?_
    rw [cell_of_row _ _ 0 _ _ (0, 0) (heap_alloc_new w _)]
    rfl
  have x2 : W.cell? ⟨w.heap.size + 1, 0, none⟩ = some (.int .i64 at_) := by
    rw [← hW, cell_of_row _ _ 0 _ _ (0, 0) (by rw [show w.heap.size + 1 = (w.alloc _).heap.size from by simp]; exact heap_alloc_new _ _)]
    rfl
  have hF1 : FrAt W.drew base b f (.slice A n c) hs := hF0.below (below_drewN (Below.refl _ _) 1)
  have hqm : w.heap.size ≠ b ∧ (Value.slice A n c).ownBlock ≠ some w.heap.size := ⟨by omega, fun e => by have := (HF.out.own.lt _ e).2; omega⟩
  have hqn : (Value.slice A n c).ownBlock ≠ some (w.heap.size + 1) := fun e => by have := (HF.out.own.lt _ e).2; omega
  have hdel := rdelf_any hF1.own hF1.hlen (by rw [HN.out]; exact hbig) (fun i x hx => by
    obtain ⟨r, hr⟩ := hF1.each_hs hx
    obtain ⟨g', c', rfl⟩ := hF1.time hr hx
    exact ⟨_, _, _, rfl⟩) (staleB f at_) 74 #[.pointer (some ⟨w.heap.size, 0, none⟩), .pointer (some ⟨w.heap.size + 1, 0, none⟩)] forget_enters (fun i r h w' h1 h2 hk => by
    have he := hF1.each i r h h1 h2
    obtain ⟨g', c', rfl⟩ := hF1.time h1 h2
    exact stale_any (hk.cell (hF1.cell 0) hF1.lb) (hk.cell (hF1.cell 2) hF1.lb) (hk.cell x1 hqm.2) (hk.cell x2 hqn) r (ownsRow_keep he.1 hk (fun q hq e => he.2.2.2 (hq.trans e.symm))) he.2.1 HOK.out ha1)
  have HDEL := Lib.hid hdel
  have HF0 := Lib.hid hF0
  have HB0 := Lib.hid hb0
  have D3 : W.cell? ⟨b, 3, none⟩ = some (.slice A n c) := hF0.cell 3
  have HFF := Lib.hid (fun (w2 : World) (v' : Value) h => forget_facts (w2 := w2) (v' := v') (p := staleB f at_) hF0 x1 hqm h)
  have HLL2 := HLL
  clear hdel hF0 hF1 hb0 hW C3 HOK
  go_region_with (
    go_at_call 73
    refine HDEL.out.mono ?_
    rintro e w2 ⟨v', rfl, h2⟩
    obtain ⟨A', c', rfl, y1, y3, z3, z1, z4, HEND⟩ := HFF.out w2 v' h2
    rw [HLL2.out] at z1 z4 HEND ⊢
    clear h2)
  all_goals generalize hW3 : w2.setCell ⟨b, 3, none⟩ (.slice A' m c') = w3 at z1 z4 HEND ⊢
  all_goals clear hW3 y1 y3 z3 D3 x1 x2 HFF HLL HLL2
  all_goals have hb1 : (m : Int) ≤ (n : Int) := by omega
  all_goals go_wp2_with fail
  all_goals go_ret
  all_goals
    obtain ⟨h1, h2, h3⟩ := HEND.out
    refine ⟨?_, _, _, h1, (Keep.of HB0.out).trans h2 (fun g hg => .inl hg), h3⟩
    first | rfl | skip
end Go.Proofs.Ytfbmlpdomfchpaa
