/- Several texts in one: F9, F10, F11. -/
import Derived.WalkKit
import Derived.LoopTactic
import Derived.Outline
import Derived.Lib.Hide
import Derived.Deep.RegionLaw
import Derived.Test.YtfbmlpdomfchpaaJFd
import Derived.Deep.QuietTactic
import Derived.BigQuiet
/- slices.Delete of one record: the walk. -/
namespace Go.Proofs.Ytfbmlpdomfchpaa
open Go.RowKit
set_option linter.unusedVariables false
set_option linter.unusedSimpArgs false

theorem del_cells (cur : Array Value) (xs news zs : List Value) (n m i cap : Nat) (hn : n = m + 1) (hi : i < n) (hsz : cur.size = cap * 14) (hle : n ≤ cap) (hxl : xs.length = n * 14) (htk : cur.toList.take (n * 14) = xs) (hnews : news = xs.drop ((i + 1) * 14)) (hz : zs.length = 14) :
    (setList (setList cur (i * 14) news) (m * 14) zs).toList.take (m * 14) = xs.take (i * 14) ++ news := by
  have hnl : news.length = (m - i) * 14 := by rw [hnews, List.length_drop, hxl]; omega
  have hc : ∀ j, j < n * 14 → cur[j]? = xs[j]? := fun j hj => by rw [← htk, List.getElem?_take, if_pos hj, Array.getElem?_toList]
  apply List.ext_getElem?
  intro j
  rw [List.getElem?_take, Array.getElem?_toList]
  by_cases hj : j < m * 14
  · rw [if_pos hj, setList_get _ _ _ _ (by rw [setList_size, hz]; omega), if_neg (by omega), setList_get _ _ _ _ (by rw [hnl]; omega)]
    by_cases h1 : i * 14 ≤ j
    · rw [if_pos ⟨h1, by rw [hnl]; omega⟩, List.getElem?_append_right (by rw [List.length_take]; omega), List.length_take, show min (i * 14) xs.length = i * 14 from by omega]
    · rw [if_neg (by omega), List.getElem?_append_left (by rw [List.length_take]; omega), List.getElem?_take, if_pos (by omega), hc _ (by omega)]
  · rw [if_neg hj, List.getElem?_eq_none (by rw [List.length_append, List.length_take, hnl]; omega)]
theorem rows_erase (l : List Rc) (hs : List Value) (i : Nat) (h : hs.length = l.length) : rowsF (l.eraseIdx i) (hs.eraseIdx i) = (rowsF l hs).take (i * 14) ++ (rowsF l hs).drop ((i + 1) * 14) := by
  rw [List.eraseIdx_eq_take_drop_succ, List.eraseIdx_eq_take_drop_succ, rows_append _ _ _ _ (by simp [h]), rows_take _ _ _ h, rows_drop _ _ _ h]

set_option maxRecDepth 100000 in
set_option maxHeartbeats 4000000 in
theorem rdel_any {w : World} {v : Value} {l : List Rc} {hs : List Value} {base : Nat} (hown : w.ownsRow base 117 14 v l.length (rowsF l hs)) (hlen : hs.length = l.length) (hbig : l.length ≤ 1000) (i : Nat) (hi : i < l.length) (hone : ∀ u ∈ rowsF l hs, u.oneCell' = true) :
    Calls Try.prog 78 #[v, .int .i64 i, .int .i64 (i + 1)] w fun e w' => ∃ v', e = .returned v' ∧ w'.ownsRow base 117 14 v' (l.length - 1) (rowsF (l.eraseIdx i) (hs.eraseIdx i)) ∧ v'.ownBlock = v.ownBlock ∧ ∃ b, v.ownBlock = some b ∧ Touch b w w' := by
  obtain ⟨i0, hi0, hz0, hz1, hz2⟩ := info_parts infoRecB
  have hrl := rows_len l hs hlen
  rcases hown.2 with ⟨_, hn0⟩ | ⟨g, cap, cur, rfl, hbg, hg, hle, hcm, hcs, htk⟩
  · omega
  obtain ⟨n, hn⟩ : ∃ n, l.length = n := ⟨_, rfl⟩
  rw [hn] at hle htk hi hbig hrl
  rw [hn]
  unfold maxLen at hcm
  obtain ⟨xs, hxs⟩ : ∃ xs, rowsF l hs = xs := ⟨_, rfl⟩
  rw [hxs] at htk hone hrl
  obtain ⟨news, hnews⟩ : ∃ news, news = xs.drop ((i + 1) * 14) := ⟨_, rfl⟩
  have hnl : news.length = (n - (i + 1)) * 14 := by rw [hnews, List.length_drop, hrl]; omega
  have hcell : ∀ j, j < n * 14 → w.drew.cell? ⟨g, j, none⟩ = xs[j]? := fun j hj => by
    have e : w.drew.cell? ⟨g, j, none⟩ = w.cell? ⟨g, j, none⟩ := rfl
    rw [e, cell_of_row w g j _ _ (0, 0) hg, ← htk, List.getElem?_take, if_pos hj, Array.getElem?_toList]
  have hfree : ∀ j, w.drew.frozen? ⟨g, j, none⟩ = false := fun j => frozen_of_row w g j _ _ hg
  obtain ⟨A, hA, hsrc⟩ : ∃ A : Addr, (if cap = i + 1 then some (⟨g, 0, none⟩ : Addr) else some ⟨g, (i + 1) * 14, none⟩) = some A ∧ Hid (∀ t u, news[t]? = some u → w.drew.cell? (A.add t) = some u) := by
    by_cases h : cap = i + 1
    · refine ⟨⟨g, 0, none⟩, by simp [h], fun t u hu => ?_⟩
      have h0 : news.length = 0 := by rw [hnl]; omega
      rw [List.length_eq_zero_iff.1 h0] at hu
      simp at hu
    · refine ⟨⟨g, (i + 1) * 14, none⟩, by simp [h], fun t u hu => ?_⟩
      have ht : t < news.length := (List.getElem?_eq_some_iff.1 hu).1
      rw [show (Addr.add ⟨g, (i + 1) * 14, none⟩ t) = ⟨g, (i + 1) * 14 + t, none⟩ from by simp [Addr.add], hcell _ (by rw [hnl] at ht; omega), ← hu, hnews, List.getElem?_drop]
  have s1 := Lib.hid (show news.length = (n - (i + 1)) * 14 from hnl)
  have s2 := Lib.hid (show ∀ u ∈ news, u.oneCell' = true from fun u hu => hone u (by rw [hnews] at hu; exact List.mem_of_mem_drop hu))
  have s3 := Lib.hid (show ∀ t, t < news.length → (w.drew.cell? ⟨g, 0 + i * 14 + t, none⟩).isSome = true ∧ w.drew.frozen? ⟨g, 0 + i * 14 + t, none⟩ = false from fun t ht => by
    rw [hnl] at ht
    refine ⟨?_, hfree _⟩
    rw [hcell _ (by omega), List.getElem?_eq_getElem (by rw [hrl]; omega)]
    rfl)
  have HF := Lib.hid hfree
  have HC := Lib.hid hcell
  have HG := Lib.hid hg
  have HN := Lib.hid hn
  have HXS := Lib.hid hxs
  have HNW := Lib.hid hnews
  have HTK := Lib.hid htk
  have HRL := Lib.hid hrl
  have hi1 : (i : Int) < (n : Int) := by omega
  have hi2 : (0 : Int) ≤ (i : Int) := by omega
  have hni : ((i : Int) == (i : Int) + 1) = false := by simp; omega
  have hic : i ≤ cap := by omega
  have hjc : i + 1 ≤ cap := by omega
  have hjn : i + 1 ≤ n := by omega
  have hb1 : (0 : Int) ≤ (i : Int) + 1 := by omega
  have hb2 : (i : Int) + 1 ≤ (n : Int) := by omega
  obtain ⟨m, hm⟩ : ∃ m, n = m + 1 := ⟨n - 1, by omega⟩
  have HL := Lib.hid hlen
  have HNL := Lib.hid hnl
  have HM := Lib.hid hm
  clear hm hown hlen hone hfree hcell hg hn hxs hnews htk hrl hnl
  go_enter Try.func78, Try.ntmps78
  go_wp2_with fail
  go_region_law (refine step_append_room rfl (.tmp 22) (.tmp 25) 98 rfl 117 i0 14 Try.underlying98 hi0 hz1 g 0 i cap (by simp [Act.eval, Act.put]) A (n - (i + 1)) (cap - (i + 1)) news (by simp [Act.eval, Act.put]) s1.out hsrc.out s2.out (by omega) s3.out ?_)
  rw [show i + (n - (i + 1)) = m from by have := HM.out; omega]
  have hm := HM.out
  have hfree2 : ∀ j, j < 14 → (w.drew.setCells g (i * 14) news).frozen? ⟨g, m * 14 + j, none⟩ = false := fun j _ => by
    rw [frozen_of_row _ _ _ _ _ (heap_sets news (i * 14) w.drew cur HG.out)]
  have hcell2 : ∀ j, j < 14 → ((w.drew.setCells g (i * 14) news).cell? ⟨g, m * 14 + j, none⟩).isSome = true := fun j hj => by
    rw [cell_of_row _ _ _ _ _ _ (heap_sets news (i * 14) w.drew cur HG.out), Array.getElem?_eq_getElem (by rw [setList_size, hcs]; omega)]
    rfl
  have hclr := run_clear_rec (w.drew.setCells g (i * 14) news) 0 g (m * 14) (cap - m) hcell2 hfree2
  have hh := heap_sets (Rc.zero.cells (.slice none 0 0)) (m * 14) _ _ (heap_sets news (i * 14) w.drew cur HG.out)
  have ht := touch_sets (b := g) (u := w) (Rc.zero.cells (.slice none 0 0)) (m * 14) _ (touch_sets news (i * 14) w.drew ((Touch.refl g w).drewN 1))
  generalize hW2 : (w.drew.setCells g (i * 14) news).setCells g (m * 14) (Rc.zero.cells (.slice none 0 0)) = W2 at hclr hh ht
  generalize hW : w.drew.setCells g (i * 14) news = W at hclr ⊢
  have HH := Lib.hid hh
  have HT := Lib.hid ht
  have hcm1 : ¬ cap = m := by omega
  have hmn : n - m = 1 := by omega
  have hb3 : (0 : Int) ≤ (m : Int) := by omega
  have hb4 : (m : Int) ≤ (n : Int) := by omega
  have hb5 : (n : Int) ≤ (cap : Int) := by omega
  have hb6 : m ≤ cap := by omega
  have hb7 : m ≤ n := by omega
  clear hm hh ht hcell2 hfree2
  go_wp2_with fail
  go_ret
  refine ⟨_, rfl, ?_, rfl, g, rfl, HT.out⟩
  have hm := HM.out
  have hn := HN.out
  have hnm1 : n - 1 = m := by omega
  rw [hnm1]
  refine ⟨by rw [rows_len _ _ (by rw [List.length_eraseIdx, List.length_eraseIdx, HL.out])]; rw [List.length_eraseIdx, if_pos (by omega)]; omega, Or.inr ⟨g, cap, _, rfl, hbg, HH.out, by omega, by unfold maxLen; omega, by rw [setList_size, setList_size]; exact hcs, ?_⟩⟩
  rw [rows_erase l hs i HL.out, HXS.out, ← HNW.out]
  exact del_cells cur xs news _ n m i cap hm hi hcs hle HRL.out HTK.out HNW.out (rec_len _ _)
end Go.Proofs.Ytfbmlpdomfchpaa
/- What calls on the records leave as it was; the records when some are dropped. -/
namespace Go.Proofs.Ytfbmlpdomfchpaa
open Go.RowKit
set_option linter.unusedVariables false
set_option linter.unusedSimpArgs false

/-- What lay in w lies as it did, but for the blocks of M. -/
structure Keep (M : Nat → Prop) (w w' : World) : Prop where
  os : w'.os = w.os
  tape : w'.tape = w.tape
  output : w'.output = w.output
  size : w.heap.size ≤ w'.heap.size
  block : ∀ k, k < w.heap.size → ¬ M k → w'.heap[k]? = w.heap[k]?
theorem Keep.of {M : Nat → Prop} {w w' : World} (h : Below w.heap.size w w') : Keep M w w' := ⟨h.os, h.tape, h.output, h.size, fun k hk _ => h.block k hk⟩
theorem Keep.refl (M : Nat → Prop) (w : World) : Keep M w w := ⟨rfl, rfl, rfl, Nat.le_refl _, fun _ _ _ => rfl⟩
theorem Keep.touch {M : Nat → Prop} {b : Nat} {w w' : World} (h : Touch b w w') (hb : M b) : Keep M w w' := ⟨h.os, h.tape, h.output, h.size, fun k hk hm => h.block k hk (fun e => hm (e ▸ hb))⟩
theorem Keep.trans {M N : Nat → Prop} {u v w : World} (h : Keep M u v) (k : Keep N v w) (hN : ∀ g, N g → M g ∨ u.heap.size ≤ g) : Keep M u w :=
  ⟨k.os.trans h.os, k.tape.trans h.tape, k.output.trans h.output, Nat.le_trans h.size k.size, fun i hi hm => (k.block i (Nat.lt_of_lt_of_le hi h.size) (fun hn => (hN i hn).elim hm (fun hl => by omega))).trans (h.block i hi hm)⟩
theorem Keep.thenBelow {M : Nat → Prop} {u v w : World} (h : Keep M u v) (k : Below v.heap.size v w) : Keep M u w := h.trans (.of k) (N := M) (fun _ hg => .inl hg)
theorem Keep.thenTouch {M : Nat → Prop} {b : Nat} {u v w : World} (h : Keep M u v) (k : Touch b v w) (hb : M b ∨ u.heap.size ≤ b) : Keep M u w := h.trans (.touch k rfl) (N := fun g => b = g) (fun _ hg => hg ▸ hb)
theorem Keep.wide {M N : Nat → Prop} {u v : World} (h : Keep M u v) (hN : ∀ g, M g → N g) : Keep N u v := ⟨h.os, h.tape, h.output, h.size, fun k hk hn => h.block k hk (fun hm => hn (hN k hm))⟩
theorem Keep.below {M : Nat → Prop} {B : Nat} {u w w' : World} (h : Below B u w) (k : Keep M w w') (hM : ∀ g, M g → B ≤ g) (hB : B ≤ u.heap.size) : Below B u w' :=
  ⟨k.os.trans h.os, k.tape.trans h.tape, k.output.trans h.output, Nat.le_trans h.size k.size, fun i hi => (k.block i (Nat.lt_of_lt_of_le (Nat.lt_of_lt_of_le hi hB) h.size) (fun hm => absurd (hM i hm) (by omega))).trans (h.block i hi)⟩
theorem Keep.cell {M : Nat → Prop} {w w' : World} (k : Keep M w w') {a : Addr} {v : Value} (h : w.cell? a = some v) (ha : ¬ M a.block) : w'.cell? a = some v := by
  have hl := World.block_lt_of_cell? w a h
  rw [← h]
  simp only [World.cell?, k.block a.block hl ha]
theorem ownsRow_keep {M : Nat → Prop} {w w' : World} {base size n : Nat} {e : TypeId} {v : Value} {xs : List Value} (h : w.ownsRow base e size v n xs) (k : Keep M w w') (hM : ∀ g, v.ownBlock = some g → ¬ M g) : w'.ownsRow base e size v n xs := by
  refine ⟨h.1, ?_⟩
  rcases h.2 with hn | ⟨g, cap, cur, rfl, hb, hg, rest⟩
  · exact .inl hn
  · exact .inr ⟨g, cap, cur, rfl, hb, (k.block g (Array.getElem?_eq_some_iff.1 hg).1 (hM g rfl)).trans hg, rest⟩
/-- The blocks of the records. -/
def mine (b : Nat) (lv : Value) (hs : List Value) (g : Nat) : Prop := g = b ∨ lv.ownBlock = some g ∨ ∃ (i : Nat) (h : Value), hs[i]? = some h ∧ h.ownBlock = some g
theorem FrAt.each_hs {w : World} {base b : Nat} {f : Fr} {lv : Value} {hs : List Value} (h : FrAt w base b f lv hs) {i : Nat} {x : Value} (hx : hs[i]? = some x) : ∃ r, f.list[i]? = some r := ⟨_, List.getElem?_eq_getElem (by rw [← h.hlen]; exact (List.getElem?_eq_some_iff.1 hx).1)⟩
theorem FrAt.mine_ge {w : World} {base b : Nat} {f : Fr} {lv : Value} {hs : List Value} (h : FrAt w base b f lv hs) (g : Nat) (hg : mine b lv hs g) : base ≤ g ∧ g < w.heap.size := by
  rcases hg with rfl | hg | ⟨i, x, hx, hg⟩
  · exact ⟨h.le, h.lt⟩
  · exact h.own.lt g hg
  · obtain ⟨r, hr⟩ := h.each_hs hx
    exact (h.each i r x hr hx).1.lt g hg
theorem FrAt.keep {M : Nat → Prop} {w w' : World} {base b : Nat} {f : Fr} {lv : Value} {hs : List Value} (h : FrAt w base b f lv hs) (k : Keep M w w') (hM : ∀ g, M g → ¬ mine b lv hs g) : FrAt w' base b f lv hs :=
  ⟨h.le, (k.block b h.lt (fun hm => hM b hm (.inl rfl))).trans h.head, h.hlen, ownsRow_keep h.own k (fun g hg hm => hM g hm (.inr (.inl hg))), fun i r v h1 h2 => ⟨ownsRow_keep (h.each i r v h1 h2).1 k (fun g hg hm => hM g hm (.inr (.inr ⟨i, v, h2, hg⟩))), (h.each i r v h1 h2).2⟩, h.lb, h.two⟩
/-- Some of the records stay: those at the places σ. -/
theorem FrAt.sub {w w' : World} {base b : Nat} {f f' : Fr} {lv lv' : Value} {hs hs' : List Value} (h : FrAt w base b f lv hs) (k : Keep (fun g => g = b ∨ lv.ownBlock = some g) w w')
    (head : w'.heap[b]? = some (.cells #[.int .i64 f'.window, .int .i64 f'.need, .int .i64 f'.last, lv'] 100 (0, 0))) (hlen : hs'.length = f'.list.length) (own : w'.ownsRow base 117 14 lv' f'.list.length (rowsF f'.list hs')) (hb : lv'.ownBlock = lv.ownBlock)
    (σ : Nat → Nat) (inj : ∀ i j, σ i = σ j → i = j) (hl : ∀ i r, f'.list[i]? = some r → f.list[σ i]? = some r) (hh : ∀ i x, hs'[i]? = some x → hs[σ i]? = some x) : FrAt w' base b f' lv' hs' :=
  ⟨h.le, head, hlen, own, fun i r v h1 h2 => by
    have e := h.each _ _ _ (hl i r h1) (hh i v h2)
    refine ⟨ownsRow_keep e.1 k ?_, e.2.1, e.2.2.1, by rw [hb]; exact e.2.2.2⟩
    rintro g hg (rfl | hm)
    · exact e.2.2.1 hg
    · exact e.2.2.2 (hg.trans hm.symm), by rw [hb]; exact h.lb, fun i j x y hx hy e => inj _ _ (h.two _ _ _ _ (hh i x hx) (hh j y hy) e)⟩
theorem mine_sub {b : Nat} {lv lv' : Value} {hs hs' : List Value} (hb : lv'.ownBlock = lv.ownBlock) (σ : Nat → Nat) (hh : ∀ i x, hs'[i]? = some x → hs[σ i]? = some x) (g : Nat) (hg : mine b lv' hs' g) : mine b lv hs g := by
  rcases hg with rfl | hg | ⟨i, x, hx, hg⟩
  · exact .inl rfl
  · exact .inr (.inl (hb ▸ hg))
  · exact .inr (.inr ⟨_, x, hh i x hx, hg⟩)
def skipAt (i j : Nat) : Nat := if j < i then j else j + 1
theorem skip_inj (i a b : Nat) (h : skipAt i a = skipAt i b) : a = b := by
  unfold skipAt at h
  split at h <;> split at h <;> omega
theorem erase_at {α : Type} (l : List α) (i j : Nat) (x : α) (h : (l.eraseIdx i)[j]? = some x) : l[skipAt i j]? = some x := by
  rw [List.getElem?_eraseIdx] at h
  unfold skipAt
  split at h <;> rename_i hj
  · rw [if_pos hj]; exact h
  · rw [if_neg hj]; exact h
end Go.Proofs.Ytfbmlpdomfchpaa
/- drop (written by gen_f11.py). -/
namespace Go.Proofs.Ytfbmlpdomfchpaa
open Go.RowKit
set_option linter.unusedVariables false
set_option linter.unusedSimpArgs false

def lastT (r : Rc) : Int := r.heard.getLastD 0
def lastAt (l : List Rc) (i : Nat) : Int := match l[i]? with
  | some r => lastT r
  | none => 0
/-- The place of the record whose last message is the oldest, of the first k. -/
def oldTo (l : List Rc) : Nat → Nat
  | 0 => 0
  | k + 1 => if lastAt l k < lastAt l (oldTo l k) then k else oldTo l k
theorem oldTo_lt (l : List Rc) : ∀ k, 0 < l.length → k ≤ l.length → oldTo l k < l.length
  | 0, h, _ => h
  | k + 1, h, hk => by
    rw [oldTo]
    split
    · omega
    · exact oldTo_lt l k h (by omega)
def oldF (l : List Rc) : Nat := oldTo l l.length
theorem rows_one {l : List Rc} {hs : List Value} (h : ∀ x ∈ hs, x.oneCell' = true) : ∀ u ∈ rowsF l hs, u.oneCell' = true := by
  induction l generalizing hs with
  | nil => intro u hu; simp [rowsF] at hu
  | cons r l ih =>
    cases hs with
    | nil => intro u hu; simp [rowsF] at hu
    | cons x hs =>
      intro u hu
      rw [rowsF, List.mem_append] at hu
      rcases hu with hu | hu
      · simp only [Rc.cells, List.mem_cons, List.not_mem_nil, or_false] at hu
        rcases hu with rfl | rfl | rfl | rfl | rfl | rfl | rfl | rfl | rfl | rfl | rfl | rfl | rfl | rfl
        all_goals first | rfl | exact h _ (by simp)
      · exact ih (fun y hy => h y (by simp [hy])) u hu
theorem FrAt.one {w : World} {base b : Nat} {f : Fr} {lv : Value} {hs : List Value} (h : FrAt w base b f lv hs) : ∀ u ∈ rowsF f.list hs, u.oneCell' = true := rows_one fun x hx => by
  obtain ⟨i, hi, rfl⟩ := List.getElem_of_mem hx
  have e : hs[i]? = some hs[i] := List.getElem?_eq_getElem hi
  obtain ⟨r, hr⟩ := h.each_hs e
  rcases owns_ints (h.each i r _ hr e).1 with ⟨e, _⟩ | ⟨g, cap, e, _⟩
  · rw [e]; rfl
  · rw [e]; rfl
theorem FrAt.time {w : World} {base b : Nat} {f : Fr} {lv : Value} {hs : List Value} (h : FrAt w base b f lv hs) {i : Nat} {r : Rc} {x : Value} (hr : f.list[i]? = some r) (hx : hs[i]? = some x) : ∃ gh ch, x = .slice (some ⟨gh, 0, none⟩) r.heard.length ch := by
  rcases owns_ints (h.each i r x hr hx).1 with ⟨_, e⟩ | ⟨g', c', e, _⟩
  · exact absurd e (h.each i r x hr hx).2.1
  · exact ⟨g', c', e⟩
set_option maxRecDepth 100000 in
set_option maxHeartbeats 4000000 in
theorem fdrop_any {f : Fr} {base b : Nat} {lv : Value} {hs : List Value} {w : World} (hF : FrAt w base b f lv hs) (hbig : f.list.length ≤ 1000) (hne : 0 < f.list.length) :
    Calls Try.prog 63 #[.pointer (some ⟨b, 0, none⟩)] w fun e w' => e = .returned (.tuple #[]) ∧ ∃ lv', FrAt w' base b { f with list := f.list.eraseIdx (oldF f.list) } lv' (hs.eraseIdx (oldF f.list)) ∧ lv'.ownBlock = lv.ownBlock ∧ Keep (fun g => g = b ∨ lv.ownBlock = some g) w w' := by
  have c3 : w.cell? ⟨b, 3, none⟩ = some lv := hF.cell 3
  have hbl := hF.lt
  have HF := Lib.hid hF
  have hform := owns_rec hF.own rfl hF.hlen
  obtain ⟨n, hn⟩ : ∃ n, f.list.length = n := ⟨_, rfl⟩
  rw [hn] at hform hbig hne
  have HN := Lib.hid hn
  clear hF hn
  rcases hform with ⟨rfl, e⟩ | ⟨g, cap, rfl, hb, hg, hle, hcm, hrg⟩
  · have := HN.out
    rw [e] at this
    simp at this
    omega
  · unfold maxLen at hcm
    have HRG := Lib.hid hrg
    have HOL := Lib.hid (show ∀ k, k ≤ n → oldTo f.list k < n from fun k hk => by have := oldTo_lt f.list k (by rw [HN.out]; exact hne) (by rw [HN.out]; exact hk); rw [HN.out] at this; exact this)
    clear hrg
    go_enter Try.func63, Try.ntmps63
    go_wp2_with fail
    go_loopw [2, 10] (fun o i wr => ∃ k : Nat, k ≤ n ∧ i = .int .i64 k ∧ o = .int .i64 (oldTo f.list k) ∧ Below w.heap.size w wr) (fun _ i _ => n - (intOf i).toNat)
    case atStart => exact ⟨0, Nat.zero_le _, rfl, rfl, Below.refl _ _⟩
    case round =>
      obtain ⟨k, hk, rfl, rfl, hbr⟩ := hrel
      have HBR := Lib.hid hbr
      by_cases hlt : k < n
      · have hk0 : (0 : Int) ≤ (k : Int) := by omega
        have hk1 : (k : Int) < (n : Int) := by omega
        obtain ⟨r, hr⟩ : ∃ r, f.list[k]? = some r := ⟨_, List.getElem?_eq_getElem (by rw [HN.out]; exact hlt)⟩
        obtain ⟨x, hx⟩ : ∃ x, hs[k]? = some x := ⟨_, List.getElem?_eq_getElem (by rw [HF.out.hlen, HN.out]; exact hlt)⟩
        obtain ⟨gh, ch, rfl⟩ := HF.out.time hr hx
        have hst : oldTo f.list (k + 1) = if lastAt f.list k < lastAt f.list (oldTo f.list k) then k else oldTo f.list k := rfl
        have hil := HOL.out k hk
        obtain ⟨i, hi⟩ : ∃ i, oldTo f.list k = i := ⟨_, rfl⟩
        rw [hi] at hst hil ⊢
        have hi0 : (0 : Int) ≤ (i : Int) := by omega
        have hi1 : (i : Int) < (n : Int) := by omega
        obtain ⟨o, ho⟩ : ∃ o, f.list[i]? = some o := ⟨_, List.getElem?_eq_getElem (by rw [HN.out]; exact hil)⟩
        obtain ⟨y, hy⟩ : ∃ y, hs[i]? = some y := ⟨_, List.getElem?_eq_getElem (by rw [HF.out.hlen, HN.out]; exact hil)⟩
        obtain ⟨go, co, rfl⟩ := HF.out.time ho hy
        have hlk : lastAt f.list k = lastT r := by rw [lastAt, hr]
        have hlo : lastAt f.list i = lastT o := by rw [lastAt, ho]
        rw [hlk, hlo] at hst
        have HST := Lib.hid hst
        have hrgk : wr.rangeAt g (k * 14) (r.cells (.slice (some ⟨gh, 0, none⟩) r.heard.length ch)) := fun j v hv => cell_below hbr (HRG.out k r _ hr hx j v hv)
        have HRK := Lib.hid hrgk
        have HRO := Lib.hid (show wr.rangeAt g (i * 14) (o.cells (.slice (some ⟨go, 0, none⟩) o.heard.length co)) from fun j v hv => cell_below hbr (HRG.out i o _ ho hy j v hv))
        have HE := Lib.hid (HF.out.each k r _ hr hx)
        have HEO := Lib.hid (HF.out.each i o _ ho hy)
        have hgr : g < wr.heap.size := Nat.lt_of_lt_of_le hg hbr.size
        have hbrl : b < wr.heap.size := Nat.lt_of_lt_of_le hbl hbr.size
        have C3 := Lib.hid (show wr.cell? ⟨b, 3, none⟩ = some _ from cell_below hbr c3)
        clear hr hx ho hy hrgk hbr c3 hst hlk hlo hi
        go_wp2_with (refine load_rec HRK.out _ (by rfl) rfl rfl ?_)
        generalize hW1 : wr.alloc _ = W1
        have hbW : Below wr.heap.size wr W1 := by rw [← hW1]; exact (Below.refl _ _).alloc (Nat.le_refl _) _
        have x0 : W1.cell? ⟨wr.heap.size, 0, none⟩ = some (.int .u64 r.clock) := by rw [← hW1, cell_of_row _ _ 0 _ _ (0, 0) (heap_alloc_new wr _)]; rfl
        have x1 : W1.cell? ⟨wr.heap.size, 1, none⟩ = some (.int .i64 r.num) := by rw [← hW1, cell_of_row _ _ 1 _ _ (0, 0) (heap_alloc_new wr _)]; rfl
        have x2 : W1.cell? ⟨wr.heap.size, 2, none⟩ = some (.int .i64 r.set.p1) := by rw [← hW1, cell_of_row _ _ 2 _ _ (0, 0) (heap_alloc_new wr _)]; rfl
        have x3 : W1.cell? ⟨wr.heap.size, 3, none⟩ = some (.int .i64 r.set.cls) := by rw [← hW1, cell_of_row _ _ 3 _ _ (0, 0) (heap_alloc_new wr _)]; rfl
        have x4 : W1.cell? ⟨wr.heap.size, 4, none⟩ = some (.int .i64 r.set.acc) := by rw [← hW1, cell_of_row _ _ 4 _ _ (0, 0) (heap_alloc_new wr _)]; rfl
        have x5 : W1.cell? ⟨wr.heap.size, 5, none⟩ = some (.int .i64 r.set.var) := by rw [← hW1, cell_of_row _ _ 5 _ _ (0, 0) (heap_alloc_new wr _)]; rfl
        have x6 : W1.cell? ⟨wr.heap.size, 6, none⟩ = some (.int .i64 r.set.p2) := by rw [← hW1, cell_of_row _ _ 6 _ _ (0, 0) (heap_alloc_new wr _)]; rfl
        have x7 : W1.cell? ⟨wr.heap.size, 7, none⟩ = some (.int .u64 r.set.gm) := by rw [← hW1, cell_of_row _ _ 7 _ _ (0, 0) (heap_alloc_new wr _)]; rfl
        have x8 : W1.cell? ⟨wr.heap.size, 8, none⟩ = some (.int .i64 r.set.steps) := by rw [← hW1, cell_of_row _ _ 8 _ _ (0, 0) (heap_alloc_new wr _)]; rfl
        have x9 : W1.cell? ⟨wr.heap.size, 9, none⟩ = some (.int .u64 r.set.sender) := by rw [← hW1, cell_of_row _ _ 9 _ _ (0, 0) (heap_alloc_new wr _)]; rfl
        have x10 : W1.cell? ⟨wr.heap.size, 10, none⟩ = some (.int .i64 r.set.sport) := by rw [← hW1, cell_of_row _ _ 10 _ _ (0, 0) (heap_alloc_new wr _)]; rfl
        have x11 : W1.cell? ⟨wr.heap.size, 11, none⟩ = some (.int .u64 r.set.recv) := by rw [← hW1, cell_of_row _ _ 11 _ _ (0, 0) (heap_alloc_new wr _)]; rfl
        have x12 : W1.cell? ⟨wr.heap.size, 12, none⟩ = some (.int .i64 r.set.rport) := by rw [← hW1, cell_of_row _ _ 12 _ _ (0, 0) (heap_alloc_new wr _)]; rfl
        have x13 : W1.cell? ⟨wr.heap.size, 13, none⟩ = some (.slice (some ⟨gh, 0, none⟩) r.heard.length ch) := by rw [← hW1, cell_of_row _ _ 13 _ _ (0, 0) (heap_alloc_new wr _)]; rfl
        have hsB : wr.heap.size < W1.heap.size := by rw [← hW1]; simp
        have HB1 := Lib.hid (below_then HBR.out hbW)
        obtain ⟨B, hBB⟩ : ∃ B, wr.heap.size = B := ⟨_, rfl⟩
        have n3 : ∀ u : Aft W1, u.now.cell? ⟨b, 3, none⟩ = some (.slice (some ⟨g, 0, none⟩) n cap) := fun u => u.cell (cell_below hbW C3.out)
        have HL1 := Lib.hid (show ∀ u : Aft W1, Calls Try.prog 77 #[r.v (.slice (some ⟨gh, 0, none⟩) r.heard.length ch)] u.now fun e w' => e = .returned (.int .i64 (lastT r)) ∧ Below u.now.heap.size u.now w' from fun u => latest_any r (ownsRow_below (ownsRow_below HE.out.1 HB1.out) u.below) HE.out.2.1)
        have HL2 := Lib.hid (show ∀ u : Aft W1, Calls Try.prog 77 #[o.v (.slice (some ⟨go, 0, none⟩) o.heard.length co)] u.now fun e w' => e = .returned (.int .i64 (lastT o)) ∧ Below u.now.heap.size u.now w' from fun u => latest_any o (ownsRow_below (ownsRow_below HEO.out.1 HB1.out) u.below) HEO.out.2.1)
        rw [hBB] at x0 x1 x2 x3 x4 x5 x6 x7 x8 x9 x10 x11 x12 x13 hsB ⊢
        have y0 : ∀ u : Aft W1, u.now.cell? ⟨B, 0, none⟩ = some (.int .u64 r.clock) := fun u => u.cell x0
        have y1 : ∀ u : Aft W1, u.now.cell? ⟨B, 1, none⟩ = some (.int .i64 r.num) := fun u => u.cell x1
        have y2 : ∀ u : Aft W1, u.now.cell? ⟨B, 2, none⟩ = some (.int .i64 r.set.p1) := fun u => u.cell x2
        have y3 : ∀ u : Aft W1, u.now.cell? ⟨B, 3, none⟩ = some (.int .i64 r.set.cls) := fun u => u.cell x3
        have y4 : ∀ u : Aft W1, u.now.cell? ⟨B, 4, none⟩ = some (.int .i64 r.set.acc) := fun u => u.cell x4
        have y5 : ∀ u : Aft W1, u.now.cell? ⟨B, 5, none⟩ = some (.int .i64 r.set.var) := fun u => u.cell x5
        have y6 : ∀ u : Aft W1, u.now.cell? ⟨B, 6, none⟩ = some (.int .i64 r.set.p2) := fun u => u.cell x6
        have y7 : ∀ u : Aft W1, u.now.cell? ⟨B, 7, none⟩ = some (.int .u64 r.set.gm) := fun u => u.cell x7
        have y8 : ∀ u : Aft W1, u.now.cell? ⟨B, 8, none⟩ = some (.int .i64 r.set.steps) := fun u => u.cell x8
        have y9 : ∀ u : Aft W1, u.now.cell? ⟨B, 9, none⟩ = some (.int .u64 r.set.sender) := fun u => u.cell x9
        have y10 : ∀ u : Aft W1, u.now.cell? ⟨B, 10, none⟩ = some (.int .i64 r.set.sport) := fun u => u.cell x10
        have y11 : ∀ u : Aft W1, u.now.cell? ⟨B, 11, none⟩ = some (.int .u64 r.set.recv) := fun u => u.cell x11
        have y12 : ∀ u : Aft W1, u.now.cell? ⟨B, 12, none⟩ = some (.int .i64 r.set.rport) := fun u => u.cell x12
        have y13 : ∀ u : Aft W1, u.now.cell? ⟨B, 13, none⟩ = some (.slice (some ⟨gh, 0, none⟩) r.heard.length ch) := fun u => u.cell x13
        have z0 : ∀ u : Aft W1, u.now.cell? ⟨g, i * 14, none⟩ = some (.int .u64 o.clock) := fun u => u.cell (cell_below hbW (HRO.out 0 _ rfl))
        have z1 : ∀ u : Aft W1, u.now.cell? ⟨g, i * 14 + 1, none⟩ = some (.int .i64 o.num) := fun u => u.cell (cell_below hbW (HRO.out 1 _ rfl))
        have z2 : ∀ u : Aft W1, u.now.cell? ⟨g, i * 14 + 2, none⟩ = some (.int .i64 o.set.p1) := fun u => u.cell (cell_below hbW (HRO.out 2 _ rfl))
        have z3 : ∀ u : Aft W1, u.now.cell? ⟨g, i * 14 + 3, none⟩ = some (.int .i64 o.set.cls) := fun u => u.cell (cell_below hbW (HRO.out 3 _ rfl))
        have z4 : ∀ u : Aft W1, u.now.cell? ⟨g, i * 14 + 4, none⟩ = some (.int .i64 o.set.acc) := fun u => u.cell (cell_below hbW (HRO.out 4 _ rfl))
        have z5 : ∀ u : Aft W1, u.now.cell? ⟨g, i * 14 + 5, none⟩ = some (.int .i64 o.set.var) := fun u => u.cell (cell_below hbW (HRO.out 5 _ rfl))
        have z6 : ∀ u : Aft W1, u.now.cell? ⟨g, i * 14 + 6, none⟩ = some (.int .i64 o.set.p2) := fun u => u.cell (cell_below hbW (HRO.out 6 _ rfl))
        have z7 : ∀ u : Aft W1, u.now.cell? ⟨g, i * 14 + 7, none⟩ = some (.int .u64 o.set.gm) := fun u => u.cell (cell_below hbW (HRO.out 7 _ rfl))
        have z8 : ∀ u : Aft W1, u.now.cell? ⟨g, i * 14 + 8, none⟩ = some (.int .i64 o.set.steps) := fun u => u.cell (cell_below hbW (HRO.out 8 _ rfl))
        have z9 : ∀ u : Aft W1, u.now.cell? ⟨g, i * 14 + 9, none⟩ = some (.int .u64 o.set.sender) := fun u => u.cell (cell_below hbW (HRO.out 9 _ rfl))
        have z10 : ∀ u : Aft W1, u.now.cell? ⟨g, i * 14 + 10, none⟩ = some (.int .i64 o.set.sport) := fun u => u.cell (cell_below hbW (HRO.out 10 _ rfl))
        have z11 : ∀ u : Aft W1, u.now.cell? ⟨g, i * 14 + 11, none⟩ = some (.int .u64 o.set.recv) := fun u => u.cell (cell_below hbW (HRO.out 11 _ rfl))
        have z12 : ∀ u : Aft W1, u.now.cell? ⟨g, i * 14 + 12, none⟩ = some (.int .i64 o.set.rport) := fun u => u.cell (cell_below hbW (HRO.out 12 _ rfl))
        have z13 : ∀ u : Aft W1, u.now.cell? ⟨g, i * 14 + 13, none⟩ = some (.slice (some ⟨go, 0, none⟩) o.heard.length co) := fun u => u.cell (cell_below hbW (HRO.out 13 _ rfl))
        obtain ⟨ta, hta⟩ : ∃ t, lastT r = t := ⟨_, rfl⟩
        obtain ⟨tb, htb⟩ : ∃ t, lastT o = t := ⟨_, rfl⟩
        rw [hta] at HL1 HST
        rw [htb] at HL2 HST
        clear hta htb hW1 hbW x0 x1 x2 x3 x4 x5 x6 x7 x8 x9 x10 x11 x12 x13 HRK HRO HBR HE HEO
        cases hab : decide (ta < tb)
        all_goals have HST2 := HST.out
        all_goals first | rw [if_neg (by simpa using hab)] at HST2 | rw [if_pos (by simpa using hab)] at HST2
        all_goals have HS := Lib.hid HST2
        all_goals clear HST2 HST
        all_goals refine wp_region_calm (by kernel_rfl) (by kernel_rfl) ?_
        all_goals repeat (go_big_quiet_step ((go_at_call 77; first | with_reducible exact calm_of (HL1.out _) | with_reducible exact calm_of (HL2.out _))))
        all_goals refine wpQuiet_nil ?_
        all_goals rintro _ ⟨u, rfl⟩
        all_goals have HBU := Lib.hid (below_then HB1.out u.below)
        all_goals clear y0 y1 y2 y3 y4 y5 y6 y7 y8 y9 y10 y11 y12 y13 z0 z1 z2 z3 z4 z5 z6 z7 z8 z9 z10 z11 z12 z13 n3
        all_goals go_wp2_with fail
        all_goals go_roundw
        all_goals first
          | (case rel => exact ⟨k + 1, by omega, by go_num, by rw [HS.out], HBU.out⟩)
          | skip
        all_goals simp [intOf]; omega
      · obtain rfl : k = n := by omega
        have hol := HOL.out k (Nat.le_refl _)
        have hoe : oldTo f.list k = oldF f.list := by rw [oldF, HN.out]
        rw [hoe] at hol ⊢
        have hdel := rdel_any (ownsRow_below HF.out.own hbr) HF.out.hlen (by rw [HN.out]; exact hbig) (oldF f.list) (by rw [HN.out]; exact hol) HF.out.one
        rw [HN.out] at hdel
        have HDEL := Lib.hid hdel
        have C3 : wr.cell? ⟨b, 3, none⟩ = some _ := cell_below hbr c3
        have F3 := frozen_of_row wr b 3 _ _ ((hbr.block b hbl).trans HF.out.head)
        obtain ⟨i, hi⟩ : ∃ i, oldF f.list = i := ⟨_, rfl⟩
        rw [hi] at hol HDEL ⊢
        have HI := Lib.hid hi
        clear hi
        have hi0 : (0 : Int) ≤ (i : Int) := by omega
        have hi1 : (i : Int) < (k : Int) := by omega
        clear hbr c3 hoe hdel
        go_wp2_with fail
        refine HDEL.out.mono ?_
        rintro e w1 ⟨lv', rfl, hown, hob, b', hb', ht⟩
        obtain rfl : g = b' := by injection hb'
        have hbr := HBR.out
        have hgb : b ≠ g := fun e => HF.out.lb (by rw [e]; rfl)
        have hhead := (ht.block b (Nat.lt_of_lt_of_le hbl hbr.size) hgb).trans ((hbr.block b hbl).trans HF.out.head)
        have D3 : w1.cell? ⟨b, 3, none⟩ = some _ := ht.cell' C3 hgb
        have G3 := frozen_of_row w1 b 3 _ _ hhead
        have hkp : Keep (fun x => x = b ∨ (Value.slice (some ⟨g, 0, none⟩) k cap).ownBlock = some x) w (w1.setCell ⟨b, 3, none⟩ lv') := ((Keep.of hbr).thenTouch ht (.inl (.inr rfl))).thenTouch ((Touch.refl b w1).set 3 lv') (.inl (.inl rfl))
        have hown2 : (w1.setCell ⟨b, 3, none⟩ lv').ownsRow base 117 14 lv' (k - 1) (rowsF (f.list.eraseIdx i) (hs.eraseIdx i)) := ownsRow_keep hown (Keep.touch (M := fun x => x = b) ((Touch.refl b w1).set 3 lv') rfl) (fun x hx e => by rw [hob] at hx; injection hx with hx; exact hgb (e.symm.trans hx.symm))
        have hFN : FrAt (w1.setCell ⟨b, 3, none⟩ lv') base b { f with list := f.list.eraseIdx i } lv' (hs.eraseIdx i) := HF.out.sub hkp (by rw [heap_set hhead]; rfl) (by simp [HF.out.hlen, List.length_eraseIdx]) (by
          rw [show ({ f with list := f.list.eraseIdx i } : Fr).list.length = k - 1 from by rw [show ({ f with list := f.list.eraseIdx i } : Fr).list = f.list.eraseIdx i from rfl, List.length_eraseIdx, HN.out, if_pos hol]]
          exact hown2) hob (skipAt i) (skip_inj i) (fun j r h => erase_at _ i j r h) (fun j x h => erase_at _ i j x h)
        obtain ⟨g', m, c', hlv⟩ : ∃ g' m c', lv' = .slice (some ⟨g', 0, none⟩) m c' := by
          rcases hown.2 with ⟨e, _⟩ | ⟨g', c', _, e, _⟩
          · rw [e] at hob; exact absurd hob (by simp [Value.ownBlock])
          · exact ⟨_, _, _, e⟩
        subst hlv
        have HFN := Lib.hid (And.intro hFN (And.intro hob hkp))
        clear hFN hown2 hkp hown hob hhead ht hbr C3 F3
        go_wp2_with fail
        go_end0
        have hi2 := HI.out
        subst hi2
        exact ⟨rfl, _, HFN.out.1, HFN.out.2.1, HFN.out.2.2⟩
end Go.Proofs.Ytfbmlpdomfchpaa
