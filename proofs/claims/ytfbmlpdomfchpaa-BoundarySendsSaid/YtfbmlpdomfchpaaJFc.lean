/- Several texts in one: Touch, F6. -/
import Derived.WalkKit
import Derived.Lib.Hide
import Derived.Test.YtfbmlpdomfchpaaF5
import Derived.Test.YtfbmlpdomfchpaaJEa
import Derived.LoopTactic
import Derived.Outline
/- What a call that writes one block alone leaves. -/
namespace Go.Proofs.Ytfbmlpdomfchpaa
open Go.RowKit
set_option linter.unusedVariables false
set_option linter.unusedSimpArgs false

end Go.Proofs.Ytfbmlpdomfchpaa
/- Best (written by gen_f6.py). -/
namespace Go.Proofs.Ytfbmlpdomfchpaa
open Go.RowKit
set_option linter.unusedVariables false
set_option linter.unusedSimpArgs false

/-- A data set lies in a block of its own, which may be written. -/
def DSBox (w : World) (g : Nat) (d : DS) : Prop := w.heap[g]? = some (.cells d.cells.toArray 35 (0, 0))
theorem DSBox.lt {w : World} {g : Nat} {d : DS} (h : DSBox w g d) : g < w.heap.size := (Array.getElem?_eq_some_iff.1 h).1
theorem DSBox.cell {w : World} {g : Nat} {d : DS} (h : DSBox w g d) (j : Nat) : w.cell? ⟨g, j, none⟩ = d.cells[j]? := by rw [cell_of_row w g j _ _ (0, 0) h]; simp
theorem DSBox.free {w : World} {g : Nat} {d : DS} (h : DSBox w g d) (j : Nat) : w.frozen? ⟨g, j, none⟩ = false := frozen_of_row w g j _ _ h
theorem DSBox.below {w w' : World} {g : Nat} {d : DS} (h : DSBox w g d) (k : Below w.heap.size w w') : DSBox w' g d := (k.block g h.lt).trans h
theorem DSBox.up {w : World} {g : Nat} {d : DS} (h : DSBox w g d) (o : Obj) : DSBox (w.alloc o) g d := h.below ((Below.refl _ _).alloc (Nat.le_refl _) o)
theorem DSBox.touch {b : Nat} {w w' : World} {g : Nat} {d : DS} (h : DSBox w g d) (k : Touch b w w') (hg : g ≠ b) : DSBox w' g d := (k.block g h.lt hg).trans h
theorem DSBox.store {X : World} {g : Nat} {e : DS} (h : DSBox X g e) (d : DS) : DSBox (((((((((((X.setCell ⟨g, 0, none⟩ (.int .i64 d.p1)).setCell ⟨g, 1, none⟩ (.int .i64 d.cls)).setCell ⟨g, 2, none⟩ (.int .i64 d.acc)).setCell ⟨g, 3, none⟩ (.int .i64 d.var)).setCell ⟨g, 4, none⟩ (.int .i64 d.p2)).setCell ⟨g, 5, none⟩ (.int .u64 d.gm)).setCell ⟨g, 6, none⟩ (.int .i64 d.steps)).setCell ⟨g, 7, none⟩ (.int .u64 d.sender)).setCell ⟨g, 8, none⟩ (.int .i64 d.sport)).setCell ⟨g, 9, none⟩ (.int .u64 d.recv)).setCell ⟨g, 10, none⟩ (.int .i64 d.rport)) g d := by
  have k := (heap_set (heap_set (heap_set (heap_set (heap_set (heap_set (heap_set (heap_set (heap_set (heap_set (heap_set h 0 (.int .i64 d.p1)) 1 (.int .i64 d.cls)) 2 (.int .i64 d.acc)) 3 (.int .i64 d.var)) 4 (.int .i64 d.p2)) 5 (.int .u64 d.gm)) 6 (.int .i64 d.steps)) 7 (.int .u64 d.sender)) 8 (.int .i64 d.sport)) 9 (.int .u64 d.recv)) 10 (.int .i64 d.rport))
  unfold DSBox
  rw [k]
  simp [DS.cells]
theorem Touch.store {u X : World} {g : Nat} (h : Touch g u X) (d : DS) : Touch g u (((((((((((X.setCell ⟨g, 0, none⟩ (.int .i64 d.p1)).setCell ⟨g, 1, none⟩ (.int .i64 d.cls)).setCell ⟨g, 2, none⟩ (.int .i64 d.acc)).setCell ⟨g, 3, none⟩ (.int .i64 d.var)).setCell ⟨g, 4, none⟩ (.int .i64 d.p2)).setCell ⟨g, 5, none⟩ (.int .u64 d.gm)).setCell ⟨g, 6, none⟩ (.int .i64 d.steps)).setCell ⟨g, 7, none⟩ (.int .u64 d.sender)).setCell ⟨g, 8, none⟩ (.int .i64 d.sport)).setCell ⟨g, 9, none⟩ (.int .u64 d.recv)).setCell ⟨g, 10, none⟩ (.int .i64 d.rport)) := (((((((((((h.set 0 _).set 1 _).set 2 _).set 3 _).set 4 _).set 5 _).set 6 _).set 7 _).set 8 _).set 9 _).set 10 _)
def topTo (l : List DS) (k : Nat) : DS := (l.take k).foldl (fun b d => if lessB d b = true then d else b) (l.headD .zero)
def bestL (l : List DS) : DS := l.foldl (fun b d => if lessB d b = true then d else b) (l.headD .zero)
theorem topTo_next {l : List DS} {k : Nat} {d : DS} (h : l[k]? = some d) : topTo l (k + 1) = if lessB d (topTo l k) = true then d else topTo l k := by
  unfold topTo
  rw [List.take_add_one, h]
  simp
theorem ds_at : ∀ (l : List DS) (i j : Nat) (d : DS), l[i]? = some d → j < 11 → (l.flatMap DS.cells)[i * 11 + j]? = d.cells[j]?
  | [], _, _, _, h, _ => by simp at h
  | a :: l, 0, j, d, h, hj => by
    simp at h; subst h
    rw [List.flatMap_cons, Nat.zero_mul, Nat.zero_add, List.getElem?_append_left (by show j < 11; exact hj)]
  | a :: l, i + 1, j, d, h, hj => by
    rw [List.flatMap_cons, List.getElem?_append_right (by show 11 ≤ _; omega), show (DS.cells a).length = 11 from rfl, show (i + 1) * 11 + j - 11 = i * 11 + j from by omega]
    exact ds_at l i j d (by simpa using h) hj
/-- Where the data sets of a slice lie. -/
theorem owns_ds {w : World} {base n : Nat} {v : Value} {l : List DS} (h : w.ownsRow base 35 11 v n (l.flatMap DS.cells)) (hn : n = l.length) :
    (v = .slice none 0 0 ∧ l = []) ∨ ∃ g cap, v = .slice (some ⟨g, 0, none⟩) n cap ∧ base ≤ g ∧ g < w.heap.size ∧ n ≤ cap ∧ cap ≤ maxLen ∧ ∀ i d, l[i]? = some d → w.rangeAt g (i * 11) d.cells := by
  rcases h.2 with ⟨e, hz⟩ | ⟨g, cap, cur, e, hb, hg, hl, hm, hs', ht⟩
  · exact .inl ⟨e, List.length_eq_zero_iff.1 (by omega)⟩
  · refine .inr ⟨g, cap, e, hb, (Array.getElem?_eq_some_iff.1 hg).1, hl, hm, fun i d h1 j v hv => ?_⟩
    have hj : j < 11 := (List.getElem?_eq_some_iff.1 hv).1
    have hi : i < n := by rw [hn]; exact (List.getElem?_eq_some_iff.1 h1).1
    rw [cell_of_row w g _ _ _ (0, 0) hg]
    have k : (cur.toList.take (n * 11))[i * 11 + j]? = (l.flatMap DS.cells)[i * 11 + j]? := by rw [ht]
    rw [List.getElem?_take, if_pos (by omega), ds_at l i j d h1 hj, hv] at k
    rw [← Array.getElem?_toList, k]
theorem infoDS11 : (Try.prog.info? 35).map (·.size) = some 11 := by kernel_rfl
theorem load_ds {ops : Array Oper} {rest : List Oper} {op : Oper} {a : Act} {w : World} {Q : Exit → Act → World → Prop} {g o : Nat} {d : DS} (hr : w.rangeAt g o d.cells) (x : Operand) (hw : Region.wanted op (yielded ops a.tmps) = true)
    (ho : op.op = .load 35 x) (hx : a.eval x = .pointer (some ⟨g, o, none⟩)) (k : wpList Try.prog ops Q rest (a.put op.dst d.v) w) : wpList Try.prog ops Q (op :: rest) a w :=
  BigFrame.wpList_want hw fun K hK => wp_load_mid _ x ho g o hx d.cells _ hr Try.underlying35 rfl infoDS11 (hK _ _ k)
theorem DSBox.range {w : World} {g : Nat} {d : DS} (h : DSBox w g d) : w.rangeAt g 0 d.cells := fun j v hv => by rw [Nat.zero_add, h.cell, hv]
def bestR (l : List DS) : DS := if l = [] then .zero else bestL l
theorem results_ds {fn : Func} {p u : Tmp} (h : fn.results = #[.cell p 35, .tmp u]) (tmps : Array Value) (w : World) (A : Addr) (v : Value) (z : Value) (hp : tmps.getD p undef = .pointer (some A)) (hu : tmps.getD u undef = z) (hl : (loadVar 35 A).run Try.prog w = .ok v w) :
    (results fn tmps).run Try.prog w = .ok (.tuple #[v, z]) w := by
  rw [results_cell_tmp h]
  rw [hp, hu]
  simp [asAddr, hl, Result.andThen]
theorem DSBox.there {w : World} {g : Nat} {d : DS} (h : DSBox w g d) : w.there g 0 11 := fun j hj => ⟨by rw [Nat.zero_add, h.cell]; simp [DS.cells, hj], h.free _⟩
theorem DSBox.sets {w : World} {g : Nat} {e : DS} (h : DSBox w g e) (d : DS) : DSBox (w.setCells g 0 d.cells) g d := DSBox.store h d
theorem Touch.setsD {u w : World} {g : Nat} (h : Touch g u w) (d : DS) : Touch g u (w.setCells g 0 d.cells) := Touch.store h d
theorem ds_one (d : DS) : d.cells.toArray.all (·.oneCell') = true := by simp [DS.cells, Value.oneCell']
theorem store_ds {ops : Array Oper} {rest : List Oper} {op : Oper} {a : Act} {w : World} {Q : Exit → Act → World → Prop} {g : Nat} {e d : DS} (ht : DSBox w g e) (x y : Operand) (hw : Region.wanted op (yielded ops a.tmps) = true)
    (ho : op.op = .store 35 x y) (hx : a.eval x = .pointer (some ⟨g, 0, none⟩)) (hy : a.eval y = d.v) (k : wpList Try.prog ops Q rest (a.put op.dst undef) (w.setCells g 0 d.cells)) : wpList Try.prog ops Q (op :: rest) a w :=
  BigFrame.wpList_want hw fun K hK => wp_store_mid _ x y ho g 0 d.cells.toArray hx hy ht.there infoDS11 (ds_one d) (hK _ _ k)
theorem store_ds_k {ops : Array Oper} {rest : List Oper} {op : Oper} {a : Act} {w : World} {Q : Exit → Act → World → Prop} {g : Nat} {e d : DS} (ht : DSBox w g e) (x y : Operand) (hw : Region.wanted op (yielded ops a.tmps) = true)
    (ho : op.op = .store 35 x y) (hx : a.eval x = .pointer (some ⟨g, 0, none⟩)) (hy : a.eval y = d.v) (k : ∀ w', Hid (DSBox w' g d ∧ Touch g w w') → wpList Try.prog ops Q rest (a.put op.dst undef) w') : wpList Try.prog ops Q (op :: rest) a w :=
  store_ds ht x y hw ho hx hy (k _ ⟨DSBox.sets ht d, Touch.setsD (Touch.refl _ _) d⟩)
theorem DSBox.load {w : World} {g : Nat} {d : DS} (h : DSBox w g d) : (loadVar 35 ⟨g, 0, none⟩).run Try.prog w = .ok d.v w := run_loadVar_mid w g 0 _ d.cells _ h.range Try.underlying35 rfl infoDS11
theorem rangeAt_touch {b : Nat} {w w' : World} {g f : Nat} {cs : List Value} (h : w.rangeAt g f cs) (k : Touch b w w') (hg : g ≠ b) : w'.rangeAt g f cs := fun j v hv => k.cell' (h j v hv) hg
theorem rangeAt_below {w w' : World} {g f : Nat} {cs : List Value} (h : w.rangeAt g f cs) (k : Below w.heap.size w w') : w'.rangeAt g f cs := fun j v hv => (k.cell (World.block_lt_of_cell? w _ (h j v hv))).trans (h j v hv)
set_option maxRecDepth 100000 in
set_option maxHeartbeats 4000000 in
/-- Best out of what Qualified has returned. -/
theorem fbest_of {P_ : Value} {at_ : Int} {l : List DS} {w : World} (hbig : l.length ≤ 1000)
    (hq : ∀ w', Below w.heap.size w w' → Calls Try.prog 76 #[P_, .int .i64 at_] w' fun e w'' => ∃ q, e = .returned q ∧ Below w'.heap.size w' w'' ∧ w''.ownsRow w'.heap.size 35 11 q l.length (l.flatMap DS.cells)) :
    Calls Try.prog 55 #[P_, .int .i64 at_] w fun e w' => e = .returned (.tuple #[(bestR l).v, .bool (!l.isEmpty)]) ∧ Below w.heap.size w w' := by
  have HQ := Lib.hid hq
  clear hq
  go_enter Try.func55, Try.ntmps55
  go_wp2_with fail
  generalize hW : w.alloc _ = W
  have hb0 : Below w.heap.size w W := by rw [← hW]; exact (Below.refl _ _).alloc (Nat.le_refl _) _
  have hr0 : DSBox W w.heap.size .zero := by rw [← hW]; exact heap_alloc_new w _
  have HB0 := Lib.hid hb0
  clear hW
  refine (HQ.out W hb0).mono ?_
  rintro e w1 ⟨q, rfl, hb1, hown⟩
  have HB1 := Lib.hid (below_then HB0.out hb1)
  have HR1 := Lib.hid (hr0.below hb1)
  have hs1 : W.heap.size ≤ w1.heap.size := hb1.size
  have hsr : w.heap.size < W.heap.size := hr0.lt
  obtain ⟨n, hn⟩ : ∃ n, l.length = n := ⟨_, rfl⟩
  rw [hn] at hown hbig
  have HN := Lib.hid hn
  clear hb0 hr0 hb1 HB0 HQ
  by_cases hl : l = []
  · subst hl
    obtain rfl : n = 0 := by rw [← HN.out]; rfl
    obtain ⟨A, c, rfl⟩ : ∃ A c, q = .slice A 0 c := by
      rcases owns_ds hown rfl with ⟨e, _⟩ | ⟨g, cap, e, _⟩
      · exact ⟨_, _, e⟩
      · exact ⟨_, _, e⟩
    clear hown
    go_wp2_with (refine store_ds (d := .zero) HR1.out _ _ (by rfl) rfl rfl rfl ?_)
    refine bodyPost_ret (v := .tuple #[DS.zero.v, .bool false]) ?_ rfl ⟨rfl, Touch.below HB1.out (Touch.setsD (Touch.refl _ _) .zero) (Nat.le_refl _) (Nat.le_refl _)⟩
    exact results_ds rfl _ _ _ _ _ rfl rfl (DSBox.load (DSBox.sets HR1.out .zero))
  have hn0 : 0 < n := by rw [← HN.out]; exact List.length_pos_iff.2 hl
  rcases owns_ds hown HN.out.symm with ⟨_, e⟩ | ⟨g, cap, rfl, hbg, hg, hle, hcm, hrg⟩
  · exact absurd e hl
  unfold maxLen at hcm
  obtain ⟨d0, hd0⟩ : ∃ d, l[0]? = some d := ⟨_, List.getElem?_eq_getElem (by rw [HN.out]; exact hn0)⟩
  have hRes : (bestR l).v = (bestL l).v ∧ (!l.isEmpty) = true := by
    constructor
    · rw [bestR, if_neg hl]
    · cases l with
      | nil => exact absurd rfl hl
      | cons a t => rfl
  have HRES := Lib.hid hRes
  have ht0 : topTo l 0 = d0 := by
    cases l with
    | nil => simp at hd0
    | cons a t => simp at hd0; rw [← hd0]; rfl
  have HRG := Lib.hid hrg
  have HD0 := Lib.hid hd0
  have HT0 := Lib.hid ht0
  have hn1 : (1 : Int) ≤ (n : Int) := by omega
  have hnb : ((n : Int) == 0) = false := by simp; omega
  have hgr : g ≠ w.heap.size := by omega
  clear hown hrg hd0 ht0 hl hRes
  go_wp2_with (refine load_ds (HRG.out 0 d0 HD0.out) _ (by rfl) rfl rfl ?_)
  generalize hW2 : w1.alloc _ = W2
  have hb2 : Below w1.heap.size w1 W2 := by rw [← hW2]; exact (Below.refl _ _).alloc (Nat.le_refl _) _
  have h7 : DSBox W2 w1.heap.size (topTo l 0) := by rw [HT0.out, ← hW2]; exact heap_alloc_new w1 _
  have HB2 := Lib.hid (below_then HB1.out hb2)
  have HR2 := Lib.hid (HR1.out.below hb2)
  have HRG2 := Lib.hid (show ∀ i d, l[i]? = some d → W2.rangeAt g (i * 11) d.cells from fun i d h => rangeAt_below (HRG.out i d h) hb2)
  have hgB : g ≠ w1.heap.size := by omega
  have hRB : w.heap.size ≠ w1.heap.size := by omega
  have hwB : w.heap.size ≤ w1.heap.size := by omega
  have H7 := Lib.hid h7
  clear hW2 hb2 h7 HB1 HR1 HRG HD0 HT0 hg hs1
  generalize w1.heap.size = B at *
  go_wp2_with fail
  go_loopw [22] (fun i wr => ∃ k : Nat, k ≤ n ∧ i = .int .i64 k ∧ DSBox wr B (topTo l k) ∧ Touch B W2 wr) (fun i _ => n - (intOf i).toNat)
  case atStart => exact ⟨0, Nat.zero_le _, rfl, H7.out, Touch.refl _ _⟩
  case round =>
    obtain ⟨k, hk, rfl, h7, ht⟩ := hrel
    by_cases hlt : k < n
    · have hk0 : (0 : Int) ≤ (k : Int) := by omega
      have hk1 : (k : Int) < (n : Int) := by omega
      obtain ⟨d, hd⟩ : ∃ d, l[k]? = some d := ⟨_, List.getElem?_eq_getElem (by rw [HN.out]; exact hlt)⟩
      have HRK := Lib.hid (rangeAt_touch (HRG2.out k d hd) ht hgB)
      have HNX := Lib.hid (topTo_next hd)
      obtain ⟨t, htt⟩ : ∃ t, topTo l k = t := ⟨_, rfl⟩
      rw [htt] at h7 HNX
      have H7k := Lib.hid h7
      have HT := Lib.hid ht
      have hBr : B < wr.heap.size := h7.lt
      clear hd htt h7 ht
      go_wp2_with (first | (refine load_ds HRK.out _ (by rfl) rfl rfl ?_) | (refine load_ds (H7k.out.up _).range _ (by rfl) rfl rfl ?_))
      generalize hW3 : wr.alloc _ = W3
      have hb3 : Below wr.heap.size wr W3 := by rw [← hW3]; exact (Below.refl _ _).alloc (Nat.le_refl _) _
      have H9 := Lib.hid (show DSBox W3 wr.heap.size d from by rw [← hW3]; exact heap_alloc_new wr _)
      have H7b := Lib.hid (H7k.out.below hb3)
      have HT3 := Lib.hid (HT.out.trans (.of hb3))
      have hne9 : wr.heap.size ≠ B := Nat.ne_of_gt hBr
      clear hW3 hb3 H7k HRK HT hBr
      have hls := less_any d t
      cases hlb : lessB d t
      all_goals rw [hlb] at hls HNX
      all_goals have HLS := Lib.hid hls
      all_goals clear hls hlb
      all_goals refine (HLS.out _).mono ?_
      all_goals rintro e w4 ⟨rfl, hb4⟩
      all_goals have H9b := Lib.hid (H9.out.below hb4)
      all_goals have H7c := Lib.hid (H7b.out.below hb4)
      all_goals have HT4 := Lib.hid (HT3.out.trans (.of hb4))
      all_goals clear hb4 H9 H7b HT3
      · go_wp2_with fail
        go_roundw
        case rel => exact ⟨k + 1, by omega, by go_num, by rw [HNX.out]; exact H7c.out, HT4.out⟩
        case measure => simp [intOf]; omega
      · go_wp2_with (first | (refine load_ds H9b.out.range _ (by rfl) rfl rfl ?_) | (refine store_ds_k (d := d) H7c.out _ _ (by rfl) rfl rfl rfl ?_; intro w5 h5))
        go_roundw
        case rel => exact ⟨k + 1, by omega, by go_num, by rw [HNX.out]; exact h5.out.1, HT4.out.trans h5.out.2⟩
        case measure => simp [intOf]; omega
    · obtain rfl : k = n := by omega
      have e : topTo l k = bestL l := by unfold topTo bestL; rw [List.take_of_length_le (by rw [HN.out]; exact Nat.le_refl _)]
      obtain ⟨z, hz⟩ : ∃ z, bestL l = z := ⟨_, rfl⟩
      rw [e, hz] at h7
      have HZ := Lib.hid hz
      have H7e := Lib.hid h7
      have HRe := Lib.hid (HR2.out.touch ht hRB)
      have HTe := Lib.hid (Touch.below HB2.out ht hwB (Nat.le_refl _))
      clear h7 ht e hz
      go_wp2_with (first | (refine load_ds H7e.out.range _ (by rfl) rfl rfl ?_) | (refine store_ds (d := z) HRe.out _ _ (by rfl) rfl rfl rfl ?_))
      refine bodyPost_ret (v := .tuple #[z.v, .bool true]) ?_ rfl ⟨by rw [HRES.out.1, HRES.out.2, HZ.out], Touch.below HTe.out (Touch.setsD (Touch.refl _ _) z) (Nat.le_refl _) (Nat.le_refl _)⟩
      exact results_ds rfl _ _ _ _ _ rfl rfl (DSBox.load (DSBox.sets HRe.out z))
end Go.Proofs.Ytfbmlpdomfchpaa
