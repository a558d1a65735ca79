/- Several texts in one: B6, B7. -/
import Derived.WalkKit
import Derived.LoopTactic
import Derived.Outline
import Derived.Lib.Hide
import Derived.StillTailTactics
import Derived.Test.YtfbmlpdomfchpaaJBb
import Derived.OwnWalk
import Derived.Test.YtfbmlpdomfchpaaDe4
/- A clock's own data set; what it follows. -/
namespace Go.Proofs.Ytfbmlpdomfchpaa
open Go.RowKit
set_option linter.unusedVariables false
set_option linter.unusedSimpArgs false

theorem results_one {fn : Func} {p : Tmp} (h : fn.results = #[.cell p 35]) (tmps : Array Value) (w : World) (A : Addr) (v : Value) (hp : tmps.getD p undef = .pointer (some A)) (hl : (loadVar 35 A).run Try.prog w = .ok v w) :
    (results fn tmps).run Try.prog w = .ok v w := by
  have hp' : tmps[p]?.getD undef = .pointer (some A) := by simpa using hp
  simp only [results, h]
  simp [hp', asAddr, hl, Result.andThen]
set_option maxRecDepth 100000 in
set_option maxHeartbeats 4000000 in
theorem own_ck {w : World} {base kb : Nat} {S : List Nat} {k : Ck} (h : CkE w base kb S k) : Calls Try.prog 31 #[.pointer (some ⟨kb, 0, none⟩)] w fun e w' => e = .returned k.c.own.v ∧ Below w.heap.size w w' := by
  obtain ⟨mb, sps, ft, hC, _⟩ := h
  have c0 : w.cell? ⟨kb, 0, none⟩ = some (.int .u64 k.c.id) := hC.cell 0
  have c1 : w.cell? ⟨kb, 1, none⟩ = some (.int .i64 k.c.p1) := hC.cell 1
  have c2 : w.cell? ⟨kb, 2, none⟩ = some (.int .i64 k.c.cls) := hC.cell 2
  have c3 : w.cell? ⟨kb, 3, none⟩ = some (.int .i64 k.c.acc) := hC.cell 3
  have c4 : w.cell? ⟨kb, 4, none⟩ = some (.int .i64 k.c.var) := hC.cell 4
  have c5 : w.cell? ⟨kb, 5, none⟩ = some (.int .i64 k.c.p2) := hC.cell 5
  have hkb := (hC.lt kb (.inl rfl)).2
  obtain ⟨d, hd⟩ : ∃ d, k.c.own = d := ⟨_, rfl⟩
  rw [hd]
  have HD := Lib.hid (show ownF ⟨k.c.p1, k.c.cls, k.c.acc, k.c.var, k.c.p2⟩ k.c.id = d from hd)
  clear hC hd
  go_enter Try.func31, Try.ntmps31
  go_upto_region 1 with fail
  generalize hW : w.alloc _ = w1
  have hb : Below w.heap.size w w1 := by rw [← hW]; exact (Below.refl _ _).alloc (Nat.le_refl _) _
  have hr : DSBox w1 w.heap.size .zero := by rw [← hW]; exact heap_alloc_new w _
  have y0 := cell_below hb c0
  have y1 := cell_below hb c1
  have y2 := cell_below hb c2
  have y3 := cell_below hb c3
  have y4 := cell_below hb c4
  have y5 := cell_below hb c5
  have HB := Lib.hid hb
  have HR := Lib.hid hr
  clear hW hb hr c0 c1 c2 c3 c4 c5
  go_still_tail 10, (by kernel_rfl)
  change wpList _ _ _ _ _ (World.drew w1)
  have HB2 := Lib.hid (show Below w.heap.size w w1.drew from below_drewN HB.out 1)
  have HR2 := Lib.hid (show DSBox w1.drew w.heap.size .zero from HR.out)
  generalize w1.drew = w2 at HB2 HR2 ⊢
  clear y0 y1 y2 y3 y4 y5 HB HR
  go_wp2_with fail
  refine (own_any ⟨k.c.p1, k.c.cls, k.c.acc, k.c.var, k.c.p2⟩ k.c.id w2).mono ?_
  rintro e w3 ⟨rfl, hb3⟩
  have HB3 := Lib.hid (below_then HB2.out hb3)
  have HR3 := Lib.hid (HR2.out.below hb3)
  rw [HD.out]
  clear hb3 HB2 HR2
  go_wp2_with (refine store_ds_k (d := d) HR3.out _ _ (by rfl) rfl rfl rfl ?_; intro w4 h4)
  refine bodyPost_ret (v := d.v) ?_ rfl ⟨rfl, Touch.below HB3.out h4.out.2 (Nat.le_refl _) (Nat.le_refl _)⟩
  exact results_one rfl _ _ _ _ rfl (DSBox.load h4.out.1)
theorem parent_nil (w : World) : Calls Try.prog 13 #[.pointer none] w fun e w' => e = .returned DS.zero.v ∧ Below w.heap.size w w' := by
  go_enter Try.func13, Try.ntmps13
  go_upto_region 1 with fail
  generalize hW : w.alloc _ = w1
  have hb : Below w.heap.size w w1 := by rw [← hW]; exact (Below.refl _ _).alloc (Nat.le_refl _) _
  have hr : DSBox w1 w.heap.size .zero := by rw [← hW]; exact heap_alloc_new w _
  have HB := Lib.hid hb
  have HR := Lib.hid hr
  clear hW hb hr
  go_wp2_with (refine store_ds_k (d := .zero) HR.out _ _ (by rfl) rfl rfl rfl ?_; intro w4 h4)
  refine bodyPost_ret (v := DS.zero.v) ?_ rfl ⟨rfl, Touch.below HB.out h4.out.2 (Nat.le_refl _) (Nat.le_refl _)⟩
  exact results_one rfl _ _ _ _ rfl (DSBox.load h4.out.1)
theorem CkIs.fol_range {w : World} {base kb : Nat} {k : Ck} {mb : Nat} {sps : List Nat} {ft : Nat → Nat → Prop} (h : CkIs w base kb k mb sps ft) : w.rangeAt kb 13 k.fol.cells := fun j v hv => by
  have hj : j < 11 := (List.getElem?_eq_some_iff.1 hv).1
  rw [h.cell (13 + j)]
  have : j = 0 ∨ j = 1 ∨ j = 2 ∨ j = 3 ∨ j = 4 ∨ j = 5 ∨ j = 6 ∨ j = 7 ∨ j = 8 ∨ j = 9 ∨ j = 10 := by omega
  rcases this with rfl | rfl | rfl | rfl | rfl | rfl | rfl | rfl | rfl | rfl | rfl <;> exact hv
theorem parent_any {w : World} {base kb : Nat} {S : List Nat} {k : Ck} (h : CkE w base kb S k) : Calls Try.prog 13 #[.pointer (some ⟨kb, 0, none⟩)] w fun e w' => e = .returned k.fol.v ∧ Below w.heap.size w w' := by
  obtain ⟨mb, sps, ft, hC, _⟩ := h
  have hF := hC.fol_range
  have hkb := (hC.lt kb (.inl rfl)).2
  obtain ⟨f, hf⟩ : ∃ d, k.fol = d := ⟨_, rfl⟩
  rw [hf] at hF ⊢
  have HF := Lib.hid hF
  clear hC hF hf
  go_enter Try.func13, Try.ntmps13
  go_upto_region 1 with fail
  generalize hW : w.alloc _ = w1
  have hb : Below w.heap.size w w1 := by rw [← hW]; exact (Below.refl _ _).alloc (Nat.le_refl _) _
  have hr : DSBox w1 w.heap.size .zero := by rw [← hW]; exact heap_alloc_new w _
  have HB := Lib.hid hb
  have HR := Lib.hid hr
  have HF1 := Lib.hid (rangeAt_below HF.out hb)
  clear hW hb hr HF
  go_wp2_with (first | (refine load_ds HF1.out _ (by rfl) rfl rfl ?_) | (refine store_ds_k (d := f) HR.out _ _ (by rfl) rfl rfl rfl ?_; intro w4 h4))
  refine bodyPost_ret (v := f.v) ?_ rfl ⟨rfl, Touch.below HB.out h4.out.2 (Nat.le_refl _) (Nat.le_refl _)⟩
  exact results_one rfl _ _ _ _ rfl (DSBox.load h4.out.1)
end Go.Proofs.Ytfbmlpdomfchpaa
/- The best data set of each port. -/
namespace Go.Proofs.Ytfbmlpdomfchpaa
open Go.RowKit
set_option linter.unusedVariables false
set_option linter.unusedSimpArgs false

def turnTo {α : Type} (f : α → α) (l : List α) (j : Nat) : List α := (l.take j).map f ++ l.drop j
theorem turn_zero {α : Type} (f : α → α) (l : List α) : turnTo f l 0 = l := by simp [turnTo]
theorem turn_all {α : Type} (f : α → α) (l : List α) : turnTo f l l.length = l.map f := by simp [turnTo]
theorem turn_len {α : Type} (f : α → α) (l : List α) (j : Nat) : (turnTo f l j).length = l.length := by
  unfold turnTo
  rw [List.length_append, List.length_map, List.length_take, List.length_drop]
  omega
theorem turn_at {α : Type} (f : α → α) {l : List α} {j : Nat} {x : α} (h : l[j]? = some x) : (turnTo f l j)[j]? = some x := by
  have hl := (List.getElem?_eq_some_iff.1 h).1
  unfold turnTo
  rw [List.getElem?_append_right (by simp; omega), List.getElem?_drop]
  simp only [List.length_map, List.length_take]
  rw [show j + (j - min j l.length) = j from by omega, h]
theorem turn_set {α : Type} (f : α → α) {l : List α} {j : Nat} {x : α} (h : l[j]? = some x) : (turnTo f l j).set j (f x) = turnTo f l (j + 1) := by
  have hl := (List.getElem?_eq_some_iff.1 h).1
  unfold turnTo
  have hm : ((l.take j).map f).length = j := by simp; omega
  rw [List.set_append_right _ _ (by rw [hm]; exact Nat.le_refl _), hm, Nat.sub_self, List.take_add_one, h, List.drop_eq_getElem_cons hl]
  have hx : l[j] = x := by
    have := List.getElem?_eq_getElem hl
    rw [h] at this
    exact (Option.some.inj this).symm
  simp [hx]
/-- What a clock always is. -/
structure Pst.Inv (p : Pst) : Prop where
  now1 : 1 ≤ p.now
  now9 : p.now ≤ 9
  recs : p.recs.Inv
  steps : ∀ r ∈ p.recs.list, 0 ≤ r.set.steps
  ann0 : 0 ≤ p.ann
  ann1 : p.ann ≤ 65535
  req0 : 0 ≤ p.req
  req1 : p.req ≤ 65535
structure Ck.Inv (k : Ck) : Prop where
  conf : k.c.Ok
  num : (k.ports.length : Int) = k.c.ports
  ports : ∀ p ∈ k.ports, p.Inv
  at0 : 0 ≤ k.at_
  at1 : k.at_ ≤ 1125899906842624
def forgetP (t : Int) (p : Pst) : Pst := { p with recs := forgetF p.recs t }
def bestP (t : Int) (p : Pst) : PB := ⟨!(qualF (forgetF p.recs t) t).isEmpty, bestR (qualF (forgetF p.recs t) t)⟩
def PB.cells (p : PB) : List Value := .bool p.has :: p.set.cells
theorem infoPB : (Try.prog.info? 92).map (fun i => (i.zero, i.size, i.bytes)) = some (some (.agg #[.bool false, .int .i64 0, .int .i64 0, .int .i64 0, .int .i64 0, .int .i64 0, .int .u64 0, .int .i64 0, .int .u64 0, .int .i64 0, .int .u64 0, .int .i64 0]), 12, 96) := by kernel_rfl
theorem pb_at : ∀ (l : List PB) (i j : Nat) (d : PB), l[i]? = some d → j < 12 → (l.flatMap PB.cells)[i * 12 + j]? = d.cells[j]?
  | [], _, _, _, h, _ => by simp at h
  | a :: l, 0, j, d, h, hj => by
    simp at h; subst h
    rw [List.flatMap_cons, Nat.zero_mul, Nat.zero_add, List.getElem?_append_left (by show j < 12; exact hj)]
  | a :: l, i + 1, j, d, h, hj => by
    rw [List.flatMap_cons, List.getElem?_append_right (by show 12 ≤ _; omega), show (PB.cells a).length = 12 from rfl, show (i + 1) * 12 + j - 12 = i * 12 + j from by omega]
    exact pb_at l i j d (by simpa using h) hj
theorem pb_arg {w : World} {base n : Nat} {v : Value} {l : List PB} (h : w.ownsRow base 92 12 v n (l.flatMap PB.cells)) (hn : n = l.length) (hst : ∀ p ∈ l, -9223372036854775808 ≤ p.set.steps) : ∃ A c, v = .slice A n c ∧ PBArg w A n c l ∧ ∀ g, v.ownBlock = some g → base ≤ g ∧ g < w.heap.size := by
  have hlt := h.lt
  rcases h.2 with ⟨rfl, hz⟩ | ⟨g, cap, cur, rfl, hb, hg, hl, hm, hs', ht⟩
  · exact ⟨none, 0, by rw [hz], ⟨hn.symm, by omega, by omega, fun _ => ⟨hz, rfl⟩, fun h => by omega, hst⟩, fun g hg => by simp [Value.ownBlock] at hg⟩
  · refine ⟨_, cap, rfl, ⟨hn.symm, hl, by unfold maxLen at hm; omega, (fun h => by cases h), fun _ => ⟨g, 0, rfl, fun i hi => ?_⟩, hst⟩, fun g hg => ⟨(hlt g hg).1, (hlt g hg).2⟩⟩
    have hd : l[i]? = some (l.getD i .zero) := by rw [List.getD_eq_getElem?_getD, List.getElem?_eq_getElem hi]; rfl
    have hc : ∀ j v, (PB.cells (l.getD i .zero))[j]? = some v → w.cell? ⟨g, 0 + i * 12 + j, none⟩ = some v := fun j v hv => by
      have hj : j < 12 := (List.getElem?_eq_some_iff.1 hv).1
      rw [Nat.zero_add, cell_of_row w g _ _ _ (0, 0) hg]
      have k : (cur.toList.take (n * 12))[i * 12 + j]? = (l.flatMap PB.cells)[i * 12 + j]? := by rw [ht]
      rw [List.getElem?_take, if_pos (by omega), pb_at l i j _ hd hj, hv] at k
      rw [← Array.getElem?_toList, k]
    exact ⟨hc 0 _ rfl, hc 1 _ rfl, hc 2 _ rfl, hc 3 _ rfl, hc 4 _ rfl, hc 5 _ rfl, hc 6 _ rfl, hc 7 _ rfl, hc 8 _ rfl, hc 9 _ rfl, hc 10 _ rfl, hc 11 _ rfl⟩
theorem best_steps {f : Fr} (h : ∀ r ∈ f.list, 0 ≤ r.set.steps) (t : Int) : 0 ≤ (bestR (qualF f t)).steps := by
  by_cases e : qualF f t = []
  · rw [e]; exact Int.le_refl _
  · have hm : bestR (qualF f t) ∈ qualF f t := by
      rw [bestR, if_neg e]
      have : ∀ (l : List DS) (b : DS), l.foldl (fun b d => if lessB d b = true then d else b) b = b ∨ l.foldl (fun b d => if lessB d b = true then d else b) b ∈ l := by
        intro l
        induction l with
        | nil => exact fun b => .inl rfl
        | cons a l ih =>
          intro b
          rw [List.foldl_cons]
          rcases ih (if lessB a b = true then a else b) with h | h
          · rw [h]
            split
            · exact .inr (by simp)
            · exact .inl rfl
          · exact .inr (List.mem_cons_of_mem _ h)
      generalize qualF f t = l at e
      cases l with
      | nil => exact absurd rfl e
      | cons a l =>
        unfold bestL
        rcases this (a :: l) ((a :: l).headD .zero) with h | h
        · rw [h]; simp
        · exact h
    unfold qualF at hm
    obtain ⟨r, hr, he⟩ := List.mem_map.1 hm
    show 0 ≤ (bestR (qualF f t)).steps
    have : (bestR (qualF f t)) = r.set := he.symm
    rw [this]
    exact h r (List.mem_filter.1 hr).1
end Go.Proofs.Ytfbmlpdomfchpaa
