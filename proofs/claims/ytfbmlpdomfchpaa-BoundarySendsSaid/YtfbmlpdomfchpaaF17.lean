/- The calls on the records, as steps of one state. -/
import Derived.WalkKit
import Derived.Lib.Hide
import Derived.Test.YtfbmlpdomfchpaaJFg
namespace Go.Proofs.Ytfbmlpdomfchpaa
open Go.RowKit
set_option linter.unusedVariables false
set_option linter.unusedSimpArgs false

structure Fr.Inv (f : Fr) : Prop where
  ok : f.Ok
  five : f.list.length ≤ 5
  eight : ∀ r ∈ f.list, r.heard.length ≤ 8
def hearS (f : Fr) (d : DS) (t : Int) : Fr := if hearE f d t = 0 then hearF f d t else f
theorem pushT_len (h : List Int) (t : Int) (hh : h.length ≤ 8) : (pushT h t).length ≤ 8 := by
  unfold pushT
  split
  · rename_i hl
    simp only [List.length_drop, List.length_append, List.length_cons, List.length_nil] at hl ⊢
    omega
  · omega
theorem setAt_len (l : List Rc) (s : Nat) (d : DS) (t : Int) : (setAt l s d t).length = l.length := by
  unfold setAt
  split <;> simp
theorem setAt_mem {l : List Rc} {s : Nat} {d : DS} {t : Int} {r : Rc} (h : r ∈ setAt l s d t) : r ∈ l ∨ ∃ a ∈ l, r = ⟨a.clock, a.num, d, pushT a.heard t⟩ := by
  unfold setAt at h
  split at h
  · rename_i a ha
    rcases List.mem_or_eq_of_mem_set h with h | h
    · exact .inl h
    · exact .inr ⟨a, List.mem_of_getElem? ha, h⟩
  · exact .inl h
theorem Fr.Inv.heard {f : Fr} (h : f.Inv) (d : DS) (t : Int) : (hearS f d t).Inv := by
  unfold hearS
  split
  · rename_i he
    have hd := hear_ok he
    simp at hd
    refine ⟨⟨h.ok.w0, h.ok.w1, by show 0 ≤ t; omega, by show t ≤ 1125899906842624; omega⟩, ?_, ?_⟩
    · show (setAt _ _ _ _).length ≤ 5
      rw [setAt_len]
      unfold midL
      split
      · exact h.five
      · rw [List.length_append]
        have hf := h.five
        unfold roomL
        split
        · rename_i h5
          have hne : oldF f.list < f.list.length := oldTo_lt _ _ (by omega) (Nat.le_refl _)
          rw [List.length_eraseIdx, if_pos hne]
          simp; omega
        · simp; omega
    · intro r hr
      have hm : ∀ a ∈ midL f d, a.heard.length ≤ 8 := fun a ha => by
        unfold midL at ha
        split at ha
        · exact h.eight a ha
        · rw [List.mem_append] at ha
          rcases ha with ha | ha
          · exact h.eight a (room_mem ha)
          · simp at ha
            subst ha
            simp
      rcases setAt_mem hr with hr | ⟨a, ha, rfl⟩
      · exact hm r hr
      · exact pushT_len _ _ (hm a ha)
  · exact h
theorem Fr.Inv.forget {f : Fr} (h : f.Inv) (t : Int) : (forgetF f t).Inv := ⟨⟨h.ok.w0, h.ok.w1, h.ok.l0, h.ok.l1⟩, Nat.le_trans (List.length_filter_le _ _) h.five, fun r hr => h.eight r (List.mem_filter.1 hr).1⟩
/-- The records lie at B, and none of the blocks of S is theirs. -/
structure AwE (w : World) (B : Nat) (S : List Nat) (f : Fr) : Prop where
  inv : f.Inv
  ex : ∃ lv hs, FrAt w B B f lv hs ∧ ∀ q ∈ S, q < w.heap.size ∧ ¬ mine B lv hs q
/-- What lay below B, and in the blocks of S, lies as it did. -/
structure Stay (B : Nat) (S : List Nat) (w w' : World) : Prop where
  below : Below B w w'
  same : ∀ q ∈ S, w'.heap[q]? = w.heap[q]?
theorem Stay.trans {B : Nat} {S : List Nat} {u v w : World} (h : Stay B S u v) (k : Stay B S v w) : Stay B S u w := ⟨h.below.trans k.below, fun q hq => (k.same q hq).trans (h.same q hq)⟩
theorem Stay.cell {B : Nat} {S : List Nat} {w w' : World} (h : Stay B S w w') {a : Addr} {v : Value} (hc : w.cell? a = some v) (ha : a.block < B ∨ a.block ∈ S) : w'.cell? a = some v := by
  rw [← hc]
  rcases ha with ha | ha
  · exact World.cell?_of_block (h.below.block _ ha)
  · exact World.cell?_of_block (h.same _ ha)
theorem AwE.size {w : World} {B : Nat} {S : List Nat} {f : Fr} (h : AwE w B S f) : B < w.heap.size := by
  obtain ⟨lv, hs, hF, _⟩ := h.ex
  exact hF.lt
theorem AwE.below {w w' : World} {B : Nat} {S : List Nat} {f : Fr} (h : AwE w B S f) (k : Below w.heap.size w w') : AwE w' B S f := by
  obtain ⟨lv, hs, hF, hS⟩ := h.ex
  exact ⟨h.inv, lv, hs, hF.below k, fun q hq => ⟨Nat.lt_of_lt_of_le (hS q hq).1 k.size, (hS q hq).2⟩⟩
theorem AwE.stay {w w' : World} {B : Nat} {S : List Nat} {f : Fr} (h : AwE w B S f) (k : Below w.heap.size w w') : Stay B S w w' := by
  obtain ⟨lv, hs, hF, hS⟩ := h.ex
  exact ⟨k.mono (Nat.le_of_lt hF.lt), fun q hq => k.block q (hS q hq).1⟩
theorem AwE.add {w w' : World} {B : Nat} {S : List Nat} {f : Fr} (h : AwE w B S f) (k : Below w.heap.size w w') {g : Nat} (h1 : w.heap.size ≤ g) (h2 : g < w'.heap.size) : AwE w' B (g :: S) f := by
  obtain ⟨lv, hs, hF, hS⟩ := h.ex
  refine ⟨h.inv, lv, hs, hF.below k, fun q hq => ?_⟩
  rcases List.mem_cons.1 hq with rfl | hq
  · exact ⟨h2, fun hm => by have := (hF.mine_ge q hm).2; omega⟩
  · exact ⟨Nat.lt_of_lt_of_le (hS q hq).1 k.size, (hS q hq).2⟩
theorem AwE.less {w : World} {B : Nat} {S T : List Nat} {f : Fr} (h : AwE w B S f) (hT : ∀ q ∈ T, q ∈ S) : AwE w B T f := by
  obtain ⟨lv, hs, hF, hS⟩ := h.ex
  exact ⟨h.inv, lv, hs, hF, fun q hq => hS q (hT q hq)⟩
theorem AwE.ne {w : World} {B : Nat} {S : List Nat} {f : Fr} (h : AwE w B S f) {q : Nat} (hq : q ∈ S) : q < w.heap.size := by
  obtain ⟨lv, hs, hF, hS⟩ := h.ex
  exact (hS q hq).1
theorem aw_new (window need : Int) (h0 : 1 ≤ window) (h1 : window ≤ 1125899906842624) (h2 : 1 ≤ need) (h3 : need ≤ 8) (w : World) : Calls Try.prog 25 #[.int .i64 window, .int .i64 need] w fun e w' =>
    e = .returned (.pointer (some ⟨w.heap.size, 0, none⟩)) ∧ AwE w' w.heap.size [] (newF window need) ∧ Below w.heap.size w w' ∧ w.heap.size < w'.heap.size :=
  (fnew_ok window need h0 h1 h2 h3 w).mono fun e w' ⟨he, hF, hb, hs⟩ => ⟨he, ⟨⟨⟨h0, h1, Int.le_refl _, by simp [newF]⟩, by simp [newF], by simp [newF]⟩, _, _, hF, fun q hq => by simp at hq⟩, hb, hs⟩
theorem aw_hear {w : World} {B : Nat} {S : List Nat} {f : Fr} (h : AwE w B S f) (d : DS) (t : Int) : Calls Try.prog 43 #[.pointer (some ⟨B, 0, none⟩), d.v, .int .i64 t] w fun e w' => e = .returned (.int .i64 (hearE f d t)) ∧ AwE w' B S (hearS f d t) ∧ Stay B S w w' := by
  have hi := h.inv.heard d t
  by_cases he : hearE f d t = 0
  · obtain ⟨lv, hs, hF, hS⟩ := h.ex
    have es : hearS f d t = hearF f d t := by rw [hearS, if_pos he]
    rw [es] at hi ⊢
    rw [he]
    refine (hear_any hF h.inv.five h.inv.eight d t he).mono ?_
    rintro e w' ⟨rfl, lv', hs', hF', hk, hm⟩
    refine ⟨rfl, ⟨hi, lv', hs', hF', fun q hq => ⟨Nat.lt_of_lt_of_le (hS q hq).1 hk.size, fun h => ?_⟩⟩, ?_, fun q hq => hk.block q (hS q hq).1 (hS q hq).2⟩
    · rcases hm q h with h | h
      · exact (hS q hq).2 h
      · have := (hS q hq).1; omega
    · exact Keep.below (Below.refl _ _) hk (fun g hg => (hF.mine_ge g hg).1) (Nat.le_of_lt hF.lt)
  · have es : hearS f d t = f := by rw [hearS, if_neg he]
    rw [es]
    obtain ⟨lv, hs, hF, hS⟩ := h.ex
    refine (hear_bad hF d t he).mono ?_
    rintro e w' ⟨rfl, hb⟩
    exact ⟨rfl, h.below hb, h.stay hb⟩
theorem aw_qual {w : World} {B : Nat} {S : List Nat} {f : Fr} (h : AwE w B S f) (t : Int) (ht : t ≤ 9223372036854775807) : Calls Try.prog 76 #[.pointer (some ⟨B, 0, none⟩), .int .i64 t] w fun e w' => ∃ q, e = .returned q ∧ Below w.heap.size w w' ∧ w'.ownsRow w.heap.size 35 11 q (qualF f t).length ((qualF f t).flatMap DS.cells) := by
  obtain ⟨lv, hs, hF, hS⟩ := h.ex
  exact fqual_any hF h.inv.ok (by have := h.inv.five; omega) t ht
theorem qual_len (f : Fr) (t : Int) : (qualF f t).length ≤ f.list.length := by
  unfold qualF
  rw [List.length_map]
  exact List.length_filter_le _ _
theorem aw_best {w : World} {B : Nat} {S : List Nat} {f : Fr} (h : AwE w B S f) (t : Int) (ht : t ≤ 9223372036854775807) : Calls Try.prog 55 #[.pointer (some ⟨B, 0, none⟩), .int .i64 t] w fun e w' => e = .returned (.tuple #[(bestR (qualF f t)).v, .bool (!(qualF f t).isEmpty)]) ∧ Below w.heap.size w w' :=
  fbest_of (by have := qual_len f t; have := h.inv.five; omega) fun w' hb => aw_qual (h.below hb) t ht
theorem aw_forget {w : World} {B : Nat} {S : List Nat} {f : Fr} (h : AwE w B S f) (t : Int) (ht : t ≤ 9223372036854775807) : Calls Try.prog 54 #[.pointer (some ⟨B, 0, none⟩), .int .i64 t] w fun e w' => e = .returned (.int .i64 ((f.list.length : Int) - ((forgetF f t).list.length : Int))) ∧ AwE w' B S (forgetF f t) ∧ Stay B S w w' := by
  obtain ⟨lv, hs, hF, hS⟩ := h.ex
  refine (fforget_any hF h.inv.ok (by have := h.inv.five; omega) t ht).mono ?_
  rintro e w' ⟨rfl, lv', hs', hF', hk, hm⟩
  have hk2 : Keep (mine B lv hs) w w' := hk.wide (fun g hg => hg.elim .inl (fun e => .inr (.inl e)))
  exact ⟨rfl, ⟨h.inv.forget t, lv', hs', hF', fun q hq => ⟨Nat.lt_of_lt_of_le (hS q hq).1 hk.size, fun h => (hS q hq).2 (hm q h)⟩⟩, Keep.below (Below.refl _ _) hk2 (fun g hg => (hF.mine_ge g hg).1) (Nat.le_of_lt hF.lt), fun q hq => hk2.block q (hS q hq).1 (hS q hq).2⟩
theorem fbest_nil (t : Int) (w : World) : Calls Try.prog 55 #[.pointer none, .int .i64 t] w fun e w' => e = .returned (.tuple #[DS.zero.v, .bool false]) ∧ Below w.heap.size w w' :=
  fbest_of (l := []) (by simp) fun w' _ => (fqual_nil t w').mono fun e w2 ⟨he, hw⟩ => ⟨_, he, hw ▸ Below.refl _ _, World.ownsRow_nil _ _ _ _⟩
end Go.Proofs.Ytfbmlpdomfchpaa
