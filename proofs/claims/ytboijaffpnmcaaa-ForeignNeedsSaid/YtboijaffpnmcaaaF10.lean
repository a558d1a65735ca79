/- What calls on the records leave as it was; the records when some are dropped. -/
import Derived.WalkKit
import Derived.Lib.Hide
import Derived.Test.YtboijaffpnmcaaaF9
namespace Go.Proofs.Ytboijaffpnmcaaa
open Go.RowKit
set_option linter.unusedVariables false
set_option linter.unusedSimpArgs false

/-- What lay in w lies as it did, but for the blocks of M. -/
structure Keep (M : Nat → Prop) (w w' : World) : Prop where
  os : w'.os = w.os
  tape : w'.tape = w.tape
  output : w'.output = w.output
  size : w.heap.size ≤ w'.heap.size
  block : ∀ k, k < w.heap.size → ¬ M k → w'.heap[k]? = w.heap[k]?
theorem Keep.of {M : Nat → Prop} {w w' : World} (h : Below w.heap.size w w') : Keep M w w' := ⟨h.os, h.tape, h.output, h.size, fun k hk _ => h.block k hk⟩
theorem Keep.refl (M : Nat → Prop) (w : World) : Keep M w w := ⟨rfl, rfl, rfl, Nat.le_refl _, fun _ _ _ => rfl⟩
theorem Keep.touch {M : Nat → Prop} {b : Nat} {w w' : World} (h : Touch b w w') (hb : M b) : Keep M w w' := ⟨h.os, h.tape, h.output, h.size, fun k hk hm => h.block k hk (fun e => hm (e ▸ hb))⟩
theorem Keep.trans {M N : Nat → Prop} {u v w : World} (h : Keep M u v) (k : Keep N v w) (hN : ∀ g, N g → M g ∨ u.heap.size ≤ g) : Keep M u w :=
  ⟨k.os.trans h.os, k.tape.trans h.tape, k.output.trans h.output, Nat.le_trans h.size k.size, fun i hi hm => (k.block i (Nat.lt_of_lt_of_le hi h.size) (fun hn => (hN i hn).elim hm (fun hl => by omega))).trans (h.block i hi hm)⟩
theorem Keep.thenBelow {M : Nat → Prop} {u v w : World} (h : Keep M u v) (k : Below v.heap.size v w) : Keep M u w := h.trans (.of k) (N := M) (fun _ hg => .inl hg)
theorem Keep.thenTouch {M : Nat → Prop} {b : Nat} {u v w : World} (h : Keep M u v) (k : Touch b v w) (hb : M b ∨ u.heap.size ≤ b) : Keep M u w := h.trans (.touch k rfl) (N := fun g => b = g) (fun _ hg => hg ▸ hb)
theorem Keep.wide {M N : Nat → Prop} {u v : World} (h : Keep M u v) (hN : ∀ g, M g → N g) : Keep N u v := ⟨h.os, h.tape, h.output, h.size, fun k hk hn => h.block k hk (fun hm => hn (hN k hm))⟩
theorem Keep.below {M : Nat → Prop} {B : Nat} {u w w' : World} (h : Below B u w) (k : Keep M w w') (hM : ∀ g, M g → B ≤ g) (hB : B ≤ u.heap.size) : Below B u w' :=
  ⟨k.os.trans h.os, k.tape.trans h.tape, k.output.trans h.output, Nat.le_trans h.size k.size, fun i hi => (k.block i (Nat.lt_of_lt_of_le (Nat.lt_of_lt_of_le hi hB) h.size) (fun hm => absurd (hM i hm) (by omega))).trans (h.block i hi)⟩
theorem Keep.cell {M : Nat → Prop} {w w' : World} (k : Keep M w w') {a : Addr} {v : Value} (h : w.cell? a = some v) (ha : ¬ M a.block) : w'.cell? a = some v := by
  have hl := World.block_lt_of_cell? w a h
  rw [← h]
  simp only [World.cell?, k.block a.block hl ha]
theorem ownsRow_keep {M : Nat → Prop} {w w' : World} {base size n : Nat} {e : TypeId} {v : Value} {xs : List Value} (h : w.ownsRow base e size v n xs) (k : Keep M w w') (hM : ∀ g, v.ownBlock = some g → ¬ M g) : w'.ownsRow base e size v n xs := by
  refine ⟨h.1, ?_⟩
  rcases h.2 with hn | ⟨g, cap, cur, rfl, hb, hg, rest⟩
  · exact .inl hn
  · exact .inr ⟨g, cap, cur, rfl, hb, (k.block g (Array.getElem?_eq_some_iff.1 hg).1 (hM g rfl)).trans hg, rest⟩
/-- The blocks of the records. -/
def mine (b : Nat) (lv : Value) (hs : List Value) (g : Nat) : Prop := g = b ∨ lv.ownBlock = some g ∨ ∃ (i : Nat) (h : Value), hs[i]? = some h ∧ h.ownBlock = some g
theorem FrAt.each_hs {w : World} {base b : Nat} {f : Fr} {lv : Value} {hs : List Value} (h : FrAt w base b f lv hs) {i : Nat} {x : Value} (hx : hs[i]? = some x) : ∃ r, f.list[i]? = some r := ⟨_, List.getElem?_eq_getElem (by rw [← h.hlen]; exact (List.getElem?_eq_some_iff.1 hx).1)⟩
theorem FrAt.mine_ge {w : World} {base b : Nat} {f : Fr} {lv : Value} {hs : List Value} (h : FrAt w base b f lv hs) (g : Nat) (hg : mine b lv hs g) : base ≤ g ∧ g < w.heap.size := by
  rcases hg with rfl | hg | ⟨i, x, hx, hg⟩
  · exact ⟨h.le, h.lt⟩
  · exact h.own.lt g hg
  · obtain ⟨r, hr⟩ := h.each_hs hx
    exact (h.each i r x hr hx).1.lt g hg
theorem FrAt.keep {M : Nat → Prop} {w w' : World} {base b : Nat} {f : Fr} {lv : Value} {hs : List Value} (h : FrAt w base b f lv hs) (k : Keep M w w') (hM : ∀ g, M g → ¬ mine b lv hs g) : FrAt w' base b f lv hs :=
  ⟨h.le, (k.block b h.lt (fun hm => hM b hm (.inl rfl))).trans h.head, h.hlen, ownsRow_keep h.own k (fun g hg hm => hM g hm (.inr (.inl hg))), fun i r v h1 h2 => ⟨ownsRow_keep (h.each i r v h1 h2).1 k (fun g hg hm => hM g hm (.inr (.inr ⟨i, v, h2, hg⟩))), (h.each i r v h1 h2).2⟩, h.lb, h.two⟩
/-- Some of the records stay: those at the places σ. -/
theorem FrAt.sub {w w' : World} {base b : Nat} {f f' : Fr} {lv lv' : Value} {hs hs' : List Value} (h : FrAt w base b f lv hs) (k : Keep (fun g => g = b ∨ lv.ownBlock = some g) w w')
    (head : w'.heap[b]? = some (.cells #[.int .i64 f'.window, .int .i64 f'.need, .int .i64 f'.last, lv'] 52 (0, 0))) (hlen : hs'.length = f'.list.length) (own : w'.ownsRow base 57 14 lv' f'.list.length (rowsF f'.list hs')) (hb : lv'.ownBlock = lv.ownBlock)
    (σ : Nat → Nat) (inj : ∀ i j, σ i = σ j → i = j) (hl : ∀ i r, f'.list[i]? = some r → f.list[σ i]? = some r) (hh : ∀ i x, hs'[i]? = some x → hs[σ i]? = some x) : FrAt w' base b f' lv' hs' :=
  ⟨h.le, head, hlen, own, fun i r v h1 h2 => by
    have e := h.each _ _ _ (hl i r h1) (hh i v h2)
    refine ⟨ownsRow_keep e.1 k ?_, e.2.1, e.2.2.1, by rw [hb]; exact e.2.2.2⟩
    rintro g hg (rfl | hm)
    · exact e.2.2.1 hg
    · exact e.2.2.2 (hg.trans hm.symm), by rw [hb]; exact h.lb, fun i j x y hx hy e => inj _ _ (h.two _ _ _ _ (hh i x hx) (hh j y hy) e)⟩
theorem mine_sub {b : Nat} {lv lv' : Value} {hs hs' : List Value} (hb : lv'.ownBlock = lv.ownBlock) (σ : Nat → Nat) (hh : ∀ i x, hs'[i]? = some x → hs[σ i]? = some x) (g : Nat) (hg : mine b lv' hs' g) : mine b lv hs g := by
  rcases hg with rfl | hg | ⟨i, x, hx, hg⟩
  · exact .inl rfl
  · exact .inr (.inl (hb ▸ hg))
  · exact .inr (.inr ⟨_, x, hh i x hx, hg⟩)
def skipAt (i j : Nat) : Nat := if j < i then j else j + 1
theorem skip_inj (i a b : Nat) (h : skipAt i a = skipAt i b) : a = b := by
  unfold skipAt at h
  split at h <;> split at h <;> omega
theorem erase_at {α : Type} (l : List α) (i j : Nat) (x : α) (h : (l.eraseIdx i)[j]? = some x) : l[skipAt i j]? = some x := by
  rw [List.getElem?_eraseIdx] at h
  unfold skipAt
  split at h <;> rename_i hj
  · rw [if_pos hj]; exact h
  · rw [if_neg hj]; exact h
end Go.Proofs.Ytboijaffpnmcaaa
