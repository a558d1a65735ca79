/- Plain laws of the records of a single master; a list of times that grows beside the records. -/
import Derived.Test.YtboijaffpnmcaaaF22
namespace Go.Proofs.Ytboijaffpnmcaaa
open Go.RowKit
set_option linter.unusedVariables false
set_option linter.unusedSimpArgs false

def dN : DS := { DS.zero with sender := 2, sport := 1, recv := 3 }
def last8 (l : List Int) : List Int := l.drop (l.length - 8)
theorem last8_push (l : List Int) (t : Int) : pushT (last8 l) t = last8 (l ++ [t]) := by
  unfold pushT last8
  simp only [List.length_append, List.length_cons, List.length_nil, List.length_drop]
  split <;> rename_i h
  · rw [show l.length + (0 + 1) - 8 = (l.length - 8) + 1 from by omega, List.drop_append_of_le_length (by simp; omega), List.drop_drop, List.drop_append_of_le_length (by omega)]
  · rw [show l.length - 8 = 0 from by omega, show l.length + (0 + 1) - 8 = 0 from by omega]
    rfl
def stepN (s : Fr × List Int) (t : Int) : Fr × List Int := if hearE s.1 dN t = 0 then (hearF s.1 dN t, s.2 ++ [t]) else s
def runN (f : Fr) (l : List Int) : Fr × List Int := l.foldl stepN (f, [])
theorem runN_next {f : Fr} {l : List Int} {k : Nat} {t : Int} (h : l[k]? = some t) : runN f (l.take (k + 1)) = stepN (runN f (l.take k)) t := by
  unfold runN
  rw [List.take_add_one, h]
  simp
theorem stepN_fst (s : Fr × List Int) (t : Int) : (stepN s t).1 = hearS s.1 dN t := by
  unfold stepN hearS
  split <;> rfl
structure NeedInv (f : Fr) (acc : List Int) : Prop where
  none_ : acc = [] → f.list = []
  some_ : acc ≠ [] → f.list = [⟨2, 1, dN, last8 acc⟩] ∧ f.last = acc.getLastD 0
  range : ∀ t ∈ acc, 0 ≤ t ∧ t ≤ 1125899906842624
theorem NeedInv.new (a b : Int) : NeedInv (newF a b) [] := ⟨fun _ => rfl, fun h => absurd rfl h, fun t ht => by simp at ht⟩
theorem NeedInv.next {f : Fr} {acc : List Int} (h : NeedInv f acc) {t : Int} (he : hearE f dN t = 0) : NeedInv (hearF f dN t) (acc ++ [t]) := by
  have hd := hear_ok he
  simp at hd
  refine ⟨fun e => by simp at e, fun _ => ⟨?_, by simp [hearF]⟩, fun u hu => ?_⟩
  · show setAt (midL f dN) (midN f dN) dN t = _
    by_cases ha : acc = []
    · have hl := h.none_ ha
      subst ha
      have e1 : midL f dN = [⟨2, 1, .zero, []⟩] := by unfold midL; rw [hl]; rfl
      have e2 : midN f dN = 0 := by unfold midN; rw [hl]; rfl
      rw [e1, e2]
      rfl
    · obtain ⟨hl, _⟩ := h.some_ ha
      have e1 : midL f dN = [⟨2, 1, dN, last8 acc⟩] := by unfold midL; rw [hl]; rfl
      have e2 : midN f dN = 0 := by unfold midN; rw [hl]; rfl
      rw [e1, e2]
      show [(⟨2, 1, dN, pushT (last8 acc) t⟩ : Rc)] = _
      rw [last8_push]
  · rcases List.mem_append.1 hu with hu | hu
    · exact h.range u hu
    · simp at hu
      subst hu
      omega
theorem runN_inv (l : List Int) : ∀ (s : Fr × List Int), NeedInv s.1 s.2 → NeedInv (l.foldl stepN s).1 (l.foldl stepN s).2 := by
  induction l with
  | nil => exact fun s h => h
  | cons t l ih =>
    intro s h
    rw [List.foldl_cons]
    refine ih _ ?_
    unfold stepN
    split
    · rename_i he; exact h.next he
    · exact h
theorem runN_window (l : List Int) : ∀ (s : Fr × List Int), (l.foldl stepN s).1.window = s.1.window ∧ (l.foldl stepN s).1.need = s.1.need := by
  induction l with
  | nil => exact fun s => ⟨rfl, rfl⟩
  | cons t l ih =>
    intro s
    rw [List.foldl_cons, (ih _).1, (ih _).2]
    unfold stepN
    split <;> exact ⟨rfl, rfl⟩
theorem runN_len (l : List Int) : ∀ (s : Fr × List Int), (l.foldl stepN s).2.length ≤ s.2.length + l.length := by
  induction l with
  | nil => exact fun s => Nat.le_refl _
  | cons t l ih =>
    intro s
    rw [List.foldl_cons]
    refine Nat.le_trans (ih _) ?_
    unfold stepN
    split <;> simp <;> omega
theorem need_qual {f : Fr} {acc : List Int} (h : NeedInv f acc) (ha : acc ≠ []) (t : Int) : qualF f t = if f.need ≤ (recentF f.window f.last t (last8 acc) : Int) then [dN] else [] := by
  obtain ⟨hl, _⟩ := h.some_ ha
  unfold qualF
  rw [hl]
  unfold qualB
  by_cases hq : f.need ≤ (recentF f.window f.last t (last8 acc) : Int)
  · simp [hq]
  · simp [hq]
/-- How many of the times from i0 to k. -/
def cntTo (p : Int → Bool) (l : List Int) (i0 k : Nat) : Nat := ((l.take k).drop i0).countP p
theorem cnt_next {p : Int → Bool} {l : List Int} {i0 k : Nat} {t : Int} (hk : l[k]? = some t) (h : i0 ≤ k) : cntTo p l i0 (k + 1) = cntTo p l i0 k + if p t = true then 1 else 0 := by
  have hl := (List.getElem?_eq_some_iff.1 hk).1
  unfold cntTo
  rw [List.take_add_one, hk, List.drop_append_of_le_length (by rw [List.length_take]; omega), List.countP_append]
  simp [List.countP_cons]
theorem cnt_le (p : Int → Bool) (l : List Int) (i0 k : Nat) : cntTo p l i0 k ≤ k := by
  unfold cntTo
  refine Nat.le_trans List.countP_le_length ?_
  rw [List.length_drop, List.length_take]
  omega
theorem cnt_start (p : Int → Bool) (l : List Int) (i0 : Nat) : cntTo p l i0 i0 = 0 := by
  unfold cntTo
  rw [List.drop_eq_nil_of_le (by rw [List.length_take]; omega)]
  rfl
theorem cnt_recent (l : List Int) (window last at_ now : Int) (hn : (if at_ < last then last else at_) = now) : cntTo (fun t => decide (now - t < window)) l (l.length - 8) l.length = recentF window last at_ (last8 l) := by
  unfold cntTo recentF last8
  rw [List.take_length, hn]
  congr 1
  funext t
  rw [decide_eq_decide]
  omega
/-- append on a row that is not the records'. -/
theorem aw_append {w w' : World} {B base qd n m : Nat} {f : Fr} {hv v' : Value} {ob : Obj} {xs ys : List Value} {e : TypeId} (h : AwE w B (hv.ownBlock.toList ++ [qd]) f) (hgrow : (w.alloc ob).grownBy w' hv.ownBlock) (hfr : ∀ g, v'.ownBlock = some g → hv.ownBlock = some g ∨ w.heap.size + 1 ≤ g) (hown : w'.ownsRow base e 1 v' n xs) (hold : w.ownsRow base e 1 hv m ys) (hq : qd < base) (hB : B ≤ base) :
    AwE w' B (v'.ownBlock.toList ++ [qd]) f ∧ (∀ q, q < base → q < w.heap.size → w'.heap[q]? = w.heap[q]?) ∧ Below B w w' := by
  obtain ⟨lv, hs, hF, hS⟩ := h.ex
  have hk : Keep (fun g => hv.ownBlock = some g) w w' := ((Keep.of ((Below.refl _ _).alloc (Nat.le_refl _) ob)) : Keep (fun g => hv.ownBlock = some g) w (w.alloc ob)).trans (keep_grown hgrow) (fun g hg => .inl hg)
  have hnm : ∀ g, hv.ownBlock = some g → ¬ mine B lv hs g := fun g hg => (hS g (by simp [hg])).2
  refine ⟨⟨h.inv, lv, hs, hF.keep hk hnm, fun q hq => ?_⟩, fun q hq hl => hk.block q hl (fun e => by have := (hold.lt q e).1; omega), ?_⟩
  · rcases List.mem_append.1 hq with hq | hq
    · have hvq : v'.ownBlock = some q := by simpa using hq
      refine ⟨(hown.lt q hvq).2, fun hm => ?_⟩
      rcases hfr q hvq with h1 | h1
      · exact hnm q h1 hm
      · have := (hF.mine_ge q hm).2; omega
    · have := hS q (List.mem_append.2 (.inr hq))
      exact ⟨Nat.lt_of_lt_of_le this.1 hk.size, this.2⟩
  · refine ⟨hk.os, hk.tape, hk.output, hk.size, fun i hi => hk.block i (Nat.lt_trans hi hF.lt) (fun e => ?_)⟩
    have h3 := (hold.lt i e).1
    omega
end Go.Proofs.Ytboijaffpnmcaaa
