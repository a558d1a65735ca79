/- What Hear makes of the records; the memory laws for it. -/
import Derived.WalkKit
import Derived.Lib.Hide
import Derived.Deep.RegionLaw
import Derived.Laws.AppendOwn
import Derived.Test.YtboijaffpnmcaaaF11
import Derived.Test.YtboijaffpnmcaaaShelf
namespace Go.Proofs.Ytboijaffpnmcaaa
open Go.RowKit
set_option linter.unusedVariables false
set_option linter.unusedSimpArgs false

/-- A time more; at most eight are kept. -/
def pushT (h : List Int) (t : Int) : List Int := if 8 < (h ++ [t]).length then (h ++ [t]).drop 1 else h ++ [t]
theorem pushT_ne (h : List Int) (t : Int) : pushT h t ≠ [] := by
  unfold pushT
  split
  · rename_i hl
    intro e
    have := congrArg List.length e
    simp only [List.length_drop, List.length_append, List.length_cons, List.length_nil] at this hl
    omega
  · simp
/-- Room for one more. -/
def roomL (l : List Rc) : List Rc := if l.length = 5 then l.eraseIdx (oldF l) else l
/-- Where Hear writes, in which records. -/
def midN (f : Fr) (d : DS) : Nat := match f.list.findIdx? (isB d.sender d.sport) with
  | some i => i
  | none => (roomL f.list).length
def midL (f : Fr) (d : DS) : List Rc := match f.list.findIdx? (isB d.sender d.sport) with
  | some i => f.list
  | none => roomL f.list ++ [⟨d.sender, d.sport, .zero, []⟩]
def setAt (l : List Rc) (s : Nat) (d : DS) (t : Int) : List Rc := match l[s]? with
  | some r => l.set s ⟨r.clock, r.num, d, pushT r.heard t⟩
  | none => l
def hearF (f : Fr) (d : DS) (t : Int) : Fr := { f with last := t, list := setAt (midL f d) (midN f d) d t }
theorem idx_hit {l : List Rc} {p : Rc → Bool} {i : Nat} (h : l.findIdx? p = some i) : idxF p l = i := by rw [idxF, h]
theorem idx_miss {l : List Rc} {p : Rc → Bool} (h : l.findIdx? p = none) : idxF p l = -1 := by rw [idxF, h]
/-- The records while Hear writes at the place s. -/
structure FrI (w : World) (base b : Nat) (f : Fr) (lv : Value) (hs : List Value) (s : Nat) : Prop where
  le : base ≤ b
  head : w.heap[b]? = some (.cells #[.int .i64 f.window, .int .i64 f.need, .int .i64 f.last, lv] 52 (0, 0))
  hlen : hs.length = f.list.length
  own : w.ownsRow base 57 14 lv f.list.length (rowsF f.list hs)
  each : ∀ (i : Nat) (r : Rc) (h : Value), f.list[i]? = some r → hs[i]? = some h → w.ownsRow base 3 1 h r.heard.length (intsV r.heard) ∧ (i ≠ s → r.heard ≠ []) ∧ h.ownBlock ≠ some b ∧ h.ownBlock ≠ lv.ownBlock
  lb : lv.ownBlock ≠ some b
  two : ∀ (i j : Nat) (h k : Value), hs[i]? = some h → hs[j]? = some k → h.ownBlock = k.ownBlock → i = j
theorem FrAt.toI {w : World} {base b : Nat} {f : Fr} {lv : Value} {hs : List Value} (h : FrAt w base b f lv hs) (s : Nat) : FrI w base b f lv hs s :=
  ⟨h.le, h.head, h.hlen, h.own, fun i r v h1 h2 => ⟨(h.each i r v h1 h2).1, fun _ => (h.each i r v h1 h2).2.1, (h.each i r v h1 h2).2.2⟩, h.lb, h.two⟩
theorem FrAt.setLast {w : World} {base b : Nat} {f : Fr} {lv : Value} {hs : List Value} (h : FrAt w base b f lv hs) (t : Int) : FrAt (w.setCell ⟨b, 2, none⟩ (.int .i64 t)) base b { f with last := t } lv hs := by
  have k : Keep (fun g => g = b) w (w.setCell ⟨b, 2, none⟩ (.int .i64 t)) := Keep.touch ((Touch.refl b w).set 2 _) rfl
  refine ⟨h.le, by rw [heap_set h.head]; rfl, h.hlen, ownsRow_keep h.own k (fun g hg e => h.lb (by rw [hg, e])), fun i r v h1 h2 => ⟨ownsRow_keep (h.each i r v h1 h2).1 k (fun g hg e => (h.each i r v h1 h2).2.2.1 (by rw [hg, e])), (h.each i r v h1 h2).2⟩, h.lb, h.two⟩
/-- A record's set and times are written. -/
theorem rows_set {l : List Rc} {hs : List Value} {s : Nat} {r : Rc} {h v : Value} (hlen : hs.length = l.length) (hr : l[s]? = some r) (hx : hs[s]? = some h) (cur : Array Value) (cap : Nat) (hsz : cur.size = cap * 14) (hle : l.length ≤ cap)
    (htk : cur.toList.take (l.length * 14) = rowsF l hs) (d : DS) (t : List Int) :
    ((setList cur (s * 14 + 2) d.cells).setIfInBounds (s * 14 + 13) v).toList.take (l.length * 14) = rowsF (l.set s ⟨r.clock, r.num, d, t⟩) (hs.set s v) := by
  have hs' : s < l.length := (List.getElem?_eq_some_iff.1 hr).1
  have hdl : d.cells.length = 11 := rfl
  apply List.ext_getElem?
  intro j
  rw [List.getElem?_take, Array.getElem?_toList]
  by_cases hj : j < l.length * 14
  · rw [if_pos hj]
    obtain ⟨q, p, rfl, hp⟩ : ∃ q p, j = q * 14 + p ∧ p < 14 := ⟨j / 14, j % 14, by omega, by omega⟩
    have hq : q < l.length := by omega
    have hc : cur[q * 14 + p]? = (rowsF l hs)[q * 14 + p]? := by rw [← htk, List.getElem?_take, if_pos hj, Array.getElem?_toList]
    obtain ⟨a, ha⟩ : ∃ a, l[q]? = some a := ⟨_, List.getElem?_eq_getElem hq⟩
    obtain ⟨x, hxq⟩ : ∃ x, hs[q]? = some x := ⟨_, List.getElem?_eq_getElem (by rw [hlen]; exact hq)⟩
    rw [rows_at l hs q p a x ha hxq hp] at hc
    by_cases e : q = s
    · subst e
      obtain rfl : a = r := Option.some.inj (ha.symm.trans hr)
      obtain rfl : x = h := Option.some.inj (hxq.symm.trans hx)
      rw [rows_at _ _ q p ⟨a.clock, a.num, d, t⟩ v (by rw [List.getElem?_set_self hs']) (by rw [List.getElem?_set_self (by rw [hlen]; exact hs')]) hp]
      by_cases e13 : p = 13
      · subst e13
        rw [Array.getElem?_setIfInBounds, if_pos rfl, if_pos (by rw [setList_size]; omega)]
        rfl
      · rw [Array.getElem?_setIfInBounds_ne (by omega), setList_get _ _ _ _ (by rw [hdl]; omega), hdl]
        by_cases e2 : 2 ≤ p
        · rw [if_pos (by omega), show q * 14 + p - (q * 14 + 2) = p - 2 from by omega]
          have : p = 2 ∨ p = 3 ∨ p = 4 ∨ p = 5 ∨ p = 6 ∨ p = 7 ∨ p = 8 ∨ p = 9 ∨ p = 10 ∨ p = 11 ∨ p = 12 := by omega
          rcases this with rfl | rfl | rfl | rfl | rfl | rfl | rfl | rfl | rfl | rfl | rfl <;> rfl
        · rw [if_neg (by omega), hc]
          have : p = 0 ∨ p = 1 := by omega
          rcases this with rfl | rfl <;> rfl
    · rw [rows_at _ _ q p a x (by rw [List.getElem?_set_ne (by omega)]; exact ha) (by rw [List.getElem?_set_ne (by omega)]; exact hxq) hp]
      rw [Array.getElem?_setIfInBounds_ne (by omega), setList_get _ _ _ _ (by rw [hdl]; omega), hdl, if_neg (by omega), hc]
  · rw [if_neg hj, List.getElem?_eq_none (by rw [rows_len _ _ (by simp [hlen])]; simp; omega)]
/-- What Hear leaves is the records again. -/
theorem FrI.done {M : Nat → Prop} {w w' : World} {base b : Nat} {f : Fr} {lv : Value} {hs : List Value} {s : Nat} (h : FrI w base b f lv hs s) {r : Rc} {x v : Value} (hr : f.list[s]? = some r) (hx : hs[s]? = some x)
    {g n cap : Nat} (hlv : lv = .slice (some ⟨g, 0, none⟩) n cap) {cur : Array Value} (hg : w.heap[g]? = some (.cells cur 57 (0, 0))) (d : DS) (t : List Int)
    (hg' : w'.heap[g]? = some (.cells ((setList cur (s * 14 + 2) d.cells).setIfInBounds (s * 14 + 13) v) 57 (0, 0)))
    (k : Keep (fun q => lv.ownBlock = some q ∨ x.ownBlock = some q) w w') (hv : w'.ownsRow base 3 1 v t.length (intsV t)) (ht : t ≠ []) (hb : ∃ q, v.ownBlock = some q ∧ (x.ownBlock = some q ∨ w.heap.size ≤ q)) :
    FrAt w' base b { f with list := f.list.set s ⟨r.clock, r.num, d, t⟩ } lv (hs.set s v) := by
  subst hlv
  obtain ⟨q, hq, hqx⟩ := hb
  have hsl : s < f.list.length := (List.getElem?_eq_some_iff.1 hr).1
  have hbl : b < w.heap.size := (Array.getElem?_eq_some_iff.1 h.head).1
  have hgl : g < w.heap.size := (Array.getElem?_eq_some_iff.1 hg).1
  have hex := h.each s r x hr hx
  have hgb : g ≠ b := fun e => h.lb (by rw [← e]; rfl)
  have hqb : v.ownBlock ≠ some b := fun e => by
    rw [hq] at e; injection e with e; subst e
    rcases hqx with hqx | hqx
    · exact hex.2.2.1 hqx
    · omega
  have hqg : v.ownBlock ≠ some g := fun e => by
    rw [hq] at e; injection e with e; subst e
    rcases hqx with hqx | hqx
    · exact hex.2.2.2 hqx
    · omega
  have hother : ∀ (j : Nat) (y : Value), j ≠ s → hs[j]? = some y → y.ownBlock ≠ v.ownBlock := fun j y hj hy e => by
    rw [hq] at e
    rcases hqx with hqx | hqx
    · exact hj (h.two j s y x hy hx (e.trans hqx.symm))
    · have hjl : j < f.list.length := by rw [← h.hlen]; exact (List.getElem?_eq_some_iff.1 hy).1
      have := ((h.each j _ y (List.getElem?_eq_getElem hjl) hy).1.lt q e).2
      omega
  have hat : ∀ (j : Nat) (y : Value), (hs.set s v)[j]? = some y → (j = s ∧ y = v) ∨ (j ≠ s ∧ hs[j]? = some y) := fun j y hy => by
    by_cases e : j = s
    · subst e
      rw [List.getElem?_set_self (by rw [h.hlen]; exact hsl)] at hy
      injection hy with hy
      exact .inl ⟨rfl, hy.symm⟩
    · rw [List.getElem?_set_ne (by omega)] at hy
      exact .inr ⟨e, hy⟩
  rcases h.own.2 with ⟨e, _⟩ | ⟨g0, cap0, cur0, e, hbg, hg0, hle, hcm, hsz, htk⟩
  · exact absurd e (by simp)
  injection e with e1 e2 e3
  injection e1 with e1
  injection e1 with e1 _ _
  subst e1 e3
  rw [hg0] at hg
  injection hg with hg
  injection hg with hg _ _
  subst hg
  have hrs := rows_set (v := v) h.hlen hr hx cur0 cap hsz (by omega) htk d t
  refine ⟨h.le, (k.block b hbl ?_).trans h.head, by simp [h.hlen], ⟨by rw [rows_len _ _ (by simp [h.hlen])], .inr ⟨g, cap, _, ?_, hbg, hg', by simpa using hle, hcm, ?_, by simpa using hrs⟩⟩, ?_, ?_, ?_⟩
  · rintro (e | e)
    · injection e with e; exact hgb e
    · exact hex.2.2.1 e
  · rw [e2]; simp
  · rw [Array.size_setIfInBounds, setList_size]; exact hsz
  · intro j a y h1 h2
    rcases hat j y h2 with ⟨rfl, rfl⟩ | ⟨hj, hy⟩
    · simp only [List.getElem?_set_self hsl] at h1
      injection h1 with h1
      subst h1
      exact ⟨hv, ht, hqb, hqg⟩
    · simp only [List.getElem?_set_ne (show s ≠ j from fun e => hj e.symm)] at h1
      have e := h.each j a y h1 hy
      refine ⟨ownsRow_keep e.1 k ?_, e.2.1 hj, e.2.2.1, e.2.2.2⟩
      rintro z hz (hm | hm)
      · exact e.2.2.2 (hz.trans hm.symm)
      · exact hj (h.two j s y x hy hx (hz.trans hm.symm))
  · intro e; injection e with e; exact hgb e
  · intro i j y z hy hz e
    rcases hat i y hy with ⟨rfl, rfl⟩ | ⟨hi, hy'⟩ <;> rcases hat j z hz with ⟨rfl, rfl⟩ | ⟨hj, hz'⟩
    · rfl
    · exact absurd e.symm (hother j z hj hz')
    · exact absurd e (hother i y hi hy')
    · exact h.two i j y z hy' hz' e
/-- slices.Delete of the first time. -/
theorem tdel_any {w : World} {base : Nat} {v : Value} {t : List Int} (h : w.ownsRow base 3 1 v t.length (intsV t)) (hn : 0 < t.length) :
    Calls Try.prog 21 #[v, .int .i64 0, .int .i64 1] w fun e w' => ∃ g c, v = .slice (some ⟨g, 0, none⟩) t.length c ∧ e = .returned (.slice (some ⟨g, 0, none⟩) (t.length - 1) c) ∧ w'.ownsRow base 3 1 (.slice (some ⟨g, 0, none⟩) (t.length - 1) c) (t.length - 1) (intsV (t.drop 1)) ∧ Touch g w w' := by
  rcases h.2 with ⟨_, e⟩ | ⟨g, cap, cur, rfl, hb, hg, hl, hm, hsz, htk⟩
  · omega
  have hcl : ∀ j, j < t.length → w.cell? ⟨g, 0 + j, none⟩ = some (.int .i64 (t.getD j 0)) := fun j hj => by
    rcases owns_ints h with ⟨_, e⟩ | ⟨g', cap', e, _, _, _, _, hc⟩
    · rw [e] at hj; simp at hj
    · injection e with e1 _ _
      injection e1 with e1
      injection e1 with e1 _ _
      subst e1
      rw [Nat.zero_add]
      exact hc j hj
  have := Try.slices_Delete_int_cells g 0 t.length cap 0 1 t w (Nat.le_refl _) hl (by unfold maxLen at hm; omega) (by omega) (by omega) hcl (fun j _ => by exact frozen_of_row w g _ _ _ hg)
  refine this.mono ?_
  rintro e w' ⟨rfl, q, rfl⟩
  have hml : (((t.take t.length).take 0 ++ (t.take t.length).drop 1 ++ List.replicate (1 - 0) 0).map (Value.int .i64)).length = t.length := by simp; omega
  refine ⟨g, cap, rfl, rfl, ⟨by simp [intsV], .inr ⟨g, cap, _, rfl, hb, heap_sets _ 0 (w.drewN q) cur hg, by omega, hm, by rw [setList_size]; exact hsz, ?_⟩⟩, touch_sets _ 0 _ ((Touch.refl g w).drewN q)⟩
  apply List.ext_getElem?
  intro j
  rw [List.getElem?_take, Array.getElem?_toList]
  by_cases hj : j < (t.length - 1) * 1
  · rw [if_pos hj, setList_get _ _ _ _ (by rw [hml]; omega), hml, if_pos (by omega)]
    simp only [List.take_length, List.take_zero, List.nil_append, Nat.sub_zero]
    rw [intsV, List.getElem?_map, List.getElem?_append_left (by simp; omega), ← List.getElem?_map]
  · rw [if_neg hj, List.getElem?_eq_none (by simp [intsV]; omega)]
end Go.Proofs.Ytboijaffpnmcaaa
