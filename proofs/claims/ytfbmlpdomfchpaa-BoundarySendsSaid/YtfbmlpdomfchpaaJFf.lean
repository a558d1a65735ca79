/- Several texts in one: F12, Own2. -/
import Derived.WalkKit
import Derived.Lib.Hide
import Derived.Deep.RegionLaw
import Derived.Laws.AppendOwn
import Derived.Test.YtfbmlpdomfchpaaJFe
import Derived.Test.YtfbmlpdomfchpaaShelf
import Derived.OwnWalk
import Derived.ArgAppend
import Derived.Deep.MidRow
import Derived.BigQuiet
/- What Hear makes of the records; the memory laws for it. -/
namespace Go.Proofs.Ytfbmlpdomfchpaa
open Go.RowKit
set_option linter.unusedVariables false
set_option linter.unusedSimpArgs false

/-- A time more; at most eight are kept. -/
def pushT (h : List Int) (t : Int) : List Int := if 8 < (h ++ [t]).length then (h ++ [t]).drop 1 else h ++ [t]
theorem pushT_ne (h : List Int) (t : Int) : pushT h t ≠ [] := by
  unfold pushT
  split
  · rename_i hl
    intro e
    have := congrArg List.length e
    simp only [List.length_drop, List.length_append, List.length_cons, List.length_nil] at this hl
    omega
  · simp
/-- Room for one more. -/
def roomL (l : List Rc) : List Rc := if l.length = 5 then l.eraseIdx (oldF l) else l
/-- Where Hear writes, in which records. -/
def midN (f : Fr) (d : DS) : Nat := match f.list.findIdx? (isB d.sender d.sport) with
  | some i => i
  | none => (roomL f.list).length
def midL (f : Fr) (d : DS) : List Rc := match f.list.findIdx? (isB d.sender d.sport) with
  | some i => f.list
  | none => roomL f.list ++ [⟨d.sender, d.sport, .zero, []⟩]
def setAt (l : List Rc) (s : Nat) (d : DS) (t : Int) : List Rc := match l[s]? with
  | some r => l.set s ⟨r.clock, r.num, d, pushT r.heard t⟩
  | none => l
def hearF (f : Fr) (d : DS) (t : Int) : Fr := { f with last := t, list := setAt (midL f d) (midN f d) d t }
theorem idx_hit {l : List Rc} {p : Rc → Bool} {i : Nat} (h : l.findIdx? p = some i) : idxF p l = i := by rw [idxF, h]
theorem idx_miss {l : List Rc} {p : Rc → Bool} (h : l.findIdx? p = none) : idxF p l = -1 := by rw [idxF, h]
/-- The records while Hear writes at the place s. -/
structure FrI (w : World) (base b : Nat) (f : Fr) (lv : Value) (hs : List Value) (s : Nat) : Prop where
  le : base ≤ b
  head : w.heap[b]? = some (.cells #[.int .i64 f.window, .int .i64 f.need, .int .i64 f.last, lv] 100 (0, 0))
  hlen : hs.length = f.list.length
  own : w.ownsRow base 117 14 lv f.list.length (rowsF f.list hs)
  each : ∀ (i : Nat) (r : Rc) (h : Value), f.list[i]? = some r → hs[i]? = some h → w.ownsRow base 3 1 h r.heard.length (intsV r.heard) ∧ (i ≠ s → r.heard ≠ []) ∧ h.ownBlock ≠ some b ∧ h.ownBlock ≠ lv.ownBlock
  lb : lv.ownBlock ≠ some b
  two : ∀ (i j : Nat) (h k : Value), hs[i]? = some h → hs[j]? = some k → h.ownBlock = k.ownBlock → i = j
theorem FrAt.toI {w : World} {base b : Nat} {f : Fr} {lv : Value} {hs : List Value} (h : FrAt w base b f lv hs) (s : Nat) : FrI w base b f lv hs s :=
  ⟨h.le, h.head, h.hlen, h.own, fun i r v h1 h2 => ⟨(h.each i r v h1 h2).1, fun _ => (h.each i r v h1 h2).2.1, (h.each i r v h1 h2).2.2⟩, h.lb, h.two⟩
theorem FrAt.setLast {w : World} {base b : Nat} {f : Fr} {lv : Value} {hs : List Value} (h : FrAt w base b f lv hs) (t : Int) : FrAt (w.setCell ⟨b, 2, none⟩ (.int .i64 t)) base b { f with last := t } lv hs := by
  have k : Keep (fun g => g = b) w (w.setCell ⟨b, 2, none⟩ (.int .i64 t)) := Keep.touch ((Touch.refl b w).set 2 _) rfl
  refine ⟨h.le, by rw [heap_set h.head]; rfl, h.hlen, ownsRow_keep h.own k (fun g hg e => h.lb (by rw [hg, e])), fun i r v h1 h2 => ⟨ownsRow_keep (h.each i r v h1 h2).1 k (fun g hg e => (h.each i r v h1 h2).2.2.1 (by rw [hg, e])), (h.each i r v h1 h2).2⟩, h.lb, h.two⟩
/-- A record's set and times are written. -/
theorem rows_set {l : List Rc} {hs : List Value} {s : Nat} {r : Rc} {h v : Value} (hlen : hs.length = l.length) (hr : l[s]? = some r) (hx : hs[s]? = some h) (cur : Array Value) (cap : Nat) (hsz : cur.size = cap * 14) (hle : l.length ≤ cap)
    (htk : cur.toList.take (l.length * 14) = rowsF l hs) (d : DS) (t : List Int) :
    ((setList cur (s * 14 + 2) d.cells).setIfInBounds (s * 14 + 13) v).toList.take (l.length * 14) = rowsF (l.set s ⟨r.clock, r.num, d, t⟩) (hs.set s v) := by
  have hs' : s < l.length := (List.getElem?_eq_some_iff.1 hr).1
  have hdl : d.cells.length = 11 := rfl
  apply List.ext_getElem?
  intro j
  rw [List.getElem?_take, Array.getElem?_toList]
  by_cases hj : j < l.length * 14
  · rw [if_pos hj]
    obtain ⟨q, p, rfl, hp⟩ : ∃ q p, j = q * 14 + p ∧ p < 14 := ⟨j / 14, j % 14, by omega, by omega⟩
    have hq : q < l.length := by omega
    have hc : cur[q * 14 + p]? = (rowsF l hs)[q * 14 + p]? := by rw [← htk, List.getElem?_take, if_pos hj, Array.getElem?_toList]
    obtain ⟨a, ha⟩ : ∃ a, l[q]? = some a := ⟨_, List.getElem?_eq_getElem hq⟩
    obtain ⟨x, hxq⟩ : ∃ x, hs[q]? = some x := ⟨_, List.getElem?_eq_getElem (by rw [hlen]; exact hq)⟩
    rw [rows_at l hs q p a x ha hxq hp] at hc
    by_cases e : q = s
    · subst e
      obtain rfl : a = r := Option.some.inj (ha.symm.trans hr)
      obtain rfl : x = h := Option.some.inj (hxq.symm.trans hx)
      rw [rows_at _ _ q p ⟨a.clock, a.num, d, t⟩ v (by rw [List.getElem?_set_self hs']) (by rw [List.getElem?_set_self (by rw [hlen]; exact hs')]) hp]
      by_cases e13 : p = 13
      · subst e13
        rw [Array.getElem?_setIfInBounds, if_pos rfl, if_pos (by rw [setList_size]; omega)]
        rfl
      · rw [Array.getElem?_setIfInBounds_ne (by omega), setList_get _ _ _ _ (by rw [hdl]; omega), hdl]
        by_cases e2 : 2 ≤ p
        · rw [if_pos (by omega), show q * 14 + p - (q * 14 + 2) = p - 2 from by omega]
          have : p = 2 ∨ p = 3 ∨ p = 4 ∨ p = 5 ∨ p = 6 ∨ p = 7 ∨ p = 8 ∨ p = 9 ∨ p = 10 ∨ p = 11 ∨ p = 12 := by omega
          rcases this with rfl | rfl | rfl | rfl | rfl | rfl | rfl | rfl | rfl | rfl | rfl <;> rfl
        · rw [if_neg (by omega), hc]
          have : p = 0 ∨ p = 1 := by omega
          rcases this with rfl | rfl <;> rfl
    · rw [rows_at _ _ q p a x (by rw [List.getElem?_set_ne (by omega)]; exact ha) (by rw [List.getElem?_set_ne (by omega)]; exact hxq) hp]
      rw [Array.getElem?_setIfInBounds_ne (by omega), setList_get _ _ _ _ (by rw [hdl]; omega), hdl, if_neg (by omega), hc]
  · rw [if_neg hj, List.getElem?_eq_none (by rw [rows_len _ _ (by simp [hlen])]; simp; omega)]
/-- What Hear leaves is the records again. -/
theorem FrI.done {M : Nat → Prop} {w w' : World} {base b : Nat} {f : Fr} {lv : Value} {hs : List Value} {s : Nat} (h : FrI w base b f lv hs s) {r : Rc} {x v : Value} (hr : f.list[s]? = some r) (hx : hs[s]? = some x)
    {g n cap : Nat} (hlv : lv = .slice (some ⟨g, 0, none⟩) n cap) {cur : Array Value} (hg : w.heap[g]? = some (.cells cur 117 (0, 0))) (d : DS) (t : List Int)
    (hg' : w'.heap[g]? = some (.cells ((setList cur (s * 14 + 2) d.cells).setIfInBounds (s * 14 + 13) v) 117 (0, 0)))
    (k : Keep (fun q => lv.ownBlock = some q ∨ x.ownBlock = some q) w w') (hv : w'.ownsRow base 3 1 v t.length (intsV t)) (ht : t ≠ []) (hb : ∃ q, v.ownBlock = some q ∧ (x.ownBlock = some q ∨ w.heap.size ≤ q)) :
    FrAt w' base b { f with list := f.list.set s ⟨r.clock, r.num, d, t⟩ } lv (hs.set s v) := by
  subst hlv
  obtain ⟨q, hq, hqx⟩ := hb
  have hsl : s < f.list.length := (List.getElem?_eq_some_iff.1 hr).1
  have hbl : b < w.heap.size := (Array.getElem?_eq_some_iff.1 h.head).1
  have hgl : g < w.heap.size := (Array.getElem?_eq_some_iff.1 hg).1
  have hex := h.each s r x hr hx
  have hgb : g ≠ b := fun e => h.lb (by rw [← e]; rfl)
  have hqb : v.ownBlock ≠ some b := fun e => by
    rw [hq] at e; injection e with e; subst e
    rcases hqx with hqx | hqx
    · exact hex.2.2.1 hqx
    · omega
  have hqg : v.ownBlock ≠ some g := fun e => by
    rw [hq] at e; injection e with e; subst e
    rcases hqx with hqx | hqx
    · exact hex.2.2.2 hqx
    · omega
  have hother : ∀ (j : Nat) (y : Value), j ≠ s → hs[j]? = some y → y.ownBlock ≠ v.ownBlock := fun j y hj hy e => by
    rw [hq] at e
    rcases hqx with hqx | hqx
    · exact hj (h.two j s y x hy hx (e.trans hqx.symm))
    · have hjl : j < f.list.length := by rw [← h.hlen]; exact (List.getElem?_eq_some_iff.1 hy).1
      have := ((h.each j _ y (List.getElem?_eq_getElem hjl) hy).1.lt q e).2
      omega
  have hat : ∀ (j : Nat) (y : Value), (hs.set s v)[j]? = some y → (j = s ∧ y = v) ∨ (j ≠ s ∧ hs[j]? = some y) := fun j y hy => by
    by_cases e : j = s
    · subst e
      rw [List.getElem?_set_self (by rw [h.hlen]; exact hsl)] at hy
      injection hy with hy
      exact .inl ⟨rfl, hy.symm⟩
    · rw [List.getElem?_set_ne (by omega)] at hy
      exact .inr ⟨e, hy⟩
  rcases h.own.2 with ⟨e, _⟩ | ⟨g0, cap0, cur0, e, hbg, hg0, hle, hcm, hsz, htk⟩
  · exact absurd e (by simp)
  injection e with e1 e2 e3
  injection e1 with e1
  injection e1 with e1 _ _
  subst e1 e3
  rw [hg0] at hg
  injection hg with hg
  injection hg with hg _ _
  subst hg
  have hrs := rows_set (v := v) h.hlen hr hx cur0 cap hsz (by omega) htk d t
  refine ⟨h.le, (k.block b hbl ?_).trans h.head, by simp [h.hlen], ⟨by rw [rows_len _ _ (by simp [h.hlen])], .inr ⟨g, cap, _, ?_, hbg, hg', by simpa using hle, hcm, ?_, by simpa using hrs⟩⟩, ?_, ?_, ?_⟩
  · rintro (e | e)
    · injection e with e; exact hgb e
    · exact hex.2.2.1 e
  · rw [e2]; simp
  · rw [Array.size_setIfInBounds, setList_size]; exact hsz
  · intro j a y h1 h2
    rcases hat j y h2 with ⟨rfl, rfl⟩ | ⟨hj, hy⟩
    · simp only [List.getElem?_set_self hsl] at h1
      injection h1 with h1
      subst h1
      exact ⟨hv, ht, hqb, hqg⟩
    · simp only [List.getElem?_set_ne (show s ≠ j from fun e => hj e.symm)] at h1
      have e := h.each j a y h1 hy
      refine ⟨ownsRow_keep e.1 k ?_, e.2.1 hj, e.2.2.1, e.2.2.2⟩
      rintro z hz (hm | hm)
      · exact e.2.2.2 (hz.trans hm.symm)
      · exact hj (h.two j s y x hy hx (hz.trans hm.symm))
  · intro e; injection e with e; exact hgb e
  · intro i j y z hy hz e
    rcases hat i y hy with ⟨rfl, rfl⟩ | ⟨hi, hy'⟩ <;> rcases hat j z hz with ⟨rfl, rfl⟩ | ⟨hj, hz'⟩
    · rfl
    · exact absurd e.symm (hother j z hj hz')
    · exact absurd e (hother i y hi hy')
    · exact h.two i j y z hy' hz' e
/-- slices.Delete of the first time. -/
theorem tdel_any {w : World} {base : Nat} {v : Value} {t : List Int} (h : w.ownsRow base 3 1 v t.length (intsV t)) (hn : 0 < t.length) :
    Calls Try.prog 64 #[v, .int .i64 0, .int .i64 1] w fun e w' => ∃ g c, v = .slice (some ⟨g, 0, none⟩) t.length c ∧ e = .returned (.slice (some ⟨g, 0, none⟩) (t.length - 1) c) ∧ w'.ownsRow base 3 1 (.slice (some ⟨g, 0, none⟩) (t.length - 1) c) (t.length - 1) (intsV (t.drop 1)) ∧ Touch g w w' := by
  rcases h.2 with ⟨_, e⟩ | ⟨g, cap, cur, rfl, hb, hg, hl, hm, hsz, htk⟩
  · omega
  have hcl : ∀ j, j < t.length → w.cell? ⟨g, 0 + j, none⟩ = some (.int .i64 (t.getD j 0)) := fun j hj => by
    rcases owns_ints h with ⟨_, e⟩ | ⟨g', cap', e, _, _, _, _, hc⟩
    · rw [e] at hj; simp at hj
    · injection e with e1 _ _
      injection e1 with e1
      injection e1 with e1 _ _
      subst e1
      rw [Nat.zero_add]
      exact hc j hj
  have := Try.slices_Delete_int_cells g 0 t.length cap 0 1 t w (Nat.le_refl _) hl (by unfold maxLen at hm; omega) (by omega) (by omega) hcl (fun j _ => by exact frozen_of_row w g _ _ _ hg)
  refine this.mono ?_
  rintro e w' ⟨rfl, q, rfl⟩
  have hml : (((t.take t.length).take 0 ++ (t.take t.length).drop 1 ++ List.replicate (1 - 0) 0).map (Value.int .i64)).length = t.length := by simp; omega
  refine ⟨g, cap, rfl, rfl, ⟨by simp [intsV], .inr ⟨g, cap, _, rfl, hb, heap_sets _ 0 (w.drewN q) cur hg, by omega, hm, by rw [setList_size]; exact hsz, ?_⟩⟩, touch_sets _ 0 _ ((Touch.refl g w).drewN q)⟩
  apply List.ext_getElem?
  intro j
  rw [List.getElem?_take, Array.getElem?_toList]
  by_cases hj : j < (t.length - 1) * 1
  · rw [if_pos hj, setList_get _ _ _ _ (by rw [hml]; omega), hml, if_pos (by omega)]
    simp only [List.take_length, List.take_zero, List.nil_append, Nat.sub_zero]
    rw [intsV, List.getElem?_map, List.getElem?_append_left (by simp; omega), ← List.getElem?_map]
  · rw [if_neg hj, List.getElem?_eq_none (by simp [intsV]; omega)]
end Go.Proofs.Ytfbmlpdomfchpaa
/- Laws for Hear: append that tells where the row lies; the records with one more. -/
namespace Go.Proofs.Ytfbmlpdomfchpaa
open Go.RowKit
set_option linter.unusedVariables false
set_option linter.unusedSimpArgs false

/-- append on an own row: the row is the old one or a new one. -/
theorem run_append_own2 {P : Program} (w : World) (base : Nat) (t ty e : TypeId) (i : TypeInfo) (z : Value) (size bytes : Nat) (ht : P.underlying t = some (.slice e)) (hi : P.info? e = some i) (hz : i.zero = some z)
    (hsize : i.size = size) (hby : i.bytes = bytes) (hzs : z.cells.size = size) (hsz : 0 < size)
    (v : Value) (n : Nat) (xs : List Value) (hown : w.ownsRow base e size v n xs)
    (a : Addr) (m c : Nat) (news : List Value) (hl : news.length = m * size) (hnews : ∀ j u, news[j]? = some u → w.cell? (a.add j) = some u) (h1 : ∀ u ∈ news, u.oneCell' = true)
    (h63 : n + m ≤ maxLen) (hbytes : (n + m) * bytes ≤ 140737488355328) (hbase : base ≤ w.heap.size) :
    ∃ v' w', (Builtin.append_ #[t, t] ty #[v, .slice (some a) m c]).run P w = .ok v' w' ∧ w'.ownsRow base e size v' (n + m) (xs ++ news) ∧ w.grownBy w' v.ownBlock ∧ (∀ g, v'.ownBlock = some g → v.ownBlock = some g ∨ w.heap.size ≤ g) := by
  have up : ∀ {v' : Value} {w' : World}, w'.ownsRow w.heap.size e size v' (n + m) (xs ++ news) → w'.ownsRow base e size v' (n + m) (xs ++ news) := fun {v'} {w'} h => by
    refine ⟨h.1, ?_⟩
    rcases h.2 with h2 | ⟨g, cap, cur, h2, h3, rest⟩
    · exact .inl h2
    · exact .inr ⟨g, cap, cur, h2, Nat.le_trans hbase h3, rest⟩
  have fresh : ∀ {v' : Value} {w' : World}, w'.ownsRow w.heap.size e size v' (n + m) (xs ++ news) → ∀ g, v'.ownBlock = some g → w.heap.size ≤ g := fun {v'} {w'} h g hg => (h.lt g hg).1
  rcases hown.2 with ⟨rfl, hn⟩ | ⟨g, cap, cur, rfl, hbg, hg, hle, hcm, hcs, htk⟩
  · subst hn
    have hx0 : xs = [] := List.length_eq_zero_iff.1 (by have := hown.1; simpa using this)
    subst hx0
    obtain ⟨v', w', h1, h2, h3, _⟩ := run_append_own (P := P) w w.heap.size t ty e i z size bytes ht hi hz hsize hby hzs hsz (.slice none 0 0) 0 [] (World.ownsRow_nil _ _ _ _) a m c news hl hnews h1 h63 hbytes (Nat.le_refl _)
    exact ⟨v', w', h1, up h2, h3, fun g hg => .inr (fresh h2 g hg)⟩
  · by_cases hroom : n + m ≤ cap
    · obtain ⟨w', h1, h2, h3⟩ := run_append_fits (P := P) w base t ty e i size ht hi hsize g n cap xs hown a m c news hl hnews h1 hroom
      exact ⟨_, w', h1, h2, h3, fun g' hg' => .inl hg'⟩
    · obtain ⟨v', w', h1, h2, h3⟩ := run_append_arg_grows (P := P) w t ty e i z size bytes ht hi hz hsize hby hzs hsz ⟨g, 0, none⟩ n cap xs hown.1 (hown.cells rfl) a m c news hl hnews (by omega) h63 hbytes
      exact ⟨v', w', h1, up h2, ⟨h3.os, h3.tape, h3.output, h3.size, fun k hk _ => h3.block k hk (by simp)⟩, fun g hg => .inr (fresh h2 g hg)⟩
theorem step_append_own2 {P : Program} {ops : Array Oper} {o : Oper} {a : Act} {w : World} {K : Act → World → Prop} {Q : Exit → Act → World → Prop} {E : Prop}
    (hg : o.guard = none) (s x : Operand) (t : TypeId) (hop : o.op = Op.call { callee := Callee.builtin Builtin.append, args := #[s, x], argTypes := #[t, t] })
    (base : Nat) (e : TypeId) (i : TypeInfo) (z : Value) (size bytes : Nat) (h1 : P.underlying t = some (.slice e)) (h2 : P.info? e = some i) (h3 : i.zero = some z) (h4 : i.size = size) (h5 : i.bytes = bytes) (h6 : z.cells.size = size) (h7 : 0 < size)
    (v : Value) (n : Nat) (xs : List Value) (hs : a.eval s = v) (hown : w.ownsRow base e size v n xs)
    (ad : Addr) (m c : Nat) (news : List Value) (hx : a.eval x = .slice (some ad) m c) (hn : news.length = m * size) (hc : ∀ j u, news[j]? = some u → w.cell? (ad.add j) = some u) (h1c : ∀ u ∈ news, u.oneCell' = true)
    (b1 : n + m ≤ maxLen) (b2 : (n + m) * bytes ≤ 140737488355328) (hbase : base ≤ w.heap.size)
    (hK : ∀ v' w', w'.ownsRow base e size v' (n + m) (xs ++ news) → w.grownBy w' v.ownBlock → (∀ g, v'.ownBlock = some g → v.ownBlock = some g ∨ w.heap.size ≤ g) → K (a.put o.dst v') w') :
    if Region.wanted o (yielded ops a.tmps) = true then Oper.wp P o a w K Q else E := by
  have hw : Region.wanted o (yielded ops a.tmps) = true := by simp [Region.wanted, hg]
  rw [if_pos hw]
  obtain ⟨v', w', hrun, r1, r2, r3⟩ := run_append_own2 (P := P) w base t o.type e i z size bytes h1 h2 h3 h4 h5 h6 h7 v n xs hown ad m c news hn hc h1c b1 b2 hbase
  unfold Oper.wp
  simp [execOp, hop, resolve, invoke, builtin, hs, hx, hrun, Result.andThen]
  exact hK v' w' r1 r2 r3
theorem wpList_append_own2 {P : Program} {w : World} {ops : Array Oper} {rest : List Oper} {o : Oper} {a : Act} {Q : Exit → Act → World → Prop} (hgd : o.guard = none) (s x : Operand) (t : TypeId)
    (hop : o.op = .call { callee := .builtin .append, args := #[s, x], argTypes := #[t, t] })
    (base : Nat) (e : TypeId) (i : TypeInfo) (z : Value) (size bytes : Nat) (ht : P.underlying t = some (.slice e)) (hi : P.info? e = some i) (hz : i.zero = some z)
    (hsize : i.size = size) (hby : i.bytes = bytes) (hzs : z.cells.size = size) (hsz : 0 < size)
    (v : Value) (n : Nat) (xs : List Value) (hs : a.eval s = v) (hown : w.ownsRow base e size v n xs)
    (ad : Addr) (m c : Nat) (news : List Value) (hx : a.eval x = .slice (some ad) m c) (hl : news.length = m * size) (hnews : ∀ j u, news[j]? = some u → w.cell? (ad.add j) = some u) (h1 : ∀ u ∈ news, u.oneCell' = true)
    (h63 : n + m ≤ maxLen) (hbytes : (n + m) * bytes ≤ 140737488355328) (hbase : base ≤ w.heap.size)
    (h : ∀ v' w', w'.ownsRow base e size v' (n + m) (xs ++ news) → w.grownBy w' v.ownBlock → (∀ g, v'.ownBlock = some g → v.ownBlock = some g ∨ w.heap.size ≤ g) → wpList P ops Q rest (a.put o.dst v') w') : wpList P ops Q (o :: rest) a w := by
  refine wpList_plain hgd fun K hK => ?_
  obtain ⟨v', w', hrun, r1, r2, r3⟩ := run_append_own2 (P := P) w base t o.type e i z size bytes ht hi hz hsize hby hzs hsz v n xs hown ad m c news hl hnews h1 h63 hbytes hbase
  unfold Oper.wp
  simp [execOp, hop, resolve, invoke, builtin, hs, hx, hrun, Result.andThen]
  exact hK _ _ (h v' w' r1 r2 r3)
theorem hear_ok {f : Fr} {d : DS} {at_ : Int} (he : hearE f d at_ = 0) : decide (at_ < 0) = false ∧ decide (1125899906842624 < at_) = false ∧ decide (at_ < f.last) = false ∧ (d.sender == d.recv) = false ∧ decide (32 ≤ d.steps) = false := by
  unfold hearE at he
  split at he
  · simp at he
  split at he
  · simp at he
  split at he
  · simp at he
  split at he
  · simp at he
  rename_i h1 h2 h3 h4
  refine ⟨by simp; omega, by simp; omega, by simp; omega, by simpa using h3, by simp; omega⟩
theorem keep_grown {w w' : World} {row : Option Nat} (h : w.grownBy w' row) : Keep (fun g => row = some g) w w' := ⟨h.os, h.tape, h.output, h.size, fun k hk hm => h.block k hk (fun e => hm e.symm)⟩
/-- One record more, without a message yet. -/
theorem FrAt.push {w w' : World} {base b : Nat} {f : Fr} {lv v : Value} {hs : List Value} (h : FrAt w base b f lv hs) (k : Keep (fun g => g = b ∨ lv.ownBlock = some g) w w') {c m : Int}
    (head : w'.heap[b]? = some (.cells #[.int .i64 f.window, .int .i64 f.need, .int .i64 f.last, v] 100 (0, 0)))
    (own : w'.ownsRow base 117 14 v (f.list.length + 1) (rowsF f.list hs ++ (⟨c, m, .zero, []⟩ : Rc).cells (.slice none 0 0))) (hv : ∃ g, v.ownBlock = some g ∧ (lv.ownBlock = some g ∨ w.heap.size ≤ g)) :
    FrI w' base b { f with list := f.list ++ [⟨c, m, .zero, []⟩] } v (hs ++ [.slice none 0 0]) f.list.length := by
  obtain ⟨g, hg, hgl⟩ := hv
  have hbl := h.lt
  have hat : ∀ (j : Nat) (y : Value), (hs ++ [.slice none 0 0])[j]? = some y → (j = f.list.length ∧ y = .slice none 0 0) ∨ (j < f.list.length ∧ hs[j]? = some y) := fun j y hy => by
    rw [List.getElem?_append] at hy
    split at hy
    · rename_i hj; rw [h.hlen] at hj; exact .inr ⟨hj, hy⟩
    · rename_i hj
      have hj2 := (List.getElem?_eq_some_iff.1 hy).1
      simp only [List.length_cons, List.length_nil, h.hlen] at hj2 hj
      obtain rfl : j = f.list.length := by omega
      simp [h.hlen] at hy
      exact .inl ⟨rfl, hy.symm⟩
  have hold : ∀ (j : Nat) (y : Value), hs[j]? = some y → ∃ q, y.ownBlock = some q ∧ q < w.heap.size ∧ q ≠ g := fun j y hy => by
    obtain ⟨r, hr⟩ := h.each_hs hy
    have e := h.each j r y hr hy
    obtain ⟨gh, ch, rfl⟩ := h.time hr hy
    refine ⟨gh, rfl, (e.1.lt gh rfl).2, fun e2 => ?_⟩
    subst e2
    rcases hgl with hgl | hgl
    · exact e.2.2.2 hgl.symm
    · have := (e.1.lt gh rfl).2; omega
  refine ⟨h.le, head, by simp [h.hlen], ?_, ?_, ?_, ?_⟩
  · have e := rows_append f.list [⟨c, m, .zero, []⟩] hs [.slice none 0 0] h.hlen
    rw [show (⟨f.window, f.need, f.last, f.list ++ [⟨c, m, .zero, []⟩]⟩ : Fr).list = f.list ++ [⟨c, m, .zero, []⟩] from rfl, e]
    simpa [rowsF] using own
  · intro j a y h1 h2
    rcases hat j y h2 with ⟨rfl, rfl⟩ | ⟨hj, hy⟩
    · simp at h1
      subst h1
      exact ⟨World.ownsRow_nil _ _ _ _, fun e => absurd rfl e, by simp [Value.ownBlock], by rw [hg]; simp [Value.ownBlock]⟩
    · simp only [List.getElem?_append_left hj] at h1
      have e := h.each j a y h1 hy
      obtain ⟨q, hq, hql, hqg⟩ := hold j y hy
      refine ⟨ownsRow_keep e.1 k ?_, fun _ => e.2.1, e.2.2.1, by rw [hq, hg]; intro e; injection e with e; exact hqg e⟩
      rintro z hz (rfl | hm)
      · exact e.2.2.1 hz
      · exact e.2.2.2 (hz.trans hm.symm)
  · rw [hg]
    intro e; injection e with e
    rcases hgl with hgl | hgl
    · exact h.lb (by rw [hgl, e])
    · omega
  · intro i j y z hy hz e
    rcases hat i y hy with ⟨rfl, rfl⟩ | ⟨hi, hy'⟩ <;> rcases hat j z hz with ⟨rfl, rfl⟩ | ⟨hj, hz'⟩
    · rfl
    · obtain ⟨q, hq, _⟩ := hold j z hz'; rw [hq] at e; simp [Value.ownBlock] at e
    · obtain ⟨q, hq, _⟩ := hold i y hy'; rw [hq] at e; simp [Value.ownBlock] at e
    · exact h.two i j y z hy' hz' e
theorem push_facts {wx w' : World} {base b m c2 : Nat} {f : Fr} {A2 : Option Addr} {hs : List Value} {v' : Value} {xs : List Value} {o : Obj} (h : FrAt wx base b f (.slice A2 m c2) hs) (hown : w'.ownsRow base 117 14 v' (m + 1) xs) (hgrow : (wx.alloc o).drew.grownBy w' (Value.slice A2 m c2).ownBlock) (hfr : ∀ g, v'.ownBlock = some g → (Value.slice A2 m c2).ownBlock = some g ∨ (wx.alloc o).drew.heap.size ≤ g) :
    ∃ g' c', v' = .slice (some ⟨g', 0, none⟩) (m + 1) c' ∧ w'.cell? ⟨b, 3, none⟩ = some (.slice A2 m c2) ∧ w'.frozen? ⟨b, 3, none⟩ = false ∧ Hid (w'.ownsRow base 117 14 (.slice (some ⟨g', 0, none⟩) (m + 1) c') (m + 1) xs ∧ Keep (fun g => (Value.slice A2 m c2).ownBlock = some g) wx w' ∧ w'.heap[b]? = some (.cells #[.int .i64 f.window, .int .i64 f.need, .int .i64 f.last, .slice A2 m c2] 100 (0, 0)) ∧ ((Value.slice A2 m c2).ownBlock = some g' ∨ wx.heap.size ≤ g')) := by
  have hbl := h.lt
  have hk : Keep (fun g => (Value.slice A2 m c2).ownBlock = some g) wx w' := (Keep.of ((below_drewN ((Below.refl _ _).alloc (Nat.le_refl _) o) 1 : Below wx.heap.size wx (wx.alloc o).drew))).trans (keep_grown hgrow) (fun g hg => .inl hg)
  have hh := (hk.block b hbl h.lb).trans h.head
  obtain ⟨g', c', rfl⟩ : ∃ g' c', v' = .slice (some ⟨g', 0, none⟩) (m + 1) c' := by
    rcases hown.2 with ⟨_, e⟩ | ⟨g', c', _, e, _⟩
    · omega
    · exact ⟨g', c', e⟩
  refine ⟨g', c', rfl, cell_of_row w' b 3 _ _ (0, 0) hh, frozen_of_row w' b 3 _ _ hh, hown, hk, hh, (hfr g' rfl).imp_right fun h2 => ?_⟩
  have e : wx.heap.size ≤ (wx.alloc o).drew.heap.size := show wx.heap.size ≤ (wx.alloc o).heap.size from by simp
  omega
theorem room_len (l : List Rc) (h : l.length ≤ 5) : (roomL l).length ≤ 5 := by
  unfold roomL
  split
  · have := List.length_eraseIdx_le l (oldF l); omega
  · exact h
theorem room_mem {l : List Rc} {r : Rc} (h : r ∈ roomL l) : r ∈ l := by
  unfold roomL at h
  split at h
  · exact List.mem_of_mem_eraseIdx h
  · exact h
/-- The record that Hear writes. -/
theorem mid_at (f : Fr) (d : DS) (hT : ∀ r ∈ f.list, r.heard.length ≤ 8) : ∃ r, (midL f d)[midN f d]? = some r ∧ r.heard.length ≤ 8 := by
  unfold midL midN
  split <;> rename_i h
  · obtain ⟨hi, _⟩ := List.findIdx?_eq_some_iff_getElem.1 h
    exact ⟨_, List.getElem?_eq_getElem hi, hT _ (List.getElem_mem hi)⟩
  · exact ⟨⟨d.sender, d.sport, .zero, []⟩, by simp, by simp⟩
theorem mid_len (f : Fr) (d : DS) (h : f.list.length ≤ 5) : (midL f d).length ≤ 6 := by
  unfold midL
  split
  · omega
  · have := room_len f.list h
    simp; omega
theorem store_set {ops : Array Oper} {rest : List Oper} {op : Oper} {a : Act} {w : World} {Q : Exit → Act → World → Prop} {g o o2 : Nat} {d : DS} {x0 : Value} {cur : Array Value} {e : TypeId} (hg : w.heap[g]? = some (.cells cur e (0, 0))) (hsz : o + 11 ≤ cur.size) (h2 : o + 11 ≤ o2) (hx0 : w.cell? ⟨g, o2, none⟩ = some x0) (x y : Operand) (hw : Region.wanted op (yielded ops a.tmps) = true)
    (ho : op.op = .store 35 x y) (hx : a.eval x = .pointer (some ⟨g, o, none⟩)) (hy : a.eval y = d.v) (k : ∀ w', w'.cell? ⟨g, o2, none⟩ = some x0 → Hid (w'.heap[g]? = some (.cells (setList cur o d.cells) e (0, 0)) ∧ Touch g w w') → wpList Try.prog ops Q rest (a.put op.dst undef) w') : wpList Try.prog ops Q (op :: rest) a w :=
  BigFrame.wpList_want hw fun K hK => wp_store_mid _ x y ho g o d.cells.toArray hx hy (fun j hj => ⟨by rw [cell_of_row w g _ _ _ (0, 0) hg, Array.getElem?_eq_getElem (by have : j < 11 := hj; omega)]; rfl, frozen_of_row w g _ _ _ hg⟩) infoDS11 (ds_one d) (hK _ _ (k _ (by
    rw [show d.cells.toArray.toList = d.cells from rfl, World.cell?_setCells_out g d.cells o w ⟨g, o2, none⟩ (fun _ _ => .inr h2)]
    exact hx0) ⟨heap_sets d.cells o w cur hg, touch_sets d.cells o w (Touch.refl g w)⟩))
theorem cut_enters : ∀ args w, (callFunc 62 args).run Try.prog w = .ok (.enter 62 args) w := enters_of Try.func62 (by kernel_rfl) rfl
end Go.Proofs.Ytfbmlpdomfchpaa
