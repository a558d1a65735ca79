/- Laws for Hear: append that tells where the row lies; the records with one more. -/
import Derived.WalkKit
import Derived.Lib.Hide
import Derived.OwnWalk
import Derived.ArgAppend
import Derived.Deep.MidRow
import Derived.BigQuiet
import Derived.Test.YtboijaffpnmcaaaF12
namespace Go.Proofs.Ytboijaffpnmcaaa
open Go.RowKit
set_option linter.unusedVariables false
set_option linter.unusedSimpArgs false

/-- append on an own row: the row is the old one or a new one. -/
theorem run_append_own2 {P : Program} (w : World) (base : Nat) (t ty e : TypeId) (i : TypeInfo) (z : Value) (size bytes : Nat) (ht : P.underlying t = some (.slice e)) (hi : P.info? e = some i) (hz : i.zero = some z)
    (hsize : i.size = size) (hby : i.bytes = bytes) (hzs : z.cells.size = size) (hsz : 0 < size)
    (v : Value) (n : Nat) (xs : List Value) (hown : w.ownsRow base e size v n xs)
    (a : Addr) (m c : Nat) (news : List Value) (hl : news.length = m * size) (hnews : ∀ j u, news[j]? = some u → w.cell? (a.add j) = some u) (h1 : ∀ u ∈ news, u.oneCell' = true)
    (h63 : n + m ≤ maxLen) (hbytes : (n + m) * bytes ≤ 140737488355328) (hbase : base ≤ w.heap.size) :
    ∃ v' w', (Builtin.append_ #[t, t] ty #[v, .slice (some a) m c]).run P w = .ok v' w' ∧ w'.ownsRow base e size v' (n + m) (xs ++ news) ∧ w.grownBy w' v.ownBlock ∧ (∀ g, v'.ownBlock = some g → v.ownBlock = some g ∨ w.heap.size ≤ g) := by
  have up : ∀ {v' : Value} {w' : World}, w'.ownsRow w.heap.size e size v' (n + m) (xs ++ news) → w'.ownsRow base e size v' (n + m) (xs ++ news) := fun {v'} {w'} h => by
    refine ⟨h.1, ?_⟩
    rcases h.2 with h2 | ⟨g, cap, cur, h2, h3, rest⟩
    · exact .inl h2
    · exact .inr ⟨g, cap, cur, h2, Nat.le_trans hbase h3, rest⟩
  have fresh : ∀ {v' : Value} {w' : World}, w'.ownsRow w.heap.size e size v' (n + m) (xs ++ news) → ∀ g, v'.ownBlock = some g → w.heap.size ≤ g := fun {v'} {w'} h g hg => (h.lt g hg).1
  rcases hown.2 with ⟨rfl, hn⟩ | ⟨g, cap, cur, rfl, hbg, hg, hle, hcm, hcs, htk⟩
  · subst hn
    have hx0 : xs = [] := List.length_eq_zero_iff.1 (by have := hown.1; simpa using this)
    subst hx0
    obtain ⟨v', w', h1, h2, h3, _⟩ := run_append_own (P := P) w w.heap.size t ty e i z size bytes ht hi hz hsize hby hzs hsz (.slice none 0 0) 0 [] (World.ownsRow_nil _ _ _ _) a m c news hl hnews h1 h63 hbytes (Nat.le_refl _)
    exact ⟨v', w', h1, up h2, h3, fun g hg => .inr (fresh h2 g hg)⟩
  · by_cases hroom : n + m ≤ cap
    · obtain ⟨w', h1, h2, h3⟩ := run_append_fits (P := P) w base t ty e i size ht hi hsize g n cap xs hown a m c news hl hnews h1 hroom
      exact ⟨_, w', h1, h2, h3, fun g' hg' => .inl hg'⟩
    · obtain ⟨v', w', h1, h2, h3⟩ := run_append_arg_grows (P := P) w t ty e i z size bytes ht hi hz hsize hby hzs hsz ⟨g, 0, none⟩ n cap xs hown.1 (hown.cells rfl) a m c news hl hnews (by omega) h63 hbytes
      exact ⟨v', w', h1, up h2, ⟨h3.os, h3.tape, h3.output, h3.size, fun k hk _ => h3.block k hk (by simp)⟩, fun g hg => .inr (fresh h2 g hg)⟩
theorem step_append_own2 {P : Program} {ops : Array Oper} {o : Oper} {a : Act} {w : World} {K : Act → World → Prop} {Q : Exit → Act → World → Prop} {E : Prop}
    (hg : o.guard = none) (s x : Operand) (t : TypeId) (hop : o.op = Op.call { callee := Callee.builtin Builtin.append, args := #[s, x], argTypes := #[t, t] })
    (base : Nat) (e : TypeId) (i : TypeInfo) (z : Value) (size bytes : Nat) (h1 : P.underlying t = some (.slice e)) (h2 : P.info? e = some i) (h3 : i.zero = some z) (h4 : i.size = size) (h5 : i.bytes = bytes) (h6 : z.cells.size = size) (h7 : 0 < size)
    (v : Value) (n : Nat) (xs : List Value) (hs : a.eval s = v) (hown : w.ownsRow base e size v n xs)
    (ad : Addr) (m c : Nat) (news : List Value) (hx : a.eval x = .slice (some ad) m c) (hn : news.length = m * size) (hc : ∀ j u, news[j]? = some u → w.cell? (ad.add j) = some u) (h1c : ∀ u ∈ news, u.oneCell' = true)
    (b1 : n + m ≤ maxLen) (b2 : (n + m) * bytes ≤ 140737488355328) (hbase : base ≤ w.heap.size)
    (hK : ∀ v' w', w'.ownsRow base e size v' (n + m) (xs ++ news) → w.grownBy w' v.ownBlock → (∀ g, v'.ownBlock = some g → v.ownBlock = some g ∨ w.heap.size ≤ g) → K (a.put o.dst v') w') :
    if Region.wanted o (yielded ops a.tmps) = true then Oper.wp P o a w K Q else E := by
  have hw : Region.wanted o (yielded ops a.tmps) = true := by simp [Region.wanted, hg]
  rw [if_pos hw]
  obtain ⟨v', w', hrun, r1, r2, r3⟩ := run_append_own2 (P := P) w base t o.type e i z size bytes h1 h2 h3 h4 h5 h6 h7 v n xs hown ad m c news hn hc h1c b1 b2 hbase
  unfold Oper.wp
  simp [execOp, hop, resolve, invoke, builtin, hs, hx, hrun, Result.andThen]
  exact hK v' w' r1 r2 r3
theorem wpList_append_own2 {P : Program} {w : World} {ops : Array Oper} {rest : List Oper} {o : Oper} {a : Act} {Q : Exit → Act → World → Prop} (hgd : o.guard = none) (s x : Operand) (t : TypeId)
    (hop : o.op = .call { callee := .builtin .append, args := #[s, x], argTypes := #[t, t] })
    (base : Nat) (e : TypeId) (i : TypeInfo) (z : Value) (size bytes : Nat) (ht : P.underlying t = some (.slice e)) (hi : P.info? e = some i) (hz : i.zero = some z)
    (hsize : i.size = size) (hby : i.bytes = bytes) (hzs : z.cells.size = size) (hsz : 0 < size)
    (v : Value) (n : Nat) (xs : List Value) (hs : a.eval s = v) (hown : w.ownsRow base e size v n xs)
    (ad : Addr) (m c : Nat) (news : List Value) (hx : a.eval x = .slice (some ad) m c) (hl : news.length = m * size) (hnews : ∀ j u, news[j]? = some u → w.cell? (ad.add j) = some u) (h1 : ∀ u ∈ news, u.oneCell' = true)
    (h63 : n + m ≤ maxLen) (hbytes : (n + m) * bytes ≤ 140737488355328) (hbase : base ≤ w.heap.size)
    (h : ∀ v' w', w'.ownsRow base e size v' (n + m) (xs ++ news) → w.grownBy w' v.ownBlock → (∀ g, v'.ownBlock = some g → v.ownBlock = some g ∨ w.heap.size ≤ g) → wpList P ops Q rest (a.put o.dst v') w') : wpList P ops Q (o :: rest) a w := by
  refine wpList_plain hgd fun K hK => ?_
  obtain ⟨v', w', hrun, r1, r2, r3⟩ := run_append_own2 (P := P) w base t o.type e i z size bytes ht hi hz hsize hby hzs hsz v n xs hown ad m c news hl hnews h1 h63 hbytes hbase
  unfold Oper.wp
  simp [execOp, hop, resolve, invoke, builtin, hs, hx, hrun, Result.andThen]
  exact hK _ _ (h v' w' r1 r2 r3)
theorem hear_ok {f : Fr} {d : DS} {at_ : Int} (he : hearE f d at_ = 0) : decide (at_ < 0) = false ∧ decide (1125899906842624 < at_) = false ∧ decide (at_ < f.last) = false ∧ (d.sender == d.recv) = false ∧ decide (32 ≤ d.steps) = false := by
  unfold hearE at he
  split at he
  · simp at he
  split at he
  · simp at he
  split at he
  · simp at he
  split at he
  · simp at he
  rename_i h1 h2 h3 h4
  refine ⟨by simp; omega, by simp; omega, by simp; omega, by simpa using h3, by simp; omega⟩
theorem keep_grown {w w' : World} {row : Option Nat} (h : w.grownBy w' row) : Keep (fun g => row = some g) w w' := ⟨h.os, h.tape, h.output, h.size, fun k hk hm => h.block k hk (fun e => hm e.symm)⟩
/-- One record more, without a message yet. -/
theorem FrAt.push {w w' : World} {base b : Nat} {f : Fr} {lv v : Value} {hs : List Value} (h : FrAt w base b f lv hs) (k : Keep (fun g => g = b ∨ lv.ownBlock = some g) w w') {c m : Int}
    (head : w'.heap[b]? = some (.cells #[.int .i64 f.window, .int .i64 f.need, .int .i64 f.last, v] 52 (0, 0)))
    (own : w'.ownsRow base 57 14 v (f.list.length + 1) (rowsF f.list hs ++ (⟨c, m, .zero, []⟩ : Rc).cells (.slice none 0 0))) (hv : ∃ g, v.ownBlock = some g ∧ (lv.ownBlock = some g ∨ w.heap.size ≤ g)) :
    FrI w' base b { f with list := f.list ++ [⟨c, m, .zero, []⟩] } v (hs ++ [.slice none 0 0]) f.list.length := by
  obtain ⟨g, hg, hgl⟩ := hv
  have hbl := h.lt
  have hat : ∀ (j : Nat) (y : Value), (hs ++ [.slice none 0 0])[j]? = some y → (j = f.list.length ∧ y = .slice none 0 0) ∨ (j < f.list.length ∧ hs[j]? = some y) := fun j y hy => by
    rw [List.getElem?_append] at hy
    split at hy
    · rename_i hj; rw [h.hlen] at hj; exact .inr ⟨hj, hy⟩
    · rename_i hj
      have hj2 := (List.getElem?_eq_some_iff.1 hy).1
      simp only [List.length_cons, List.length_nil, h.hlen] at hj2 hj
      obtain rfl : j = f.list.length := by omega
      simp [h.hlen] at hy
      exact .inl ⟨rfl, hy.symm⟩
  have hold : ∀ (j : Nat) (y : Value), hs[j]? = some y → ∃ q, y.ownBlock = some q ∧ q < w.heap.size ∧ q ≠ g := fun j y hy => by
    obtain ⟨r, hr⟩ := h.each_hs hy
    have e := h.each j r y hr hy
    obtain ⟨gh, ch, rfl⟩ := h.time hr hy
    refine ⟨gh, rfl, (e.1.lt gh rfl).2, fun e2 => ?_⟩
    subst e2
    rcases hgl with hgl | hgl
    · exact e.2.2.2 hgl.symm
    · have := (e.1.lt gh rfl).2; omega
  refine ⟨h.le, head, by simp [h.hlen], ?_, ?_, ?_, ?_⟩
  · have e := rows_append f.list [⟨c, m, .zero, []⟩] hs [.slice none 0 0] h.hlen
    rw [show (⟨f.window, f.need, f.last, f.list ++ [⟨c, m, .zero, []⟩]⟩ : Fr).list = f.list ++ [⟨c, m, .zero, []⟩] from rfl, e]
    simpa [rowsF] using own
  · intro j a y h1 h2
    rcases hat j y h2 with ⟨rfl, rfl⟩ | ⟨hj, hy⟩
    · simp at h1
      subst h1
      exact ⟨World.ownsRow_nil _ _ _ _, fun e => absurd rfl e, by simp [Value.ownBlock], by rw [hg]; simp [Value.ownBlock]⟩
    · simp only [List.getElem?_append_left hj] at h1
      have e := h.each j a y h1 hy
      obtain ⟨q, hq, hql, hqg⟩ := hold j y hy
      refine ⟨ownsRow_keep e.1 k ?_, fun _ => e.2.1, e.2.2.1, by rw [hq, hg]; intro e; injection e with e; exact hqg e⟩
      rintro z hz (rfl | hm)
      · exact e.2.2.1 hz
      · exact e.2.2.2 (hz.trans hm.symm)
  · rw [hg]
    intro e; injection e with e
    rcases hgl with hgl | hgl
    · exact h.lb (by rw [hgl, e])
    · omega
  · intro i j y z hy hz e
    rcases hat i y hy with ⟨rfl, rfl⟩ | ⟨hi, hy'⟩ <;> rcases hat j z hz with ⟨rfl, rfl⟩ | ⟨hj, hz'⟩
    · rfl
    · obtain ⟨q, hq, _⟩ := hold j z hz'; rw [hq] at e; simp [Value.ownBlock] at e
    · obtain ⟨q, hq, _⟩ := hold i y hy'; rw [hq] at e; simp [Value.ownBlock] at e
    · exact h.two i j y z hy' hz' e
theorem push_facts {wx w' : World} {base b m c2 : Nat} {f : Fr} {A2 : Option Addr} {hs : List Value} {v' : Value} {xs : List Value} {o : Obj} (h : FrAt wx base b f (.slice A2 m c2) hs) (hown : w'.ownsRow base 57 14 v' (m + 1) xs) (hgrow : (wx.alloc o).drew.grownBy w' (Value.slice A2 m c2).ownBlock) (hfr : ∀ g, v'.ownBlock = some g → (Value.slice A2 m c2).ownBlock = some g ∨ (wx.alloc o).drew.heap.size ≤ g) :
    ∃ g' c', v' = .slice (some ⟨g', 0, none⟩) (m + 1) c' ∧ w'.cell? ⟨b, 3, none⟩ = some (.slice A2 m c2) ∧ w'.frozen? ⟨b, 3, none⟩ = false ∧ Hid (w'.ownsRow base 57 14 (.slice (some ⟨g', 0, none⟩) (m + 1) c') (m + 1) xs ∧ Keep (fun g => (Value.slice A2 m c2).ownBlock = some g) wx w' ∧ w'.heap[b]? = some (.cells #[.int .i64 f.window, .int .i64 f.need, .int .i64 f.last, .slice A2 m c2] 52 (0, 0)) ∧ ((Value.slice A2 m c2).ownBlock = some g' ∨ wx.heap.size ≤ g')) := by
  have hbl := h.lt
  have hk : Keep (fun g => (Value.slice A2 m c2).ownBlock = some g) wx w' := (Keep.of ((below_drewN ((Below.refl _ _).alloc (Nat.le_refl _) o) 1 : Below wx.heap.size wx (wx.alloc o).drew))).trans (keep_grown hgrow) (fun g hg => .inl hg)
  have hh := (hk.block b hbl h.lb).trans h.head
  obtain ⟨g', c', rfl⟩ : ∃ g' c', v' = .slice (some ⟨g', 0, none⟩) (m + 1) c' := by
    rcases hown.2 with ⟨_, e⟩ | ⟨g', c', _, e, _⟩
    · omega
    · exact ⟨g', c', e⟩
  refine ⟨g', c', rfl, cell_of_row w' b 3 _ _ (0, 0) hh, frozen_of_row w' b 3 _ _ hh, hown, hk, hh, (hfr g' rfl).imp_right fun h2 => ?_⟩
  have e : wx.heap.size ≤ (wx.alloc o).drew.heap.size := show wx.heap.size ≤ (wx.alloc o).heap.size from by simp
  omega
theorem room_len (l : List Rc) (h : l.length ≤ 5) : (roomL l).length ≤ 5 := by
  unfold roomL
  split
  · have := List.length_eraseIdx_le l (oldF l); omega
  · exact h
theorem room_mem {l : List Rc} {r : Rc} (h : r ∈ roomL l) : r ∈ l := by
  unfold roomL at h
  split at h
  · exact List.mem_of_mem_eraseIdx h
  · exact h
/-- The record that Hear writes. -/
theorem mid_at (f : Fr) (d : DS) (hT : ∀ r ∈ f.list, r.heard.length ≤ 8) : ∃ r, (midL f d)[midN f d]? = some r ∧ r.heard.length ≤ 8 := by
  unfold midL midN
  split <;> rename_i h
  · obtain ⟨hi, _⟩ := List.findIdx?_eq_some_iff_getElem.1 h
    exact ⟨_, List.getElem?_eq_getElem hi, hT _ (List.getElem_mem hi)⟩
  · exact ⟨⟨d.sender, d.sport, .zero, []⟩, by simp, by simp⟩
theorem mid_len (f : Fr) (d : DS) (h : f.list.length ≤ 5) : (midL f d).length ≤ 6 := by
  unfold midL
  split
  · omega
  · have := room_len f.list h
    simp; omega
theorem store_set {ops : Array Oper} {rest : List Oper} {op : Oper} {a : Act} {w : World} {Q : Exit → Act → World → Prop} {g o o2 : Nat} {d : DS} {x0 : Value} {cur : Array Value} {e : TypeId} (hg : w.heap[g]? = some (.cells cur e (0, 0))) (hsz : o + 11 ≤ cur.size) (h2 : o + 11 ≤ o2) (hx0 : w.cell? ⟨g, o2, none⟩ = some x0) (x y : Operand) (hw : Region.wanted op (yielded ops a.tmps) = true)
    (ho : op.op = .store 30 x y) (hx : a.eval x = .pointer (some ⟨g, o, none⟩)) (hy : a.eval y = d.v) (k : ∀ w', w'.cell? ⟨g, o2, none⟩ = some x0 → Hid (w'.heap[g]? = some (.cells (setList cur o d.cells) e (0, 0)) ∧ Touch g w w') → wpList Try.prog ops Q rest (a.put op.dst undef) w') : wpList Try.prog ops Q (op :: rest) a w :=
  BigFrame.wpList_want hw fun K hK => wp_store_mid _ x y ho g o d.cells.toArray hx hy (fun j hj => ⟨by rw [cell_of_row w g _ _ _ (0, 0) hg, Array.getElem?_eq_getElem (by have : j < 11 := hj; omega)]; rfl, frozen_of_row w g _ _ _ hg⟩) infoDS11 (ds_one d) (hK _ _ (k _ (by
    rw [show d.cells.toArray.toList = d.cells from rfl, World.cell?_setCells_out g d.cells o w ⟨g, o2, none⟩ (fun _ _ => .inr h2)]
    exact hx0) ⟨heap_sets d.cells o w cur hg, touch_sets d.cells o w (Touch.refl g w)⟩))
theorem cut_enters : ∀ args w, (callFunc 19 args).run Try.prog w = .ok (.enter 19 args) w := enters_of Try.func19 (by kernel_rfl) rfl
end Go.Proofs.Ytboijaffpnmcaaa
