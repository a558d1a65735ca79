/- Several texts in one: F1, F2, F3, F4. -/
import Derived.WalkKit
import Derived.LoopTactic
import Derived.Outline
import Derived.Lib.Hide
import Derived.Deep.QuietTactic
import Derived.BigQuiet
import Derived.Deep.MidRow
import Derived.Laws.AppendOwn
import Derived.Test.YtfbmlpdomfchpaaJDa
import Derived.Test.YtfbmlpdomfchpaaCalm
/- What the records of chapter 35 are; New and Len; how many messages are recent. -/
namespace Go.Proofs.Ytfbmlpdomfchpaa
open Go.RowKit
set_option linter.unusedVariables false
set_option linter.unusedSimpArgs false

/-- What is kept of a master. -/
structure Rc where
  clock : Int
  num : Int
  set : DS
  heard : List Int
/-- A record as a value, its list of times in the slice h. -/
abbrev Rc.v (r : Rc) (h : Value) : Value := .agg #[.int .u64 r.clock, .int .i64 r.num, .int .i64 r.set.p1, .int .i64 r.set.cls, .int .i64 r.set.acc, .int .i64 r.set.var, .int .i64 r.set.p2, .int .u64 r.set.gm, .int .i64 r.set.steps, .int .u64 r.set.sender, .int .i64 r.set.sport, .int .u64 r.set.recv, .int .i64 r.set.rport, h]
def Rc.cells (r : Rc) (h : Value) : List Value := [.int .u64 r.clock, .int .i64 r.num, .int .i64 r.set.p1, .int .i64 r.set.cls, .int .i64 r.set.acc, .int .i64 r.set.var, .int .i64 r.set.p2, .int .u64 r.set.gm, .int .i64 r.set.steps, .int .u64 r.set.sender, .int .i64 r.set.sport, .int .u64 r.set.recv, .int .i64 r.set.rport, h]
/-- The records of a port. -/
structure Fr where
  window : Int
  need : Int
  last : Int
  list : List Rc
def rowsF : List Rc → List Value → List Value
  | r :: rs, h :: hs => r.cells h ++ rowsF rs hs
  | _, _ => []
def intsV (l : List Int) : List Value := l.map (Value.int .i64)
/-- The records lie in the block b; lv: the slice of records, hs: the slices of times. -/
structure FrAt (w : World) (base b : Nat) (f : Fr) (lv : Value) (hs : List Value) : Prop where
  le : base ≤ b
  head : w.heap[b]? = some (.cells #[.int .i64 f.window, .int .i64 f.need, .int .i64 f.last, lv] 100 (0, 0))
  hlen : hs.length = f.list.length
  own : w.ownsRow base 117 14 lv f.list.length (rowsF f.list hs)
  each : ∀ (i : Nat) (r : Rc) (h : Value), f.list[i]? = some r → hs[i]? = some h → w.ownsRow base 3 1 h r.heard.length (intsV r.heard) ∧ r.heard ≠ [] ∧ h.ownBlock ≠ some b ∧ h.ownBlock ≠ lv.ownBlock
  lb : lv.ownBlock ≠ some b
  two : ∀ (i j : Nat) (h k : Value), hs[i]? = some h → hs[j]? = some k → h.ownBlock = k.ownBlock → i = j
/-- What the records' numbers must be. -/
structure Fr.Ok (f : Fr) : Prop where
  w0 : 1 ≤ f.window
  w1 : f.window ≤ 1125899906842624
  l0 : 0 ≤ f.last
  l1 : f.last ≤ 1125899906842624
def newF (window need : Int) : Fr := ⟨window, need, 0, []⟩
theorem FrAt.cell {w : World} {base b : Nat} {f : Fr} {lv : Value} {hs : List Value} (h : FrAt w base b f lv hs) (j : Nat) : w.cell? ⟨b, j, none⟩ = (#[.int .i64 f.window, .int .i64 f.need, .int .i64 f.last, lv] : Array Value)[j]? := cell_of_row w b j _ _ (0, 0) h.head
theorem FrAt.lt {w : World} {base b : Nat} {f : Fr} {lv : Value} {hs : List Value} (h : FrAt w base b f lv hs) : b < w.heap.size := (Array.getElem?_eq_some_iff.1 h.head).1
theorem ownsRow_below {w w' : World} {base size n : Nat} {e : TypeId} {v : Value} {xs : List Value} (h : w.ownsRow base e size v n xs) (k : Below w.heap.size w w') : w'.ownsRow base e size v n xs := by
  refine ⟨h.1, ?_⟩
  rcases h.2 with hn | ⟨g, cap, cur, rfl, hb, hg, rest⟩
  · exact .inl hn
  · exact .inr ⟨g, cap, cur, rfl, hb, (k.block g (Array.getElem?_eq_some_iff.1 hg).1).trans hg, rest⟩
theorem FrAt.below {w w' : World} {base b : Nat} {f : Fr} {lv : Value} {hs : List Value} (h : FrAt w base b f lv hs) (k : Below w.heap.size w w') : FrAt w' base b f lv hs :=
  ⟨h.le, (k.block b h.lt).trans h.head, h.hlen, ownsRow_below h.own k, fun i r v h1 h2 => ⟨ownsRow_below (h.each i r v h1 h2).1 k, (h.each i r v h1 h2).2⟩, h.lb, h.two⟩
theorem fnew_ok (window need : Int) (h0 : 1 ≤ window) (h1 : window ≤ 1125899906842624) (h2 : 1 ≤ need) (h3 : need ≤ 8) (w : World) : Calls Try.prog 25 #[.int .i64 window, .int .i64 need] w fun e w' =>
    e = .returned (.pointer (some ⟨w.heap.size, 0, none⟩)) ∧ FrAt w' w.heap.size w.heap.size (newF window need) (.slice none 0 0) [] ∧ Below w.heap.size w w' ∧ w.heap.size < w'.heap.size := by
  have d0 : decide (window < 1) = false := by simp; omega
  have d1 : decide (1125899906842624 < window) = false := by simp; omega
  have d2 : decide (need < 1) = false := by simp; omega
  have d3 : decide (8 < need) = false := by simp; omega
  go_enter Try.func25, Try.ntmps25
  go_wp2_with fail
  go_ret
  exact ⟨rfl, ⟨Nat.le_refl _, heap_alloc_new _ _, rfl, World.ownsRow_nil _ _ _ _, fun i r h h1 => by simp [newF] at h1, by simp [Value.ownBlock], fun i j h k h1 => by simp at h1⟩, (Below.refl _ _).alloc (Nat.le_refl _) _, by simp⟩
theorem fnew_bad (window need : Int) (h : window < 1 ∨ 1125899906842624 < window ∨ need < 1 ∨ 8 < need) (w : World) : Calls Try.prog 25 #[.int .i64 window, .int .i64 need] w fun e w' => e = .returned (.pointer none) ∧ w = w' := by
  by_cases g0 : window < 1
  · have d0 : decide (window < 1) = true := by simpa using g0
    go_enter Try.func25, Try.ntmps25
    go_wp2_with fail
    go_ret
    exact ⟨rfl, rfl⟩
  have d0 : decide (window < 1) = false := by simpa using g0
  by_cases g1 : 1125899906842624 < window
  · have d1 : decide (1125899906842624 < window) = true := by simpa using g1
    go_enter Try.func25, Try.ntmps25
    go_wp2_with fail
    go_ret
    exact ⟨rfl, rfl⟩
  have d1 : decide (1125899906842624 < window) = false := by simpa using g1
  by_cases g2 : need < 1
  · have d2 : decide (need < 1) = true := by simpa using g2
    go_enter Try.func25, Try.ntmps25
    go_wp2_with fail
    go_ret
    exact ⟨rfl, rfl⟩
  have d2 : decide (need < 1) = false := by simpa using g2
  have g3 : 8 < need := by omega
  have d3 : decide (8 < need) = true := by simpa using g3
  go_enter Try.func25, Try.ntmps25
  go_wp2_with fail
  go_ret
  exact ⟨rfl, rfl⟩
/-- A slice of records: nil and empty, or it says how many there are. -/
theorem FrAt.form {w : World} {base b : Nat} {f : Fr} {lv : Value} {hs : List Value} (h : FrAt w base b f lv hs) : (lv = .slice none 0 0 ∧ f.list = []) ∨ ∃ g cap, lv = .slice (some ⟨g, 0, none⟩) f.list.length cap ∧ f.list.length ≤ cap ∧ cap ≤ maxLen := by
  rcases h.own.2 with ⟨e, hn⟩ | ⟨g, cap, cur, e, _, _, hl, hm, _⟩
  · exact .inl ⟨e, List.length_eq_zero_iff.1 hn⟩
  · exact .inr ⟨g, cap, e, hl, hm⟩
end Go.Proofs.Ytfbmlpdomfchpaa
/- How many messages of a record are recent; its latest. -/
namespace Go.Proofs.Ytfbmlpdomfchpaa
open Go.RowKit
set_option linter.unusedVariables false
set_option linter.unusedSimpArgs false

theorem getD_nth (l : List Int) (j : Nat) (h : j < l.length) : l.getD j 0 = l[j] := by simp [List.getD_eq_getElem?_getD, h]
/-- Where a slice of times lies. -/
theorem owns_ints {w : World} {base : Nat} {v : Value} {l : List Int} (h : w.ownsRow base 3 1 v l.length (intsV l)) :
    (v = .slice none 0 0 ∧ l = []) ∨ ∃ g cap, v = .slice (some ⟨g, 0, none⟩) l.length cap ∧ base ≤ g ∧ g < w.heap.size ∧ l.length ≤ cap ∧ cap ≤ maxLen ∧ ∀ j, j < l.length → w.cell? ⟨g, j, none⟩ = some (.int .i64 (l.getD j 0)) := by
  rcases h.2 with ⟨e, hn⟩ | ⟨g, cap, cur, e, hb, hg, hl, hm, hs, ht⟩
  · exact .inl ⟨e, List.length_eq_zero_iff.1 hn⟩
  · refine .inr ⟨g, cap, e, hb, (Array.getElem?_eq_some_iff.1 hg).1, hl, hm, fun j hj => ?_⟩
    rw [cell_of_row w g j _ _ (0, 0) hg]
    have k : (cur.toList.take (l.length * 1))[j]? = (intsV l)[j]? := by rw [ht]
    rw [List.getElem?_take, if_pos (by omega)] at k
    rw [← Array.getElem?_toList, k, intsV, List.getElem?_map, List.getElem?_eq_getElem hj, getD_nth l j hj]
    rfl
/-- How many of the messages are recent. -/
def recentF (window last at_ : Int) (l : List Int) : Nat := l.countP fun t => decide ((if at_ < last then last else at_) - window < t)
theorem countP_take (l : List Int) (p : Int → Bool) (k : Nat) (hk : k < l.length) : (l.take (k + 1)).countP p = (l.take k).countP p + if p (l.getD k 0) = true then 1 else 0 := by
  rw [List.take_add_one, List.countP_append, List.getElem?_eq_getElem hk, getD_nth l k hk]
  simp [List.countP_cons]
set_option maxHeartbeats 2000000 in
theorem recent_any {b : Nat} {window last at_ : Int} {w : World} (c0 : w.cell? ⟨b, 0, none⟩ = some (.int .i64 window)) (c2 : w.cell? ⟨b, 2, none⟩ = some (.int .i64 last)) (r : Rc) {hv : Value} {base : Nat} (hown : w.ownsRow base 3 1 hv r.heard.length (intsV r.heard)) (hr : r.heard ≠ [])
    (hw0 : 1 ≤ window) (hw1 : window ≤ 1125899906842624) (hl0 : 0 ≤ last) (hl1 : last ≤ 1125899906842624) (ha1 : at_ ≤ 9223372036854775807) :
    Calls Try.prog 75 #[.pointer (some ⟨b, 0, none⟩), r.v hv, .int .i64 at_] w fun e w' => e = .returned (.int .i64 (recentF window last at_ r.heard)) ∧ Below w.heap.size w w' := by
  obtain ⟨m, hm⟩ : ∃ m, (if at_ < last then last else at_) = m := ⟨_, rfl⟩
  have hm0 : 0 ≤ m := by rw [← hm]; split <;> omega
  have hm1 : m ≤ 9223372036854775807 := by rw [← hm]; split <;> omega
  obtain ⟨l, hl⟩ : ∃ l, r.heard = l := ⟨_, rfl⟩
  unfold recentF
  rw [hm]
  rw [hl] at hown hr ⊢
  rcases owns_ints hown with ⟨_, e⟩ | ⟨g, cap, rfl, hb, hg, hlc, hcm, hcells⟩
  · exact absurd e hr
  unfold maxLen at hcm
  have HM := Lib.hid hm
  obtain ⟨p, hp⟩ : ∃ p : Int → Bool, (fun t => decide (m - window < t)) = p := ⟨_, rfl⟩
  rw [hp]
  have HPF := Lib.hid (show ∀ v, p v = decide (m - window < v) from fun v => by rw [← hp])
  have HC := Lib.hid hcells
  have hbl : b < w.heap.size := World.block_lt_of_cell? w _ c0
  clear hown hr hm hcells hp
  by_cases hlast : at_ < last
  all_goals
    have hme := HM.out
    first | rw [if_pos hlast] at hme | rw [if_neg hlast] at hme
    subst hme
    clear HM
    go_enter Try.func75, Try.ntmps75
    go_wp2_with fail
    generalize hW : w.alloc _ = W
    have hb0 : Below w.heap.size w W := by rw [← hW]; exact (Below.refl _ _).alloc (Nat.le_refl _) _
    have d0 : W.cell? ⟨b, 0, none⟩ = some (.int .i64 window) := cell_below hb0 c0
    have HC2 := Lib.hid (show ∀ j, j < l.length → W.cell? ⟨g, j, none⟩ = some (.int .i64 (l.getD j 0)) from fun j hj => cell_below hb0 (HC.out j hj))
    have HB := Lib.hid hb0
    clear hW hb0 c0 c2 HC
    go_loop [7, 19] (fun s i => ∃ (k : Nat), k ≤ l.length ∧ i = .int .i64 k ∧ s = .int .i64 ((l.take k).countP p)) (fun _ i => l.length - (intOf i).toNat)
    case atStart => exact ⟨0, Nat.zero_le _, rfl, by simp⟩
    case round =>
      obtain ⟨k, hk, rfl, rfl⟩ := hrel
      by_cases hlt : k < l.length
      · have hk0 : (0 : Int) ≤ (k : Int) := by omega
        have hk1 : (k : Int) < (l.length : Int) := by omega
        have hcnt : (l.take k).countP p ≤ k := Nat.le_trans List.countP_le_length (by simp; omega)
        obtain ⟨v, hv⟩ : ∃ v, l.getD k 0 = v := ⟨_, rfl⟩
        have hc := HC2.out k hlt
        rw [hv] at hc
        have hstep := countP_take l p k hlt
        rw [hv] at hstep
        obtain ⟨n, hn⟩ : ∃ n, (l.take k).countP p = n := ⟨_, rfl⟩
        rw [hn] at hstep hcnt ⊢
        have HS := Lib.hid hstep
        have hpv := HPF.out v
        clear hv hstep hn
        cases hd : p v
        · rw [hd] at hpv
          have hdd := hpv.symm
          have HD := Lib.hid hd
          clear hpv hd
          go_wp2_with fail
          go_round
          case rel => exact ⟨k + 1, by omega, by go_num, by rw [HS.out, HD.out]; simp⟩
          case measure => simp [intOf]; omega
        · rw [hd] at hpv
          have hdd := hpv.symm
          have HD := Lib.hid hd
          clear hpv hd
          go_wp2_with fail
          go_round
          case rel => exact ⟨k + 1, by omega, by go_num, by rw [HS.out, HD.out]; go_num⟩
          case measure => simp [intOf]; omega
      · obtain rfl : k = l.length := by omega
        go_wp2_with fail
        go_ret
        exact ⟨rfl, HB.out⟩
end Go.Proofs.Ytfbmlpdomfchpaa
/- The latest message of a record; where a record lies; which record is a master's. -/
namespace Go.Proofs.Ytfbmlpdomfchpaa
open Go.RowKit
set_option linter.unusedVariables false
set_option linter.unusedSimpArgs false

theorem latest_any (r : Rc) {hv : Value} {base : Nat} {w : World} (hown : w.ownsRow base 3 1 hv r.heard.length (intsV r.heard)) (hr : r.heard ≠ []) : Calls Try.prog 77 #[r.v hv] w fun e w' => e = .returned (.int .i64 (r.heard.getLastD 0)) ∧ Below w.heap.size w w' := by
  obtain ⟨l, hl⟩ : ∃ l, r.heard = l := ⟨_, rfl⟩
  rw [hl] at hown hr ⊢
  rcases owns_ints hown with ⟨_, e⟩ | ⟨g, cap, rfl, hb, hg, hlc, hcm, hcells⟩
  · exact absurd e hr
  unfold maxLen at hcm
  have hn : 0 < l.length := List.length_pos_iff.2 hr
  obtain ⟨v, hv⟩ : ∃ v, l.getD (l.length - 1) 0 = v := ⟨_, rfl⟩
  have hc := hcells (l.length - 1) (by omega)
  rw [hv] at hc
  have e : l.getLastD 0 = v := by rw [← hv]; rw [getD_nth _ _ (by omega), List.getLastD_eq_getLast?, List.getLast?_eq_getElem?, List.getElem?_eq_getElem (by omega)]; rfl
  rw [e]
  clear hown hr hcells hv e
  obtain ⟨n, hn'⟩ : ∃ n, l.length = n + 1 := ⟨l.length - 1, by omega⟩
  rw [hn'] at hc hlc ⊢
  simp only [Nat.add_sub_cancel] at hc
  clear hn hn' hl
  go_enter Try.func77, Try.ntmps77
  go_wp2_with fail
  go_ret
  exact ⟨rfl, (Below.refl _ _).alloc (Nat.le_refl _) _⟩
theorem rec_len (r : Rc) (h : Value) : (r.cells h).length = 14 := rfl
theorem rows_at : ∀ (l : List Rc) (hs : List Value) (i j : Nat) (r : Rc) (h : Value), l[i]? = some r → hs[i]? = some h → j < 14 → (rowsF l hs)[i * 14 + j]? = (r.cells h)[j]?
  | [], _, i, _, _, _, h1, _, _ => by simp at h1
  | _ :: _, [], i, _, _, _, _, h2, _ => by simp at h2
  | a :: l, b :: hs, 0, j, r, h, h1, h2, hj => by
    simp at h1 h2
    subst h1 h2
    rw [rowsF, Nat.zero_mul, Nat.zero_add, List.getElem?_append_left (by rw [rec_len]; exact hj)]
  | a :: l, b :: hs, i + 1, j, r, h, h1, h2, hj => by
    rw [rowsF, List.getElem?_append_right (by rw [rec_len]; omega), rec_len, show (i + 1) * 14 + j - 14 = i * 14 + j from by omega]
    exact rows_at l hs i j r h (by simpa using h1) (by simpa using h2) hj
/-- Where a record lies. -/
theorem owns_rec {w : World} {base n : Nat} {v : Value} {l : List Rc} {hs : List Value} (h : w.ownsRow base 117 14 v n (rowsF l hs)) (hn : n = l.length) (hlen : hs.length = l.length) :
    (v = .slice none 0 0 ∧ l = []) ∨ ∃ g cap, v = .slice (some ⟨g, 0, none⟩) n cap ∧ base ≤ g ∧ g < w.heap.size ∧ n ≤ cap ∧ cap ≤ maxLen ∧ ∀ i r x, l[i]? = some r → hs[i]? = some x → w.rangeAt g (i * 14) (r.cells x) := by
  rcases h.2 with ⟨e, hz⟩ | ⟨g, cap, cur, e, hb, hg, hl, hm, hs', ht⟩
  · exact .inl ⟨e, List.length_eq_zero_iff.1 (by omega)⟩
  · refine .inr ⟨g, cap, e, hb, (Array.getElem?_eq_some_iff.1 hg).1, hl, hm, fun i r x h1 h2 j v hv => ?_⟩
    have hj : j < 14 := (List.getElem?_eq_some_iff.1 hv).1
    have hi : i < n := by rw [hn]; exact (List.getElem?_eq_some_iff.1 h1).1
    rw [cell_of_row w g _ _ _ (0, 0) hg]
    have k : (cur.toList.take (n * 14))[i * 14 + j]? = (rowsF l hs)[i * 14 + j]? := by rw [ht]
    rw [List.getElem?_take, if_pos (by omega), rows_at l hs i j r x h1 h2 hj, hv] at k
    rw [← Array.getElem?_toList, k]
theorem infoRec : (Try.prog.info? 117).map (·.size) = some 14 := by kernel_rfl
theorem load_rec {ops : Array Oper} {rest : List Oper} {op : Oper} {a : Act} {w : World} {Q : Exit → Act → World → Prop} {g o : Nat} {r : Rc} {h : Value} (hr : w.rangeAt g o (r.cells h)) (x : Operand) (hw : Region.wanted op (yielded ops a.tmps) = true)
    (ho : op.op = .load 117 x) (hx : a.eval x = .pointer (some ⟨g, o, none⟩)) (k : wpList Try.prog ops Q rest (a.put op.dst (r.v h)) w) : wpList Try.prog ops Q (op :: rest) a w :=
  BigFrame.wpList_want hw fun K hK => wp_load_mid _ x ho g o hx (r.cells h) _ hr Try.underlying117 rfl infoRec (hK _ _ k)
/-- Is a record that of the port (c, n)? -/
def isB (c n : Int) (r : Rc) : Bool := r.clock == c && r.num == n
theorem from_any (r : Rc) (hv : Value) (q : Nat) (c n : Int) (w : World) (h0 : w.cell? ⟨q, 0, none⟩ = some (.int .u64 c)) (h1 : w.cell? ⟨q, 1, none⟩ = some (.int .i64 n)) :
    Calls Try.prog 62 #[r.v hv, .pointer (some ⟨q, 0, none⟩)] w fun e w' => e = .returned (.bool (isB c n r)) ∧ Below w.heap.size w w' := by
  have hq : q < w.heap.size := World.block_lt_of_cell? w _ h0
  obtain ⟨z, hz⟩ : ∃ z, isB c n r = z := ⟨_, rfl⟩
  rw [hz]
  have HZ := Lib.hid hz
  clear hz
  cases e0 : (r.clock == c)
  all_goals cases e1 : (r.num == n)
  all_goals have HE := Lib.hid (show z = _ from by rw [← HZ.out, isB, e0, e1])
  all_goals go_enter Try.func62, Try.ntmps62
  all_goals go_wp2_with fail
  all_goals go_ret
  all_goals exact ⟨by rw [HE.out]; simp_all, (Below.refl _ _).alloc (Nat.le_refl _) _⟩
end Go.Proofs.Ytfbmlpdomfchpaa
/- Which record is a master's: slices.IndexFunc with the closure of Hear. -/
namespace Go.Proofs.Ytfbmlpdomfchpaa
open Go.RowKit
set_option linter.unusedVariables false
set_option linter.unusedSimpArgs false

/-- The place of the first record that p takes, or -1. -/
def idxF (p : Rc → Bool) (l : List Rc) : Int := match l.findIdx? p with
  | some i => i
  | none => -1
theorem idxF_hit {p : Rc → Bool} {l : List Rc} {k : Nat} {r : Rc} (hk : l[k]? = some r) (hp : p r = true) (hn : ∀ (j : Nat) (q : Rc), j < k → l[j]? = some q → p q = false) : idxF p l = k := by
  obtain ⟨h, e⟩ := List.getElem?_eq_some_iff.1 hk
  have : l.findIdx? p = some k := List.findIdx?_eq_some_iff_getElem.2 ⟨h, by rw [e]; exact hp, fun j hj => by
    have := hn j l[j] hj (List.getElem?_eq_getElem (by omega))
    simp [this]⟩
  simp [idxF, this]
theorem idxF_miss {p : Rc → Bool} {l : List Rc} (hn : ∀ (j : Nat) (q : Rc), l[j]? = some q → p q = false) : idxF p l = -1 := by
  have : l.findIdx? p = none := List.findIdx?_eq_none_iff.2 fun q hq => by
    obtain ⟨j, hj, rfl⟩ := List.getElem_of_mem hq
    exact hn j _ (List.getElem?_eq_getElem hj)
  simp [idxF, this]
set_option maxHeartbeats 2000000 in
/-- slices.IndexFunc over records, at a function value F that answers p of each record in every later world. -/
theorem index_any {w : World} {v : Value} {l : List Rc} {hs : List Value} {base : Nat} (hown : w.ownsRow base 117 14 v l.length (rowsF l hs)) (hlen : hs.length = l.length) (hbig : l.length ≤ 1000) (p : Rc → Bool) (F : FuncId) (caps : Array Value) (eg : ∀ args w, (callFunc F args).run Try.prog w = .ok (.enter F args) w)
    (hp : ∀ (i : Nat) (r : Rc) (h : Value) (w' : World), l[i]? = some r → hs[i]? = some h → Below w.heap.size w w' → Calls Try.prog F (#[r.v h] ++ caps) w' fun e w'' => e = .returned (.bool (p r)) ∧ Below w'.heap.size w' w'') :
    Calls Try.prog 61 #[v, .func (.func F) #[] caps] w fun e w' => e = .returned (.int .i64 (idxF p l)) ∧ Below w.heap.size w w' := by
  have HP := Lib.hid hp
  have HOWN := Lib.hid (fun (w' : World) (k : Below w.heap.size w w') => owns_rec (ownsRow_below hown k) rfl hlen)
  have hform := owns_rec hown rfl hlen
  obtain ⟨n, hn⟩ : ∃ n, l.length = n := ⟨_, rfl⟩
  have HLEN := Lib.hid hlen
  clear hown hp hlen
  rcases hform with ⟨rfl, rfl⟩ | ⟨g, cap, rfl, hb, hg, hle, hcm, _⟩
  · have e : idxF p [] = -1 := rfl
    rw [e]
    clear HP HOWN e
    go_enter Try.func61, Try.ntmps61
    go_wp2_with fail
    go_loop [8] (fun i => i = .int .i64 0) (fun _ => 0)
    case atStart => rfl
    case round =>
      subst hrel
      go_wp2_with fail
      go_ret
      exact ⟨rfl, Below.refl _ _⟩
  · unfold maxLen at hcm
    rw [hn] at hle hbig ⊢
    obtain ⟨z, hz⟩ : ∃ z, idxF p l = z := ⟨_, rfl⟩
    rw [hz]
    have HZ := Lib.hid hz
    have HN := Lib.hid hn
    clear hz hn
    go_enter Try.func61, Try.ntmps61
    go_wp2_with fail
    go_loopw [8] (fun i wr => ∃ k : Nat, k ≤ n ∧ i = .int .i64 k ∧ Below w.heap.size w wr ∧ ∀ (j : Nat) (q : Rc), j < k → l[j]? = some q → p q = false) (fun i _ => n - (intOf i).toNat)
    case atStart => exact ⟨0, Nat.zero_le _, rfl, Below.refl _ _, fun j q hj => by omega⟩
    case round =>
      obtain ⟨k, hk, rfl, hbw, hno⟩ := hrel
      have HB := Lib.hid hbw
      have HNO := Lib.hid hno
      clear hbw hno
      by_cases hlt : k < n
      · have hk0 : (0 : Int) ≤ (k : Int) := by omega
        have hk1 : (k : Int) < (n : Int) := by omega
        obtain ⟨r, hr⟩ : ∃ r, l[k]? = some r := ⟨_, List.getElem?_eq_getElem (by rw [HN.out]; exact hlt)⟩
        obtain ⟨x, hx⟩ : ∃ x, hs[k]? = some x := ⟨_, List.getElem?_eq_getElem (by rw [HLEN.out, HN.out]; exact hlt)⟩
        have HRG := Lib.hid (show World.rangeAt _ g (k * 14) (r.cells x) from by
          rcases HOWN.out _ HB.out with ⟨e, _⟩ | ⟨g', cap', e, _, _, _, _, hrg⟩
          · exact absurd e (by simp)
          · have hgg : g' = g := by injection e with e1 _ _; injection e1 with e1; injection e1 with e1 _ _; exact e1.symm
            rw [← hgg]
            exact hrg k r x hr hx)
        have HCALL := Lib.hid (HP.out k r x _ hr hx HB.out)
        have HR := Lib.hid hr
        clear hr hx
        go_wp2_with (refine load_rec HRG.out _ (by rfl) rfl rfl ?_)
        refine HCALL.out.mono ?_
        rintro e w1 ⟨rfl, hb1⟩
        have HB1 := Lib.hid (below_then HB.out hb1)
        clear hb1 HRG HCALL
        cases hp1 : p r
        · go_wp2_with fail
          go_roundw
          case rel => exact ⟨k + 1, by omega, by go_num, HB1.out, fun j q hj hq => by
            by_cases e : j = k
            · subst e
              have := HR.out
              rw [this] at hq
              injection hq with hq
              rw [← hq]; exact hp1
            · exact HNO.out j q (by omega) hq⟩
          case measure => simp [intOf]; omega
        · have hz : z = k := by rw [← HZ.out]; exact idxF_hit HR.out hp1 HNO.out
          subst hz
          go_wp2_with fail
          go_ret
          exact ⟨rfl, HB1.out⟩
      · obtain rfl : k = n := by omega
        have hz : z = -1 := by
          rw [← HZ.out]
          exact idxF_miss fun j q hq => HNO.out j q (by rw [← HN.out]; exact (List.getElem?_eq_some_iff.1 hq).1) hq
        subst hz
        go_wp2_with fail
        go_ret
        exact ⟨rfl, HB.out⟩
end Go.Proofs.Ytfbmlpdomfchpaa
