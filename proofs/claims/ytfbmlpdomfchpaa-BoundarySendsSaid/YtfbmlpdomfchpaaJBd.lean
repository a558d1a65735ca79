/- Several texts in one: B12, B13, B15. -/
import Derived.WalkKit
import Derived.Lib.Hide
import Derived.Test.YtfbmlpdomfchpaaB8
import Derived.LoopTactic
import Derived.OwnWalk
/- A call on a clock, step by step: what the clock is now, and what the call has written. -/
namespace Go.Proofs.Ytfbmlpdomfchpaa
open Go.RowKit
set_option linter.unusedVariables false
set_option linter.unusedSimpArgs false

/-- Since w the call has written the clock's own blocks alone; the clock is k' now. -/
structure Run (w : World) (base kb mb : Nat) (sps : List Nat) (ft : Nat → Nat → Prop) (n : Nat) (u : World) (k' : Ck) : Prop where
  ex : ∃ ft', CkIs u base kb k' mb sps ft' ∧ ∀ i g, ft' i g → ft i g ∨ w.heap.size ≤ g
  keep : Keep (ckFoot kb mb n ft) w u
  num : k'.ports.length = n
theorem Run.start {w : World} {base kb mb : Nat} {sps : List Nat} {ft : Nat → Nat → Prop} {k : Ck} (h : CkIs w base kb k mb sps ft) : Run w base kb mb sps ft k.ports.length w k := ⟨⟨ft, h, fun _ _ h => .inl h⟩, .refl _ _, rfl⟩
theorem Run.below {w u u' : World} {base kb mb n : Nat} {sps : List Nat} {ft : Nat → Nat → Prop} {k : Ck} (h : Run w base kb mb sps ft n u k) (hb : Below u.heap.size u u') : Run w base kb mb sps ft n u' k := by
  obtain ⟨ft', hC, hf⟩ := h.ex
  exact ⟨⟨ft', hC.below hb, hf⟩, h.keep.thenBelow hb, h.num⟩
theorem Run.cell {w u : World} {base kb mb n : Nat} {sps : List Nat} {ft : Nat → Nat → Prop} {k : Ck} (h : Run w base kb mb sps ft n u k) (j : Nat) : u.cell? ⟨kb, j, none⟩ = (k.row mb)[j]? := by
  obtain ⟨ft', hC, hf⟩ := h.ex
  exact hC.cell j
theorem Run.free {w u : World} {base kb mb n : Nat} {sps : List Nat} {ft : Nat → Nat → Prop} {k : Ck} (h : Run w base kb mb sps ft n u k) (j : Nat) : u.frozen? ⟨kb, j, none⟩ = false := by
  obtain ⟨ft', hC, hf⟩ := h.ex
  exact hC.free j
theorem Run.map {w u : World} {base kb mb n : Nat} {sps : List Nat} {ft : Nat → Nat → Prop} {k : Ck} (h : Run w base kb mb sps ft n u k) : u.heap[mb]? = some (.map (mapEs 0 sps).toArray sps.length) := by
  obtain ⟨ft', hC, hf⟩ := h.ex
  exact hC.map
theorem Run.row {w u : World} {base kb mb n : Nat} {sps : List Nat} {ft : Nat → Nat → Prop} {k : Ck} (h : Run w base kb mb sps ft n u k) : u.heap[kb]? = some (.cells (k.row mb) 70 (0, 0)) := by
  obtain ⟨ft', hC, hf⟩ := h.ex
  exact hC.head
theorem Run.fol_range {w u : World} {base kb mb n : Nat} {sps : List Nat} {ft : Nat → Nat → Prop} {k : Ck} (h : Run w base kb mb sps ft n u k) : u.rangeAt kb 13 k.fol.cells := by
  obtain ⟨ft', hC, hf⟩ := h.ex
  exact hC.fol_range
theorem Run.lt {w u : World} {base kb mb n : Nat} {sps : List Nat} {ft : Nat → Nat → Prop} {k : Ck} (h : Run w base kb mb sps ft n u k) : kb < u.heap.size := (Array.getElem?_eq_some_iff.1 h.row).1
/-- The clock, with no blocks named. -/
theorem Run.ck {w u : World} {base kb mb n : Nat} {sps : List Nat} {ft : Nat → Nat → Prop} {k : Ck} (h : Run w base kb mb sps ft n u k) : CkE u base kb [] k := by
  obtain ⟨ft', hC, hf⟩ := h.ex
  exact ⟨mb, sps, ft', hC, fun q hq => by simp at hq⟩
/-- The clock's own cells are written. -/
theorem Run.head {w u u' : World} {base kb mb n : Nat} {sps : List Nat} {ft : Nat → Nat → Prop} {k k' : Ck} (h : Run w base kb mb sps ft n u k) (ht : Touch kb u u') (hr : u'.heap[kb]? = some (.cells (k'.row mb) 70 (0, 0))) (e : k'.ports = k.ports) : Run w base kb mb sps ft n u' k' := by
  obtain ⟨ft', hC, hf⟩ := h.ex
  exact ⟨⟨ft', hC.write ht hr e, hf⟩, h.keep.thenTouch ht (.inl (.inl rfl)), by rw [e]; exact h.num⟩
/-- A port of the clock: how it lies, and what the clock is when it has changed. -/
theorem Run.port {w u : World} {base kb mb n : Nat} {sps : List Nat} {ft : Nat → Nat → Prop} {k : Ck} (h : Run w base kb mb sps ft n u k) {i sp : Nat} {p : Pst} (hp : k.ports[i]? = some p) (hsp : sps[i]? = some sp) :
    ∃ rb xb lv hs, PortIs u base sp p rb xb lv hs ∧ ∀ (u' : World) (p' : Pst) (rb' xb' : Nat) (lv' : Value) (hs' : List Value) (M : Nat → Prop), Keep M u u' → (∀ g, M g → footOf sp rb xb lv hs g) → PortIs u' base sp p' rb' xb' lv' hs' → (∀ g, footOf sp rb' xb' lv' hs' g → footOf sp rb xb lv hs g ∨ u.heap.size ≤ g) →
      Run w base kb mb sps ft n u' { k with ports := k.ports.set i p' } := by
  obtain ⟨ft', hC, hf⟩ := h.ex
  obtain ⟨rb, xb, lv, hs, hP, hfo⟩ := hC.ports i p sp hp hsp
  have hi := (List.getElem?_eq_some_iff.1 hp).1
  have hin : i < n := by rw [← h.num]; exact hi
  refine ⟨rb, xb, lv, hs, hP, fun u' p' rb' xb' lv' hs' M hk hM hP' hF => ⟨⟨_, hC.turn hi hsp hk (fun g hg => (hfo g).2 (hM g hg)) ⟨rb', xb', lv', hs', hP', fun g => Iff.rfl⟩ (fun g hg => ?_), ?_⟩, h.keep.trans hk (fun g hg => ?_), ?_⟩⟩
  · rcases hF g hg with h1 | h1
    · exact .inl ((hfo g).2 h1)
    · exact .inr h1
  · intro j g hg
    by_cases e : j = i
    · subst e
      simp only [if_pos rfl] at hg
      rcases hF g hg with h1 | h1
      · exact hf j g ((hfo g).2 h1)
      · exact .inr (Nat.le_trans h.keep.size h1)
    · simp only [if_neg e] at hg
      exact hf j g hg
  · rcases hf i g ((hfo g).2 (hM g hg)) with h1 | h1
    · exact .inl (.inr (.inr ⟨i, hin, h1⟩))
    · exact .inr h1
  · simpa using h.num
theorem Run.port_ne {w u : World} {base kb mb n : Nat} {sps : List Nat} {ft : Nat → Nat → Prop} {k : Ck} (h : Run w base kb mb sps ft n u k) {i sp : Nat} {p : Pst} (hp : k.ports[i]? = some p) (hsp : sps[i]? = some sp) : kb ≠ sp := by
  obtain ⟨ft', hC, hf⟩ := h.ex
  obtain ⟨rb, xb, lv, hs, hP, hfo⟩ := hC.ports i p sp hp hsp
  exact fun e => (hC.out i (List.getElem?_eq_some_iff.1 hp).1).1 ((hfo kb).2 (.inl e))
theorem Run.done {w u : World} {base kb mb n : Nat} {S : List Nat} {sps : List Nat} {ft : Nat → Nat → Prop} {k k' : Ck} (h : Run w base kb mb sps ft n u k') (hC : CkIs w base kb k mb sps ft) (hn : k.ports.length = n) (hS : ∀ q ∈ S, q < w.heap.size ∧ ¬ ckFoot kb mb k.ports.length ft q) : CkE u base kb S k' ∧ Stay base S w u := by
  obtain ⟨ft', hC', hf⟩ := h.ex
  subst hn
  refine CkE.step hC hS h.keep (fun g hg => hg) hC' (fun g hg => ?_)
  rcases hg with e | e | ⟨i, hi, e⟩
  · exact .inl (.inl e)
  · exact .inl (.inr (.inl e))
  · rcases hf i g e with h1 | h1
    · exact .inl (.inr (.inr ⟨i, by rw [← h.num]; exact hi, h1⟩))
    · exact .inr h1
/-- A port's exchange has changed where it lies. -/
theorem PortIs.exch {w w' : World} {base sp : Nat} {p : Pst} {rb xb : Nat} {lv : Value} {hs : List Value} (h : PortIs w base sp p rb xb lv hs) {x' : Ex} (hX : ExAt w' xb x') (ht : Touch xb w w') : PortIs w' base sp { p with ex := x' } rb xb lv hs :=
  have hk : Keep (fun g => g = xb) w w' := Keep.touch ht rfl
  ⟨(ht.block sp (Array.getElem?_eq_some_iff.1 h.row).1 (fun e => h.ne e.symm)).trans h.row, h.recs.keep hk (fun g hg hm => h.nxb (by rw [← show g = xb from hg]; exact hm)), hX, h.sge, h.xge, h.ne, h.nsp, h.nxb⟩
/-- A new exchange is laid into a port. -/
theorem PortIs.fresh {w w1 : World} {base sp : Nat} {p : Pst} {rb xb : Nat} {lv : Value} {hs : List Value} (h : PortIs w base sp p rb xb lv hs) {x' : Ex} {xb' : Nat} (hX : ExAt w1 xb' x') (hb : Below w.heap.size w w1) (hx : w.heap.size ≤ xb') :
    PortIs (w1.setCell ⟨sp, 5, none⟩ (.pointer (some ⟨xb', 0, none⟩))) base sp { p with ex := x' } rb xb' lv hs ∧ Touch sp w (w1.setCell ⟨sp, 5, none⟩ (.pointer (some ⟨xb', 0, none⟩))) := by
  have h1 := h.below hb
  have hsl := (Array.getElem?_eq_some_iff.1 h.row).1
  have ht : Touch sp w1 (w1.setCell ⟨sp, 5, none⟩ (.pointer (some ⟨xb', 0, none⟩))) := (Touch.refl sp w1).set 5 _
  have hne : xb' ≠ sp := by omega
  have hk : Keep (fun g => g = sp) w1 (w1.setCell ⟨sp, 5, none⟩ (.pointer (some ⟨xb', 0, none⟩))) := Keep.touch ht rfl
  refine ⟨⟨by rw [heap_set h1.row]; rfl, h1.recs.keep hk (fun g hg hm => h1.nsp (by rw [← show g = sp from hg]; exact hm)), hX.touch ht hne, h.sge, Nat.le_trans (Nat.le_trans h.sge (Nat.le_of_lt hsl)) hx, hne, h.nsp, fun hm => ?_⟩, (Touch.of hb).trans ht⟩
  have := (h.recs.mine_ge _ hm).2
  omega
/-- The ports, the first j of them changed. -/
def turnI {α : Type} (f : Nat → α → α) (l : List α) : Nat → List α
  | 0 => l
  | j + 1 => match l[j]? with
    | some x => (turnI f l j).set j (f j x)
    | none => turnI f l j
theorem turnI_get {α : Type} (f : Nat → α → α) (l : List α) : ∀ (j i : Nat), (turnI f l j)[i]? = if i < j then (l[i]?).map (f i) else l[i]?
  | 0, i => by simp [turnI]
  | j + 1, i => by
    have ih := turnI_get f l j
    unfold turnI
    cases h : l[j]? with
    | none =>
      simp only []
      rw [ih]
      by_cases h1 : i < j
      · rw [if_pos h1, if_pos (by omega)]
      · rw [if_neg h1]
        by_cases h2 : i = j
        · subst h2; rw [if_pos (by omega), h]; rfl
        · rw [if_neg (by omega)]
    | some x =>
      simp only []
      rw [List.getElem?_set]
      by_cases h2 : j = i
      · subst h2
        have hl : j < (turnI f l j).length := by
          have := ih j
          rw [if_neg (by omega), h] at this
          exact (List.getElem?_eq_some_iff.1 this).1
        rw [if_pos rfl, if_pos hl, if_pos (by omega), h]
        rfl
      · rw [if_neg h2, ih]
        by_cases h1 : i < j
        · rw [if_pos h1, if_pos (by omega)]
        · rw [if_neg h1, if_neg (by omega)]
theorem turnI_at {α : Type} (f : Nat → α → α) {l : List α} {j : Nat} {x : α} (h : l[j]? = some x) : (turnI f l j)[j]? = some x := by rw [turnI_get, if_neg (by omega), h]
theorem turnI_set {α : Type} (f : Nat → α → α) {l : List α} {j : Nat} {x : α} (h : l[j]? = some x) : (turnI f l j).set j (f j x) = turnI f l (j + 1) := by rw [turnI, h]
theorem turnI_len {α : Type} (f : Nat → α → α) (l : List α) : ∀ j, (turnI f l j).length = l.length
  | 0 => rfl
  | j + 1 => by
    unfold turnI
    cases h : l[j]? with
    | none => exact turnI_len f l j
    | some x => rw [List.length_set]; exact turnI_len f l j
theorem turnI_mem {α : Type} {f : Nat → α → α} {l : List α} {j : Nat} {x : α} (h : x ∈ turnI f l j) : x ∈ l ∨ ∃ i y, l[i]? = some y ∧ x = f i y := by
  obtain ⟨i, hi, rfl⟩ := List.getElem_of_mem h
  have e := turnI_get f l j i
  rw [List.getElem?_eq_getElem hi] at e
  by_cases h1 : i < j
  · rw [if_pos h1] at e
    cases hl : l[i]? with
    | none => rw [hl] at e; simp at e
    | some y =>
      rw [hl] at e
      simp at e
      exact .inr ⟨i, y, hl, e⟩
  · rw [if_neg h1] at e
    exact .inl (List.mem_of_getElem? e.symm)
end Go.Proofs.Ytfbmlpdomfchpaa
/- What a decision makes of a clock; small laws for its walk. -/
namespace Go.Proofs.Ytfbmlpdomfchpaa
open Go.RowKit
set_option linter.unusedVariables false
set_option linter.unusedSimpArgs false

theorem CkE.less {w : World} {base kb : Nat} {S T : List Nat} {k : Ck} (h : CkE w base kb S k) (hT : ∀ q ∈ T, q ∈ S) : CkE w base kb T k := by
  obtain ⟨mb, sps, ft, hC, hS⟩ := h
  exact ⟨mb, sps, ft, hC, fun q hq => hS q (hT q hq)⟩
theorem Stay.less {B : Nat} {S T : List Nat} {w w' : World} (h : Stay B S w w') (hT : ∀ q ∈ T, q ∈ S) : Stay B T w w' := ⟨h.below, fun q hq => h.same q (hT q hq)⟩
theorem RowAt.keep {M : Nat → Prop} {w w' : World} {b : Nat} {fs : List Int} (h : RowAt w b fs) (k : Keep M w w') (hb : ¬ M b) : RowAt w' b fs := fun j hj => k.cell (h j hj) hb
theorem DSAt.keep {M : Nat → Prop} {w w' : World} {b o : Nat} {d : DS} (h : DSAt w b o d) (k : Keep M w w') (hb : ¬ M b) : DSAt w' b o d := by
  obtain ⟨h0, h1, h2, h3, h4, h5, h6, h7, h8, h9, h10⟩ := h
  exact ⟨k.cell h0 hb, k.cell h1 hb, k.cell h2 hb, k.cell h3 hb, k.cell h4 hb, k.cell h5 hb, k.cell h6 hb, k.cell h7 hb, k.cell h8 hb, k.cell h9 hb, k.cell h10 hb⟩
theorem PBRow.keep {M : Nat → Prop} {w w' : World} {b off : Nat} {l : List PB} (h : PBRow w b off l) (k : Keep M w w') (hb : ¬ M b) : PBRow w' b off l := fun i hi => ⟨k.cell (h i hi).1 hb, (h i hi).2.keep k hb⟩
theorem moves_range : ∀ k, k < 19 → 1 ≤ moves.getD (k * 3 + 2) 0 ∧ moves.getD (k * 3 + 2) 0 ≤ 9 := by decide
theorem next_range {s : Int} (h1 : 1 ≤ s) (h9 : s ≤ 9) (e : Int) (same : Bool) : 1 ≤ nextF s e same ∧ nextF s e same ≤ 9 := by
  unfold nextF
  cases hf : (List.range 19).find? (rowHits s e) with
  | none => exact ⟨h1, h9⟩
  | some k =>
    have hk : k < 19 := List.mem_range.1 (List.mem_of_find?_eq_some hf)
    simp only []
    split
    · exact ⟨h1, h9⟩
    · exact moves_range k hk
theorem code_range (own : DS) (l : List PB) (m : Int) (i : Nat) : 1 ≤ codeF own l m i ∧ codeF own l m i ≤ 6 := by
  unfold codeF
  simp only []
  split
  · split <;> omega
  · split
    · omega
    · split
      · omega
      · split <;> omega
/-- A port behind a decision. -/
def lateB (k : Ck) (t : Int) (p : Pst) : Bool := decide (k.c.timeout ≤ wrap64 (t - p.mark))
def dec1 (k : Ck) (t code : Int) (has same : Bool) (p : Pst) : Int := if (has || p.now != 4) = true then nextF p.now (20 + code) same else if lateB k t p = true then nextF p.now 7 same else p.now
def dec2 (s : Int) (same : Bool) : Int := if s = 5 then nextF s 8 same else s
def decP (k : Ck) (t code : Int) (has same : Bool) (p : Pst) : Pst :=
  { p with now := dec2 (dec1 k t code has same p) same, mark := if dec2 (dec1 k t code has same p) same = p.now then p.mark else t, ex := if same = true then p.ex else .new k.c.domain }
def sameB (a b : DS) : Bool := a.gm == b.gm && (a.sender == b.sender && a.sport == b.sport)
def decL (k : Ck) (t : Int) : List PB := k.ports.map (bestP t)
def decN (k : Ck) (t : Int) : DS := masterF k.c.own (decL k t)
def decI (k : Ck) (t : Int) (i : Nat) (p : Pst) : Pst := decP k t ((codesF k.c.own (decL k t)).getD i 0) ((decL k t).getD i .zero).has (sameB (decN k t) k.fol) p
def decK (k : Ck) (t : Int) : Ck := if whenF k t ≠ 0 then k else { k with ports := turnI (decI k t) (k.ports.map (forgetP t)) k.ports.length, at_ := t, fol := decN k t }
theorem setList_fol (k : Ck) (mb : Nat) (d : DS) : setList (k.row mb) 13 d.cells = ({ k with fol := d } : Ck).row mb := by
  simp [setList, DS.cells]
theorem Ck.row_size (k : Ck) (mb : Nat) : (k.row mb).size = 24 := rfl
theorem Run.there {w u : World} {base kb mb n : Nat} {sps : List Nat} {ft : Nat → Nat → Prop} {k : Ck} (h : Run w base kb mb sps ft n u k) : u.there kb 13 11 := fun j hj => ⟨by rw [h.cell, Array.getElem?_eq_getElem (by rw [Ck.row_size]; omega)]; rfl, h.free _⟩
/-- What the clock follows is written. -/
theorem store_fol {w : World} {base kb mb n : Nat} {sps : List Nat} {ft : Nat → Nat → Prop} {k : Ck} {ops : Array Oper} {rest : List Oper} {op : Oper} {a : Act} {u : World} {Q : Exit → Act → World → Prop} {d : DS} (h : Run w base kb mb sps ft n u k) (x y : Operand) (hw : Region.wanted op (yielded ops a.tmps) = true)
    (ho : op.op = .store 35 x y) (hx : a.eval x = .pointer (some ⟨kb, 13, none⟩)) (hy : a.eval y = d.v) (K : ∀ w', Hid (Run w base kb mb sps ft n w' { k with fol := d } ∧ Touch kb u w') → wpList Try.prog ops Q rest (a.put op.dst undef) w') : wpList Try.prog ops Q (op :: rest) a u :=
  BigFrame.wpList_want hw fun K' hK => wp_store_mid _ x y ho kb 13 d.cells.toArray hx hy h.there infoDS11 (ds_one d) (hK _ _ (K _ (by
    have ht : Touch kb u (u.setCells kb 13 d.cells) := Touch.sets d.cells 13 u (Touch.refl _ _)
    exact ⟨h.head ht (by rw [heap_sets d.cells 13 u _ h.row, setList_fol]) rfl, ht⟩)))
end Go.Proofs.Ytfbmlpdomfchpaa
/- What Send sends; small laws for its walk. -/
namespace Go.Proofs.Ytfbmlpdomfchpaa
open Go.RowKit
set_option linter.unusedVariables false
set_option linter.unusedSimpArgs false

/-- A message of a port. -/
structure PM where
  port : Int
  msg : Ptp
def PM.zero : PM := ⟨0, .zero⟩
def PM.cells (m : PM) : List Value := .int .i64 m.port :: m.msg.cells
abbrev PM.v (m : PM) : Value := .agg #[.int .i64 m.port, .int .i64 m.msg.kind, .int .i64 m.msg.domain, .int .i64 m.msg.flags, .int .i64 m.msg.corr, .int .u64 m.msg.clock, .int .i64 m.msg.port, .int .i64 m.msg.seq, .int .i64 m.msg.logInt, .int .i64 m.msg.sec, .int .i64 m.msg.nano, .int .u64 m.msg.reqClock, .int .i64 m.msg.reqPort, .int .i64 m.msg.ann.utc, .int .i64 m.msg.ann.p1, .int .i64 m.msg.ann.cls, .int .i64 m.msg.ann.acc, .int .i64 m.msg.ann.var, .int .i64 m.msg.ann.p2, .int .u64 m.msg.ann.gm, .int .i64 m.msg.ann.steps, .int .i64 m.msg.ann.source]
theorem PM.len (m : PM) : m.cells.length = 22 := rfl
theorem PM.v_eq (m : PM) : m.v = .agg m.cells.toArray := rfl
theorem PM.one (m : PM) : ∀ u ∈ m.cells, u.oneCell' = true := by simp [PM.cells, Ptp.cells, Value.oneCell']
theorem infoPM : (Try.prog.info? 53).map (fun i => (i.zero, i.size, i.bytes)) = some (some PM.zero.v, 22, 176) := by kernel_rfl
theorem pm_at : ∀ (l : List PM) (i j : Nat) (d : PM), l[i]? = some d → j < 22 → (l.flatMap PM.cells)[i * 22 + j]? = d.cells[j]?
  | [], _, _, _, h, _ => by simp at h
  | a :: l, 0, j, d, h, hj => by
    simp at h; subst h
    rw [List.flatMap_cons, Nat.zero_mul, Nat.zero_add, List.getElem?_append_left (by rw [PM.len]; exact hj)]
  | a :: l, i + 1, j, d, h, hj => by
    rw [List.flatMap_cons, List.getElem?_append_right (by rw [PM.len]; omega), PM.len, show (i + 1) * 22 + j - 22 = i * 22 + j from by omega]
    exact pm_at l i j d (by simpa using h) hj
/-- A slice of messages. -/
structure PMArg (w : World) (A : Option Addr) (len cap : Nat) (l : List PM) : Prop where
  len_eq : l.length = len
  le : len ≤ cap
  most : cap ≤ 9223372036854775807
  none_ : A = none → len = 0 ∧ cap = 0
  at_ : 0 < len → ∃ b, A = some ⟨b, 0, none⟩ ∧ ∀ i d, l[i]? = some d → w.rangeAt b (i * 22) d.cells
theorem PMArg.keep {M : Nat → Prop} {w w' : World} {A : Option Addr} {len cap : Nat} {l : List PM} (h : PMArg w A len cap l) (k : Keep M w w') (hA : ∀ q ∈ blkL A, ¬ M q) : PMArg w' A len cap l :=
  ⟨h.len_eq, h.le, h.most, h.none_, fun h0 => by
    obtain ⟨b, rfl, hr⟩ := h.at_ h0
    exact ⟨b, rfl, fun i d hd j v hv => k.cell (hr i d hd j v hv) (hA b (by simp [blkL]))⟩⟩
theorem PMArg.stay {w w' : World} {B : Nat} {S : List Nat} {A : Option Addr} {len cap : Nat} {l : List PM} (h : PMArg w A len cap l) (k : Stay B S w w') (hA : ∀ q ∈ blkL A, q ∈ S) : PMArg w' A len cap l :=
  ⟨h.len_eq, h.le, h.most, h.none_, fun h0 => by
    obtain ⟨b, rfl, hr⟩ := h.at_ h0
    exact ⟨b, rfl, fun i d hd j v hv => k.cell (hr i d hd j v hv) (.inr (hA b (by simp [blkL])))⟩⟩
theorem pm_arg {w : World} {base n : Nat} {v : Value} {l : List PM} (h : w.ownsRow base 53 22 v n (l.flatMap PM.cells)) (hn : n = l.length) : ∃ A c, v = .slice A n c ∧ PMArg w A n c l ∧ ∀ q ∈ blkL A, base ≤ q ∧ q < w.heap.size := by
  have hlt := h.lt
  rcases h.2 with ⟨rfl, hz⟩ | ⟨g, cap, cur, rfl, hb, hg, hl, hm, hs', ht⟩
  · exact ⟨none, 0, by rw [hz], ⟨hn.symm, by omega, by omega, fun _ => ⟨hz, rfl⟩, fun h => by omega⟩, fun q hq => by simp [blkL] at hq⟩
  · refine ⟨_, cap, rfl, ⟨hn.symm, hl, by unfold maxLen at hm; omega, (fun h => by cases h), fun _ => ⟨g, rfl, fun i d hd j v hv => ?_⟩⟩, fun q hq => ?_⟩
    · have hi : i < n := by rw [hn]; exact (List.getElem?_eq_some_iff.1 hd).1
      have hj : j < 22 := (List.getElem?_eq_some_iff.1 hv).1
      rw [cell_of_row w g _ _ _ (0, 0) hg]
      have k : (cur.toList.take (n * 22))[i * 22 + j]? = (l.flatMap PM.cells)[i * 22 + j]? := by rw [ht]
      rw [List.getElem?_take, if_pos (by omega), pm_at l i j _ hd hj, hv] at k
      rw [← Array.getElem?_toList, k]
    · simp [blkL] at hq
      subst hq
      exact hlt q rfl
/-- What a port sends. -/
def stepsF (k : Ck) : Int := if k.fol = k.c.own then 0 else k.fol.steps + 1
def sendX (dom id : Int) (f : DS) (st : Int) (i : Nat) (ann : Int) : PM := ⟨(i : Int) + 1, ⟨11, dom, 0, 0, id, (i : Int) + 1, ann, 0, 0, 0, 0, 0, ⟨0, f.p1, f.cls, f.acc, f.var, f.p2, f.gm, st, 0⟩⟩⟩
def sendM (k : Ck) (i : Nat) (p : Pst) : PM := sendX k.c.domain k.c.id k.fol (stepsF k) i p.ann
def sendTo (k : Ck) : Nat → List PM
  | 0 => []
  | j + 1 => match k.ports[j]? with
    | some p => if p.now = 6 then sendTo k j ++ [sendM k j p] else sendTo k j
    | none => sendTo k j
theorem sendTo_len (k : Ck) : ∀ j, (sendTo k j).length ≤ j
  | 0 => Nat.le_refl _
  | j + 1 => by
    have := sendTo_len k j
    unfold sendTo
    split
    · split
      · simp; omega
      · omega
    · omega
def sendI (i : Nat) (p : Pst) : Pst := if p.now = 6 then { p with ann := (p.ann + 1) % 65536 } else p
def sendL (k : Ck) : List PM := if 32 ≤ stepsF k then [] else sendTo k k.ports.length
def sendK (k : Ck) : Ck := if 32 ≤ stepsF k then k else { k with ports := turnI sendI k.ports k.ports.length }
/-- Since w the call has written ports of the clock, in their own blocks, and what it has made. -/
structure Run0 (w : World) (base kb mb : Nat) (sps : List Nat) (ft : Nat → Nat → Prop) (n : Nat) (u : World) (k' : Ck) : Prop where
  ex : ∃ ft', CkIs u base kb k' mb sps ft' ∧ ∀ i g, ft' i g → ft i g
  keep : Keep (ckFoot kb mb n ft) w u
  num : k'.ports.length = n
theorem Run0.start {w : World} {base kb mb : Nat} {sps : List Nat} {ft : Nat → Nat → Prop} {k : Ck} (h : CkIs w base kb k mb sps ft) : Run0 w base kb mb sps ft k.ports.length w k := ⟨⟨ft, h, fun _ _ h => h⟩, .refl _ _, rfl⟩
theorem Run0.run {w u : World} {base kb mb n : Nat} {sps : List Nat} {ft : Nat → Nat → Prop} {k : Ck} (h : Run0 w base kb mb sps ft n u k) : Run w base kb mb sps ft n u k := by
  obtain ⟨ft', hC, hf⟩ := h.ex
  exact ⟨⟨ft', hC, fun i g hg => .inl (hf i g hg)⟩, h.keep, h.num⟩
theorem Run0.other {M : Nat → Prop} {w u u' : World} {base kb mb n : Nat} {sps : List Nat} {ft : Nat → Nat → Prop} {k k0 : Ck} (h : Run0 w base kb mb sps ft n u k) (h0 : CkIs w base kb k0 mb sps ft) (hn : k0.ports.length = n) (hk : Keep M u u') (hM : ∀ g, M g → w.heap.size ≤ g) : Run0 w base kb mb sps ft n u' k := by
  obtain ⟨ft', hC, hf⟩ := h.ex
  refine ⟨⟨ft', hC.keep hk (fun g hg hm => ?_), hf⟩, h.keep.trans hk (fun g hg => .inr (hM g hg)), h.num⟩
  have h1 : ckFoot kb mb k0.ports.length ft g := by
    rcases hm with e | e | ⟨i, hi, e⟩
    · exact .inl e
    · exact .inr (.inl e)
    · exact .inr (.inr ⟨i, by rw [hn, ← h.num]; exact hi, hf i g e⟩)
  have := (h0.lt g h1).2
  have := hM g hg
  omega
theorem Run0.port {w u : World} {base kb mb n : Nat} {sps : List Nat} {ft : Nat → Nat → Prop} {k k0 : Ck} (h : Run0 w base kb mb sps ft n u k) (h0 : CkIs w base kb k0 mb sps ft) (hn : k0.ports.length = n) {i sp : Nat} {p : Pst} (hp : k.ports[i]? = some p) (hsp : sps[i]? = some sp) :
    ∃ rb xb lv hs, PortIs u base sp p rb xb lv hs ∧ sp < w.heap.size ∧ ∀ (u' : World) (p' : Pst), Touch sp u u' → PortIs u' base sp p' rb xb lv hs → Run0 w base kb mb sps ft n u' { k with ports := k.ports.set i p' } := by
  obtain ⟨ft', hC, hf⟩ := h.ex
  obtain ⟨rb, xb, lv, hs, hP, hfo⟩ := hC.ports i p sp hp hsp
  have hi := (List.getElem?_eq_some_iff.1 hp).1
  have hin : i < n := by rw [← h.num]; exact hi
  have hsf : ft i sp := hf i sp ((hfo sp).2 (.inl rfl))
  refine ⟨rb, xb, lv, hs, hP, (h0.lt sp (.inr (.inr ⟨i, by rw [hn]; exact hin, hsf⟩))).2, fun u' p' ht hP' => ⟨⟨_, hC.turn (M := fun g => g = sp) hi hsp (Keep.touch ht rfl) (fun g hg => (hfo g).2 (.inl hg)) ⟨rb, xb, lv, hs, hP', fun g => Iff.rfl⟩ (fun g hg => .inl ((hfo g).2 hg)), ?_⟩, h.keep.thenTouch ht (.inl (.inr (.inr ⟨i, hin, hsf⟩))), by simpa using h.num⟩⟩
  intro j g hg
  by_cases e : j = i
  · subst e
    simp only [if_pos rfl] at hg
    exact hf j g ((hfo g).2 hg)
  · simp only [if_neg e] at hg
    exact hf j g hg
end Go.Proofs.Ytfbmlpdomfchpaa
