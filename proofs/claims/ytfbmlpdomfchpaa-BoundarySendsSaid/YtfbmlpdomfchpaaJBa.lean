/- Several texts in one: B1, B2, B3. -/
import Derived.WalkKit
import Derived.Lib.Hide
import Derived.Test.YtfbmlpdomfchpaaF17
import Derived.Test.YtfbmlpdomfchpaaE6
import Derived.Test.YtfbmlpdomfchpaaJDb
import Derived.MapKept
import Derived.LoopTactic
import Derived.Outline
import Derived.StillTailTactics
import Derived.Test.YtfbmlpdomfchpaaJPo
/- What a clock of chapter 41 is; how it lies in memory. -/
namespace Go.Proofs.Ytfbmlpdomfchpaa
open Go.RowKit
set_option linter.unusedVariables false
set_option linter.unusedSimpArgs false

/-- What a clock is made with. -/
structure BConf where
  id : Int
  p1 : Int
  cls : Int
  acc : Int
  var : Int
  p2 : Int
  domain : Int
  ports : Int
  window : Int
  need : Int
  timeout : Int
abbrev BConf.v (c : BConf) : Value := .agg #[.int .u64 c.id, .int .i64 c.p1, .int .i64 c.cls, .int .i64 c.acc, .int .i64 c.var, .int .i64 c.p2, .int .i64 c.domain, .int .i64 c.ports, .int .i64 c.window, .int .i64 c.need, .int .i64 c.timeout]
def BConf.cells (c : BConf) : List Value := [.int .u64 c.id, .int .i64 c.p1, .int .i64 c.cls, .int .i64 c.acc, .int .i64 c.var, .int .i64 c.p2, .int .i64 c.domain, .int .i64 c.ports, .int .i64 c.window, .int .i64 c.need, .int .i64 c.timeout]
/-- The clock's own data set. -/
def BConf.own (c : BConf) : DS := ownF ⟨c.p1, c.cls, c.acc, c.var, c.p2⟩ c.id
/-- A port. -/
structure Pst where
  now : Int
  mark : Int
  ann : Int
  req : Int
  recs : Fr
  ex : Ex
abbrev Pst.row (p : Pst) (rb xb : Nat) : Array Value := #[.int .i64 p.now, .int .i64 p.mark, .int .i64 p.ann, .int .i64 p.req, .pointer (some ⟨rb, 0, none⟩), .pointer (some ⟨xb, 0, none⟩)]
/-- A clock. -/
structure Ck where
  c : BConf
  ports : List Pst
  at_ : Int
  fol : DS
abbrev Ck.row (k : Ck) (mb : Nat) : Array Value := #[.int .u64 k.c.id, .int .i64 k.c.p1, .int .i64 k.c.cls, .int .i64 k.c.acc, .int .i64 k.c.var, .int .i64 k.c.p2, .int .i64 k.c.domain, .int .i64 k.c.ports, .int .i64 k.c.window, .int .i64 k.c.need, .int .i64 k.c.timeout, .map (some mb), .int .i64 k.at_,
  .int .i64 k.fol.p1, .int .i64 k.fol.cls, .int .i64 k.fol.acc, .int .i64 k.fol.var, .int .i64 k.fol.p2, .int .u64 k.fol.gm, .int .i64 k.fol.steps, .int .u64 k.fol.sender, .int .i64 k.fol.sport, .int .u64 k.fol.recv, .int .i64 k.fol.rport]
/-- The entries of the map of ports. -/
def mapEs : Nat → List Nat → List MapEntry
  | _, [] => []
  | i, p :: ps => { key := .int .i64 ((i : Int) + 1), val := .pointer (some ⟨p, 0, none⟩), born := i } :: mapEs (i + 1) ps
/-- What the map gives for a number. -/
def ptrAt (ps : List Nat) (n : Int) : Option Addr := if 1 ≤ n then (ps[n.toNat - 1]?).map (fun p => ⟨p, 0, none⟩) else none
structure PortIs (w : World) (base sp : Nat) (p : Pst) (rb xb : Nat) (lv : Value) (hs : List Value) : Prop where
  row : w.heap[sp]? = some (.cells (p.row rb xb) 77 (0, 0))
  recs : FrAt w base rb p.recs lv hs
  ex : ExAt w xb p.ex
  sge : base ≤ sp
  xge : base ≤ xb
  ne : xb ≠ sp
  nsp : ¬ mine rb lv hs sp
  nxb : ¬ mine rb lv hs xb
/-- The blocks of a port. -/
def footOf (sp rb xb : Nat) (lv : Value) (hs : List Value) (g : Nat) : Prop := g = sp ∨ g = xb ∨ mine rb lv hs g
def PortAt (w : World) (base sp : Nat) (p : Pst) (ft : Nat → Prop) : Prop := ∃ rb xb lv hs, PortIs w base sp p rb xb lv hs ∧ ∀ g, ft g ↔ footOf sp rb xb lv hs g
theorem PortIs.cell {w : World} {base sp : Nat} {p : Pst} {rb xb : Nat} {lv : Value} {hs : List Value} (h : PortIs w base sp p rb xb lv hs) (j : Nat) : w.cell? ⟨sp, j, none⟩ = (p.row rb xb)[j]? := cell_of_row w sp j _ _ (0, 0) h.row
theorem PortIs.free {w : World} {base sp : Nat} {p : Pst} {rb xb : Nat} {lv : Value} {hs : List Value} (h : PortIs w base sp p rb xb lv hs) (j : Nat) : w.frozen? ⟨sp, j, none⟩ = false := frozen_of_row w sp j _ _ h.row
theorem PortIs.lt {w : World} {base sp : Nat} {p : Pst} {rb xb : Nat} {lv : Value} {hs : List Value} (h : PortIs w base sp p rb xb lv hs) : ∀ g, footOf sp rb xb lv hs g → base ≤ g ∧ g < w.heap.size := by
  rintro g (rfl | rfl | hg)
  · exact ⟨h.sge, (Array.getElem?_eq_some_iff.1 h.row).1⟩
  · exact ⟨h.xge, h.ex.lt⟩
  · exact h.recs.mine_ge g hg
theorem PortIs.keep {M : Nat → Prop} {w w' : World} {base sp : Nat} {p : Pst} {rb xb : Nat} {lv : Value} {hs : List Value} (h : PortIs w base sp p rb xb lv hs) (k : Keep M w w') (hM : ∀ g, M g → ¬ footOf sp rb xb lv hs g) : PortIs w' base sp p rb xb lv hs :=
  ⟨(k.block sp (Array.getElem?_eq_some_iff.1 h.row).1 (fun hm => hM sp hm (.inl rfl))).trans h.row, h.recs.keep k (fun g hg hm => hM g hg (.inr (.inr hm))), (k.block xb h.ex.lt (fun hm => hM xb hm (.inr (.inl rfl)))).trans h.ex, h.sge, h.xge, h.ne, h.nsp, h.nxb⟩
theorem PortIs.below {w w' : World} {base sp : Nat} {p : Pst} {rb xb : Nat} {lv : Value} {hs : List Value} (h : PortIs w base sp p rb xb lv hs) (k : Below w.heap.size w w') : PortIs w' base sp p rb xb lv hs := h.keep (M := fun _ => False) (.of k) (fun _ h => h.elim)
/-- A port's own cells are written. -/
theorem PortIs.write {w w' : World} {base sp : Nat} {p p' : Pst} {rb xb : Nat} {lv : Value} {hs : List Value} (h : PortIs w base sp p rb xb lv hs) (ht : Touch sp w w') (hr : w'.heap[sp]? = some (.cells (p'.row rb xb) 77 (0, 0))) (e1 : p'.recs = p.recs) (e2 : p'.ex = p.ex) : PortIs w' base sp p' rb xb lv hs :=
  ⟨hr, by rw [e1]; exact h.recs.keep (Keep.touch (M := fun g => g = sp) ht rfl) (fun g hg hm => h.nsp (by rw [← show g = sp from hg]; exact hm)), by rw [e2]; exact h.ex.touch ht h.ne, h.sge, h.xge, h.ne, h.nsp, h.nxb⟩
structure CkIs (w : World) (base kb : Nat) (k : Ck) (mb : Nat) (sps : List Nat) (ft : Nat → Nat → Prop) : Prop where
  head : w.heap[kb]? = some (.cells (k.row mb) 70 (0, 0))
  map : w.heap[mb]? = some (.map (mapEs 0 sps).toArray sps.length)
  len : sps.length = k.ports.length
  ports : ∀ (i : Nat) (p : Pst) (sp : Nat), k.ports[i]? = some p → sps[i]? = some sp → PortAt w base sp p (ft i)
  apart : ∀ (i j : Nat) (g : Nat), i < k.ports.length → j < k.ports.length → i ≠ j → ft i g → ¬ ft j g
  out : ∀ (i : Nat), i < k.ports.length → ¬ ft i kb ∧ ¬ ft i mb
  ne : kb ≠ mb
  kge : base ≤ kb
  mge : base ≤ mb
/-- The blocks of a clock. -/
def ckFoot (kb mb n : Nat) (ft : Nat → Nat → Prop) (g : Nat) : Prop := g = kb ∨ g = mb ∨ ∃ i, i < n ∧ ft i g
theorem CkIs.cell {w : World} {base kb : Nat} {k : Ck} {mb : Nat} {sps : List Nat} {ft : Nat → Nat → Prop} (h : CkIs w base kb k mb sps ft) (j : Nat) : w.cell? ⟨kb, j, none⟩ = (k.row mb)[j]? := cell_of_row w kb j _ _ (0, 0) h.head
theorem CkIs.free {w : World} {base kb : Nat} {k : Ck} {mb : Nat} {sps : List Nat} {ft : Nat → Nat → Prop} (h : CkIs w base kb k mb sps ft) (j : Nat) : w.frozen? ⟨kb, j, none⟩ = false := frozen_of_row w kb j _ _ h.head
theorem CkIs.port {w : World} {base kb : Nat} {k : Ck} {mb : Nat} {sps : List Nat} {ft : Nat → Nat → Prop} (h : CkIs w base kb k mb sps ft) {i : Nat} (hi : i < k.ports.length) : ∃ p sp, k.ports[i]? = some p ∧ sps[i]? = some sp ∧ PortAt w base sp p (ft i) :=
  ⟨_, _, List.getElem?_eq_getElem hi, List.getElem?_eq_getElem (by rw [h.len]; exact hi), h.ports i _ _ (List.getElem?_eq_getElem hi) (List.getElem?_eq_getElem (by rw [h.len]; exact hi))⟩
theorem PortAt.lt {w : World} {base sp : Nat} {p : Pst} {ft : Nat → Prop} (h : PortAt w base sp p ft) (g : Nat) (hg : ft g) : base ≤ g ∧ g < w.heap.size := by
  obtain ⟨rb, xb, lv, hs, hP, hf⟩ := h
  exact hP.lt g ((hf g).1 hg)
theorem CkIs.lt {w : World} {base kb : Nat} {k : Ck} {mb : Nat} {sps : List Nat} {ft : Nat → Nat → Prop} (h : CkIs w base kb k mb sps ft) (g : Nat) (hg : ckFoot kb mb k.ports.length ft g) : base ≤ g ∧ g < w.heap.size := by
  rcases hg with rfl | rfl | ⟨i, hi, hg⟩
  · exact ⟨h.kge, (Array.getElem?_eq_some_iff.1 h.head).1⟩
  · exact ⟨h.mge, (Array.getElem?_eq_some_iff.1 h.map).1⟩
  · obtain ⟨p, sp, _, _, hP⟩ := h.port hi
    exact hP.lt g hg
theorem PortAt.keep {M : Nat → Prop} {w w' : World} {base sp : Nat} {p : Pst} {ft : Nat → Prop} (h : PortAt w base sp p ft) (k : Keep M w w') (hM : ∀ g, M g → ¬ ft g) : PortAt w' base sp p ft := by
  obtain ⟨rb, xb, lv, hs, hP, hf⟩ := h
  exact ⟨rb, xb, lv, hs, hP.keep k (fun g hg hm => hM g hg ((hf g).2 hm)), hf⟩
theorem CkIs.keep {M : Nat → Prop} {w w' : World} {base kb : Nat} {k : Ck} {mb : Nat} {sps : List Nat} {ft : Nat → Nat → Prop} (h : CkIs w base kb k mb sps ft) (hk : Keep M w w') (hM : ∀ g, M g → ¬ ckFoot kb mb k.ports.length ft g) : CkIs w' base kb k mb sps ft :=
  ⟨(hk.block kb (h.lt kb (.inl rfl)).2 (fun hm => hM kb hm (.inl rfl))).trans h.head, (hk.block mb (h.lt mb (.inr (.inl rfl))).2 (fun hm => hM mb hm (.inr (.inl rfl)))).trans h.map, h.len,
    fun i p sp h1 h2 => (h.ports i p sp h1 h2).keep hk (fun g hg hm => hM g hg (.inr (.inr ⟨i, (List.getElem?_eq_some_iff.1 h1).1, hm⟩))), h.apart, h.out, h.ne, h.kge, h.mge⟩
theorem CkIs.below {w w' : World} {base kb : Nat} {k : Ck} {mb : Nat} {sps : List Nat} {ft : Nat → Nat → Prop} (h : CkIs w base kb k mb sps ft) (hk : Below w.heap.size w w') : CkIs w' base kb k mb sps ft := h.keep (M := fun _ => False) (.of hk) (fun _ h => h.elim)
/-- The clock's own cells are written. -/
theorem CkIs.write {w w' : World} {base kb : Nat} {k k' : Ck} {mb : Nat} {sps : List Nat} {ft : Nat → Nat → Prop} (h : CkIs w base kb k mb sps ft) (ht : Touch kb w w') (hr : w'.heap[kb]? = some (.cells (k'.row mb) 70 (0, 0))) (e : k'.ports = k.ports) : CkIs w' base kb k' mb sps ft := by
  have hk : Keep (fun g => g = kb) w w' := Keep.touch ht rfl
  refine ⟨hr, (ht.block mb (h.lt mb (.inr (.inl rfl))).2 (fun e => h.ne e.symm)).trans h.map, by rw [e]; exact h.len, ?_, by rw [e]; exact h.apart, by rw [e]; exact h.out, h.ne, h.kge, h.mge⟩
  intro i p sp h1 h2
  rw [e] at h1
  exact (h.ports i p sp h1 h2).keep hk (fun g hg hm => (h.out i (List.getElem?_eq_some_iff.1 h1).1).1 (by rw [← show g = kb from hg]; exact hm))
/-- A port of the clock has changed. -/
theorem CkIs.turn {M : Nat → Prop} {w w' : World} {base kb : Nat} {k : Ck} {mb : Nat} {sps : List Nat} {ft : Nat → Nat → Prop} (h : CkIs w base kb k mb sps ft) {i sp : Nat} {p' : Pst} {f' : Nat → Prop} (hi : i < k.ports.length) (hsp : sps[i]? = some sp) (hk : Keep M w w') (hM : ∀ g, M g → ft i g)
    (hP : PortAt w' base sp p' f') (hf : ∀ g, f' g → ft i g ∨ w.heap.size ≤ g) : CkIs w' base kb { k with ports := k.ports.set i p' } mb sps (fun j => if j = i then f' else ft j) := by
  have hlt : ∀ j g, j < k.ports.length → ft j g → g < w.heap.size := fun j g hj hg => (h.lt g (.inr (.inr ⟨j, hj, hg⟩))).2
  refine ⟨(hk.block kb (h.lt kb (.inl rfl)).2 (fun hm => (h.out i hi).1 (hM kb hm))).trans h.head, (hk.block mb (h.lt mb (.inr (.inl rfl))).2 (fun hm => (h.out i hi).2 (hM mb hm))).trans h.map, by simpa using h.len, ?_, ?_, ?_, h.ne, h.kge, h.mge⟩
  · intro j q sq h1 h2
    have h1 : (k.ports.set i p')[j]? = some q := h1
    by_cases e : j = i
    · subst e
      rw [List.getElem?_set_self hi] at h1
      injection h1 with h1
      subst h1
      rw [hsp] at h2
      injection h2 with h2
      subst h2
      simpa using hP
    · rw [List.getElem?_set_ne (fun h => e h.symm)] at h1
      simp only [if_neg e]
      exact (h.ports j q sq h1 h2).keep hk (fun g hg hm => h.apart i j g hi (List.getElem?_eq_some_iff.1 h1).1 (fun h => e h.symm) (hM g hg) hm)
  · intro a b g ha hb hab h1 h2
    have hal : a < k.ports.length := by simpa using ha
    have hbl : b < k.ports.length := by simpa using hb
    clear ha hb
    by_cases ea : a = i
    · subst ea
      simp only [if_pos rfl, if_neg (fun h : b = a => hab h.symm)] at h1 h2
      rcases hf g h1 with h3 | h3
      · exact h.apart a b g hal hbl hab h3 h2
      · have := hlt b g hbl h2; omega
    · simp only [if_neg ea] at h1
      by_cases eb : b = i
      · subst eb
        simp only [if_pos rfl] at h2
        rcases hf g h2 with h3 | h3
        · exact h.apart a b g hal hbl hab h1 h3
        · have := hlt a g hal h1; omega
      · simp only [if_neg eb] at h2
        exact h.apart a b g hal hbl hab h1 h2
  · intro j hj0
    have hj : j < k.ports.length := by simpa using hj0
    clear hj0
    by_cases e : j = i
    · subst e
      simp only [if_pos rfl]
      constructor
      · intro h1
        rcases hf _ h1 with h3 | h3
        · exact (h.out j hj).1 h3
        · have := (h.lt kb (.inl rfl)).2; omega
      · intro h1
        rcases hf _ h1 with h3 | h3
        · exact (h.out j hj).2 h3
        · have := (h.lt mb (.inr (.inl rfl))).2; omega
    · simp only [if_neg e]
      exact h.out j hj
/-- The clock lies at kb, all its blocks from base on, and none of the blocks of S is its own. -/
def CkE (w : World) (base kb : Nat) (S : List Nat) (k : Ck) : Prop := ∃ mb sps ft, CkIs w base kb k mb sps ft ∧ ∀ q ∈ S, q < w.heap.size ∧ ¬ ckFoot kb mb k.ports.length ft q
theorem CkE.below {w w' : World} {base kb : Nat} {S : List Nat} {k : Ck} (h : CkE w base kb S k) (hk : Below w.heap.size w w') : CkE w' base kb S k := by
  obtain ⟨mb, sps, ft, hC, hS⟩ := h
  exact ⟨mb, sps, ft, hC.below hk, fun q hq => ⟨Nat.lt_of_lt_of_le (hS q hq).1 hk.size, (hS q hq).2⟩⟩
theorem CkE.base_lt {w : World} {base kb : Nat} {S : List Nat} {k : Ck} (h : CkE w base kb S k) : base ≤ kb ∧ kb < w.heap.size := by
  obtain ⟨mb, sps, ft, hC, hS⟩ := h
  exact hC.lt kb (.inl rfl)
theorem CkE.stay {w w' : World} {base kb : Nat} {S : List Nat} {k : Ck} (h : CkE w base kb S k) (hk : Below w.heap.size w w') : Stay base S w w' := by
  have := h.base_lt
  obtain ⟨mb, sps, ft, hC, hS⟩ := h
  exact ⟨hk.mono (by omega), fun q hq => hk.block q (hS q hq).1⟩
theorem CkE.add {w w' : World} {base kb : Nat} {S : List Nat} {k : Ck} (h : CkE w base kb S k) (hk : Below w.heap.size w w') {g : Nat} (h1 : w.heap.size ≤ g) (h2 : g < w'.heap.size) : CkE w' base kb (g :: S) k := by
  obtain ⟨mb, sps, ft, hC, hS⟩ := h
  refine ⟨mb, sps, ft, hC.below hk, fun q hq => ?_⟩
  rcases List.mem_cons.1 hq with rfl | hq
  · exact ⟨h2, fun hm => by have := (hC.lt q hm).2; omega⟩
  · exact ⟨Nat.lt_of_lt_of_le (hS q hq).1 hk.size, (hS q hq).2⟩
/-- What a call on the clock leaves: it has written the clock's own blocks alone. -/
theorem CkE.step {M : Nat → Prop} {w w' : World} {base kb : Nat} {S : List Nat} {k k' : Ck} {mb : Nat} {sps sps' : List Nat} {ft ft' : Nat → Nat → Prop} (hC : CkIs w base kb k mb sps ft) (hS : ∀ q ∈ S, q < w.heap.size ∧ ¬ ckFoot kb mb k.ports.length ft q) (hk : Keep M w w') (hM : ∀ g, M g → ckFoot kb mb k.ports.length ft g) (hC' : CkIs w' base kb k' mb sps' ft') (hf : ∀ g, ckFoot kb mb k'.ports.length ft' g → ckFoot kb mb k.ports.length ft g ∨ w.heap.size ≤ g) : CkE w' base kb S k' ∧ Stay base S w w' := by
  have hb := hC.lt kb (.inl rfl)
  refine ⟨⟨mb, sps', ft', hC', fun q hq => ⟨Nat.lt_of_lt_of_le (hS q hq).1 hk.size, fun hm => ?_⟩⟩, Keep.below (Below.refl _ _) hk (fun g hg => (hC.lt g (hM g hg)).1) (by omega), fun q hq => hk.block q (hS q hq).1 (fun hm => (hS q hq).2 (hM q hm))⟩
  rcases hf q hm with h | h
  · exact (hS q hq).2 h
  · have := (hS q hq).1; omega
end Go.Proofs.Ytfbmlpdomfchpaa
/- The map of a clock's ports. -/
namespace Go.Proofs.Ytfbmlpdomfchpaa
open Go.RowKit Go.MapKept
set_option linter.unusedVariables false
set_option linter.unusedSimpArgs false

theorem find_es : ∀ (ps : List Nat) (i j : Nat) (n : Int), Instr.findNow (.int .i64) (.int .i64 n) (mapEs i ps) j = some (if (i : Int) + 1 ≤ n then (ps[(n - i - 1).toNat]?).map (fun p => (j + (n - i - 1).toNat, Value.pointer (some ⟨p, 0, none⟩))) else none)
  | [], i, j, n => by
    simp [mapEs, Instr.findNow]
  | p :: ps, i, j, n => by
    have ih := find_es ps (i + 1) (j + 1) n
    by_cases e : n = (i : Int) + 1
    · subst e
      have h0 : ((i : Int) + 1 - i - 1).toNat = 0 := by omega
      simp [mapEs, Instr.findNow, Instr.sameNow, h0]
    · have hb : (n == (i : Int) + 1) = false := by simpa using e
      simp only [mapEs, Instr.findNow, Instr.sameNow, if_pos, hb]
      rw [ih]
      by_cases h : (i : Int) + 1 ≤ n
      · obtain ⟨m, hm⟩ : ∃ m, (n - i - 1).toNat = m + 1 := ⟨(n - i - 1).toNat - 1, by omega⟩
        have h2 : (n - ((i + 1 : Nat) : Int) - 1).toNat = m := by omega
        rw [if_pos h, if_pos (by omega), hm, h2, List.getElem?_cons_succ, show j + 1 + m = j + (m + 1) from by omega]
      · rw [if_neg h, if_neg (by omega)]
theorem isKey_int (n : Int) : IsKey (.int .i64) (.int .i64 n) := by simp [IsKey]
theorem zeroPtr (w : World) : (zeroValue 71).run Try.prog w = .ok (.pointer none) w := by kernel_rfl
theorem ptr_at_eq (ps : List Nat) (n : Int) : ptrAt ps n = if (0 : Int) + 1 ≤ n then (ps[(n - 0 - 1).toNat]?).map (fun p => ⟨p, 0, none⟩) else none := by
  unfold ptrAt
  by_cases h : 1 ≤ n
  · rw [if_pos h, if_pos (by omega), show n.toNat - 1 = (n - 0 - 1).toNat from by omega]
  · rw [if_neg h, if_neg (by omega)]
/-- m[n]. -/
theorem look_run {w : World} {mb : Nat} {ps : List Nat} (hm : w.heap[mb]? = some (.map (mapEs 0 ps).toArray ps.length)) (n : Int) : (Instr.lookup 68 (.map (some mb)) (.int .i64 n) false).run Try.prog w = .ok (.pointer (ptrAt ps n)) w := by
  have hf := find_es ps 0 0 n
  have hk : ∀ l : List MapEntry, l = mapEs 0 ps → (Instr.findKey 3 (.int .i64 n) l).run Try.prog w = .ok (if ((0 : Nat) : Int) + 1 ≤ n then (ps[(n - ((0 : Nat) : Int) - 1).toNat]?).map (fun p => (0 + (n - ((0 : Nat) : Int) - 1).toNat, Value.pointer (some ⟨p, 0, none⟩))) else none) w := fun l hl => run_findKey (d := .int .i64) Try.underlying3 (by rw [hl]; exact hf)
  unfold Instr.lookup
  simp only [Sem.run_bind, run_underlying Try.underlying68, MapKept.run_getObj_map hm, Result.andThen, Sem.run_pure]
  rw [MapKept.run_checkKey (d := .int .i64) (n := 9999) Try.underlying3 (isKey_int n)]
  simp only [Result.andThen]
  rw [hk _ (by simp)]
  rw [ptr_at_eq]
  by_cases h : (0 : Int) + 1 ≤ n
  · rw [if_pos h, if_pos (by simpa using h)]
    cases hp : ps[(n - 0 - 1).toNat]? with
    | none =>
      simp at hp
      simp [hp, zeroPtr, Result.andThen]
    | some p =>
      simp at hp
      simp [hp, Result.andThen]
  · rw [if_neg h, if_neg (by simpa using h)]
    simp [zeroPtr, Result.andThen]
theorem es_snoc : ∀ (ps : List Nat) (i p : Nat), mapEs i (ps ++ [p]) = mapEs i ps ++ [{ key := .int .i64 (((i + ps.length : Nat) : Int) + 1), val := .pointer (some ⟨p, 0, none⟩), born := i + ps.length }]
  | [], i, p => by simp [mapEs]
  | q :: ps, i, p => by
    rw [List.cons_append, mapEs, es_snoc ps (i + 1) p, mapEs, List.cons_append, List.length_cons]
    simp only [show i + 1 + ps.length = i + (ps.length + 1) from by omega]
/-- m[n] = p, at the next number. -/
theorem upd_run {w : World} {mb : Nat} {ps : List Nat} (hm : w.heap[mb]? = some (.map (mapEs 0 ps).toArray ps.length)) (p : Nat) (n : Int) (hn : n = (ps.length : Int) + 1) :
    ∃ w', (Instr.mapUpdate 68 (.map (some mb)) (.int .i64 n) (.pointer (some ⟨p, 0, none⟩))).run Try.prog w = .ok () w' ∧ w'.heap[mb]? = some (.map (mapEs 0 (ps ++ [p])).toArray (ps ++ [p]).length) ∧ Touch mb w w' := by
  subst hn
  have hf := find_es ps 0 0 ((ps.length : Int) + 1)
  have hnone : (if ((0 : Nat) : Int) + 1 ≤ (ps.length : Int) + 1 then (ps[((ps.length : Int) + 1 - ((0 : Nat) : Int) - 1).toNat]?).map (fun p => (0 + ((ps.length : Int) + 1 - ((0 : Nat) : Int) - 1).toNat, Value.pointer (some ⟨p, 0, none⟩))) else none) = none := by
    rw [List.getElem?_eq_none (by omega)]
    simp
  rw [hnone] at hf
  have hk : ∀ l : List MapEntry, l = mapEs 0 ps → (Instr.findKey 3 (.int .i64 ((ps.length : Int) + 1)) l).run Try.prog w = .ok none w := fun l hl => run_findKey (d := .int .i64) Try.underlying3 (by rw [hl]; exact hf)
  refine ⟨{ w with heap := w.heap.setIfInBounds mb (.map ((mapEs 0 ps).toArray.push { key := .int .i64 ((ps.length : Int) + 1), val := .pointer (some ⟨p, 0, none⟩), born := ps.length }) (ps.length + 1)) }, ?_, (MapKept.heap_set hm).1.trans ?_, ⟨rfl, rfl, rfl, by simp, fun k hk hb => (MapKept.heap_set hm).2 k hb⟩⟩
  · unfold Instr.mapUpdate
    simp only [Sem.run_bind, run_underlying Try.underlying68, MapKept.run_getObj_map hm, Result.andThen, Sem.run_pure]
    rw [MapKept.run_checkKey (d := .int .i64) (n := 9999) Try.underlying3 (isKey_int _)]
    simp only [Result.andThen]
    rw [hk _ (by simp)]
    simp only [Result.andThen]
    rw [MapKept.run_setObj_map _ hm]
  · rw [es_snoc]
    simp
end Go.Proofs.Ytfbmlpdomfchpaa
/- The small methods of a clock: when, State, Parent, own; a port's event. -/
namespace Go.Proofs.Ytfbmlpdomfchpaa
open Go.RowKit
set_option linter.unusedVariables false
set_option linter.unusedSimpArgs false

def whenF (k : Ck) (t : Int) : Int := if t < 0 ∨ 1125899906842624 < t then 3 else if t < k.at_ then 12 else 0
theorem when_any {w : World} {base kb : Nat} {S : List Nat} {k : Ck} (h : CkE w base kb S k) (t : Int) : Calls Try.prog 36 #[.pointer (some ⟨kb, 0, none⟩), .int .i64 t] w fun e w' => e = .returned (.int .i64 (whenF k t)) ∧ w = w' := by
  obtain ⟨mb, sps, ft, hC, _⟩ := h
  have c12 : w.cell? ⟨kb, 12, none⟩ = some (.int .i64 k.at_) := hC.cell 12
  obtain ⟨r, hr⟩ : ∃ r, whenF k t = r := ⟨_, rfl⟩
  rw [hr]
  have HR := Lib.hid hr
  clear hr hC
  by_cases g0 : t < 0
  · have e : r = 3 := by rw [← HR.out]; simp [whenF, g0]
    subst e
    have d0 : decide (t < 0) = true := by simpa using g0
    go_enter Try.func36, Try.ntmps36
    go_wp2_with fail
    go_ret
    exact ⟨rfl, rfl⟩
  have d0 : decide (t < 0) = false := by simpa using g0
  by_cases g1 : 1125899906842624 < t
  · have e : r = 3 := by rw [← HR.out]; simp [whenF, g1]
    subst e
    have d1 : decide (1125899906842624 < t) = true := by simpa using g1
    go_enter Try.func36, Try.ntmps36
    go_wp2_with fail
    go_ret
    exact ⟨rfl, rfl⟩
  have d1 : decide (1125899906842624 < t) = false := by simpa using g1
  by_cases g2 : t < k.at_
  · have e : r = 12 := by rw [← HR.out]; simp [whenF, g0, g1, g2]
    subst e
    have d2 : decide (t < k.at_) = true := by simpa using g2
    go_enter Try.func36, Try.ntmps36
    go_wp2_with fail
    go_ret
    exact ⟨rfl, rfl⟩
  · have e : r = 0 := by rw [← HR.out]; simp [whenF, g0, g1, g2]
    subst e
    have d2 : decide (t < k.at_) = false := by simpa using g2
    go_enter Try.func36, Try.ntmps36
    go_wp2_with fail
    go_ret
    exact ⟨rfl, rfl⟩
def stateF (k : Ck) (n : Int) : Int := if 1 ≤ n then (match k.ports[n.toNat - 1]? with | some p => p.now | none => 0) else 0
theorem state_nil (n : Int) (w : World) : Calls Try.prog 12 #[.pointer none, .int .i64 n] w fun e w' => e = .returned (.int .i64 0) ∧ w = w' := by
  go_enter Try.func12, Try.ntmps12
  go_wp2_with fail
  go_ret
  exact ⟨rfl, rfl⟩
theorem state_any {w : World} {base kb : Nat} {S : List Nat} {k : Ck} (h : CkE w base kb S k) (n : Int) : Calls Try.prog 12 #[.pointer (some ⟨kb, 0, none⟩), .int .i64 n] w fun e w' => e = .returned (.int .i64 (stateF k n)) ∧ w = w' := by
  obtain ⟨mb, sps, ft, hC, _⟩ := h
  have c11 : w.cell? ⟨kb, 11, none⟩ = some (.map (some mb)) := hC.cell 11
  have hl := look_run hC.map n
  obtain ⟨r, hr⟩ : ∃ r, stateF k n = r := ⟨_, rfl⟩
  rw [hr]
  have HR := Lib.hid hr
  clear hr
  by_cases hn : 1 ≤ n ∧ n.toNat - 1 < k.ports.length
  · obtain ⟨p, sp, h1, h2, rb, xb, lv, hs, hP, _⟩ := hC.port hn.2
    have e : ptrAt sps n = some ⟨sp, 0, none⟩ := by rw [ptrAt, if_pos hn.1, h2]; rfl
    rw [e] at hl
    have x0 : w.cell? ⟨sp, 0, none⟩ = some (.int .i64 p.now) := hP.cell 0
    have er : r = p.now := by rw [← HR.out, stateF, if_pos hn.1, h1]
    subst er
    clear hC hP h1 h2 hn e
    go_enter Try.func12, Try.ntmps12
    go_wp2_with fail
    go_ret
    exact ⟨rfl, rfl⟩
  · have e : ptrAt sps n = none := by
      unfold ptrAt
      by_cases h1 : 1 ≤ n
      · rw [if_pos h1, List.getElem?_eq_none (by rw [hC.len]; omega)]; rfl
      · rw [if_neg h1]
    rw [e] at hl
    have er : r = 0 := by
      rw [← HR.out, stateF]
      by_cases h1 : 1 ≤ n
      · rw [if_pos h1, List.getElem?_eq_none (by omega)]
      · rw [if_neg h1]
    subst er
    clear hC hn e
    go_enter Try.func12, Try.ntmps12
    go_wp2_with fail
    go_ret
    exact ⟨rfl, rfl⟩
theorem event_any {w : World} {base sp : Nat} {p : Pst} {rb xb : Nat} {lv : Value} {hs : List Value} (h : PortIs w base sp p rb xb lv hs) {e : Int} (same : Bool) (hs1 : 1 ≤ p.now) (hs9 : p.now ≤ 9) (he : (1 ≤ e ∧ e ≤ 10) ∨ (20 ≤ e ∧ e ≤ 26)) :
    Calls Try.prog 27 #[.pointer (some ⟨sp, 0, none⟩), .int .i64 e, .bool same] w fun ex w' => ex = .returned (.tuple #[]) ∧ PortIs w' base sp { p with now := nextF p.now e same } rb xb lv hs ∧ Touch sp w w' := by
  have x0 : w.cell? ⟨sp, 0, none⟩ = some (.int .i64 p.now) := h.cell 0
  have HN := Lib.hid (next_any same hs1 hs9 he w)
  have HP := Lib.hid h
  clear h hs1 hs9 he
  go_enter Try.func27, Try.ntmps27
  go_wp2_with fail
  refine HN.out.mono ?_
  rintro ex w1 ⟨rfl, hb⟩
  have hP1 := HP.out.below hb
  have y0 : w1.cell? ⟨sp, 0, none⟩ = some (.int .i64 p.now) := hP1.cell 0
  have f0 := hP1.free 0
  obtain ⟨r, hr⟩ : ∃ r, nextF p.now e same = r := ⟨_, rfl⟩
  rw [hr]
  have HP1 := Lib.hid hP1
  have HB := Lib.hid hb
  have HR := Lib.hid hr
  clear hP1 hb hr x0 HN
  go_wp2_with fail
  go_end0
  have ht : Touch sp w1 (w1.setCell ⟨sp, 0, none⟩ (.int .i64 r)) := (Touch.refl sp w1).set 0 _
  refine ⟨rfl, HP1.out.write ht (by rw [heap_set HP1.out.row, HR.out]; rfl) rfl rfl, (Touch.of HB.out).trans ht⟩
end Go.Proofs.Ytfbmlpdomfchpaa
