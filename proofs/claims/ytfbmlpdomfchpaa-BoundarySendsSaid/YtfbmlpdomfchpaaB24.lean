/- Messages of ports: how they are loaded, stored and compared; loads of whole structs in a region that draws its order. -/
import Derived.WalkKit
import Derived.LoopTactic
import Derived.Outline
import Derived.Lib.Hide
import Derived.Deep.QuietTactic
import Derived.BigQuiet
import Derived.Test.YtfbmlpdomfchpaaB23
namespace Go.Proofs.Ytfbmlpdomfchpaa
open Go.RowKit
set_option linter.unusedVariables false
set_option linter.unusedSimpArgs false

theorem quiet_load_mid {P : Program} {ops : Array Oper} {rest : List Oper} {op : Oper} {a : Act} {C : World → Prop} {Q : Act → Prop} (hw : Region.wanted op (yielded ops a.tmps) = true) (ty : TypeId) (x : Operand) (ho : op.op = .load ty x)
    (b o : Nat) (hx : a.eval x = .pointer (some ⟨b, o, none⟩)) (cs : List Value) (d : TypeDesc) (hc : ∀ w, C w → w.rangeAt b o cs) (hu : P.underlying ty = some d) (hd : d.isRow = true) (hi : (P.info? ty).map (·.size) = some cs.length)
    (k : wpQuiet P ops C Q rest (a.put op.dst (.agg cs.toArray))) : wpQuiet P ops C Q (op :: rest) a := wpQuiet_step fun K hK => by
  rw [if_pos hw]
  refine ⟨_, fun w hCw => ?_, hK _ k⟩
  unfold Oper.quietAt execOp
  simp only [ho, hx, Instr.loadAt, Instr.sureAddr, Sem.run_bind, Sem.run_pure, Result.andThen_ok, run_loadVar_mid w b o ty cs d (hc w hCw) hu hd hi]
  exact ⟨rfl, rfl⟩
theorem Aft.range {w : World} {b o : Nat} {cs : List Value} (h : w.rangeAt b o cs) : ∀ w', (∃ u : Aft w, w' = u.now) → w'.rangeAt b o cs := by
  rintro _ ⟨u, rfl⟩
  exact rangeAt_below h u.below
theorem infoPM22 : (Try.prog.info? 53).map (·.size) = some 22 := by kernel_rfl
theorem PM.all (m : PM) : m.cells.toArray.all (·.oneCell') = true := by simp [PM.cells, Ptp.cells, Value.oneCell']
theorem load_pm {ops : Array Oper} {rest : List Oper} {op : Oper} {a : Act} {w : World} {Q : Exit → Act → World → Prop} {g f : Nat} {m : PM} (h : w.rangeAt g f m.cells) (x : Operand) (hw : Region.wanted op (yielded ops a.tmps) = true)
    (ho : op.op = .load 53 x) (hx : a.eval x = .pointer (some ⟨g, f, none⟩)) (k : wpList Try.prog ops Q rest (a.put op.dst m.v) w) : wpList Try.prog ops Q (op :: rest) a w :=
  BigFrame.wpList_want hw fun K hK => wp_load_mid _ x ho g f hx m.cells _ h Try.underlying53 rfl infoPM22 (hK _ _ k)
/-- A message of a port in a block of its own. -/
def PMBlk (w : World) (g : Nat) (m : PM) : Prop := w.heap[g]? = some (.cells m.cells.toArray 53 (0, 0))
theorem PMBlk.range {w : World} {g : Nat} {m : PM} (h : PMBlk w g m) : w.rangeAt g 0 m.cells := fun j v hv => by
  rw [Nat.zero_add, cell_of_row w g j _ _ (0, 0) h, ← hv]
  simp
theorem PMBlk.lt {w : World} {g : Nat} {m : PM} (h : PMBlk w g m) : g < w.heap.size := (Array.getElem?_eq_some_iff.1 h).1
theorem PMBlk.below {w w' : World} {g : Nat} {m : PM} (h : PMBlk w g m) (k : Below w.heap.size w w') : PMBlk w' g m := (k.block g h.lt).trans h
theorem PM.msg_range {w : World} {g f : Nat} {m : PM} (h : w.rangeAt g f m.cells) : w.rangeAt g (f + 1) m.msg.cells := fun j v hv => by
  have e : m.cells[1 + j]? = m.msg.cells[j]? := by
    have : m.cells.drop 1 = m.msg.cells := rfl
    have k : (m.cells.drop 1)[j]? = m.msg.cells[j]? := by rw [this]
    rw [List.getElem?_drop] at k
    exact k
  rw [Nat.add_assoc]
  exact h (1 + j) v (by rw [e]; exact hv)
theorem store_pm_new {ops : Array Oper} {rest : List Oper} {op : Oper} {a : Act} {w : World} {Q : Exit → Act → World → Prop} {c : Array Value} {m : PM} {g : Nat} (hg : g = w.heap.size) (hc : c.size = 22) (x y : Operand) (hw : Region.wanted op (yielded ops a.tmps) = true)
    (ho : op.op = .store 53 x y) (hx : a.eval x = .pointer (some ⟨g, 0, none⟩)) (hy : a.eval y = m.v) (k : ∀ w', Hid (PMBlk w' g m ∧ Below w.heap.size w w') → wpList Try.prog ops Q rest (a.put op.dst undef) w') :
    wpList Try.prog ops Q (op :: rest) a (w.alloc (.cells c 53)) :=
  BigFrame.wpList_want hw fun K hK => by
    subst hg
    have hv : m.v = .agg m.cells.toArray := rfl
    have hs := run_storeVar_new (P := Try.prog) w 53 c m.cells.toArray infoPM22 (by rw [hc]; rfl) m.all
    unfold Oper.wp execOp
    simp only [ho, hx, hy, hv, Instr.storeAt, Instr.sureAddr, Sem.run_bind, Sem.run_pure, Result.andThen_ok, hs]
    exact hK _ _ (k _ ⟨heap_alloc_new w _, (Below.refl _ _).alloc (Nat.le_refl _) _⟩)
section
variable {P : Program} {d : Nat} {xs ys : Array Value} {f : Field} {fs : List Field} {a b : Value} {w : World}
theorem eqf_yes1 (hn : (f.name == "_") = false) (ha : (part f.type xs f.offset).run P w = .ok a w) (hb : (part f.type ys f.offset).run P w = .ok b w) (he : (Op.equalIn d f.type a b).run P w = .ok true w) : (Op.eqFields d xs ys [f]).run P w = .ok true w := eqf_one hn ha hb he
theorem eqf_yes (hn : (f.name == "_") = false) (ha : (part f.type xs f.offset).run P w = .ok a w) (hb : (part f.type ys f.offset).run P w = .ok b w) (he : (Op.equalIn d f.type a b).run P w = .ok true w) (hr : (Op.eqFields d xs ys fs).run P w = .ok true w) : (Op.eqFields d xs ys (f :: fs)).run P w = .ok true w := by
  have := eqf_more hn ha hb he hr
  simpa using this
end
theorem eqIn_stamp (d : Nat) (w : World) (s n : Int) : (Op.equalIn (d + 2) 38 (stampV s n) (stampV s n)).run Try.prog w = .ok true w := by
  refine eq_struct Try.underlying38 (by kernel_rfl) ?_
  refine eqf_yes (by rfl) (by go_simp; rfl) (by go_simp; rfl) (by go_simp) ?_
  exact eqf_yes1 (by rfl) (by go_simp; rfl) (by go_simp; rfl) (by go_simp)
theorem eqIn_ann_self (d : Nat) (w : World) (a : Ann) : (Op.equalIn (d + 2) 40 a.v a.v).run Try.prog w = .ok true w := by
  have := eqIn_ann d w a a
  simpa using this
set_option maxHeartbeats 4000000 in
theorem eqIn_ptp (d : Nat) (w : World) (p : Ptp) : (Op.equalIn (d + 3) 42 p.v p.v).run Try.prog w = .ok true w := by
  refine eq_struct Try.underlying42 (by kernel_rfl) ?_
  refine eqf_yes (by rfl) (by go_simp; rfl) (by go_simp; rfl) (by go_simp) ?_
  refine eqf_yes (by rfl) (by go_simp; rfl) (by go_simp; rfl) (by go_simp) ?_
  refine eqf_yes (by rfl) (by go_simp; rfl) (by go_simp; rfl) (by go_simp) ?_
  refine eqf_yes (by rfl) (by go_simp; rfl) (by go_simp; rfl) (by go_simp) ?_
  refine eqf_yes (by rfl) (by go_simp; rfl) (by go_simp; rfl) (by go_simp) ?_
  refine eqf_yes (by rfl) (by go_simp; rfl) (by go_simp; rfl) (by go_simp) ?_
  refine eqf_yes (by rfl) (by go_simp; rfl) (by go_simp; rfl) (by go_simp) ?_
  refine eqf_yes (by rfl) (by go_simp; rfl) (by go_simp; rfl) (by go_simp) ?_
  refine eqf_yes (a := stampV p.sec p.nano) (b := stampV p.sec p.nano) (by rfl) (by kernel_rfl) (by kernel_rfl) (eqIn_stamp d w p.sec p.nano) ?_
  refine eqf_yes (by rfl) (by go_simp; rfl) (by go_simp; rfl) (by go_simp) ?_
  refine eqf_yes (by rfl) (by go_simp; rfl) (by go_simp; rfl) (by go_simp) ?_
  exact eqf_yes1 (a := p.ann.v) (b := p.ann.v) (by rfl) (by kernel_rfl) (by kernel_rfl) (eqIn_ann_self d w p.ann)
theorem eqIn_pm (d : Nat) (w : World) (m : PM) : (Op.equalIn (d + 4) 53 m.v m.v).run Try.prog w = .ok true w := by
  refine eq_struct Try.underlying53 (by kernel_rfl) ?_
  refine eqf_yes (by rfl) (by go_simp; rfl) (by go_simp; rfl) (by go_simp) ?_
  exact eqf_yes1 (a := m.msg.v) (b := m.msg.v) (by rfl) (by kernel_rfl) (by kernel_rfl) (eqIn_ptp d w m.msg)
theorem neq_pm (m : PM) (w : World) : (binOp .neq 53 m.v m.v).run Try.prog w = .ok (.bool false) w := by
  simp only [binOp]
  simp [Op.equal, Op.maxDepth, eqIn_pm 9996 w m]
/-- The next message of a port. -/
def bump (m : PM) : PM := { m with msg := { m.msg with seq := (m.msg.seq + 1) % 65536 } }
theorem steps_send (k : Ck) : stepsF (sendK k) = stepsF k := by
  unfold sendK
  split <;> rfl
theorem fol_send (k : Ck) : (sendK k).fol = k.fol ∧ (sendK k).c = k.c := by
  unfold sendK
  split <;> exact ⟨rfl, rfl⟩
theorem send_next (k : Ck) : ∀ j, sendTo { k with ports := turnI sendI k.ports k.ports.length } j = (sendTo k j).map bump
  | 0 => rfl
  | j + 1 => by
    have ih := send_next k j
    have hg := turnI_get sendI k.ports k.ports.length j
    unfold sendTo
    rw [show ({ k with ports := turnI sendI k.ports k.ports.length } : Ck).ports[j]? = (turnI sendI k.ports k.ports.length)[j]? from rfl, hg]
    by_cases hj : j < k.ports.length
    · rw [if_pos hj, List.getElem?_eq_getElem hj]
      simp only [Option.map_some]
      by_cases h6 : k.ports[j].now = 6
      · have e : sendI j k.ports[j] = { k.ports[j] with ann := (k.ports[j].ann + 1) % 65536 } := by rw [sendI, if_pos h6]
        rw [e, if_pos h6, if_pos h6, ih, List.map_append]
        rfl
      · have e : sendI j k.ports[j] = k.ports[j] := by rw [sendI, if_neg h6]
        rw [e, if_neg h6, if_neg h6, ih]
    · rw [if_neg hj, List.getElem?_eq_none (by omega)]
      exact ih
theorem sendL_next (k : Ck) : sendL (sendK k) = (sendL k).map bump := by
  by_cases h : 32 ≤ stepsF k
  · rw [sendL, if_pos (by rw [steps_send]; exact h), sendL, if_pos h]
    rfl
  · rw [sendL, if_neg (by rw [steps_send]; exact h), sendL, if_neg h]
    rw [show sendK k = { k with ports := turnI sendI k.ports k.ports.length } by rw [sendK, if_neg h]]
    rw [show ({ k with ports := turnI sendI k.ports k.ports.length } : Ck).ports.length = k.ports.length from turnI_len _ _ _]
    exact send_next k _
theorem sendTo_mem {k : Ck} {m : PM} : ∀ j, m ∈ sendTo k j → ∃ i p, i < j ∧ k.ports[i]? = some p ∧ p.now = 6 ∧ m = sendM k i p
  | 0, h => by simp [sendTo] at h
  | j + 1, h => by
    unfold sendTo at h
    cases hp : k.ports[j]? with
    | none =>
      rw [hp] at h
      obtain ⟨i, p, hi, h1, h2, h3⟩ := sendTo_mem j h
      exact ⟨i, p, by omega, h1, h2, h3⟩
    | some q =>
      rw [hp] at h
      simp only [] at h
      split at h
      · rename_i h6
        rcases List.mem_append.1 h with h | h
        · obtain ⟨i, p, hi, h1, h2, h3⟩ := sendTo_mem j h
          exact ⟨i, p, by omega, h1, h2, h3⟩
        · simp at h
          exact ⟨j, q, by omega, hp, h6, h⟩
      · obtain ⟨i, p, hi, h1, h2, h3⟩ := sendTo_mem j h
        exact ⟨i, p, by omega, h1, h2, h3⟩
/-- What is true of a message that is sent. -/
structure Sent (k : Ck) (m : PM) : Prop where
  check : checkF m.msg = 0
  of_ : ofE m.msg = 0
  gm : ∀ r n, (ofF m.msg r n).gm = k.fol.gm
  state : stateF k m.port = 6
  port : m.msg.port = m.port
  seq0 : 0 ≤ m.msg.seq
  seq1 : m.msg.seq ≤ 65535
  kind : m.msg.kind = 11
theorem wi_mk {n lo hi : Int} (h1 : lo ≤ n) (h2 : n ≤ hi) : wi n lo hi = true := by simp [wi, h1, h2]
theorem sent_mem {k : Ck} (h : k.Good) {m : PM} (hm : m ∈ sendL k) : Sent k m := by
  unfold sendL at hm
  split at hm
  · simp at hm
  rename_i hst
  obtain ⟨i, p, hi, hp, h6, rfl⟩ := sendTo_mem _ hm
  have hpi := h.inv.ports p (List.mem_of_getElem? hp)
  have hf := good_fit h
  have hn8 : k.ports.length ≤ 8 := by have := (insB_spec h.inv.conf.ports).2; have := h.inv.num; omega
  have hd := insB_spec h.inv.conf.domain
  have hs0 : 0 ≤ stepsF k := by
    unfold stepsF
    split
    · omega
    · have := hf.stepsa; omega
  have hin : inB (sendM k i p).msg = true := by
    simp only [inB, Bool.and_eq_true]
    refine ⟨wi_mk hd.1 hd.2, (show wi 0 0 65535 = true from by decide), wi_mk (by show (0 : Int) ≤ (i : Int) + 1; omega) (by show (i : Int) + 1 ≤ 65535; omega), wi_mk hpi.ann0 hpi.ann1, (show wi 0 (-128) 127 = true from by decide), (show stampB 0 0 = true from by decide), (show wi 0 0 65535 = true from by decide), (show wi 0 (-32768) 32767 = true from by decide), wi_mk hf.p1a hf.p1b, wi_mk hf.clsa hf.clsb, wi_mk hf.acca hf.accb, wi_mk hf.vara hf.varb, wi_mk hf.p2a hf.p2b, wi_mk hs0 (by show stepsF k ≤ 65535; omega), (show wi 0 0 255 = true from by decide)⟩
  have hck : checkF (sendM k i p).msg = 0 := by
    unfold checkF
    rw [if_neg (by show ¬ sizeF 11 = 0; decide), if_neg (by rw [hin]; simp), if_neg (by simp [formB, sendM, sendX])]
  have hof : ofE (sendM k i p).msg = 0 := by
    unfold ofE
    rw [if_neg (by rw [hck]; simp), if_neg (by show ¬ ((11 : Int) ≠ 11); simp)]
  refine ⟨hck, hof, fun r n => ?_, ?_, rfl, hpi.ann0, hpi.ann1, rfl⟩
  · unfold ofF
    rw [if_neg (by rw [hck]; simp), if_neg (by show ¬ ((11 : Int) ≠ 11); simp)]
    rfl
  · show stateF k ((i : Int) + 1) = 6
    rw [stateF, if_pos (by omega), show ((i : Int) + 1).toNat - 1 = i from by omega, hp]
    exact h6
theorem state_send {k : Ck} (n : Int) : stateF (sendK k) n = stateF k n := by
  unfold sendK
  by_cases h : 32 ≤ stepsF k
  · rw [if_pos h]
  · rw [if_neg h]
    unfold stateF
    by_cases h1 : 1 ≤ n
    · rw [if_pos h1, if_pos h1]
      have hg := turnI_get sendI k.ports k.ports.length (n.toNat - 1)
      rw [show ({ k with ports := turnI sendI k.ports k.ports.length } : Ck).ports = turnI sendI k.ports k.ports.length from rfl, hg]
      by_cases h2 : n.toNat - 1 < k.ports.length
      · rw [if_pos h2, List.getElem?_eq_getElem h2]
        exact (sendI_same _ _).1
      · rw [if_neg h2]
    · rw [if_neg h1, if_neg h1]
theorem field_gm (f : DS) (w : World) : (Instr.field 35 f.v 5).run Try.prog w = .ok (.int .u64 f.gm) w := by kernel_rfl
end Go.Proofs.Ytfbmlpdomfchpaa
