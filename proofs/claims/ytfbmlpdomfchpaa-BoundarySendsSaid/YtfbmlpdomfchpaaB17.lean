/- What a clock always is: plain laws of New, Announce, Decide, Send and of a port that has changed. -/
import Derived.WalkKit
import Derived.Lib.Hide
import Derived.Test.YtfbmlpdomfchpaaB9
import Derived.Test.YtfbmlpdomfchpaaJBd
namespace Go.Proofs.Ytfbmlpdomfchpaa
open Go.RowKit
set_option linter.unusedVariables false
set_option linter.unusedSimpArgs false

/-- A data set whose numbers an announce message can bear. -/
structure DS.Fit (d : DS) : Prop where
  p1a : 0 ≤ d.p1
  p1b : d.p1 ≤ 255
  clsa : 0 ≤ d.cls
  clsb : d.cls ≤ 255
  acca : 0 ≤ d.acc
  accb : d.acc ≤ 255
  vara : 0 ≤ d.var
  varb : d.var ≤ 65535
  p2a : 0 ≤ d.p2
  p2b : d.p2 ≤ 255
  stepsa : 0 ≤ d.steps
  stepsb : d.steps ≤ 31
structure Ck.Good (k : Ck) : Prop where
  inv : k.Inv
  sets : ∀ p ∈ k.ports, ∀ r ∈ p.recs.list, r.set.gm ≠ k.c.id ∧ r.set.Fit
  fol : k.fol = k.c.own ∨ (k.fol.gm ≠ k.c.id ∧ lessB k.c.own k.fol = false ∧ k.fol.Fit)
  one : ∀ (i j : Nat) (p q : Pst), k.ports[i]? = some p → k.ports[j]? = some q → usesB p.now = true → usesB q.now = true → i = j
theorem wi_spec {n lo hi : Int} (h : wi n lo hi = true) : lo ≤ n ∧ n ≤ hi := by simpa [wi] using h
theorem hear_sets {f : Fr} {d : DS} {t : Int} {r : Rc} (h : r ∈ (hearF f d t).list) : (∃ a ∈ f.list, r.set = a.set) ∨ r.set = d := by
  have h : r ∈ setAt (midL f d) (midN f d) d t := h
  unfold midL midN at h
  cases hf : f.list.findIdx? (isB d.sender d.sport) with
  | some i =>
    rw [hf] at h
    rcases setAt_mem h with h | ⟨a, _, rfl⟩
    · exact .inl ⟨r, h, rfl⟩
    · exact .inr rfl
  | none =>
    rw [hf] at h
    simp only [] at h
    have e : (roomL f.list ++ [(⟨d.sender, d.sport, .zero, []⟩ : Rc)])[(roomL f.list).length]? = some ⟨d.sender, d.sport, .zero, []⟩ := by simp
    unfold setAt at h
    rw [e] at h
    simp only [List.set_append_right _ _ (Nat.le_refl _), Nat.sub_self, List.set_cons_zero] at h
    rcases List.mem_append.1 h with h | h
    · exact .inl ⟨r, room_mem h, rfl⟩
    · simp at h
      subst h
      exact .inr rfl
theorem of_fit {p : Ptp} {id : Int} {n : Int} (h : ofE p = 0) (hs : (ofF p id n).steps < 32) : (ofF p id n).Fit := by
  unfold ofE at h
  split at h
  · rename_i h1; exact absurd h h1
  · rename_i h1
    split at h
    · cases h
    · rename_i h2
      unfold ofF at hs ⊢
      rw [if_neg h1, if_neg h2] at hs ⊢
      have hb : inB p = true := by
        have h1 : checkF p = 0 := by simpa using h1
        unfold checkF at h1
        split at h1
        · cases h1
        · split at h1
          · cases h1
          · rename_i hi; simpa using hi
      simp only [inB, Bool.and_eq_true] at hb
      obtain ⟨_, _, _, _, _, _, _, _, b8, b9, b10, b11, b12, b13, _⟩ := hb
      have c8 := wi_spec b8; have c9 := wi_spec b9; have c10 := wi_spec b10; have c11 := wi_spec b11; have c12 := wi_spec b12; have c13 := wi_spec b13
      exact ⟨c8.1, c8.2, c9.1, c9.2, c10.1, c10.2, c11.1, c11.2, c12.1, c12.2, c13.1, by have : p.ann.steps < 32 := hs; show p.ann.steps ≤ 31; omega⟩
theorem best_mem {f : Fr} {t : Int} (h : qualF f t ≠ []) : ∃ r ∈ f.list, bestR (qualF f t) = r.set := by
  have hm : bestR (qualF f t) ∈ qualF f t := by
    rw [bestR, if_neg h]
    have : ∀ (l : List DS) (b : DS), l.foldl (fun b d => if lessB d b = true then d else b) b = b ∨ l.foldl (fun b d => if lessB d b = true then d else b) b ∈ l := by
      intro l
      induction l with
      | nil => exact fun b => .inl rfl
      | cons a l ih =>
        intro b
        rw [List.foldl_cons]
        rcases ih (if lessB a b = true then a else b) with h | h
        · rw [h]
          split
          · exact .inr (by simp)
          · exact .inl rfl
        · exact .inr (List.mem_cons_of_mem _ h)
    generalize qualF f t = l at h
    cases l with
    | nil => exact absurd rfl h
    | cons a l =>
      unfold bestL
      rcases this (a :: l) ((a :: l).headD .zero) with h | h
      · rw [h]; simp
      · exact h
  unfold qualF at hm
  obtain ⟨r, hr, he⟩ := List.mem_map.1 hm
  exact ⟨r, (List.mem_filter.1 hr).1, he.symm⟩
theorem uses_code : ∀ s : Fin 9, ∀ c : Fin 5, ∀ b : Bool, usesB (nextF ((s.val : Int) + 1) (20 + ((c.val : Int) + 1)) b) = false := by decide
theorem uses_late : ∀ b : Bool, usesB (nextF 4 7 b) = false ∧ usesB (nextF 5 8 b) = false := by decide
theorem uses_synced : ∀ s : Fin 9, usesB (nextF ((s.val : Int) + 1) 9 true) = usesB ((s.val : Int) + 1) := by decide
theorem uses_six {k : Ck} {t c : Int} {has same : Bool} {p : Pst} (h1 : 1 ≤ p.now) (h9 : p.now ≤ 9) (c1 : 1 ≤ c) (c6 : c ≤ 6) (h : usesB (dec2 (dec1 k t c has same p) same) = true) : c = 6 := by
  by_cases e : c = 6
  · exact e
  exfalso
  have hd : usesB (dec1 k t c has same p) = false := by
    unfold dec1
    split
    · have := uses_code ⟨(p.now - 1).toNat, by omega⟩ ⟨(c - 1).toNat, by omega⟩ same
      rw [show (((⟨(p.now - 1).toNat, by omega⟩ : Fin 9).val : Int) + 1) = p.now from by show ((p.now - 1).toNat : Int) + 1 = p.now; omega, show (((⟨(c - 1).toNat, by omega⟩ : Fin 5).val : Int) + 1) = c from by show ((c - 1).toNat : Int) + 1 = c; omega] at this
      exact this
    · rename_i hn
      have h4 : p.now = 4 := by
        by_cases h4 : p.now = 4
        · exact h4
        · exact absurd (by simp [h4]) hn
      split
      · rw [h4]; exact (uses_late same).1
      · rw [h4]; rfl
  unfold dec2 at h
  split at h
  · rename_i h5
    rw [h5, (uses_late same).2] at h
    cases h
  · rw [hd] at h
    cases h
theorem good_port {k : Ck} (h : k.Good) {i : Nat} {p p' : Pst} (hp : k.ports[i]? = some p) (hi : p'.Inv) (hs : ∀ r ∈ p'.recs.list, r.set.gm ≠ k.c.id ∧ r.set.Fit) (hu : usesB p'.now = true → usesB p.now = true) : ({ k with ports := k.ports.set i p' } : Ck).Good := by
  have hil := (List.getElem?_eq_some_iff.1 hp).1
  have hm : ∀ q ∈ k.ports.set i p', q ∈ k.ports ∨ q = p' := fun q hq => by
    rcases List.mem_or_eq_of_mem_set hq with h | h
    · exact .inl h
    · exact .inr h
  refine ⟨⟨h.inv.conf, by have := h.inv.num; simpa using this, fun q hq => ?_, h.inv.at0, h.inv.at1⟩, fun q hq => ?_, h.fol, fun a b q r ha hb h1 h2 => ?_⟩
  · rcases hm q hq with h1 | rfl
    · exact h.inv.ports q h1
    · exact hi
  · rcases hm q hq with h1 | rfl
    · exact h.sets q h1
    · exact hs
  · have hget : ∀ (a : Nat) (q : Pst), (k.ports.set i p')[a]? = some q → usesB q.now = true → ∃ q', k.ports[a]? = some q' ∧ usesB q'.now = true := fun a q ha h1 => by
      by_cases e : i = a
      · subst e
        rw [List.getElem?_set_self hil] at ha
        injection ha with ha
        subst ha
        exact ⟨p, hp, hu h1⟩
      · rw [List.getElem?_set_ne e] at ha
        exact ⟨q, ha, h1⟩
    obtain ⟨q', e1, u1⟩ := hget a q ha h1
    obtain ⟨r', e2, u2⟩ := hget b r hb h2
    exact h.one a b q' r' e1 e2 u1 u2
theorem good_at {k : Ck} (h : k.Good) {t : Int} (h0 : 0 ≤ t) (h1 : t ≤ 1125899906842624) : ({ k with at_ := t } : Ck).Good := ⟨⟨h.inv.conf, h.inv.num, h.inv.ports, h0, h1⟩, h.sets, h.fol, h.one⟩
theorem good_new (c : BConf) (ok : c.Ok) : (newCk c c.ports.toNat).Good := by
  have hp := insB_spec ok.ports
  have hm : ∀ p ∈ (newCk c c.ports.toNat).ports, p = newP c 4 := fun p hp => (List.mem_replicate.1 hp).2
  have hw := insB_spec ok.window
  refine ⟨⟨ok, by simp [newCk]; omega, fun p h => ?_, Int.le_refl _, by simp [newCk]⟩, fun p h r hr => ?_, .inl rfl, fun i j p q h1 h2 u1 _ => ?_⟩
  · rw [hm p h]
    exact ⟨by simp [newP], by simp [newP], ⟨⟨hw.1, hw.2, Int.le_refl _, by simp [newP, newF]⟩, by simp [newP, newF], by simp [newP, newF]⟩, by simp [newP, newF], by simp [newP], by simp [newP], by simp [newP], by simp [newP]⟩
  · rw [hm p h] at hr
    simp [newP, newF] at hr
  · rw [hm p (List.mem_of_getElem? h1)] at u1
    cases u1
theorem good_ann {k : Ck} (h : k.Good) (n : Int) (p : Ptp) (t : Int) : (annK k n p t).Good := by
  unfold annK
  cases hq : portAt k n with
  | none => exact h
  | some q =>
    simp only []
    split
    · rename_i he
      unfold annE at he
      rw [hq] at he
      simp only [] at he
      split at he
      · rename_i h1; exact absurd he h1
      rename_i hw
      split at he
      · rename_i h1; exact absurd he h1
      rename_i hoe
      split at he
      · cases he
      split at he
      · cases he
      rename_i hg
      split at he
      · cases he
      have hwt : 0 ≤ t ∧ t ≤ 1125899906842624 := by
        have hw : whenF k t = 0 := by simpa using hw
        unfold whenF at hw
        split at hw
        · cases hw
        · omega
      have hn : 1 ≤ n := by
        unfold portAt at hq
        split at hq
        · assumption
        · cases hq
      have hq' : k.ports[n.toNat - 1]? = some q := by
        unfold portAt at hq
        rw [if_pos hn] at hq
        exact hq
      have hqi := h.inv.ports q (List.mem_of_getElem? hq')
      have hok := hear_ok he
      have hsteps : (annD k n p).steps < 32 := by have := hok.2.2.2.2; simp at this; omega
      have hfit : (annD k n p).Fit := of_fit (by simpa using hoe) hsteps
      have hinv := hqi.recs.heard (annD k n p) t
      rw [hearS, if_pos he] at hinv
      have hst : ∀ r ∈ (hearF q.recs (annD k n p) t).list, r.set.gm ≠ k.c.id ∧ r.set.Fit := fun r hr => by
        rcases hear_sets hr with ⟨a, ha, e⟩ | e
        · rw [e]; exact h.sets q (List.mem_of_getElem? hq') a ha
        · rw [e]; exact ⟨fun e => hg (.inl e), hfit⟩
      have hgp := good_port (p' := { q with recs := hearF q.recs (annD k n p) t, mark := t }) h hq' ⟨hqi.now1, hqi.now9, hinv, fun r hr => (hst r hr).2.stepsa, hqi.ann0, hqi.ann1, hqi.req0, hqi.req1⟩ hst (fun h => h)
      exact good_at hgp hwt.1 hwt.2
    · exact h
theorem dec_get {k : Ck} {t : Int} {i : Nat} {p : Pst} (h : (turnI (decI k t) (k.ports.map (forgetP t)) k.ports.length)[i]? = some p) : ∃ q, k.ports[i]? = some q ∧ p = decI k t i (forgetP t q) := by
  rw [turnI_get] at h
  split at h
  · rw [List.getElem?_map] at h
    cases hk : k.ports[i]? with
    | none => rw [hk] at h; simp at h
    | some q =>
      rw [hk] at h
      simp at h
      exact ⟨q, rfl, h.symm⟩
  · rename_i hl
    rw [List.getElem?_map, List.getElem?_eq_none (by omega)] at h
    simp at h
theorem good_dec {k : Ck} (h : k.Good) (t : Int) : (decK k t).Good := by
  unfold decK
  split
  · exact h
  rename_i hw
  have hwt : 0 ≤ t ∧ t ≤ 1125899906842624 := by
    have hw : whenF k t = 0 := by simpa using hw
    unfold whenF at hw
    split at hw
    · cases hw
    · omega
  have hn8 : k.ports.length ≤ 8 := by have := (insB_spec h.inv.conf.ports).2; have := h.inv.num; omega
  have hll : (decL k t).length = k.ports.length := by rw [decL, List.length_map]
  have hport : ∀ (i : Nat) (p : Pst), (turnI (decI k t) (k.ports.map (forgetP t)) k.ports.length)[i]? = some p → ∃ q, k.ports[i]? = some q ∧ p.Inv ∧ p.recs = forgetF q.recs t ∧ (usesB p.now = true → codeF k.c.own (decL k t) (pbest (decL k t)) i = 6) := fun i p hp => by
    obtain ⟨q, hq, rfl⟩ := dec_get hp
    have hil := (List.getElem?_eq_some_iff.1 hq).1
    have hqi := h.inv.ports q (List.mem_of_getElem? hq)
    have hf1 : 1 ≤ (forgetP t q).now := hqi.now1
    have hf9 : (forgetP t q).now ≤ 9 := hqi.now9
    have hc : (codesF k.c.own (decL k t)).getD i 0 = codeF k.c.own (decL k t) (pbest (decL k t)) i := codes_at _ _ _ (by rw [hll]; exact hil)
    have hcr := code_range k.c.own (decL k t) (pbest (decL k t)) i
    refine ⟨q, hq, ?_, rfl, fun hu => ?_⟩
    · have hr1 : ∀ c hs sm, 1 ≤ dec1 k t c hs sm (forgetP t q) ∧ dec1 k t c hs sm (forgetP t q) ≤ 9 := fun c hs sm => by
        unfold dec1
        split
        · exact next_range hf1 hf9 _ _
        · split
          · exact next_range hf1 hf9 _ _
          · exact ⟨hf1, hf9⟩
      have hr2 : ∀ s sm, 1 ≤ s ∧ s ≤ 9 → 1 ≤ dec2 s sm ∧ dec2 s sm ≤ 9 := fun s sm hs => by
        unfold dec2
        split
        · exact next_range hs.1 hs.2 _ _
        · exact hs
      have hr := hr2 _ (sameB (decN k t) k.fol) (hr1 ((codesF k.c.own (decL k t)).getD i 0) ((decL k t).getD i .zero).has (sameB (decN k t) k.fol))
      exact ⟨hr.1, hr.2, hqi.recs.forget t, fun r hr => hqi.steps r (List.mem_filter.1 hr).1, hqi.ann0, hqi.ann1, hqi.req0, hqi.req1⟩
    · rw [← hc]
      exact uses_six hf1 hf9 (by rw [hc]; exact hcr.1) (by rw [hc]; exact hcr.2) hu
  refine ⟨⟨h.inv.conf, ?_, fun p hp => ?_, hwt.1, hwt.2⟩, fun p hp r hr => ?_, ?_, fun i j p q hp hq u1 u2 => ?_⟩
  · have := h.inv.num
    show ((turnI (decI k t) (k.ports.map (forgetP t)) k.ports.length).length : Int) = k.c.ports
    rw [turnI_len, List.length_map]
    exact this
  · obtain ⟨i, hi, e⟩ := List.getElem_of_mem hp
    exact (hport i p (by rw [← e]; exact List.getElem?_eq_getElem hi)).choose_spec.2.1
  · obtain ⟨i, hi, e⟩ := List.getElem_of_mem hp
    obtain ⟨q, hq, _, e2, _⟩ := hport i p (by rw [← e]; exact List.getElem?_eq_getElem hi)
    rw [e2] at hr
    exact h.sets q (List.mem_of_getElem? hq) r (List.mem_filter.1 hr).1
  · show decN k t = k.c.own ∨ ((decN k t).gm ≠ k.c.id ∧ lessB k.c.own (decN k t) = false ∧ (decN k t).Fit)
    unfold decN masterF
    rw [if_neg (by rw [hll]; omega)]
    split
    · rename_i hb
      obtain ⟨_, hb0, hbl⟩ := hb
      have hhas : ((decL k t).getD (pbest (decL k t)).toNat .zero).has = true := pbTo_has (decL k t) _ hb0
      have hrange := pbTo_range (decL k t) (decL k t).length
      have hpl : (pbest (decL k t)).toNat < k.ports.length := by
        have : pbest (decL k t) = pbTo (decL k t) (decL k t).length := rfl
        rw [← this] at hrange
        omega
      have hga : ∀ m (hm : m < k.ports.length), (decL k t).getD m .zero = bestP t k.ports[m] := fun m hm => by
        unfold decL
        rw [List.getD_eq_getElem?_getD, List.getElem?_map, List.getElem?_eq_getElem hm]
        rfl
      have hget : (decL k t).getD (pbest (decL k t)).toNat .zero = bestP t k.ports[(pbest (decL k t)).toNat] := by
        exact hga _ hpl
      rw [hget] at hhas hbl ⊢
      have hq : qualF (forgetF k.ports[(pbest (decL k t)).toNat].recs t) t ≠ [] := by
        intro e
        have : (!(qualF (forgetF k.ports[(pbest (decL k t)).toNat].recs t) t).isEmpty) = true := hhas
        rw [e] at this
        simp at this
      obtain ⟨r, hr, e⟩ := best_mem hq
      have hs := h.sets _ (List.getElem_mem hpl) r (List.mem_filter.1 hr).1
      have e : (bestP t k.ports[(pbest (decL k t)).toNat]).set = r.set := e
      rw [e] at hbl ⊢
      exact .inr ⟨hs.1, hbl, hs.2⟩
    · exact .inl rfl
  · obtain ⟨p0, hp0, _, _, c1⟩ := hport i p hp
    obtain ⟨q0, hq0, _, _, c2⟩ := hport j q hq
    have hi := (List.getElem?_eq_some_iff.1 hp0).1
    have hj := (List.getElem?_eq_some_iff.1 hq0).1
    have e1 := ((code_six (by rw [hll]; exact hi)).1 (c1 u1)).2.1
    have e2 := ((code_six (by rw [hll]; exact hj)).1 (c2 u2)).2.1
    omega
theorem send_get {k : Ck} {i : Nat} {p : Pst} (h : (turnI sendI k.ports k.ports.length)[i]? = some p) : ∃ q, k.ports[i]? = some q ∧ p = sendI i q := by
  rw [turnI_get] at h
  split at h
  · cases hk : k.ports[i]? with
    | none => rw [hk] at h; simp at h
    | some q =>
      rw [hk] at h
      simp at h
      exact ⟨q, rfl, h.symm⟩
  · rename_i hl
    rw [List.getElem?_eq_none (by omega)] at h
    simp at h
theorem sendI_same (i : Nat) (q : Pst) : (sendI i q).now = q.now ∧ (sendI i q).recs = q.recs ∧ (sendI i q).req = q.req := by
  unfold sendI
  split <;> exact ⟨rfl, rfl, rfl⟩
theorem sendI_ann {i : Nat} {q : Pst} (h0 : 0 ≤ q.ann) (h1 : q.ann ≤ 65535) : 0 ≤ (sendI i q).ann ∧ (sendI i q).ann ≤ 65535 := by
  unfold sendI
  split
  · show 0 ≤ (q.ann + 1) % 65536 ∧ (q.ann + 1) % 65536 ≤ 65535
    omega
  · exact ⟨h0, h1⟩
theorem good_send {k : Ck} (h : k.Good) : (sendK k).Good := by
  unfold sendK
  split
  · exact h
  have hport : ∀ (i : Nat) (p : Pst), (turnI sendI k.ports k.ports.length)[i]? = some p → ∃ q, k.ports[i]? = some q ∧ p.Inv ∧ p.recs = q.recs ∧ p.now = q.now := fun i p hp => by
    obtain ⟨q, hq, rfl⟩ := send_get hp
    have hqi := h.inv.ports q (List.mem_of_getElem? hq)
    obtain ⟨e1, e2, e3⟩ := sendI_same i q
    have e4 := sendI_ann (i := i) hqi.ann0 hqi.ann1
    exact ⟨q, hq, ⟨by rw [e1]; exact hqi.now1, by rw [e1]; exact hqi.now9, by rw [e2]; exact hqi.recs, by rw [e2]; exact hqi.steps, e4.1, e4.2, by rw [e3]; exact hqi.req0, by rw [e3]; exact hqi.req1⟩, e2, e1⟩
  refine ⟨⟨h.inv.conf, ?_, fun p hp => ?_, h.inv.at0, h.inv.at1⟩, fun p hp r hr => ?_, h.fol, fun i j p q hp hq u1 u2 => ?_⟩
  · show ((turnI sendI k.ports k.ports.length).length : Int) = k.c.ports
    rw [turnI_len]
    exact h.inv.num
  · obtain ⟨i, hi, e⟩ := List.getElem_of_mem hp
    exact (hport i p (by rw [← e]; exact List.getElem?_eq_getElem hi)).choose_spec.2.1
  · obtain ⟨i, hi, e⟩ := List.getElem_of_mem hp
    obtain ⟨q, hq, _, e2, _⟩ := hport i p (by rw [← e]; exact List.getElem?_eq_getElem hi)
    rw [e2] at hr
    exact h.sets q (List.mem_of_getElem? hq) r hr
  · obtain ⟨p0, hp0, _, _, c1⟩ := hport i p hp
    obtain ⟨q0, hq0, _, _, c2⟩ := hport j q hq
    exact h.one i j p0 q0 hp0 hq0 (by rw [← c1]; exact u1) (by rw [← c2]; exact u2)
theorem own_fit {c : BConf} (ok : c.Ok) : c.own.Fit := by
  have h1 := insB_spec ok.p1; have h2 := insB_spec ok.cls; have h3 := insB_spec ok.acc; have h4 := insB_spec ok.var; have h5 := insB_spec ok.p2
  exact ⟨h1.1, h1.2, h2.1, h2.2, h3.1, h3.2, h4.1, h4.2, h5.1, h5.2, Int.le_refl _, by show (0 : Int) ≤ 31; omega⟩
theorem good_fit {k : Ck} (h : k.Good) : k.fol.Fit := by
  rcases h.fol with e | ⟨_, _, e⟩
  · rw [e]; exact own_fit h.inv.conf
  · exact e
end Go.Proofs.Ytfbmlpdomfchpaa
