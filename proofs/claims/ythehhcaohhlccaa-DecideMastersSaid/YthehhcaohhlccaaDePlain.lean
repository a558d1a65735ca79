/- Plain laws of the state decision: numbers and lists alone. -/
import Derived.Test.YthehhcaohhlccaaDsPlain2
namespace Go.Proofs.Ythehhcaohhlccaa
set_option linter.unusedVariables false

/-- What a port has heard. -/
structure PB where
  has : Bool
  set : DS
def PB.zero : PB := ⟨false, .zero⟩
instance : Inhabited PB := ⟨.zero⟩
/-- The best of all, of the first k ports. -/
def pbTo (l : List PB) : Nat → Int
  | 0 => -1
  | k + 1 => if (l.getD k .zero).has = true ∧ (pbTo l k < 0 ∨ lessB (l.getD k .zero).set (l.getD (pbTo l k).toNat .zero).set = true) then k else pbTo l k
def pbest (l : List PB) : Int := pbTo l l.length
theorem pbTo_range (l : List PB) : ∀ k, pbTo l k = -1 ∨ (0 ≤ pbTo l k ∧ pbTo l k < k)
  | 0 => .inl rfl
  | k + 1 => by
    have h := pbTo_range l k
    unfold pbTo
    split <;> omega
theorem pbTo_not {l : List PB} {k : Nat} (h : (l.getD k .zero).has = false) : pbTo l (k + 1) = pbTo l k := by rw [pbTo, if_neg (by rw [h]; simp)]
theorem pbTo_first {l : List PB} {k : Nat} (h : (l.getD k .zero).has = true) (h2 : pbTo l k < 0) : pbTo l (k + 1) = k := by rw [pbTo, if_pos ⟨h, .inl h2⟩]
theorem pbTo_less {l : List PB} {k : Nat} (h : (l.getD k .zero).has = true) (h2 : lessB (l.getD k .zero).set (l.getD (pbTo l k).toNat .zero).set = true) : pbTo l (k + 1) = k := by rw [pbTo, if_pos ⟨h, .inr h2⟩]
theorem pbTo_stay {l : List PB} {k : Nat} (h0 : 0 ≤ pbTo l k) (h2 : lessB (l.getD k .zero).set (l.getD (pbTo l k).toNat .zero).set = false) : pbTo l (k + 1) = pbTo l k := by
  rw [pbTo, if_neg]; rintro ⟨_, h3 | h3⟩
  · omega
  · rw [h2] at h3; cases h3
/-- The best of all has been heard, and no set that has been heard is less. -/
theorem pbTo_has (l : List PB) : ∀ k, 0 ≤ pbTo l k → (l.getD (pbTo l k).toNat .zero).has = true
  | 0, h => by simp [pbTo] at h
  | k + 1, h => by
    cases hk : (l.getD k .zero).has with
    | false => rw [pbTo_not hk] at h ⊢; exact pbTo_has l k h
    | true =>
      by_cases h0 : pbTo l k < 0
      · rw [pbTo_first hk h0, Int.toNat_natCast]; exact hk
      · cases hl : lessB (l.getD k .zero).set (l.getD (pbTo l k).toNat .zero).set with
        | true => rw [pbTo_less hk hl, Int.toNat_natCast]; exact hk
        | false => rw [pbTo_stay (by omega) hl] at h ⊢; exact pbTo_has l k h
theorem pbTo_none (l : List PB) : ∀ k, pbTo l k < 0 → ∀ i, i < k → (l.getD i .zero).has = false
  | 0, _, i, hi => by omega
  | k + 1, h, i, hi => by
    cases hk : (l.getD k .zero).has with
    | false =>
      rw [pbTo_not hk] at h
      by_cases e : i = k
      · rw [e]; exact hk
      · exact pbTo_none l k h i (by omega)
    | true =>
      exfalso
      by_cases h0 : pbTo l k < 0
      · rw [pbTo_first hk h0] at h; omega
      · cases hl : lessB (l.getD k .zero).set (l.getD (pbTo l k).toNat .zero).set with
        | true => rw [pbTo_less hk hl] at h; omega
        | false => rw [pbTo_stay (by omega) hl] at h; omega
theorem pbTo_least (l : List PB) : ∀ k, ∀ i, i < k → (l.getD i .zero).has = true → 0 ≤ pbTo l k ∧ lessB (l.getD i .zero).set (l.getD (pbTo l k).toNat .zero).set = false
  | 0, i, hi, _ => by omega
  | k + 1, i, hi, hh => by
    cases hk : (l.getD k .zero).has with
    | false =>
      rw [pbTo_not hk]
      have : i ≠ k := fun e => by rw [e, hk] at hh; cases hh
      exact pbTo_least l k i (by omega) hh
    | true =>
      by_cases h0 : pbTo l k < 0
      · rw [pbTo_first hk h0, Int.toNat_natCast]
        have h1 : i = k := by
          by_cases e : i = k
          · exact e
          · have := pbTo_none l k h0 i (by omega)
            rw [this] at hh; cases hh
        rw [h1]
        exact ⟨by omega, less_irrefl _⟩
      · cases hl : lessB (l.getD k .zero).set (l.getD (pbTo l k).toNat .zero).set with
        | true =>
          rw [pbTo_less hk hl, Int.toNat_natCast]
          refine ⟨by omega, ?_⟩
          by_cases e : i = k
          · rw [e]; exact less_irrefl _
          · exact not_less_trans (pbTo_least l k i (by omega) hh).2 (less_asymm hl)
        | false =>
          rw [pbTo_stay (by omega) hl]
          by_cases e : i = k
          · rw [e]; exact ⟨by omega, hl⟩
          · exact pbTo_least l k i (by omega) hh

def furtherF (d own e : DS) (port : Int) : DS := ⟨d.p1, d.cls, d.acc, d.var, d.p2, d.gm, if d.steps < 4611686018427387904 then d.steps + 1 else d.steps, own.sender, port, e.recv, port⟩
def codeF (own : DS) (l : List PB) (at_ : Int) (i : Nat) : Int :=
  let p := l.getD i .zero
  if own.cls ≤ 127 then (if p.has = false ∨ lessB own p.set = true then 1 else 4)
  else if at_ < 0 ∨ lessB own (l.getD at_.toNat .zero).set = true then 2
  else if (i : Int) = at_ then 6
  else if p.has = false ∨ lessB (furtherF (l.getD at_.toNat .zero).set own p.set (i + 1)) p.set = true then 3
  else 5
def codesF (own : DS) (l : List PB) : List Int := (List.range l.length).map (codeF own l (pbest l))
theorem codes_len (own : DS) (l : List PB) : (codesF own l).length = l.length := by simp [codesF]
theorem codes_at (own : DS) (l : List PB) (i : Nat) (h : i < l.length) : (codesF own l).getD i 0 = codeF own l (pbest l) i := by
  simp [codesF, List.getD_eq_getElem?_getD, h]
/-- The port that is a slave, if one is. -/
theorem code_six {own : DS} {l : List PB} {i : Nat} (hi : i < l.length) : codeF own l (pbest l) i = 6 ↔ (127 < own.cls ∧ pbest l = i ∧ lessB own (l.getD i .zero).set = false) := by
  unfold codeF
  by_cases h1 : own.cls ≤ 127
  · simp only [h1, if_true]
    constructor
    · intro h; split at h <;> omega
    · intro h; omega
  · simp only [h1, if_false]
    by_cases h2 : pbest l < 0 ∨ lessB own (l.getD (pbest l).toNat .zero).set = true
    · simp only [h2, if_true]
      constructor
      · intro h; omega
      · rintro ⟨_, h3, h4⟩
        exfalso
        rw [h3, Int.toNat_natCast, h4] at h2
        simp at h2
        omega
    · simp only [h2, if_false]
      by_cases h3 : (i : Int) = pbest l
      · simp only [h3, if_true, true_iff]
        have h4 : pbest l = i := h3.symm
        refine ⟨by omega, trivial, ?_⟩
        rw [h4, Int.toNat_natCast] at h2
        cases e : lessB own (l.getD i .zero).set with
        | false => rfl
        | true => exact absurd (.inr e) h2
      · simp only [h3, if_false]
        constructor
        · intro h; split at h <;> omega
        · intro h; omega
/-- The data set that a clock follows. -/
def masterF (own : DS) (l : List PB) : DS :=
  if 8 < l.length then .zero else if 127 < own.cls ∧ 0 ≤ pbest l ∧ lessB own (l.getD (pbest l).toNat .zero).set = false then (l.getD (pbest l).toNat .zero).set else own
theorem master_hit {own : DS} {l : List PB} {k : Nat} (hn : l.length ≤ 8) (hk : k < l.length) (h : codeF own l (pbest l) k = 6) : masterF own l = (l.getD k .zero).set := by
  obtain ⟨h1, h2, h3⟩ := (code_six hk).1 h
  unfold masterF
  rw [if_neg (by omega), h2, Int.toNat_natCast, if_pos ⟨h1, by omega, h3⟩]
theorem master_own {own : DS} {l : List PB} (hn : l.length ≤ 8) (h : ∀ j, j < l.length → codeF own l (pbest l) j ≠ 6) : masterF own l = own := by
  unfold masterF
  rw [if_neg (by omega), if_neg]
  rintro ⟨h1, h2, h3⟩
  have hr := pbTo_range l l.length
  have e : pbTo l l.length = pbest l := rfl
  rw [e] at hr
  refine h (pbest l).toNat (by omega) ((code_six (by omega)).2 ⟨h1, by omega, h3⟩)
end Go.Proofs.Ythehhcaohhlccaa
