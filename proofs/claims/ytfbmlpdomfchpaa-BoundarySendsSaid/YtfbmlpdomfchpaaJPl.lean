/- Several texts in one: DsPlain, DsPlain2, DePlain. -/
/- Plain laws of data sets: numbers and lists alone. -/
namespace Go.Proofs.Ytfbmlpdomfchpaa

/-- A data set: its eleven fields. -/
structure DS where
  p1 : Int
  cls : Int
  acc : Int
  var : Int
  p2 : Int
  gm : Int
  steps : Int
  sender : Int
  sport : Int
  recv : Int
  rport : Int
deriving DecidableEq

def DS.zero : DS := ⟨0, 0, 0, 0, 0, 0, 0, 0, 0, 0, 0⟩

def cmpI (a b : Int) : Int := if a < b then -1 else if b < a then 1 else 0

def lexL : List Int → List Int → Int
  | a :: as, b :: bs => if cmpI a b = 0 then lexL as bs else cmpI a b
  | _, _ => 0

def DS.key6 (d : DS) : List Int := [d.p1, d.cls, d.acc, d.var, d.p2, d.gm]
def DS.key5 (d : DS) : List Int := [d.steps, d.sender, d.sport, d.recv, d.rport]
def DS.key3 (d : DS) : List Int := [d.sender, d.rport, d.sport]
def DS.key (d : DS) : List Int := d.key6 ++ d.key5

theorem cmpI_zero {a b : Int} : cmpI a b = 0 ↔ a = b := by
  unfold cmpI; split
  · constructor <;> intro h <;> omega
  · split
    · constructor <;> intro h <;> omega
    · constructor <;> intro h <;> omega
theorem cmpI_neg {a b : Int} : cmpI a b < 0 ↔ a < b := by
  unfold cmpI; split
  · constructor <;> intro h <;> omega
  · split
    · constructor <;> intro h <;> omega
    · constructor <;> intro h <;> omega
theorem cmpI_pos {a b : Int} : 0 < cmpI a b ↔ b < a := by
  unfold cmpI; split
  · constructor <;> intro h <;> omega
  · split
    · constructor <;> intro h <;> omega
    · constructor <;> intro h <;> omega
theorem cmpI_range (a b : Int) : cmpI a b = -1 ∨ cmpI a b = 0 ∨ cmpI a b = 1 := by
  unfold cmpI; split
  · exact .inl rfl
  · split
    · exact .inr (.inr rfl)
    · exact .inr (.inl rfl)
theorem cmpI_swap (a b : Int) : cmpI b a = - cmpI a b := by
  unfold cmpI
  by_cases h : a < b
  · simp [h, show ¬ b < a from by omega]
  · by_cases h2 : b < a <;> simp [h, h2]
theorem cmpI_self (a : Int) : cmpI a a = 0 := cmpI_zero.2 rfl

theorem lexL_range : ∀ xs ys, lexL xs ys = -1 ∨ lexL xs ys = 0 ∨ lexL xs ys = 1
  | [], _ => by simp [lexL]
  | _ :: _, [] => by simp [lexL]
  | a :: as, b :: bs => by
    unfold lexL
    split
    · exact lexL_range as bs
    · exact cmpI_range a b
theorem lexL_swap : ∀ xs ys, lexL ys xs = - lexL xs ys
  | [], [] => by simp [lexL]
  | [], _ :: _ => by simp [lexL]
  | _ :: _, [] => by simp [lexL]
  | a :: as, b :: bs => by
    have e := cmpI_swap a b
    unfold lexL
    by_cases h : cmpI a b = 0
    · rw [if_pos h, if_pos (by omega), lexL_swap as bs]
    · rw [if_neg h, if_neg (by omega), e]
theorem lexL_zero : ∀ {xs ys}, xs.length = ys.length → (lexL xs ys = 0 ↔ xs = ys)
  | [], [], _ => by simp [lexL]
  | [], _ :: _, h => by simp at h
  | _ :: _, [], h => by simp at h
  | a :: as, b :: bs, h => by
    unfold lexL
    by_cases hc : cmpI a b = 0
    · rw [if_pos hc, lexL_zero (by simpa using h)]
      have := cmpI_zero.1 hc
      simp [this]
    · rw [if_neg hc]
      have : ¬ a = b := fun e => hc (cmpI_zero.2 e)
      simp [hc, this]
theorem lexL_self (xs) : lexL xs xs = 0 := (lexL_zero rfl).2 rfl
theorem lexL_trans : ∀ {xs ys zs}, xs.length = ys.length → ys.length = zs.length → lexL xs ys < 0 → lexL ys zs < 0 → lexL xs zs < 0
  | [], [], _, _, _, h, _ => by simp [lexL] at h
  | [], _ :: _, _, h, _, _, _ => by simp at h
  | _ :: _, [], _, h, _, _, _ => by simp at h
  | _ :: _, _ :: _, [], _, h, _, _ => by simp at h
  | a :: as, b :: bs, c :: cs, h1, h2, h3, h4 => by
    unfold lexL at h3 h4 ⊢
    by_cases hab : cmpI a b = 0
    · have := cmpI_zero.1 hab; subst this
      rw [if_pos hab] at h3
      by_cases hbc : cmpI a c = 0
      · rw [if_pos hbc] at h4 ⊢
        exact lexL_trans (by simpa using h1) (by simpa using h2) h3 h4
      · rw [if_neg hbc] at h4 ⊢; exact h4
    · rw [if_neg hab] at h3
      have h5 := cmpI_neg.1 h3
      by_cases hbc : cmpI b c = 0
      · have := cmpI_zero.1 hbc; subst this
        rw [if_neg hab]; exact h3
      · rw [if_neg hbc] at h4
        have h6 := cmpI_neg.1 h4
        have h7 : cmpI a c < 0 := cmpI_neg.2 (by omega)
        rw [if_neg (by omega)]; exact h7
theorem lexL_append : ∀ {xs ys : List Int} (us vs : List Int), xs.length = ys.length → lexL (xs ++ us) (ys ++ vs) = if lexL xs ys = 0 then lexL us vs else lexL xs ys
  | [], [], us, vs, _ => by simp [lexL]
  | [], _ :: _, _, _, h => by simp at h
  | _ :: _, [], _, _, h => by simp at h
  | a :: as, b :: bs, us, vs, h => by
    simp only [List.cons_append, lexL]
    by_cases hc : cmpI a b = 0
    · simp [hc, lexL_append us vs (show as.length = bs.length by simpa using h)]
    · simp [hc]

/-- Field number 'by' of a data set. -/
def fld (d : DS) (k : Int) : Int := d.key.getD (if 0 ≤ k ∧ k ≤ 9 then k.toNat else 10) 0
def listsF (a b : DS) : List Int → Int
  | [] => 0
  | f :: fs => if cmpI (fld a f) (fld b f) = 0 then listsF a b fs else cmpI (fld a f) (fld b f)
theorem listsF_eq (a b : DS) : ∀ fs, listsF a b fs = lexL (fs.map (fld a)) (fs.map (fld b))
  | [] => rfl
  | f :: fs => by simp only [listsF, List.map, lexL, listsF_eq a b fs]
def quality : List Int := [0, 1, 2, 3, 4, 5]
def paths : List Int := [7, 10, 8]
def allF : List Int := [0, 1, 2, 3, 4, 5, 6, 7, 8, 9, 10]
theorem lists_quality (a b : DS) : listsF a b quality = lexL a.key6 b.key6 := by rw [listsF_eq]; rfl
theorem lists_paths (a b : DS) : listsF a b paths = lexL a.key3 b.key3 := by rw [listsF_eq]; rfl
theorem lists_all (a b : DS) : listsF a b allF = lexL a.key b.key := by rw [listsF_eq]; rfl

def verdict (n less greater equal : Int) : Int := if n < 0 then less else if 0 < n then greater else equal
def lessB (a b : DS) : Bool := decide (lexL a.key b.key < 0)
def compareF (a b : DS) : Int :=
  if a = b then 0
  else if ¬ a.gm = b.gm then verdict (lexL a.key6 b.key6) 1 3 5
  else if b.steps < a.steps ∧ 1 < a.steps - b.steps then 3
  else if a.steps < b.steps ∧ 1 < b.steps - a.steps then 1
  else if b.steps < a.steps then verdict (cmpI a.recv a.sender) 3 4 5
  else if a.steps < b.steps then verdict (cmpI b.recv b.sender) 1 2 5
  else verdict (lexL a.key3 b.key3) 2 4 5

theorem key_inj {a b : DS} (h : a.key = b.key) : a = b := by
  cases a; cases b; simp [DS.key, DS.key6, DS.key5] at h; simp [h]
theorem key6_len (a : DS) : a.key6.length = 6 := rfl
theorem key_len (a : DS) : a.key.length = 11 := rfl
theorem less_irrefl (a : DS) : lessB a a = false := by simp [lessB, lexL_self]
theorem less_asymm {a b : DS} (h : lessB a b = true) : lessB b a = false := by
  simp only [lessB, decide_eq_true_eq, decide_eq_false_iff_not] at h ⊢
  have := lexL_swap a.key b.key; omega
theorem less_total {a b : DS} (h : a ≠ b) : lessB a b = true ∨ lessB b a = true := by
  simp only [lessB, decide_eq_true_eq]
  have h1 := lexL_swap a.key b.key
  have h2 : lexL a.key b.key ≠ 0 := fun e => h (key_inj ((lexL_zero (by rfl : a.key.length = b.key.length)).1 e))
  omega
theorem less_trans {a b c : DS} (h : lessB a b = true) (k : lessB b c = true) : lessB a c = true := by
  simp only [lessB, decide_eq_true_eq] at h k ⊢
  exact lexL_trans (by rfl : a.key.length = b.key.length) (by rfl) h k
theorem less_ne {a b : DS} (h : lessB a b = true) : a ≠ b := by
  rintro rfl; rw [less_irrefl] at h; cases h
/-- What is not less is not less than what is below it. -/
theorem not_less_trans {a b c : DS} (h : lessB a b = false) (k : lessB b c = false) : lessB a c = false := by
  cases e : lessB a c with
  | false => rfl
  | true =>
    by_cases hab : a = b
    · subst hab; rw [e] at k; cases k
    · rcases less_total hab with h1 | h1
      · rw [h1] at h; cases h
      · rw [less_trans h1 e] at k; cases k
theorem cmp_range (a b : DS) : 0 ≤ compareF a b ∧ compareF a b ≤ 5 := by
  unfold compareF verdict; repeat' split
  all_goals omega

/-- Best: the first least one, of the first k. -/
def bestTo (l : List DS) : Nat → Int
  | 0 => -1
  | k + 1 => if bestTo l k < 0 ∨ lessB (l.getD k .zero) (l.getD (bestTo l k).toNat .zero) = true then k else bestTo l k
def bestF (l : List DS) : Int := bestTo l l.length
theorem bestTo_range (l : List DS) : ∀ k, (k = 0 ∧ bestTo l k = -1) ∨ (0 < k ∧ 0 ≤ bestTo l k ∧ bestTo l k < k)
  | 0 => .inl ⟨rfl, rfl⟩
  | k + 1 => by
    refine .inr ⟨by omega, ?_⟩
    have h := bestTo_range l k
    unfold bestTo
    split <;> omega
theorem bestTo_neg {l : List DS} {k : Nat} (h : bestTo l k < 0) : bestTo l (k + 1) = k := by rw [bestTo, if_pos (.inl h)]
theorem bestTo_less {l : List DS} {k : Nat} (h : lessB (l.getD k .zero) (l.getD (bestTo l k).toNat .zero) = true) : bestTo l (k + 1) = k := by rw [bestTo, if_pos (.inr h)]
theorem bestTo_stay {l : List DS} {k : Nat} (h : 0 ≤ bestTo l k) (h2 : lessB (l.getD k .zero) (l.getD (bestTo l k).toNat .zero) = false) : bestTo l (k + 1) = bestTo l k := by
  rw [bestTo, if_neg]; rintro (h3 | h3)
  · omega
  · rw [h2] at h3; cases h3

end Go.Proofs.Ytfbmlpdomfchpaa
/- Plain laws of Compare and Best: the mirror, the quality, the first least one. -/
namespace Go.Proofs.Ytfbmlpdomfchpaa

theorem verdict_range3 (n x y z : Int) : verdict n x y z = x ∨ verdict n x y z = y ∨ verdict n x y z = z := by
  unfold verdict; split
  · exact .inl rfl
  · split
    · exact .inr (.inl rfl)
    · exact .inr (.inr rfl)
theorem key6_gm {a b : DS} (h : lexL a.key6 b.key6 = 0) : a.gm = b.gm := by
  have := (lexL_zero (by rfl : a.key6.length = b.key6.length)).1 h
  simp [DS.key6] at this
  exact this.2.2.2.2.2
theorem compare_same_iff (a b : DS) : compareF a b = 0 ↔ a = b := by
  constructor
  · intro h
    by_cases hab : a = b
    · exact hab
    · exfalso
      have h1 := verdict_range3 (lexL a.key6 b.key6) 1 3 5
      have h2 := verdict_range3 (cmpI a.recv a.sender) 3 4 5
      have h3 := verdict_range3 (cmpI b.recv b.sender) 1 2 5
      have h4 := verdict_range3 (lexL a.key3 b.key3) 2 4 5
      unfold compareF at h
      rw [if_neg hab] at h
      split at h
      · omega
      · split at h
        · omega
        · split at h
          · omega
          · split at h
            · omega
            · split at h <;> omega
  · rintro rfl; simp [compareF]
def mirF (n : Int) : Int := if n = 0 then 0 else if n = 1 then 3 else if n = 2 then 4 else if n = 3 then 1 else if n = 4 then 2 else 5
theorem verdict_mir (n x y z : Int) (hz : mirF z = z) (hxy : mirF x = y) (hyx : mirF y = x) : verdict (-n) x y z = mirF (verdict n x y z) := by
  unfold verdict
  by_cases h : n < 0
  · rw [if_pos h, if_neg (by omega), if_pos (by omega), hxy]
  · by_cases h2 : 0 < n
    · rw [if_neg h, if_pos h2, if_pos (by omega), hyx]
    · rw [if_neg h, if_neg h2, if_neg (by omega), if_neg (by omega), hz]
theorem verdict_map (n x y z : Int) (x' y' z' : Int) (hx : mirF x = x') (hy : mirF y = y') (hz : mirF z = z') : mirF (verdict n x y z) = verdict n x' y' z' := by
  unfold verdict; split
  · exact hx
  · split
    · exact hy
    · exact hz
theorem compare_mirror (a b : DS) : compareF b a = mirF (compareF a b) := by
  by_cases hab : a = b
  · subst hab; simp [compareF, mirF]
  · have hba : ¬ b = a := fun e => hab e.symm
    by_cases hg : a.gm = b.gm
    · have e6 := lexL_swap a.key3 b.key3
      rcases Int.lt_trichotomy a.steps b.steps with hs | hs | hs
      · by_cases h1 : 1 < b.steps - a.steps
        · simp [compareF, hab, hba, hg, hs, h1, show ¬ b.steps < a.steps from by omega, mirF]
        · simp only [compareF, hab, hba, hg, hs, h1, show ¬ b.steps < a.steps from by omega, not_true_eq_false, if_false, if_true, false_and, and_false]
          rw [verdict_map _ _ _ _ 3 4 5 rfl rfl rfl]
      · simp only [compareF, hab, hba, hg, hs, not_true_eq_false, if_false, Int.lt_irrefl, false_and]
        rw [e6]
        exact verdict_mir _ _ _ _ rfl rfl rfl
      · by_cases h1 : 1 < a.steps - b.steps
        · simp [compareF, hab, hba, hg, hs, h1, show ¬ a.steps < b.steps from by omega, mirF]
        · simp only [compareF, hab, hba, hg, hs, h1, show ¬ a.steps < b.steps from by omega, not_true_eq_false, if_false, if_true, false_and, and_false]
          rw [verdict_map _ _ _ _ 1 2 5 rfl rfl rfl]
    · have hg' : ¬ b.gm = a.gm := fun e => hg e.symm
      simp only [compareF, hab, hba, hg, hg', not_false_eq_true, if_false, if_true]
      rw [lexL_swap a.key6 b.key6]
      exact verdict_mir _ _ _ _ rfl rfl rfl
theorem compare_quality {a b : DS} (hg : ¬ a.gm = b.gm) : compareF a b = if lessB a b = true then 1 else 3 := by
  have hab : ¬ a = b := fun e => hg (by rw [e])
  have h0 : lexL a.key6 b.key6 ≠ 0 := fun h => hg (key6_gm h)
  have hk : lexL a.key b.key = lexL a.key6 b.key6 := by
    unfold DS.key
    rw [lexL_append _ _ (by rfl : a.key6.length = b.key6.length), if_neg h0]
  simp only [compareF, hab, hg, not_false_eq_true, if_false, if_true, verdict, lessB, hk, decide_eq_true_eq]
  by_cases h : lexL a.key6 b.key6 < 0
  · rw [if_pos h, if_pos h]
  · rw [if_neg h, if_neg h, if_pos (by omega)]
theorem less_quality {a b a' : DS} (hg : ¬ a.gm = b.gm) (h : a'.key6 = a.key6) : lessB a' b = lessB a b := by
  have h0 : lexL a.key6 b.key6 ≠ 0 := fun h => hg (key6_gm h)
  unfold lessB DS.key
  rw [lexL_append _ _ (by rfl : a.key6.length = b.key6.length), lexL_append _ _ (by rfl : a'.key6.length = b.key6.length), h, if_neg h0, if_neg h0]
theorem bestTo_le (l : List DS) : ∀ k, k ≤ l.length → ∀ i, i < k → lessB (l.getD i .zero) (l.getD (bestTo l k).toNat .zero) = false
  | 0, _, i, hi => by omega
  | k + 1, hk, i, hi => by
    have ih := bestTo_le l k (by omega)
    have hr := bestTo_range l k
    by_cases h0 : bestTo l k < 0
    · rw [bestTo_neg h0]
      have : k = 0 := by omega
      obtain rfl : i = 0 := by omega
      subst this
      exact less_irrefl _
    · cases hl : lessB (l.getD k .zero) (l.getD (bestTo l k).toNat .zero) with
      | true =>
        rw [bestTo_less hl, Int.toNat_natCast]
        by_cases hik : i = k
        · subst hik; exact less_irrefl _
        · exact not_less_trans (ih i (by omega)) (less_asymm hl)
      | false =>
        rw [bestTo_stay (by omega) hl]
        by_cases hik : i = k
        · subst hik; exact hl
        · exact ih i (by omega)
theorem bestTo_first (l : List DS) : ∀ k, k ≤ l.length → ∀ i : Nat, (i : Int) < bestTo l k → lessB (l.getD (bestTo l k).toNat .zero) (l.getD i .zero) = true
  | 0, _, i, hi => by simp [bestTo] at hi; omega
  | k + 1, hk, i, hi => by
    have ih := bestTo_first l k (by omega)
    have hr := bestTo_range l k
    by_cases h0 : bestTo l k < 0
    · rw [bestTo_neg h0] at hi; omega
    · cases hl : lessB (l.getD k .zero) (l.getD (bestTo l k).toNat .zero) with
      | true =>
        rw [bestTo_less hl] at hi ⊢
        rw [Int.toNat_natCast]
        by_cases hib : (i : Int) < bestTo l k
        · exact less_trans hl (ih i hib)
        · have h2 := bestTo_le l k (by omega) i (by omega)
          by_cases e : l.getD i .zero = l.getD (bestTo l k).toNat .zero
          · rw [e]; exact hl
          · rcases less_total e with h3 | h3
            · rw [h3] at h2; cases h2
            · exact less_trans hl h3
      | false =>
        rw [bestTo_stay (by omega) hl] at hi ⊢
        exact ih i hi
end Go.Proofs.Ytfbmlpdomfchpaa
/- Plain laws of the state decision: numbers and lists alone. -/
namespace Go.Proofs.Ytfbmlpdomfchpaa
set_option linter.unusedVariables false

/-- What a port has heard. -/
structure PB where
  has : Bool
  set : DS
def PB.zero : PB := ⟨false, .zero⟩
instance : Inhabited PB := ⟨.zero⟩
/-- The best of all, of the first k ports. -/
def pbTo (l : List PB) : Nat → Int
  | 0 => -1
  | k + 1 => if (l.getD k .zero).has = true ∧ (pbTo l k < 0 ∨ lessB (l.getD k .zero).set (l.getD (pbTo l k).toNat .zero).set = true) then k else pbTo l k
def pbest (l : List PB) : Int := pbTo l l.length
theorem pbTo_range (l : List PB) : ∀ k, pbTo l k = -1 ∨ (0 ≤ pbTo l k ∧ pbTo l k < k)
  | 0 => .inl rfl
  | k + 1 => by
    have h := pbTo_range l k
    unfold pbTo
    split <;> omega
theorem pbTo_not {l : List PB} {k : Nat} (h : (l.getD k .zero).has = false) : pbTo l (k + 1) = pbTo l k := by rw [pbTo, if_neg (by rw [h]; simp)]
theorem pbTo_first {l : List PB} {k : Nat} (h : (l.getD k .zero).has = true) (h2 : pbTo l k < 0) : pbTo l (k + 1) = k := by rw [pbTo, if_pos ⟨h, .inl h2⟩]
theorem pbTo_less {l : List PB} {k : Nat} (h : (l.getD k .zero).has = true) (h2 : lessB (l.getD k .zero).set (l.getD (pbTo l k).toNat .zero).set = true) : pbTo l (k + 1) = k := by rw [pbTo, if_pos ⟨h, .inr h2⟩]
theorem pbTo_stay {l : List PB} {k : Nat} (h0 : 0 ≤ pbTo l k) (h2 : lessB (l.getD k .zero).set (l.getD (pbTo l k).toNat .zero).set = false) : pbTo l (k + 1) = pbTo l k := by
  rw [pbTo, if_neg]; rintro ⟨_, h3 | h3⟩
  · omega
  · rw [h2] at h3; cases h3
/-- The best of all has been heard, and no set that has been heard is less. -/
theorem pbTo_has (l : List PB) : ∀ k, 0 ≤ pbTo l k → (l.getD (pbTo l k).toNat .zero).has = true
  | 0, h => by simp [pbTo] at h
  | k + 1, h => by
    cases hk : (l.getD k .zero).has with
    | false => rw [pbTo_not hk] at h ⊢; exact pbTo_has l k h
    | true =>
      by_cases h0 : pbTo l k < 0
      · rw [pbTo_first hk h0, Int.toNat_natCast]; exact hk
      · cases hl : lessB (l.getD k .zero).set (l.getD (pbTo l k).toNat .zero).set with
        | true => rw [pbTo_less hk hl, Int.toNat_natCast]; exact hk
        | false => rw [pbTo_stay (by omega) hl] at h ⊢; exact pbTo_has l k h
theorem pbTo_none (l : List PB) : ∀ k, pbTo l k < 0 → ∀ i, i < k → (l.getD i .zero).has = false
  | 0, _, i, hi => by omega
  | k + 1, h, i, hi => by
    cases hk : (l.getD k .zero).has with
    | false =>
      rw [pbTo_not hk] at h
      by_cases e : i = k
      · rw [e]; exact hk
      · exact pbTo_none l k h i (by omega)
    | true =>
      exfalso
      by_cases h0 : pbTo l k < 0
      · rw [pbTo_first hk h0] at h; omega
      · cases hl : lessB (l.getD k .zero).set (l.getD (pbTo l k).toNat .zero).set with
        | true => rw [pbTo_less hk hl] at h; omega
        | false => rw [pbTo_stay (by omega) hl] at h; omega
theorem pbTo_least (l : List PB) : ∀ k, ∀ i, i < k → (l.getD i .zero).has = true → 0 ≤ pbTo l k ∧ lessB (l.getD i .zero).set (l.getD (pbTo l k).toNat .zero).set = false
  | 0, i, hi, _ => by omega
  | k + 1, i, hi, hh => by
    cases hk : (l.getD k .zero).has with
    | false =>
      rw [pbTo_not hk]
      have : i ≠ k := fun e => by rw [e, hk] at hh; cases hh
      exact pbTo_least l k i (by omega) hh
    | true =>
      by_cases h0 : pbTo l k < 0
      · rw [pbTo_first hk h0, Int.toNat_natCast]
        have h1 : i = k := by
          by_cases e : i = k
          · exact e
          · have := pbTo_none l k h0 i (by omega)
            rw [this] at hh; cases hh
        rw [h1]
        exact ⟨by omega, less_irrefl _⟩
      · cases hl : lessB (l.getD k .zero).set (l.getD (pbTo l k).toNat .zero).set with
        | true =>
          rw [pbTo_less hk hl, Int.toNat_natCast]
          refine ⟨by omega, ?_⟩
          by_cases e : i = k
          · rw [e]; exact less_irrefl _
          · exact not_less_trans (pbTo_least l k i (by omega) hh).2 (less_asymm hl)
        | false =>
          rw [pbTo_stay (by omega) hl]
          by_cases e : i = k
          · rw [e]; exact ⟨by omega, hl⟩
          · exact pbTo_least l k i (by omega) hh

def furtherF (d own e : DS) (port : Int) : DS := ⟨d.p1, d.cls, d.acc, d.var, d.p2, d.gm, if d.steps < 4611686018427387904 then d.steps + 1 else d.steps, own.sender, port, e.recv, port⟩
def codeF (own : DS) (l : List PB) (at_ : Int) (i : Nat) : Int :=
  let p := l.getD i .zero
  if own.cls ≤ 127 then (if p.has = false ∨ lessB own p.set = true then 1 else 4)
  else if at_ < 0 ∨ lessB own (l.getD at_.toNat .zero).set = true then 2
  else if (i : Int) = at_ then 6
  else if p.has = false ∨ lessB (furtherF (l.getD at_.toNat .zero).set own p.set (i + 1)) p.set = true then 3
  else 5
def codesF (own : DS) (l : List PB) : List Int := (List.range l.length).map (codeF own l (pbest l))
theorem codes_len (own : DS) (l : List PB) : (codesF own l).length = l.length := by simp [codesF]
theorem codes_at (own : DS) (l : List PB) (i : Nat) (h : i < l.length) : (codesF own l).getD i 0 = codeF own l (pbest l) i := by
  simp [codesF, List.getD_eq_getElem?_getD, h]
/-- The port that is a slave, if one is. -/
theorem code_six {own : DS} {l : List PB} {i : Nat} (hi : i < l.length) : codeF own l (pbest l) i = 6 ↔ (127 < own.cls ∧ pbest l = i ∧ lessB own (l.getD i .zero).set = false) := by
  unfold codeF
  by_cases h1 : own.cls ≤ 127
  · simp only [h1, if_true]
    constructor
    · intro h; split at h <;> omega
    · intro h; omega
  · simp only [h1, if_false]
    by_cases h2 : pbest l < 0 ∨ lessB own (l.getD (pbest l).toNat .zero).set = true
    · simp only [h2, if_true]
      constructor
      · intro h; omega
      · rintro ⟨_, h3, h4⟩
        exfalso
        rw [h3, Int.toNat_natCast, h4] at h2
        simp at h2
        omega
    · simp only [h2, if_false]
      by_cases h3 : (i : Int) = pbest l
      · simp only [h3, if_true, true_iff]
        have h4 : pbest l = i := h3.symm
        refine ⟨by omega, trivial, ?_⟩
        rw [h4, Int.toNat_natCast] at h2
        cases e : lessB own (l.getD i .zero).set with
        | false => rfl
        | true => exact absurd (.inr e) h2
      · simp only [h3, if_false]
        constructor
        · intro h; split at h <;> omega
        · intro h; omega
/-- The data set that a clock follows. -/
def masterF (own : DS) (l : List PB) : DS :=
  if 8 < l.length then .zero else if 127 < own.cls ∧ 0 ≤ pbest l ∧ lessB own (l.getD (pbest l).toNat .zero).set = false then (l.getD (pbest l).toNat .zero).set else own
theorem master_hit {own : DS} {l : List PB} {k : Nat} (hn : l.length ≤ 8) (hk : k < l.length) (h : codeF own l (pbest l) k = 6) : masterF own l = (l.getD k .zero).set := by
  obtain ⟨h1, h2, h3⟩ := (code_six hk).1 h
  unfold masterF
  rw [if_neg (by omega), h2, Int.toNat_natCast, if_pos ⟨h1, by omega, h3⟩]
theorem master_own {own : DS} {l : List PB} (hn : l.length ≤ 8) (h : ∀ j, j < l.length → codeF own l (pbest l) j ≠ 6) : masterF own l = own := by
  unfold masterF
  rw [if_neg (by omega), if_neg]
  rintro ⟨h1, h2, h3⟩
  have hr := pbTo_range l l.length
  have e : pbTo l l.length = pbest l := rfl
  rw [e] at hr
  refine h (pbest l).toNat (by omega) ((code_six (by omega)).2 ⟨h1, by omega, h3⟩)
end Go.Proofs.Ytfbmlpdomfchpaa
