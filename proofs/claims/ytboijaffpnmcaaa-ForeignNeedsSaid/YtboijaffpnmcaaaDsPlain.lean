/- Plain laws of data sets: numbers and lists alone. -/
namespace Go.Proofs.Ytboijaffpnmcaaa

/-- A data set: its eleven fields. -/
structure DS where
  p1 : Int
  cls : Int
  acc : Int
  var : Int
  p2 : Int
  gm : Int
  steps : Int
  sender : Int
  sport : Int
  recv : Int
  rport : Int
deriving DecidableEq

def DS.zero : DS := ⟨0, 0, 0, 0, 0, 0, 0, 0, 0, 0, 0⟩

def cmpI (a b : Int) : Int := if a < b then -1 else if b < a then 1 else 0

def lexL : List Int → List Int → Int
  | a :: as, b :: bs => if cmpI a b = 0 then lexL as bs else cmpI a b
  | _, _ => 0

def DS.key6 (d : DS) : List Int := [d.p1, d.cls, d.acc, d.var, d.p2, d.gm]
def DS.key5 (d : DS) : List Int := [d.steps, d.sender, d.sport, d.recv, d.rport]
def DS.key3 (d : DS) : List Int := [d.sender, d.rport, d.sport]
def DS.key (d : DS) : List Int := d.key6 ++ d.key5

theorem cmpI_zero {a b : Int} : cmpI a b = 0 ↔ a = b := by
  unfold cmpI; split
  · constructor <;> intro h <;> omega
  · split
    · constructor <;> intro h <;> omega
    · constructor <;> intro h <;> omega
theorem cmpI_neg {a b : Int} : cmpI a b < 0 ↔ a < b := by
  unfold cmpI; split
  · constructor <;> intro h <;> omega
  · split
    · constructor <;> intro h <;> omega
    · constructor <;> intro h <;> omega
theorem cmpI_pos {a b : Int} : 0 < cmpI a b ↔ b < a := by
  unfold cmpI; split
  · constructor <;> intro h <;> omega
  · split
    · constructor <;> intro h <;> omega
    · constructor <;> intro h <;> omega
theorem cmpI_range (a b : Int) : cmpI a b = -1 ∨ cmpI a b = 0 ∨ cmpI a b = 1 := by
  unfold cmpI; split
  · exact .inl rfl
  · split
    · exact .inr (.inr rfl)
    · exact .inr (.inl rfl)
theorem cmpI_swap (a b : Int) : cmpI b a = - cmpI a b := by
  unfold cmpI
  by_cases h : a < b
  · simp [h, show ¬ b < a from by omega]
  · by_cases h2 : b < a <;> simp [h, h2]
theorem cmpI_self (a : Int) : cmpI a a = 0 := cmpI_zero.2 rfl

theorem lexL_range : ∀ xs ys, lexL xs ys = -1 ∨ lexL xs ys = 0 ∨ lexL xs ys = 1
  | [], _ => by simp [lexL]
  | _ :: _, [] => by simp [lexL]
  | a :: as, b :: bs => by
    unfold lexL
    split
    · exact lexL_range as bs
    · exact cmpI_range a b
theorem lexL_swap : ∀ xs ys, lexL ys xs = - lexL xs ys
  | [], [] => by simp [lexL]
  | [], _ :: _ => by simp [lexL]
  | _ :: _, [] => by simp [lexL]
  | a :: as, b :: bs => by
    have e := cmpI_swap a b
    unfold lexL
    by_cases h : cmpI a b = 0
    · rw [if_pos h, if_pos (by omega), lexL_swap as bs]
    · rw [if_neg h, if_neg (by omega), e]
theorem lexL_zero : ∀ {xs ys}, xs.length = ys.length → (lexL xs ys = 0 ↔ xs = ys)
  | [], [], _ => by simp [lexL]
  | [], _ :: _, h => by simp at h
  | _ :: _, [], h => by simp at h
  | a :: as, b :: bs, h => by
    unfold lexL
    by_cases hc : cmpI a b = 0
    · rw [if_pos hc, lexL_zero (by simpa using h)]
      have := cmpI_zero.1 hc
      simp [this]
    · rw [if_neg hc]
      have : ¬ a = b := fun e => hc (cmpI_zero.2 e)
      simp [hc, this]
theorem lexL_self (xs) : lexL xs xs = 0 := (lexL_zero rfl).2 rfl
theorem lexL_trans : ∀ {xs ys zs}, xs.length = ys.length → ys.length = zs.length → lexL xs ys < 0 → lexL ys zs < 0 → lexL xs zs < 0
  | [], [], _, _, _, h, _ => by simp [lexL] at h
  | [], _ :: _, _, h, _, _, _ => by simp at h
  | _ :: _, [], _, h, _, _, _ => by simp at h
  | _ :: _, _ :: _, [], _, h, _, _ => by simp at h
  | a :: as, b :: bs, c :: cs, h1, h2, h3, h4 => by
    unfold lexL at h3 h4 ⊢
    by_cases hab : cmpI a b = 0
    · have := cmpI_zero.1 hab; subst this
      rw [if_pos hab] at h3
      by_cases hbc : cmpI a c = 0
      · rw [if_pos hbc] at h4 ⊢
        exact lexL_trans (by simpa using h1) (by simpa using h2) h3 h4
      · rw [if_neg hbc] at h4 ⊢; exact h4
    · rw [if_neg hab] at h3
      have h5 := cmpI_neg.1 h3
      by_cases hbc : cmpI b c = 0
      · have := cmpI_zero.1 hbc; subst this
        rw [if_neg hab]; exact h3
      · rw [if_neg hbc] at h4
        have h6 := cmpI_neg.1 h4
        have h7 : cmpI a c < 0 := cmpI_neg.2 (by omega)
        rw [if_neg (by omega)]; exact h7
theorem lexL_append : ∀ {xs ys : List Int} (us vs : List Int), xs.length = ys.length → lexL (xs ++ us) (ys ++ vs) = if lexL xs ys = 0 then lexL us vs else lexL xs ys
  | [], [], us, vs, _ => by simp [lexL]
  | [], _ :: _, _, _, h => by simp at h
  | _ :: _, [], _, _, h => by simp at h
  | a :: as, b :: bs, us, vs, h => by
    simp only [List.cons_append, lexL]
    by_cases hc : cmpI a b = 0
    · simp [hc, lexL_append us vs (show as.length = bs.length by simpa using h)]
    · simp [hc]

/-- Field number 'by' of a data set. -/
def fld (d : DS) (k : Int) : Int := d.key.getD (if 0 ≤ k ∧ k ≤ 9 then k.toNat else 10) 0
def listsF (a b : DS) : List Int → Int
  | [] => 0
  | f :: fs => if cmpI (fld a f) (fld b f) = 0 then listsF a b fs else cmpI (fld a f) (fld b f)
theorem listsF_eq (a b : DS) : ∀ fs, listsF a b fs = lexL (fs.map (fld a)) (fs.map (fld b))
  | [] => rfl
  | f :: fs => by simp only [listsF, List.map, lexL, listsF_eq a b fs]
def quality : List Int := [0, 1, 2, 3, 4, 5]
def paths : List Int := [7, 10, 8]
def allF : List Int := [0, 1, 2, 3, 4, 5, 6, 7, 8, 9, 10]
theorem lists_quality (a b : DS) : listsF a b quality = lexL a.key6 b.key6 := by rw [listsF_eq]; rfl
theorem lists_paths (a b : DS) : listsF a b paths = lexL a.key3 b.key3 := by rw [listsF_eq]; rfl
theorem lists_all (a b : DS) : listsF a b allF = lexL a.key b.key := by rw [listsF_eq]; rfl

def verdict (n less greater equal : Int) : Int := if n < 0 then less else if 0 < n then greater else equal
def lessB (a b : DS) : Bool := decide (lexL a.key b.key < 0)
def compareF (a b : DS) : Int :=
  if a = b then 0
  else if ¬ a.gm = b.gm then verdict (lexL a.key6 b.key6) 1 3 5
  else if b.steps < a.steps ∧ 1 < a.steps - b.steps then 3
  else if a.steps < b.steps ∧ 1 < b.steps - a.steps then 1
  else if b.steps < a.steps then verdict (cmpI a.recv a.sender) 3 4 5
  else if a.steps < b.steps then verdict (cmpI b.recv b.sender) 1 2 5
  else verdict (lexL a.key3 b.key3) 2 4 5

theorem key_inj {a b : DS} (h : a.key = b.key) : a = b := by
  cases a; cases b; simp [DS.key, DS.key6, DS.key5] at h; simp [h]
theorem key6_len (a : DS) : a.key6.length = 6 := rfl
theorem key_len (a : DS) : a.key.length = 11 := rfl
theorem less_irrefl (a : DS) : lessB a a = false := by simp [lessB, lexL_self]
theorem less_asymm {a b : DS} (h : lessB a b = true) : lessB b a = false := by
  simp only [lessB, decide_eq_true_eq, decide_eq_false_iff_not] at h ⊢
  have := lexL_swap a.key b.key; omega
theorem less_total {a b : DS} (h : a ≠ b) : lessB a b = true ∨ lessB b a = true := by
  simp only [lessB, decide_eq_true_eq]
  have h1 := lexL_swap a.key b.key
  have h2 : lexL a.key b.key ≠ 0 := fun e => h (key_inj ((lexL_zero (by rfl : a.key.length = b.key.length)).1 e))
  omega
theorem less_trans {a b c : DS} (h : lessB a b = true) (k : lessB b c = true) : lessB a c = true := by
  simp only [lessB, decide_eq_true_eq] at h k ⊢
  exact lexL_trans (by rfl : a.key.length = b.key.length) (by rfl) h k
theorem less_ne {a b : DS} (h : lessB a b = true) : a ≠ b := by
  rintro rfl; rw [less_irrefl] at h; cases h
/-- What is not less is not less than what is below it. -/
theorem not_less_trans {a b c : DS} (h : lessB a b = false) (k : lessB b c = false) : lessB a c = false := by
  cases e : lessB a c with
  | false => rfl
  | true =>
    by_cases hab : a = b
    · subst hab; rw [e] at k; cases k
    · rcases less_total hab with h1 | h1
      · rw [h1] at h; cases h
      · rw [less_trans h1 e] at k; cases k
theorem cmp_range (a b : DS) : 0 ≤ compareF a b ∧ compareF a b ≤ 5 := by
  unfold compareF verdict; repeat' split
  all_goals omega

/-- Best: the first least one, of the first k. -/
def bestTo (l : List DS) : Nat → Int
  | 0 => -1
  | k + 1 => if bestTo l k < 0 ∨ lessB (l.getD k .zero) (l.getD (bestTo l k).toNat .zero) = true then k else bestTo l k
def bestF (l : List DS) : Int := bestTo l l.length
theorem bestTo_range (l : List DS) : ∀ k, (k = 0 ∧ bestTo l k = -1) ∨ (0 < k ∧ 0 ≤ bestTo l k ∧ bestTo l k < k)
  | 0 => .inl ⟨rfl, rfl⟩
  | k + 1 => by
    refine .inr ⟨by omega, ?_⟩
    have h := bestTo_range l k
    unfold bestTo
    split <;> omega
theorem bestTo_neg {l : List DS} {k : Nat} (h : bestTo l k < 0) : bestTo l (k + 1) = k := by rw [bestTo, if_pos (.inl h)]
theorem bestTo_less {l : List DS} {k : Nat} (h : lessB (l.getD k .zero) (l.getD (bestTo l k).toNat .zero) = true) : bestTo l (k + 1) = k := by rw [bestTo, if_pos (.inr h)]
theorem bestTo_stay {l : List DS} {k : Nat} (h : 0 ≤ bestTo l k) (h2 : lessB (l.getD k .zero) (l.getD (bestTo l k).toNat .zero) = false) : bestTo l (k + 1) = bestTo l k := by
  rw [bestTo, if_neg]; rintro (h3 | h3)
  · omega
  · rw [h2] at h3; cases h3

end Go.Proofs.Ytboijaffpnmcaaa
