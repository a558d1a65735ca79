/- Plain laws of Compare and Best: the mirror, the quality, the first least one. -/
import Derived.Test.YthehhcaohhlccaaDsPlain
namespace Go.Proofs.Ythehhcaohhlccaa

theorem verdict_range3 (n x y z : Int) : verdict n x y z = x ∨ verdict n x y z = y ∨ verdict n x y z = z := by
  unfold verdict; split
  · exact .inl rfl
  · split
    · exact .inr (.inl rfl)
    · exact .inr (.inr rfl)
theorem key6_gm {a b : DS} (h : lexL a.key6 b.key6 = 0) : a.gm = b.gm := by
  have := (lexL_zero (by rfl : a.key6.length = b.key6.length)).1 h
  simp [DS.key6] at this
  exact this.2.2.2.2.2
theorem compare_same_iff (a b : DS) : compareF a b = 0 ↔ a = b := by
  constructor
  · intro h
    by_cases hab : a = b
    · exact hab
    · exfalso
      have h1 := verdict_range3 (lexL a.key6 b.key6) 1 3 5
      have h2 := verdict_range3 (cmpI a.recv a.sender) 3 4 5
      have h3 := verdict_range3 (cmpI b.recv b.sender) 1 2 5
      have h4 := verdict_range3 (lexL a.key3 b.key3) 2 4 5
      unfold compareF at h
      rw [if_neg hab] at h
      split at h
      · omega
      · split at h
        · omega
        · split at h
          · omega
          · split at h
            · omega
            · split at h <;> omega
  · rintro rfl; simp [compareF]
def mirF (n : Int) : Int := if n = 0 then 0 else if n = 1 then 3 else if n = 2 then 4 else if n = 3 then 1 else if n = 4 then 2 else 5
theorem verdict_mir (n x y z : Int) (hz : mirF z = z) (hxy : mirF x = y) (hyx : mirF y = x) : verdict (-n) x y z = mirF (verdict n x y z) := by
  unfold verdict
  by_cases h : n < 0
  · rw [if_pos h, if_neg (by omega), if_pos (by omega), hxy]
  · by_cases h2 : 0 < n
    · rw [if_neg h, if_pos h2, if_pos (by omega), hyx]
    · rw [if_neg h, if_neg h2, if_neg (by omega), if_neg (by omega), hz]
theorem verdict_map (n x y z : Int) (x' y' z' : Int) (hx : mirF x = x') (hy : mirF y = y') (hz : mirF z = z') : mirF (verdict n x y z) = verdict n x' y' z' := by
  unfold verdict; split
  · exact hx
  · split
    · exact hy
    · exact hz
theorem compare_mirror (a b : DS) : compareF b a = mirF (compareF a b) := by
  by_cases hab : a = b
  · subst hab; simp [compareF, mirF]
  · have hba : ¬ b = a := fun e => hab e.symm
    by_cases hg : a.gm = b.gm
    · have e6 := lexL_swap a.key3 b.key3
      rcases Int.lt_trichotomy a.steps b.steps with hs | hs | hs
      · by_cases h1 : 1 < b.steps - a.steps
        · simp [compareF, hab, hba, hg, hs, h1, show ¬ b.steps < a.steps from by omega, mirF]
        · simp only [compareF, hab, hba, hg, hs, h1, show ¬ b.steps < a.steps from by omega, not_true_eq_false, if_false, if_true, false_and, and_false]
          rw [verdict_map _ _ _ _ 3 4 5 rfl rfl rfl]
      · simp only [compareF, hab, hba, hg, hs, not_true_eq_false, if_false, Int.lt_irrefl, false_and]
        rw [e6]
        exact verdict_mir _ _ _ _ rfl rfl rfl
      · by_cases h1 : 1 < a.steps - b.steps
        · simp [compareF, hab, hba, hg, hs, h1, show ¬ a.steps < b.steps from by omega, mirF]
        · simp only [compareF, hab, hba, hg, hs, h1, show ¬ a.steps < b.steps from by omega, not_true_eq_false, if_false, if_true, false_and, and_false]
          rw [verdict_map _ _ _ _ 1 2 5 rfl rfl rfl]
    · have hg' : ¬ b.gm = a.gm := fun e => hg e.symm
      simp only [compareF, hab, hba, hg, hg', not_false_eq_true, if_false, if_true]
      rw [lexL_swap a.key6 b.key6]
      exact verdict_mir _ _ _ _ rfl rfl rfl
theorem compare_quality {a b : DS} (hg : ¬ a.gm = b.gm) : compareF a b = if lessB a b = true then 1 else 3 := by
  have hab : ¬ a = b := fun e => hg (by rw [e])
  have h0 : lexL a.key6 b.key6 ≠ 0 := fun h => hg (key6_gm h)
  have hk : lexL a.key b.key = lexL a.key6 b.key6 := by
    unfold DS.key
    rw [lexL_append _ _ (by rfl : a.key6.length = b.key6.length), if_neg h0]
  simp only [compareF, hab, hg, not_false_eq_true, if_false, if_true, verdict, lessB, hk, decide_eq_true_eq]
  by_cases h : lexL a.key6 b.key6 < 0
  · rw [if_pos h, if_pos h]
  · rw [if_neg h, if_neg h, if_pos (by omega)]
theorem less_quality {a b a' : DS} (hg : ¬ a.gm = b.gm) (h : a'.key6 = a.key6) : lessB a' b = lessB a b := by
  have h0 : lexL a.key6 b.key6 ≠ 0 := fun h => hg (key6_gm h)
  unfold lessB DS.key
  rw [lexL_append _ _ (by rfl : a.key6.length = b.key6.length), lexL_append _ _ (by rfl : a'.key6.length = b.key6.length), h, if_neg h0, if_neg h0]
theorem bestTo_le (l : List DS) : ∀ k, k ≤ l.length → ∀ i, i < k → lessB (l.getD i .zero) (l.getD (bestTo l k).toNat .zero) = false
  | 0, _, i, hi => by omega
  | k + 1, hk, i, hi => by
    have ih := bestTo_le l k (by omega)
    have hr := bestTo_range l k
    by_cases h0 : bestTo l k < 0
    · rw [bestTo_neg h0]
      have : k = 0 := by omega
      obtain rfl : i = 0 := by omega
      subst this
      exact less_irrefl _
    · cases hl : lessB (l.getD k .zero) (l.getD (bestTo l k).toNat .zero) with
      | true =>
        rw [bestTo_less hl, Int.toNat_natCast]
        by_cases hik : i = k
        · subst hik; exact less_irrefl _
        · exact not_less_trans (ih i (by omega)) (less_asymm hl)
      | false =>
        rw [bestTo_stay (by omega) hl]
        by_cases hik : i = k
        · subst hik; exact hl
        · exact ih i (by omega)
theorem bestTo_first (l : List DS) : ∀ k, k ≤ l.length → ∀ i : Nat, (i : Int) < bestTo l k → lessB (l.getD (bestTo l k).toNat .zero) (l.getD i .zero) = true
  | 0, _, i, hi => by simp [bestTo] at hi; omega
  | k + 1, hk, i, hi => by
    have ih := bestTo_first l k (by omega)
    have hr := bestTo_range l k
    by_cases h0 : bestTo l k < 0
    · rw [bestTo_neg h0] at hi; omega
    · cases hl : lessB (l.getD k .zero) (l.getD (bestTo l k).toNat .zero) with
      | true =>
        rw [bestTo_less hl] at hi ⊢
        rw [Int.toNat_natCast]
        by_cases hib : (i : Int) < bestTo l k
        · exact less_trans hl (ih i hib)
        · have h2 := bestTo_le l k (by omega) i (by omega)
          by_cases e : l.getD i .zero = l.getD (bestTo l k).toNat .zero
          · rw [e]; exact hl
          · rcases less_total e with h3 | h3
            · rw [h3] at h2; cases h2
            · exact less_trans hl h3
      | false =>
        rw [bestTo_stay (by omega) hl] at hi ⊢
        exact ih i hi
end Go.Proofs.Ythehhcaohhlccaa
