/- What E2eSteps needs: plain facts on flags, and on an exchange of one step and one of two. -/
import Derived.WalkKit
import Derived.Lib.Hide
import Derived.Test.YtkjnhabflkaopaaE10
namespace Go.Proofs.Ytkjnhabflkaopaa
open Go.RowKit
set_option linter.unusedVariables false
set_option linter.unusedSimpArgs false

theorem ofInt_wrap64 (b : BitVec 64) : BitVec.ofInt 64 (wrap64 (b.toNat : Int)) = b := by
  apply BitVec.eq_of_toNat_eq
  rw [BitVec.toNat_ofInt]
  have := b.isLt
  unfold wrap64
  omega
theorem bits_or (x y : Int) : bits .or .i64 x y = wrap64 ((BitVec.ofInt 64 x ||| BitVec.ofInt 64 y).toNat : Int) := by
  show IntKind.i64.wrap _ = _; rw [IntWalk.i64_left]; rfl
theorem bits_and (x y : Int) : bits .and .i64 x y = wrap64 ((BitVec.ofInt 64 x &&& BitVec.ofInt 64 y).toNat : Int) := by
  show IntKind.i64.wrap _ = _; rw [IntWalk.i64_left]; rfl
theorem bits_not (x y : Int) : bits .andNot .i64 x y = wrap64 ((BitVec.ofInt 64 x &&& ~~~ BitVec.ofInt 64 y).toNat : Int) := by
  show IntKind.i64.wrap _ = _; rw [IntWalk.i64_left]; rfl
theorem or_and_self (a b : BitVec 64) : (a ||| b) &&& b = b := by
  apply BitVec.eq_of_getLsbD_eq
  intro i hi
  simp only [BitVec.getLsbD_and, BitVec.getLsbD_or]
  cases a.getLsbD i <;> cases b.getLsbD i <;> rfl
theorem not_and_self (a b : BitVec 64) : (a &&& ~~~ b) &&& b = 0#64 := by
  apply BitVec.eq_of_getLsbD_eq
  intro i hi
  simp only [BitVec.getLsbD_and, BitVec.getLsbD_not, hi, BitVec.getLsbD_zero, decide_true, Bool.true_and]
  cases a.getLsbD i <;> cases b.getLsbD i <;> rfl
theorem two_or (f : Int) : twoB (bits .or .i64 f 512) = true := by
  unfold twoB
  rw [bits_and, bits_or, ofInt_wrap64, or_and_self]
  decide +kernel
theorem two_not (f : Int) : twoB (bits .andNot .i64 f 512) = false := by
  unfold twoB
  rw [bits_and, bits_not, ofInt_wrap64, not_and_self]
  decide +kernel
theorem not_range (f : Int) (h0 : 0 ≤ f) (h1 : f ≤ 65535) : 0 ≤ bits .andNot .i64 f 512 ∧ bits .andNot .i64 f 512 ≤ 65535 := by
  rw [bits_not, BitVec.toNat_and]
  have h : (BitVec.ofInt 64 f).toNat &&& (~~~ BitVec.ofInt 64 512).toNat ≤ (BitVec.ofInt 64 f).toNat := Nat.and_le_left
  have h2 : (BitVec.ofInt 64 f).toNat ≤ 65535 := by rw [BitVec.toNat_ofInt]; omega
  unfold wrap64
  omega
theorem checkF_zero {p : Ptp} (h : checkF p = 0) : sizeF p.kind ≠ 0 ∧ inB p = true ∧ formB p = false := by
  unfold checkF at h
  by_cases h1 : sizeF p.kind = 0
  · rw [if_pos h1] at h; cases h
  rw [if_neg h1] at h
  cases h2 : inB p
  · rw [h2] at h; simp at h
  rw [h2] at h
  cases h3 : formB p
  · exact ⟨h1, rfl, rfl⟩
  · rw [h3] at h; simp at h
theorem refuse_zero {x : Ex} {p : Ptp} {k : Int} (h : refuseF x p k = 0) : checkF p = 0 ∧ p.kind = k ∧ p.domain = x.dom := by
  unfold refuseF at h
  by_cases h1 : checkF p ≠ 0
  · rw [if_pos h1] at h; cases h
  rw [if_neg h1] at h
  by_cases h2 : p.kind ≠ k
  · rw [if_pos h2] at h; cases h
  rw [if_neg h2] at h
  by_cases h3 : p.domain ≠ x.dom
  · rw [if_pos h3] at h; cases h
  exact ⟨by simpa using h1, by simpa using h2, by simpa using h3⟩
/-- The sum of both, in one step. -/
def oneP (p q : Ptp) : Ptp := { p with flags := bits .andNot .i64 p.flags 512, sec := q.sec, nano := q.nano, corr := sumF p.corr q.corr }
theorem check_one {p q : Ptp} (hp : checkF p = 0) (hq : checkF q = 0) : checkF (oneP p q) = 0 := by
  obtain ⟨p1, p2, p3⟩ := checkF_zero hp
  obtain ⟨q1, q2, q3⟩ := checkF_zero hq
  have hs : stampB q.sec q.nano = true := by
    unfold inB at q2
    simp only [Bool.and_eq_true] at q2
    exact q2.2.2.2.2.2.1
  have hi : inB (oneP p q) = true := by
    unfold inB at p2 ⊢
    simp only [Bool.and_eq_true] at p2 ⊢
    obtain ⟨a0, a1, a2, a3, a4, a5, a6⟩ := p2
    have hf := not_range p.flags (by simp [wi] at a1; omega) (by simp [wi] at a1; omega)
    refine ⟨a0, ?_, a2, a3, a4, hs, a6⟩
    simp only [oneP, wi, Bool.and_eq_true]
    exact ⟨decide_eq_true hf.1, decide_eq_true hf.2⟩
  have hk : (oneP p q).kind = p.kind := rfl
  have hfm : formB (oneP p q) = formB p := rfl
  simp [checkF, hk, p1, hi, hfm, p3]
theorem sync_zero {x : Ex} {p : Ptp} {t : Int} (h : syncE x p t = 0) (h2 : twoB p.flags = true) : refuseF x p 0 = 0 ∧ instB t = true ∧ syncX x p t = { x with waits := true, sync := p, came := t } := by
  unfold syncE at h
  by_cases hr : refuseF x p 0 = 0
  · simp only [hr] at h
    cases hi : instB t
    · simp [hi] at h
    · exact ⟨hr, rfl, by simp [syncX, hr, hi, h2]⟩
  · simp [hr] at h
theorem follow_zero {x : Ex} {p : Ptp} (h : followE x p = 0) : refuseF x p 8 = 0 ∧ atB p.sec p.nano = true ∧ followX x p = { x with waits := false, complete := true, gap := wrap64 (wrap64 (x.came - atF p.sec p.nano) - nanoF (sumF x.sync.corr p.corr)) } := by
  unfold followE at h
  by_cases hr : refuseF x p 8 = 0
  · simp only [hr] at h
    cases hn : noneB x p
    · cases hb : atB p.sec p.nano
      · simp [hn, hb] at h
      · exact ⟨hr, rfl, by simp [followX, hr, hn, hb]⟩
    · simp [hn] at h
  · simp [hr] at h
/-- One step takes what two steps have taken. -/
theorem sync_of_two {d t : Int} {p q : Ptp} (h2 : twoB p.flags = true) (h : syncE (.new d) p t = 0) (hq : followE (syncX (.new d) p t) q = 0) :
    syncE (.new d) (oneP p q) t = 0 ∧ (syncX (.new d) (oneP p q) t).gap = (followX (syncX (.new d) p t) q).gap ∧ (syncX (.new d) (oneP p q) t).dom = d ∧ (followX (syncX (.new d) p t) q).dom = d ∧
      (syncX (.new d) (oneP p q) t).complete = true ∧ (followX (syncX (.new d) p t) q).complete = true := by
  obtain ⟨hr, hi, hx⟩ := sync_zero h h2
  obtain ⟨fr, fa, fx⟩ := follow_zero hq
  obtain ⟨c1, k1, d1⟩ := refuse_zero hr
  obtain ⟨c2, k2, d2⟩ := refuse_zero fr
  have ho : refuseF (.new d) (oneP p q) 0 = 0 := refuse_ok (check_one c1 c2) k1 d1
  have hf : twoB (oneP p q).flags = false := two_not _
  have ha : atB (oneP p q).sec (oneP p q).nano = true := fa
  have e1 : syncX (.new d) (oneP p q) t = { (Ex.new d) with waits := false, complete := true, gap := wrap64 (wrap64 (t - atF q.sec q.nano) - nanoF (sumF p.corr q.corr)) } := by
    have hw : atF (oneP p q).sec (oneP p q).nano = atF q.sec q.nano := rfl
    have hc : (oneP p q).corr = sumF p.corr q.corr := rfl
    simp [syncX, ho, hi, hf, ha, hw, hc]
  refine ⟨by simp [syncE, ho, hi, hf, ha], ?_, ?_, ?_, ?_, ?_⟩
  · rw [e1, fx, hx]
  · rw [e1]; rfl
  · rw [fx, hx]; rfl
  · rw [e1]
  · rw [fx]
end Go.Proofs.Ytkjnhabflkaopaa
