/- A call of an exchange, by its number. -/
import Derived.WalkKit
import Derived.LoopTactic
import Derived.Outline
import Derived.Lib.Hide
import Derived.Test.YtkjnhabflkaopaaE9
import Derived.Test.YtkjnhabflkaopaaE11
namespace Go.Proofs.Ytkjnhabflkaopaa
open Go.RowKit
set_option linter.unusedVariables false
set_option linter.unusedSimpArgs false

def callE (x : Ex) (o : Opx) : Int := if o.kind = 0 then syncE x o.p o.t else if o.kind = 1 then followE x o.p else if o.kind = 2 then reqE o.seq o.t else respE x o.p o.clock o.port
def callX (x : Ex) (o : Opx) : Ex := if o.kind = 0 then syncX x o.p o.t else if o.kind = 1 then followX x o.p else if o.kind = 2 then reqX x o.seq o.t else respX x o.p o.clock o.port
set_option maxRecDepth 100000 in
set_option maxHeartbeats 4000000 in
theorem call_any (x : Ex) (b : Nat) (o : Opx) (wf : (Lit.int .i64 o.p.kind).wf = true) (w : World) (hx : ExAt w b x) : Calls Try.prog 33 #[.pointer (some ⟨b, 0, none⟩), o.v] w fun e w' => e = .returned (.int .i64 (callE x o)) ∧ ExAt w' b (callX x o) ∧ Touch b w w' := by
  have hS := fun w h => sync_any x b o.p wf o.t w h
  have hF := fun w h => follow_any x b o.p wf w h
  have hR := fun w h => request_any x b o.seq o.t w h
  have hP := fun w h => resp_any x b o.p wf o.clock o.port w h
  obtain ⟨r, hr⟩ : ∃ r, callE x o = r := ⟨_, rfl⟩
  obtain ⟨y, hy⟩ : ∃ y, callX x o = y := ⟨_, rfl⟩
  rw [hr, hy]
  have HR := Lib.hid hr
  have HY := Lib.hid hy
  have HX := Lib.hid hx
  have HSy := Lib.hid hS
  have HFo := Lib.hid hF
  have HRe := Lib.hid hR
  have HRp := Lib.hid hP
  clear hr hy hx hS hF hR hP wf
  go_enter Try.func33, Try.ntmps33
  refine seq_opaque ?_
  intro T HT
  go_wp2_with fail
  generalize hW : w.alloc _ = w0
  have ho : OpIn w0 w.heap.size 0 o := by rw [← hW]; exact OpIn.of (heap_alloc_new w _)
  have hb : Below w.heap.size w w0 := by rw [← hW]; exact (Below.refl _ _).alloc (Nat.le_refl _) _
  rw [HT.out]
  have HB := Lib.hid hb
  have HX0 := Lib.hid (HX.out.below hb)
  clear hW HT hb
  have c0 := ho.kind
  have c1 := ho.t
  have c2 := ho.seq
  have c24 := ho.clock
  have c25 := ho.port
  simp only [Nat.zero_add] at c0 c1 c2 c24 c25
  have HO := Lib.hid ho.p
  clear ho
  by_cases k0 : o.kind = 0
  · have b0 : (o.kind == 0) = true := by simpa using k0
    have e1 : r = syncE x o.p o.t := by rw [← HR.out]; simp [callE, k0]
    have e2 : y = syncX x o.p o.t := by rw [← HY.out]; simp [callX, k0]
    subst e1 e2
    clear k0
    go_wp2_with (refine load_ptp_at HO.out _ (by rfl) rfl rfl ?_)
    refine (HSy.out _ HX0.out).mono ?_
    rintro e w1 ⟨rfl, hx, ht⟩
    have HX1 := Lib.hid hx
    have HT1 := Lib.hid ((Touch.of HB.out).trans ht)
    clear hx ht c0 c1 c2 c24 c25
    go_wp2_with fail
    go_ret
    exact ⟨rfl, HX1.out, HT1.out⟩
  have b0 : (o.kind == 0) = false := by simpa using k0
  by_cases k1 : o.kind = 1
  · have b1 : (o.kind == 1) = true := by simpa using k1
    have e1 : r = followE x o.p := by rw [← HR.out]; simp [callE, k1]
    have e2 : y = followX x o.p := by rw [← HY.out]; simp [callX, k1]
    subst e1 e2
    clear k0 k1
    go_wp2_with (refine load_ptp_at HO.out _ (by rfl) rfl rfl ?_)
    refine (HFo.out _ HX0.out).mono ?_
    rintro e w1 ⟨rfl, hx, ht⟩
    have HX1 := Lib.hid hx
    have HT1 := Lib.hid ((Touch.of HB.out).trans ht)
    clear hx ht c0 c1 c2 c24 c25
    go_wp2_with fail
    go_ret
    exact ⟨rfl, HX1.out, HT1.out⟩
  have b1 : (o.kind == 1) = false := by simpa using k1
  by_cases k2 : o.kind = 2
  · have b2 : (o.kind == 2) = true := by simpa using k2
    have e1 : r = reqE o.seq o.t := by rw [← HR.out]; simp [callE, k2]
    have e2 : y = reqX x o.seq o.t := by rw [← HY.out]; simp [callX, k2]
    subst e1 e2
    clear k0 k1 k2
    go_wp2_with fail
    refine (HRe.out _ HX0.out).mono ?_
    rintro e w1 ⟨rfl, hx, ht⟩
    have HX1 := Lib.hid hx
    have HT1 := Lib.hid ((Touch.of HB.out).trans ht)
    clear hx ht c0 c1 c2 c24 c25
    go_wp2_with fail
    go_ret
    exact ⟨rfl, HX1.out, HT1.out⟩
  have b2 : (o.kind == 2) = false := by simpa using k2
  have e1 : r = respE x o.p o.clock o.port := by rw [← HR.out]; simp [callE, k0, k1, k2]
  have e2 : y = respX x o.p o.clock o.port := by rw [← HY.out]; simp [callX, k0, k1, k2]
  subst e1 e2
  clear k0 k1 k2
  go_wp2_with (refine load_ptp_at HO.out _ (by rfl) rfl rfl ?_)
  refine (HRp.out _ HX0.out).mono ?_
  rintro e w1 ⟨rfl, hx, ht⟩
  have HX1 := Lib.hid hx
  have HT1 := Lib.hid ((Touch.of HB.out).trans ht)
  clear hx ht c0 c1 c2 c24 c25
  go_wp2_with fail
  go_ret
  exact ⟨rfl, HX1.out, HT1.out⟩
/-- What every run of calls keeps: s: a Sync was taken; a: a request. -/
structure Inv (x : Ex) (s a : Bool) : Prop where
  delay : 0 ≤ x.delay
  complete : x.complete = true → s = true
  pending : x.pending = true → a = true
  known : x.known = true → s = true ∧ a = true
theorem Inv.start (d : Int) : Inv (.new d) false false := ⟨by simp [Ex.new], by simp [Ex.new], by simp [Ex.new], by simp [Ex.new]⟩
def synB (o : Opx) : Bool := (o.kind == 0 && !twoB o.p.flags) || o.kind == 1
theorem call_fail {x : Ex} {o : Opx} (h : callE x o ≠ 0) : callX x o = x := by
  unfold callE at h
  unfold callX
  by_cases k0 : o.kind = 0
  · rw [if_pos k0] at h ⊢
    unfold syncE at h; unfold syncX
    by_cases r : refuseF x o.p 0 = 0
    · simp only [r] at h ⊢
      cases i : instB o.t
      · simp
      · cases tw : twoB o.p.flags
        · cases ab : atB o.p.sec o.p.nano
          · simp
          · simp [i, tw, ab] at h
        · simp [i, tw] at h
    · simp [r]
  rw [if_neg k0] at h ⊢
  by_cases k1 : o.kind = 1
  · rw [if_pos k1] at h ⊢
    unfold followE at h; unfold followX
    by_cases r : refuseF x o.p 8 = 0
    · simp only [r] at h ⊢
      cases i : noneB x o.p
      · cases ab : atB o.p.sec o.p.nano
        · simp
        · simp [i, ab] at h
      · simp
    · simp [r]
  rw [if_neg k1] at h ⊢
  by_cases k2 : o.kind = 2
  · rw [if_pos k2] at h ⊢
    unfold reqE at h; unfold reqX
    by_cases c : (o.seq < 0 ∨ 65535 < o.seq) ∨ instB o.t = false
    · rw [if_pos c]
    · rw [if_neg c] at h; exact absurd rfl h
  rw [if_neg k2] at h ⊢
  unfold respE at h; unfold respX
  by_cases r : refuseF x o.p 9 = 0
  · simp only [r] at h ⊢
    cases i : nopeB x o.p o.clock o.port
    · cases ab : atB o.p.sec o.p.nano
      · simp
      · simp [i, ab] at h
    · simp
  · simp [r]
/-- A Sync, a FollowUp and a request change neither the delay nor whether it is known. -/
theorem call_keeps (x : Ex) (o : Opx) (h : o.kind = 0 ∨ o.kind = 1 ∨ o.kind = 2) : (callX x o).known = x.known ∧ (callX x o).delay = x.delay := by
  unfold callX
  rcases h with h | h | h <;> simp only [h, if_true, if_false, show ¬ (1 : Int) = 0 from by decide, show ¬ (2 : Int) = 0 from by decide, show ¬ (2 : Int) = 1 from by decide]
  · unfold syncX; repeat' split
    all_goals exact ⟨rfl, rfl⟩
  · unfold followX; repeat' split
    all_goals exact ⟨rfl, rfl⟩
  · unfold reqX; repeat' split
    all_goals exact ⟨rfl, rfl⟩
theorem call_inv {x : Ex} {o : Opx} {s a : Bool} (h : Inv x s a) (he : callE x o = 0) : Inv (callX x o) (s || synB o) (a || o.kind == 2) := by
  unfold callE at he
  unfold callX
  by_cases k0 : o.kind = 0
  · rw [if_pos k0] at he ⊢
    unfold syncE at he; unfold syncX
    by_cases r : refuseF x o.p 0 = 0
    · simp only [r] at he ⊢
      cases i : instB o.t
      · simp [i] at he
      · cases tw : twoB o.p.flags
        · cases ab : atB o.p.sec o.p.nano
          · simp [i, tw, ab] at he
          · exact ⟨h.delay, fun _ => by simp [synB, k0, tw], fun hp => by simp [h.pending hp], fun hk => by simp [h.known hk]⟩
        · exact ⟨h.delay, fun hc => by simp [h.complete hc], fun hp => by simp [h.pending hp], fun hk => by simp [h.known hk]⟩
    · simp [r] at he
  rw [if_neg k0] at he ⊢
  by_cases k1 : o.kind = 1
  · rw [if_pos k1] at he ⊢
    unfold followE at he; unfold followX
    by_cases r : refuseF x o.p 8 = 0
    · simp only [r] at he ⊢
      cases i : noneB x o.p
      · cases ab : atB o.p.sec o.p.nano
        · simp [i, ab] at he
        · exact ⟨h.delay, fun _ => by simp [synB, k1], fun hp => by simp [h.pending hp], fun hk => by simp [h.known hk]⟩
      · simp [i] at he
    · simp [r] at he
  rw [if_neg k1] at he ⊢
  by_cases k2 : o.kind = 2
  · rw [if_pos k2] at he ⊢
    unfold reqE at he; unfold reqX
    by_cases c : (o.seq < 0 ∨ 65535 < o.seq) ∨ instB o.t = false
    · rw [if_pos c] at he; cases he
    · rw [if_neg c]
      exact ⟨h.delay, fun hc => by simp [h.complete hc], fun _ => by simp [k2], fun hk => by simp [h.known hk]⟩
  rw [if_neg k2] at he ⊢
  unfold respE at he; unfold respX
  by_cases r : refuseF x o.p 9 = 0
  · simp only [r] at he ⊢
    cases i : nopeB x o.p o.clock o.port
    · have hp : x.pending = true := by
        cases hpp : x.pending
        · simp [nopeB, hpp] at i
        · rfl
      cases ab : atB o.p.sec o.p.nano
      · simp [i, ab] at he
      · cases hc : x.complete
        · exact ⟨h.delay, fun hc' => by simp [hc] at hc', fun hp' => by simp at hp', fun hk => by simp [h.known hk]⟩
        · exact ⟨by simp; omega, fun _ => by simp [h.complete hc], fun hp' => by simp at hp', fun _ => by simp [h.complete hc, h.pending hp]⟩
    · simp [i] at he
  · simp [r] at he
end Go.Proofs.Ytkjnhabflkaopaa
