/- What exchanges answer to the messages of the statements: plain facts. -/
import Derived.WalkKit
import Derived.Lib.Hide
import Derived.Test.YtkjnhabflkaopaaE6
import Derived.Test.YtkjnhabflkaopaaE7
namespace Go.Proofs.Ytkjnhabflkaopaa
open Go.RowKit
set_option linter.unusedVariables false
set_option linter.unusedSimpArgs false

theorem refuse_ok {x : Ex} {p : Ptp} {k : Int} (hc : checkF p = 0) (hk : p.kind = k) (hd : p.domain = x.dom) : refuseF x p k = 0 := by simp [refuseF, hc, hk, hd]
/-- A message of the statements, with flags and in a domain. -/
def msgD (kind seq at_ corr flags dom : Int) : Ptp := { msgF kind seq at_ corr with flags := flags, domain := dom }
theorem msgF_D (kind seq at_ corr : Int) : msgF kind seq at_ corr = msgD kind seq at_ corr 0 0 := rfl
theorem stamp_msg (t : Int) (h0 : -1125899906842624 ≤ t) (h1 : t ≤ 1125899906842624) : stampB ((3900000000000000000 + t) / 1000000000 - 2208988800) ((3900000000000000000 + t) % 1000000000) = true := by
  simp only [stampB, wi, Bool.and_eq_true, decide_eq_true_eq]; omega
theorem check_msg (kind seq at_ corr flags dom : Int) (hk : kind = 0 ∨ kind = 8 ∨ kind = 9) (hs : 0 ≤ seq ∧ seq ≤ 65535) (ha : -1125899906842624 ≤ at_ ∧ at_ ≤ 1125899906842624) (hf : 0 ≤ flags ∧ flags ≤ 65535) (hd : 0 ≤ dom ∧ dom ≤ 255) :
    checkF (msgD kind seq at_ corr flags dom) = 0 := by
  have h1 : sizeF kind ≠ 0 := by rcases hk with rfl | rfl | rfl <;> decide
  have h2 : inB (msgD kind seq at_ corr flags dom) = true := by
    simp only [inB, msgD, msgF, stamp_msg at_ ha.1 ha.2, Ann.zero]
    rcases hk with rfl | rfl | rfl <;> simp [wi, hs.1, hs.2, hf.1, hf.2, hd.1, hd.2]
  have h3 : formB (msgD kind seq at_ corr flags dom) = false := by
    rcases hk with rfl | rfl | rfl <;> simp [formB, msgD, msgF, reqB]
  have e : (msgD kind seq at_ corr flags dom).kind = kind := rfl
  simp [checkF, e, h1, h2, h3]
theorem at_msg (t : Int) (h0 : -1125899906842624 ≤ t) (h1 : t ≤ 1125899906842624) : atF ((3900000000000000000 + t) / 1000000000 - 2208988800) ((3900000000000000000 + t) % 1000000000) = t ∧ atB ((3900000000000000000 + t) / 1000000000 - 2208988800) ((3900000000000000000 + t) % 1000000000) = true := by
  have hb : timeB ((3900000000000000000 + t) / 1000000000 - 2208988800) ((3900000000000000000 + t) % 1000000000) = true := by
    simp only [timeB, stamp_msg t h0 h1, Bool.true_and, Bool.and_eq_true, decide_eq_true_eq]; omega
  have e : atF ((3900000000000000000 + t) / 1000000000 - 2208988800) ((3900000000000000000 + t) % 1000000000) = t := by
    unfold atF timeF; rw [if_pos hb]; omega
  refine ⟨e, ?_⟩
  unfold atB
  rw [hb, e]
  simp only [instB, Bool.true_and, Bool.and_eq_true, decide_eq_true_eq]; omega
theorem atF_msg (kind seq t corr flags dom : Int) (h0 : -1125899906842624 ≤ t) (h1 : t ≤ 1125899906842624) : atF (msgD kind seq t corr flags dom).sec (msgD kind seq t corr flags dom).nano = t := (at_msg t h0 h1).1
theorem atB_msg (kind seq t corr flags dom : Int) (h0 : -1125899906842624 ≤ t) (h1 : t ≤ 1125899906842624) : atB (msgD kind seq t corr flags dom).sec (msgD kind seq t corr flags dom).nano = true := (at_msg t h0 h1).2
theorem two_512 : twoB 512 = true := by decide +kernel
theorem two_0 : twoB 0 = false := by decide +kernel
/-- A sync message in two steps, of this kind, waits. -/
theorem sync_two (x : Ex) (seq at_ corr dom t : Int) (hs : 0 ≤ seq ∧ seq ≤ 65535) (ha : -1125899906842624 ≤ at_ ∧ at_ ≤ 1125899906842624) (hd : 0 ≤ dom ∧ dom ≤ 255) (hx : x.dom = dom) (ht : instB t = true) :
    syncE x (msgD 0 seq at_ corr 512 dom) t = 0 ∧ syncX x (msgD 0 seq at_ corr 512 dom) t = { x with waits := true, sync := msgD 0 seq at_ corr 512 dom, came := t } := by
  have hr := refuse_ok (x := x) (k := 0) (check_msg 0 seq at_ corr 512 dom (.inl rfl) hs ha (by decide) hd) rfl hx.symm
  have hf : (msgD 0 seq at_ corr 512 dom).flags = 512 := rfl
  simp [syncE, syncX, hr, ht, hf, two_512]
/-- One in one step is taken. -/
theorem sync_one (x : Ex) (seq at_ corr dom t : Int) (hs : 0 ≤ seq ∧ seq ≤ 65535) (ha : -1125899906842624 ≤ at_ ∧ at_ ≤ 1125899906842624) (hd : 0 ≤ dom ∧ dom ≤ 255) (hx : x.dom = dom) (ht : instB t = true) :
    syncE x (msgD 0 seq at_ corr 0 dom) t = 0 ∧ syncX x (msgD 0 seq at_ corr 0 dom) t = { x with waits := false, complete := true, gap := wrap64 (wrap64 (t - at_) - nanoF (corr * 65536)) } := by
  have hr := refuse_ok (x := x) (k := 0) (check_msg 0 seq at_ corr 0 dom (.inl rfl) hs ha (by decide) hd) rfl hx.symm
  have hf : (msgD 0 seq at_ corr 0 dom).flags = 0 := rfl
  have hc : (msgD 0 seq at_ corr 0 dom).corr = corr * 65536 := rfl
  simp [syncE, syncX, hr, ht, hf, two_0, atF_msg 0 seq at_ corr 0 dom ha.1 ha.2, atB_msg 0 seq at_ corr 0 dom ha.1 ha.2, hc]
theorem follow_hit (x : Ex) (seq at_ corr dom : Int) (hs : 0 ≤ seq ∧ seq ≤ 65535) (ha : -1125899906842624 ≤ at_ ∧ at_ ≤ 1125899906842624) (hd : 0 ≤ dom ∧ dom ≤ 255) (hx : x.dom = dom) (hw : x.waits = true) (h1 : x.sync.clock = 5) (h2 : x.sync.port = 1) (h3 : x.sync.seq = seq) :
    followE x (msgD 8 seq at_ corr 0 dom) = 0 ∧ followX x (msgD 8 seq at_ corr 0 dom) = { x with waits := false, complete := true, gap := wrap64 (wrap64 (x.came - at_) - nanoF (sumF x.sync.corr (corr * 65536))) } := by
  have hr := refuse_ok (x := x) (k := 8) (check_msg 8 seq at_ corr 0 dom (.inr (.inl rfl)) hs ha (by decide) hd) rfl hx.symm
  have hn : noneB x (msgD 8 seq at_ corr 0 dom) = false := by simp [noneB, hw, h1, h2, h3, msgD, msgF]
  have hc : (msgD 8 seq at_ corr 0 dom).corr = corr * 65536 := rfl
  simp [followE, followX, hr, hn, atF_msg 8 seq at_ corr 0 dom ha.1 ha.2, atB_msg 8 seq at_ corr 0 dom ha.1 ha.2, hc]
theorem follow_miss (x : Ex) (seq at_ corr dom : Int) (hs : 0 ≤ seq ∧ seq ≤ 65535) (ha : -1125899906842624 ≤ at_ ∧ at_ ≤ 1125899906842624) (hd : 0 ≤ dom ∧ dom ≤ 255) (hx : x.dom = dom) (hw : x.waits = false ∨ x.sync.seq ≠ seq) :
    followE x (msgD 8 seq at_ corr 0 dom) = 11 ∧ followX x (msgD 8 seq at_ corr 0 dom) = x := by
  have hr := refuse_ok (x := x) (k := 8) (check_msg 8 seq at_ corr 0 dom (.inr (.inl rfl)) hs ha (by decide) hd) rfl hx.symm
  have hn : noneB x (msgD 8 seq at_ corr 0 dom) = true := by
    rcases hw with h | h <;> simp [noneB, h, msgD, msgF]
  simp [followE, followX, hr, hn]
theorem req_ok (x : Ex) (s t : Int) (hs : 0 ≤ s ∧ s ≤ 65535) (ht : instB t = true) : reqE s t = 0 ∧ reqX x s t = { x with pending := true, seq := s, t3 := t } := by
  have h : ¬ ((s < 0 ∨ 65535 < s) ∨ instB t = false) := by rw [ht]; simp; omega
  simp [reqE, reqX, h]
theorem resp_hit (x : Ex) (seq at_ corr dom : Int) (hs : 0 ≤ seq ∧ seq ≤ 65535) (ha : -1125899906842624 ≤ at_ ∧ at_ ≤ 1125899906842624) (hd : 0 ≤ dom ∧ dom ≤ 255) (hx : x.dom = dom) (hw : x.pending = true) (h3 : x.seq = seq) (hc : x.complete = true) :
    respE x (msgD 9 seq at_ corr 0 dom) 9 1 = 0 ∧ respX x (msgD 9 seq at_ corr 0 dom) 9 1 = { x with pending := false, known := true, delay := max 0 (meanF x at_ (corr * 65536)) } := by
  have hr := refuse_ok (x := x) (k := 9) (check_msg 9 seq at_ corr 0 dom (.inr (.inr rfl)) hs ha (by decide) hd) rfl hx.symm
  have hn : nopeB x (msgD 9 seq at_ corr 0 dom) 9 1 = false := by simp [nopeB, hw, h3, msgD, msgF]
  have hcc : (msgD 9 seq at_ corr 0 dom).corr = corr * 65536 := rfl
  simp [respE, respX, hr, hn, atF_msg 9 seq at_ corr 0 dom ha.1 ha.2, atB_msg 9 seq at_ corr 0 dom ha.1 ha.2, hcc, hc]
theorem resp_miss (x : Ex) (seq at_ corr dom cl po : Int) (hs : 0 ≤ seq ∧ seq ≤ 65535) (ha : -1125899906842624 ≤ at_ ∧ at_ ≤ 1125899906842624) (hd : 0 ≤ dom ∧ dom ≤ 255) (hx : x.dom = dom) (hw : x.seq ≠ seq ∨ po ≠ 1) :
    respE x (msgD 9 seq at_ corr 0 dom) cl po = 11 ∧ respX x (msgD 9 seq at_ corr 0 dom) cl po = x := by
  have hr := refuse_ok (x := x) (k := 9) (check_msg 9 seq at_ corr 0 dom (.inr (.inr rfl)) hs ha (by decide) hd) rfl hx.symm
  have hn : nopeB x (msgD 9 seq at_ corr 0 dom) cl po = true := by
    rcases hw with h | h
    · simp [nopeB, h, msgD, msgF]
    · have h' : ¬ (1 : Int) = po := fun e => h e.symm
      simp [nopeB, msgD, msgF, h']
  simp [respE, respX, hr, hn]
end Go.Proofs.Ytkjnhabflkaopaa
