/- A port that is synchronized; Response. -/
import Derived.WalkKit
import Derived.LoopTactic
import Derived.Outline
import Derived.Lib.Hide
import Derived.StillTailTactics
import Derived.Deep.QuietTactic
import Derived.BigQuiet
import Derived.Test.YtfbmlpdomfchpaaB9
import Derived.Test.YtfbmlpdomfchpaaJBd
import Derived.Test.YtfbmlpdomfchpaaE6
namespace Go.Proofs.Ytfbmlpdomfchpaa
open Go.RowKit
set_option linter.unusedVariables false
set_option linter.unusedSimpArgs false

/-- A load of a whole struct in a region whose order is drawn, ahead of its one writing operation. -/
theorem still_load_mid {P : Program} {ops : Array Oper} {rest : List Oper} {op : Oper} {a : Act} {w : World} {Q : Act → Prop} (hw : Region.wanted op (yielded ops a.tmps) = true) (ty : TypeId) (x : Operand) (ho : op.op = .load ty x)
    (b o : Nat) (hx : a.eval x = .pointer (some ⟨b, o, none⟩)) (cs : List Value) (d : TypeDesc) (hc : w.rangeAt b o cs) (hu : P.underlying ty = some d) (hd : d.isRow = true) (hi : (P.info? ty).map (·.size) = some cs.length)
    (k : wpStill P ops w Q rest (a.put op.dst (.agg cs.toArray))) : wpStill P ops w Q (op :: rest) a := wpStill_step fun K hK => by
  rw [if_pos hw]
  unfold Oper.still execOp
  simp only [ho, hx, Instr.loadAt, Instr.sureAddr, Sem.run_bind, Sem.run_pure, Result.andThen_ok, run_loadVar_mid w b o ty cs d hc hu hd hi]
  rw [Oper.stillUpon_value]
  exact hK _ k
theorem uses_ck {w : World} {base sp : Nat} {p : Pst} {rb xb : Nat} {lv : Value} {hs : List Value} (h : PortIs w base sp p rb xb lv hs) : Calls Try.prog 40 #[.pointer (some ⟨sp, 0, none⟩)] w fun e w' => e = .returned (.bool (usesB p.now)) ∧ w = w' := by
  have x0 : w.cell? ⟨sp, 0, none⟩ = some (.int .i64 p.now) := h.cell 0
  obtain ⟨b, hb⟩ : ∃ b, usesB p.now = b := ⟨_, rfl⟩
  have hu := uses_any p.now w
  rw [hb] at hu ⊢
  have HU := Lib.hid hu
  clear h hb hu
  go_enter Try.func40, Try.ntmps40
  go_wp2_with fail
  refine HU.out.mono ?_
  rintro e _ ⟨rfl, rfl⟩
  go_wp2_with fail
  go_ret
  exact ⟨rfl, rfl⟩
def syncedP (p : Pst) : Pst := if p.ex.known = true then { p with now := nextF p.now 9 true } else p
theorem synced_any {w : World} {base sp : Nat} {p : Pst} {rb xb : Nat} {lv : Value} {hs : List Value} (h : PortIs w base sp p rb xb lv hs) (h1 : 1 ≤ p.now) (h9 : p.now ≤ 9) :
    Calls Try.prog 46 #[.pointer (some ⟨sp, 0, none⟩)] w fun e w' => e = .returned (.tuple #[]) ∧ PortIs w' base sp (syncedP p) rb xb lv hs ∧ Touch sp w w' := by
  have x5 : w.cell? ⟨sp, 5, none⟩ = some (.pointer (some ⟨xb, 0, none⟩)) := h.cell 5
  obtain ⟨kn, hkn⟩ : ∃ b, p.ex.known = b := ⟨_, rfl⟩
  obtain ⟨p', hp'⟩ : ∃ q, syncedP p = q := ⟨_, rfl⟩
  have ho := offset_any p.ex xb w h.ex
  rw [hkn] at ho
  rw [hp']
  have HO := Lib.hid ho
  have HK := Lib.hid hkn
  have HPP := Lib.hid hp'
  have HP := Lib.hid h
  clear h ho hkn hp'
  go_enter Try.func46, Try.ntmps46
  go_wp2_with fail
  refine HO.out.mono ?_
  rintro e w1 ⟨rfl, hb1⟩
  have HP1 := Lib.hid (HP.out.below hb1)
  have HB1 := Lib.hid hb1
  clear hb1
  cases kn
  · have e : p' = p := by rw [← HPP.out, syncedP, if_neg (by rw [HK.out]; simp)]
    subst e
    go_wp2_with fail
    go_end0
    exact ⟨rfl, HP1.out, .of HB1.out⟩
  · have e : p' = { p with now := nextF p.now 9 true } := by rw [← HPP.out, syncedP, if_pos HK.out]
    have HE := Lib.hid e
    clear e
    go_wp2_with fail
    refine (event_any HP1.out true h1 h9 (.inl ⟨by omega, by omega⟩)).mono ?_
    rintro e w2 ⟨rfl, hP2, ht2⟩
    have HP2 := Lib.hid hP2
    have HT2 := Lib.hid ht2
    clear hP2 ht2
    go_wp2_with fail
    go_end0
    exact ⟨rfl, by rw [HE.out]; exact HP2.out, (Touch.of HB1.out).trans HT2.out⟩
/-- A port behind a call that has turned its exchange to x; e is the call's error. -/
def exP (q : Pst) (x : Ex) (e : Int) : Pst := if e = 0 then syncedP { q with ex := x } else { q with ex := x }
def respK (k : Ck) (n : Int) (p : Ptp) : Ck := match portAt k n with
  | none => k
  | some q => if usesB q.now = true then { k with ports := k.ports.set (n.toNat - 1) (exP q (respX q.ex p k.c.id n) (respE q.ex p k.c.id n)) } else k
set_option maxRecDepth 100000 in
set_option maxHeartbeats 4000000 in
theorem bresponse_any {w : World} {base kb : Nat} {S : List Nat} {k : Ck} (h : CkE w base kb S k) (inv : k.Inv) (n : Int) (p : Ptp) (wf : (Lit.int .i64 p.kind).wf = true) :
    Calls Try.prog 23 #[.pointer (some ⟨kb, 0, none⟩), .int .i64 n, p.v] w fun e w' => ∃ v, e = .returned v ∧ CkE w' base kb S (respK k n p) ∧ Stay base S w w' := by
  obtain ⟨k', hk'⟩ : ∃ r, respK k n p = r := ⟨_, rfl⟩
  rw [hk']
  have HKK := Lib.hid hk'
  have HE := Lib.hid h
  have HI := Lib.hid inv
  clear hk' h inv
  go_enter Try.func23, Try.ntmps23
  refine seq_opaque ?_
  intro T HT
  go_wp2_with fail
  generalize hW : w.alloc _ = w1
  have hb1 : Below w.heap.size w w1 := by rw [← hW]; exact (Below.refl _ _).alloc (Nat.le_refl _) _
  have hp1 : PtpBox w1 w.heap.size p := by rw [← hW]; exact PtpBox.of (heap_alloc_new w _)
  rw [HT.out]
  have HP1 := Lib.hid hp1.range
  have HB1 := Lib.hid hb1
  have HE1 := Lib.hid (HE.out.below hb1)
  obtain ⟨mb, sps, ft, hC, hS⟩ := HE1.out
  have HC := Lib.hid hC
  have HS := Lib.hid hS
  have c11 : w1.cell? ⟨kb, 11, none⟩ = some (.map (some mb)) := hC.cell 11
  have hlk := look_run hC.map n
  obtain ⟨qp, hqp⟩ : ∃ q, w.heap.size = q := ⟨_, rfl⟩
  rw [hqp] at HP1 ⊢
  clear hW HT hp1 hb1 hC hS hqp
  rcases hpo : portAt k n with _ | q
  · rw [port_none HC.out.len hpo] at hlk
    have ek : k' = k := by rw [← HKK.out, respK, hpo]
    subst ek
    clear hpo
    go_wp2_with fail
    go_ret
    exact ⟨_, rfl, HE1.out, HE.out.stay HB1.out⟩
  obtain ⟨sp, hn1, hq, hsp, hptr⟩ := port_some HC.out.len hpo
  rw [hptr] at hlk
  have HPO := Lib.hid hpo
  have HQ := Lib.hid hq
  obtain ⟨rb, xb, lv, hs, hP, hturn⟩ := (Run.start HC.out).port hq hsp
  have HP := Lib.hid hP
  have HTU := Lib.hid hturn
  have hqi := HI.out.ports q (List.mem_of_getElem? hq)
  have hu := uses_ck hP
  cases hub : usesB q.now
  all_goals rw [hub] at hu
  all_goals have HU := Lib.hid hu
  all_goals have HUB := Lib.hid hub
  all_goals clear hpo hq hsp hptr hP hturn hu hub
  · have ek : k' = k := by rw [← HKK.out, respK, HPO.out]; simp only []; rw [if_neg (by rw [HUB.out]; simp)]
    subst ek
    go_wp2_with fail
    refine HU.out.mono ?_
    rintro e _ ⟨rfl, rfl⟩
    go_wp2_with fail
    go_ret
    exact ⟨_, rfl, HE1.out, HE.out.stay HB1.out⟩
  have ek : k' = { k with ports := k.ports.set (n.toNat - 1) (exP q (respX q.ex p k.c.id n) (respE q.ex p k.c.id n)) } := by rw [← HKK.out, respK, HPO.out]; simp only []; rw [if_pos HUB.out]
  have HKE := Lib.hid ek
  have hn1' := hqi.now1
  have hn9' := hqi.now9
  clear ek hqi HKK
  go_wp2_with fail
  refine HU.out.mono ?_
  rintro e _ ⟨rfl, rfl⟩
  have x5 : w1.cell? ⟨sp, 5, none⟩ = some (.pointer (some ⟨xb, 0, none⟩)) := HP.out.cell 5
  have i0 : w1.cell? ⟨kb, 0, none⟩ = some (.int .u64 k.c.id) := HC.out.cell 0
  clear c11 hlk HU
  go_upto_region 8 with fail
  refine wp_region_still_tail 11 (by kernel_rfl) (by kernel_rfl) ?_
  simp only [List.take_succ_cons, List.take_zero, List.drop_succ_cons, List.drop_zero]
  repeat (first | (refine still_load_mid (by rfl) _ _ rfl qp 0 rfl p.cells _ (show World.rangeAt _ _ _ _ from HP1.out) Try.underlying42 rfl infoPtp ?_) | still_step)
  try refine wpStill_nil ?_
  change wpList _ _ _ _ _ (World.drew w1)
  have hd2 : Below w1.heap.size w1 w1.drew := below_drewN (Below.refl _ _) 1
  generalize w1.drew = w2 at hd2 ⊢
  obtain ⟨x, hx⟩ : ∃ x, respX q.ex p k.c.id n = x := ⟨_, rfl⟩
  obtain ⟨er, her⟩ : ∃ x, respE q.ex p k.c.id n = x := ⟨_, rfl⟩
  have hP2 := HP.out.below hd2
  have hre := resp_any q.ex xb p wf k.c.id n w2 hP2.ex
  rw [hx, her] at hre
  have hke := HKE.out
  rw [hx, her] at hke
  clear HKE
  have HRE := Lib.hid hre
  have HKY := Lib.hid hke
  clear hke
  have HP2 := Lib.hid hP2
  have HD2 := Lib.hid hd2
  clear x5 i0 hre hP2 hd2 hx her
  go_wp2_with fail
  refine HRE.out.mono ?_
  rintro e w3 ⟨rfl, hX, ht3⟩
  have hP3 := HP2.out.exch hX ht3
  have hk3 : Keep (fun g => g = sp ∨ g = xb) w1 w3 := (Keep.of (M := fun g => g = sp ∨ g = xb) HD2.out).thenTouch ht3 (.inl (.inr rfl))
  have HP3 := Lib.hid hP3
  have HK3 := Lib.hid hk3
  clear hX ht3 hP3 hk3 HRE HP2 HD2
  have hke := HKY.out
  clear HKY
  by_cases hez : er = 0
  rotate_left
  · have hzb : (er != 0) = true := by simpa using hez
    have hr := HTU.out w3 { q with ex := x } rb xb lv hs _ HK3.out (fun g hg => hg.elim .inl (fun e => .inr (.inl e))) HP3.out (fun g hg => .inl hg)
    rw [exP, if_neg hez] at hke
    have HKE := Lib.hid hke
    clear hke
    have HR := Lib.hid hr
    clear hez hr
    go_wp2_with fail
    go_ret
    obtain ⟨h1, h2⟩ := HR.out.done HC.out rfl HS.out
    refine ⟨_, rfl, ?_, (HE.out.stay HB1.out).trans h2⟩
    rw [HKE.out]
    exact h1
  subst hez
  rw [exP, if_pos rfl] at hke
  have HKE := Lib.hid hke
  clear hke
  have HSY := Lib.hid (synced_any HP3.out hn1' hn9')
  go_wp2_with fail
  refine HSY.out.mono ?_
  rintro e w4 ⟨rfl, hP4, ht4⟩
  have hr := HTU.out w4 (syncedP { q with ex := x }) rb xb lv hs _ (HK3.out.thenTouch ht4 (.inl (.inl rfl))) (fun g hg => hg.elim .inl (fun e => .inr (.inl e))) hP4 (fun g hg => .inl hg)
  have HR := Lib.hid hr
  clear hP4 ht4 hr HSY
  go_wp2_with fail
  go_ret
  obtain ⟨h1, h2⟩ := HR.out.done HC.out rfl HS.out
  refine ⟨_, rfl, ?_, (HE.out.stay HB1.out).trans h2⟩
  rw [HKE.out]
  exact h1
end Go.Proofs.Ytfbmlpdomfchpaa
