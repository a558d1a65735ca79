/- Sync. -/
import Derived.WalkKit
import Derived.LoopTactic
import Derived.Outline
import Derived.Lib.Hide
import Derived.Deep.QuietTactic
import Derived.BigQuiet
import Derived.Test.YtfbmlpdomfchpaaB20
import Derived.Test.YtfbmlpdomfchpaaE5
import Derived.Test.YtfbmlpdomfchpaaE7
namespace Go.Proofs.Ytfbmlpdomfchpaa
open Go.RowKit
set_option linter.unusedVariables false
set_option linter.unusedSimpArgs false

set_option maxRecDepth 100000 in
set_option maxHeartbeats 4000000 in
theorem arrive_any (x : Ex) (b : Nat) (p : Ptp) (wf : (Lit.int .i64 p.kind).wf = true) (t : Int) (w : World) (hx : ExAt w b x) : Calls Try.prog 44 #[.agg #[.pointer (some ⟨b, 0, none⟩), .int .i64 t], p.v] w fun e w' => e = .returned (.int .i64 (syncE x p t)) ∧ ExAt w' b (syncX x p t) ∧ Touch b w w' := by
  obtain ⟨r, hr⟩ : ∃ r, syncE x p t = r := ⟨_, rfl⟩
  obtain ⟨y, hy⟩ : ∃ y, syncX x p t = y := ⟨_, rfl⟩
  have hsy := fun w h => sync_any x b p wf t w h
  rw [hr, hy] at hsy ⊢
  have HSY := Lib.hid hsy
  have HX := Lib.hid hx
  clear hr hy hsy hx wf
  go_enter Try.func44, Try.ntmps44
  refine seq_opaque ?_
  intro T HT
  go_wp2_with fail
  generalize hW : (w.alloc _).alloc _ = w1
  have hb1 : Below w.heap.size w w1 := by rw [← hW]; exact ((Below.refl _ _).alloc (Nat.le_refl _) _).alloc (by simp) _
  have c0 : w1.cell? ⟨w.heap.size, 0, none⟩ = some (.pointer (some ⟨b, 0, none⟩)) := by
    rw [← hW, cell_of_row _ _ 0 _ _ (0, 0) ((_root_.Go.heap_alloc_old _ _ (show w.heap.size < (w.alloc _).heap.size by simp)).trans (heap_alloc_new w _))]
    rfl
  have c1 : w1.cell? ⟨w.heap.size, 1, none⟩ = some (.int .i64 t) := by
    rw [← hW, cell_of_row _ _ 1 _ _ (0, 0) ((_root_.Go.heap_alloc_old _ _ (show w.heap.size < (w.alloc _).heap.size by simp)).trans (heap_alloc_new w _))]
    rfl
  have hp1 : w1.rangeAt (w.heap.size + 1) 0 p.cells := by
    rw [← hW]
    have h := PtpBox.of (p := p) (t := 42) (heap_alloc_new (w.alloc (.cells #[.pointer (some ⟨b, 0, none⟩), .int .i64 t] 96)) _)
    rw [show (w.alloc (.cells #[.pointer (some ⟨b, 0, none⟩), .int .i64 t] 96)).heap.size = w.heap.size + 1 by simp] at h
    exact h.range
  rw [HT.out]
  have HB1 := Lib.hid hb1
  have HP1 := Lib.hid hp1
  clear hW HT hb1 hp1
  go_wp2_with (refine load_ptp_at HP1.out _ (by rfl) rfl rfl ?_)
  refine (HSY.out _ (HX.out.below HB1.out)).mono ?_
  rintro e w2 ⟨rfl, hX2, ht2⟩
  have HX2 := Lib.hid hX2
  have HT2 := Lib.hid ((Touch.of HB1.out).trans ht2)
  clear hX2 ht2
  go_wp2_with fail
  go_ret
  exact ⟨rfl, HX2.out, HT2.out⟩
def syncP (k : Ck) (p : Ptp) (t : Int) (q : Pst) : Pst := if checkF p ≠ 0 then q else if p.kind = 0 then (if usesB q.now = false then q else if p.clock ≠ k.fol.sender ∨ p.port ≠ k.fol.sport then q else exP q (syncX q.ex p t) (syncE q.ex p t)) else if p.kind = 8 then (if usesB q.now = false then q else if p.clock ≠ k.fol.sender ∨ p.port ≠ k.fol.sport then q else exP q (followX q.ex p) (followE q.ex p)) else q
def synK (k : Ck) (n : Int) (p : Ptp) (t : Int) : Ck := match portAt k n with
  | none => k
  | some q => { k with ports := k.ports.set (n.toNat - 1) (syncP k p t q) }
theorem ck_same {k : Ck} {i : Nat} {q : Pst} (h : k.ports[i]? = some q) : ({ k with ports := k.ports.set i q } : Ck) = k := by
  have e : k.ports.set i q = k.ports := by
    apply List.ext_getElem?
    intro j
    rw [List.getElem?_set]
    by_cases e : i = j
    · subst e
      rw [if_pos rfl, if_pos (List.getElem?_eq_some_iff.1 h).1, h]
    · rw [if_neg e]
  rw [e]
set_option maxRecDepth 100000 in
set_option maxHeartbeats 4000000 in
theorem bsync_any {w : World} {base kb : Nat} {S : List Nat} {k : Ck} (h : CkE w base kb S k) (inv : k.Inv) (n : Int) (p : Ptp) (wf : (Lit.int .i64 p.kind).wf = true) (t : Int) :
    Calls Try.prog 22 #[.pointer (some ⟨kb, 0, none⟩), .int .i64 n, p.v, .int .i64 t] w fun e w' => ∃ v, e = .returned v ∧ CkE w' base kb S (synK k n p t) ∧ Stay base S w w' := by
  have hmf := makeFunc_run
  obtain ⟨k', hk'⟩ : ∃ r, synK k n p t = r := ⟨_, rfl⟩
  rw [hk']
  have HKK := Lib.hid hk'
  have HE := Lib.hid h
  have HI := Lib.hid inv
  clear hk' h inv
  go_enter Try.func22, Try.ntmps22
  refine seq_opaque ?_
  intro T HT
  go_wp2_with fail
  generalize hW : w.alloc _ = w1
  have hb1 : Below w.heap.size w w1 := by rw [← hW]; exact (Below.refl _ _).alloc (Nat.le_refl _) _
  have hp1 : PtpBox w1 w.heap.size p := by rw [← hW]; exact PtpBox.of (heap_alloc_new w _)
  rw [HT.out]
  have HP1 := Lib.hid hp1.range
  have HB1 := Lib.hid hb1
  have HE1 := Lib.hid (HE.out.below hb1)
  obtain ⟨mb, sps, ft, hC, hS⟩ := HE1.out
  have HC := Lib.hid hC
  have HS := Lib.hid hS
  have c11 : w1.cell? ⟨kb, 11, none⟩ = some (.map (some mb)) := hC.cell 11
  have hlk := look_run hC.map n
  obtain ⟨qp, hqp⟩ : ∃ q, w.heap.size = q := ⟨_, rfl⟩
  rw [hqp] at HP1 ⊢
  clear hW HT hp1 hb1 hC hS hqp
  rcases hpo : portAt k n with _ | q
  · rw [port_none HC.out.len hpo] at hlk
    have ek : k' = k := by rw [← HKK.out, synK, hpo]
    subst ek
    clear hpo
    go_wp2_with fail
    go_ret
    exact ⟨_, rfl, HE1.out, HE.out.stay HB1.out⟩
  obtain ⟨sp, hn1, hq, hsp, hptr⟩ := port_some HC.out.len hpo
  rw [hptr] at hlk
  have ek : k' = { k with ports := k.ports.set (n.toNat - 1) (syncP k p t q) } := by rw [← HKK.out, synK, hpo]
  have HKE := Lib.hid ek
  have HQ := Lib.hid hq
  have HSP := Lib.hid hsp
  have hqi := HI.out.ports q (List.mem_of_getElem? hq)
  have hn1' := hqi.now1
  have hn9' := hqi.now9
  have hck := check_any p wf w1
  obtain ⟨cf, hcf⟩ : ∃ x, checkF p = x := ⟨_, rfl⟩
  obtain ⟨q', hq'⟩ : ∃ x, syncP k p t q = x := ⟨_, rfl⟩
  rw [hcf] at hck
  have hsy : q' = if cf ≠ 0 then q else if p.kind = 0 then (if usesB q.now = false then q else if p.clock ≠ k.fol.sender ∨ p.port ≠ k.fol.sport then q else exP q (syncX q.ex p t) (syncE q.ex p t)) else if p.kind = 8 then (if usesB q.now = false then q else if p.clock ≠ k.fol.sender ∨ p.port ≠ k.fol.sport then q else exP q (followX q.ex p) (followE q.ex p)) else q := by rw [← hq', syncP, hcf]
  have HSY := Lib.hid hsy
  have HQQ := Lib.hid hq'
  have HCK := Lib.hid hck
  clear ek HKK hpo hq hsp hptr hqi hck hcf hq' hsy
  go_wp2_with (refine load_ptp_at HP1.out _ (by rfl) rfl rfl ?_)
  refine HCK.out.mono ?_
  rintro e w2 ⟨rfl, hb2⟩
  have HB2 := Lib.hid (below_then HB1.out hb2)
  have HE2 := Lib.hid (HE1.out.below hb2)
  have HC2 := Lib.hid (HC.out.below hb2)
  have HS2 := Lib.hid (show ∀ q ∈ S, q < w2.heap.size ∧ ¬ ckFoot kb mb k.ports.length ft q from fun q hq => ⟨Nat.lt_of_lt_of_le (HS.out q hq).1 hb2.size, (HS.out q hq).2⟩)
  have HP2 := Lib.hid (rangeAt_below HP1.out hb2)
  clear hb2 c11 hlk HCK HP1 HE1 HC HS HB1
  have HNO := Lib.hid (show q' = q → CkE w2 base kb S k' ∧ Stay base S w w2 from fun e => ⟨by rw [HKE.out, HQQ.out, e, ck_same HQ.out]; exact HE2.out, HE.out.stay HB2.out⟩)
  by_cases hz : cf = 0
  rotate_left
  · have hzb : (cf != 0) = true := by simpa using hz
    have HX := Lib.hid (HNO.out (by rw [HSY.out, if_pos hz]))
    clear hz
    go_wp2_with fail
    go_ret
    exact ⟨_, rfl, HX.out.1, HX.out.2⟩
  subst hz
  have hsy := HSY.out
  rw [if_neg (by simp)] at hsy
  clear HSY
  obtain ⟨rb, xb, lv, hs, hP, hturn⟩ := (Run.start HC2.out).port HQ.out HSP.out
  have HP := Lib.hid hP
  have HTU := Lib.hid hturn
  have x5 : w2.cell? ⟨sp, 5, none⟩ = some (.pointer (some ⟨xb, 0, none⟩)) := hP.cell 5
  have k0 : w2.cell? ⟨qp, 0, none⟩ = some (.int .i64 p.kind) := HP2.out 0 _ rfl
  have hu := uses_ck hP
  obtain ⟨ub, hub⟩ : ∃ b, usesB q.now = b := ⟨_, rfl⟩
  rw [hub] at hu hsy
  have HU := Lib.hid hu
  clear hP hturn hu
  by_cases hk0 : p.kind = 0
  · rw [if_pos hk0] at hsy
    have HSY := Lib.hid hsy
    rw [hk0] at k0
    clear hsy hub hk0
    cases ub
    · have HX := Lib.hid (HNO.out (by rw [HSY.out, if_pos rfl]))
      go_wp2_with fail
      refine HU.out.mono ?_
      rintro e _ ⟨rfl, rfl⟩
      go_wp2_with fail
      go_ret
      exact ⟨_, rfl, HX.out.1, HX.out.2⟩
    have hsy := HSY.out
    rw [if_neg (by simp)] at hsy
    have HSZ := Lib.hid hsy
    have c4 : w2.cell? ⟨qp, 4, none⟩ = some (.int .u64 p.clock) := HP2.out 4 _ rfl
    have c5 : w2.cell? ⟨qp, 5, none⟩ = some (.int .i64 p.port) := HP2.out 5 _ rfl
    have i20 : w2.cell? ⟨kb, 20, none⟩ = some (.int .u64 k.fol.sender) := HC2.out.cell 20
    have i21 : w2.cell? ⟨kb, 21, none⟩ = some (.int .i64 k.fol.sport) := HC2.out.cell 21
    clear hsy HSY
    go_wp2_with fail
    refine HU.out.mono ?_
    rintro e _ ⟨rfl, rfl⟩
    clear HU
    by_cases g1 : p.clock = k.fol.sender
    rotate_left
    · have g1b : (p.clock != k.fol.sender) = true := by simpa using g1
      have HX := Lib.hid (HNO.out (by rw [HSZ.out, if_pos (.inl g1)]))
      clear g1
      go_wp2_with fail
      go_quiet (fail)
      go_wp2_with fail
      go_ret
      exact ⟨_, rfl, HX.out.1.below (below_drewN (Below.refl _ _) _), HX.out.2.trans (HX.out.1.stay (below_drewN (Below.refl _ _) _))⟩
    have g1b : (p.clock != k.fol.sender) = false := by simpa using g1
    by_cases g2 : p.port = k.fol.sport
    rotate_left
    · have g2b : (p.port != k.fol.sport) = true := by simpa using g2
      have HX := Lib.hid (HNO.out (by rw [HSZ.out, if_pos (.inr g2)]))
      clear g1 g2
      go_wp2_with fail
      go_quiet (fail)
      go_wp2_with fail
      go_ret
      exact ⟨_, rfl, HX.out.1.below (below_drewN (Below.refl _ _) _), HX.out.2.trans (HX.out.1.stay (below_drewN (Below.refl _ _) _))⟩
    have g2b : (p.port != k.fol.sport) = false := by simpa using g2
    have hsy := HSZ.out
    rw [if_neg (fun h => h.elim (fun h => h g1) (fun h => h g2))] at hsy
    have HSW := Lib.hid hsy
    clear g1 g2 hsy HSZ
    go_wp2_with fail
    go_quiet (fail)
    generalize hw3 : w2.drewN _ = w3
    have hd3 : Below w2.heap.size w2 w3 := by rw [← hw3]; exact below_drewN (Below.refl _ _) _
    have HP3 := Lib.hid (HP.out.below hd3)
    have HD3 := Lib.hid hd3
    have HR3 := Lib.hid (rangeAt_below HP2.out hd3)
    clear hw3 hd3 c4 c5 i20 i21 g1b g2b x5 k0 HP
    obtain ⟨x, hx⟩ : ∃ x, syncX q.ex p t = x := ⟨_, rfl⟩
    obtain ⟨er, her⟩ : ∃ x, syncE q.ex p t = x := ⟨_, rfl⟩
    have hre := arrive_any q.ex xb p wf t w3 HP3.out.ex
    rw [hx, her] at hre
    have HRE := Lib.hid hre
    have hsy := HSW.out
    rw [hx, her] at hsy
    have HSV := Lib.hid hsy
    clear hre hsy hx her HSW
    go_wp2_with (refine load_ptp_at HR3.out _ (by rfl) rfl rfl ?_)
    refine HRE.out.mono ?_
    rintro e w4 ⟨rfl, hX, ht4⟩
    have HP4 := Lib.hid (HP3.out.exch hX ht4)
    have HK4 := Lib.hid ((Keep.of (M := fun g => g = sp ∨ g = xb) HD3.out).thenTouch ht4 (.inl (.inr rfl)))
    clear hX ht4 HRE HP3 HD3 HR3
    by_cases hez : er = 0
    rotate_left
    · have hzb : (er != 0) = true := by simpa using hez
      have HQE := Lib.hid (show q' = { q with ex := x } by rw [HSV.out, exP, if_neg hez])
      have hr := HTU.out w4 { q with ex := x } rb xb lv hs _ HK4.out (fun g hg => hg.elim .inl (fun e => .inr (.inl e))) HP4.out (fun g hg => .inl hg)
      have HR := Lib.hid hr
      clear hez hr
      go_wp2_with fail
      go_ret
      obtain ⟨h1, h2⟩ := HR.out.done HC2.out rfl HS2.out
      refine ⟨_, rfl, ?_, (HE.out.stay HB2.out).trans h2⟩
      rw [HKE.out, HQQ.out, HQE.out]
      exact h1
    subst hez
    have HQE := Lib.hid (show q' = syncedP { q with ex := x } by rw [HSV.out, exP, if_pos rfl])
    have HSD := Lib.hid (synced_any HP4.out hn1' hn9')
    go_wp2_with fail
    refine HSD.out.mono ?_
    rintro e w5 ⟨rfl, hP5, ht5⟩
    have hr := HTU.out w5 (syncedP { q with ex := x }) rb xb lv hs _ (HK4.out.thenTouch ht5 (.inl (.inl rfl))) (fun g hg => hg.elim .inl (fun e => .inr (.inl e))) hP5 (fun g hg => .inl hg)
    have HR := Lib.hid hr
    clear hP5 ht5 hr HSD
    go_wp2_with fail
    go_ret
    obtain ⟨h1, h2⟩ := HR.out.done HC2.out rfl HS2.out
    refine ⟨_, rfl, ?_, (HE.out.stay HB2.out).trans h2⟩
    rw [HKE.out, HQQ.out, HQE.out]
    exact h1
  by_cases hk8 : p.kind = 8
  · rw [if_neg hk0, if_pos hk8] at hsy
    have HSY := Lib.hid hsy
    rw [hk8] at k0
    clear hsy hub hk0 hk8
    cases ub
    · have HX := Lib.hid (HNO.out (by rw [HSY.out, if_pos rfl]))
      go_wp2_with fail
      refine HU.out.mono ?_
      rintro e _ ⟨rfl, rfl⟩
      go_wp2_with fail
      go_ret
      exact ⟨_, rfl, HX.out.1, HX.out.2⟩
    have hsy := HSY.out
    rw [if_neg (by simp)] at hsy
    have HSZ := Lib.hid hsy
    have c4 : w2.cell? ⟨qp, 4, none⟩ = some (.int .u64 p.clock) := HP2.out 4 _ rfl
    have c5 : w2.cell? ⟨qp, 5, none⟩ = some (.int .i64 p.port) := HP2.out 5 _ rfl
    have i20 : w2.cell? ⟨kb, 20, none⟩ = some (.int .u64 k.fol.sender) := HC2.out.cell 20
    have i21 : w2.cell? ⟨kb, 21, none⟩ = some (.int .i64 k.fol.sport) := HC2.out.cell 21
    clear hsy HSY
    go_wp2_with fail
    refine HU.out.mono ?_
    rintro e _ ⟨rfl, rfl⟩
    clear HU
    by_cases g1 : p.clock = k.fol.sender
    rotate_left
    · have g1b : (p.clock != k.fol.sender) = true := by simpa using g1
      have HX := Lib.hid (HNO.out (by rw [HSZ.out, if_pos (.inl g1)]))
      clear g1
      go_wp2_with fail
      go_quiet (fail)
      go_wp2_with fail
      go_ret
      exact ⟨_, rfl, HX.out.1.below (below_drewN (Below.refl _ _) _), HX.out.2.trans (HX.out.1.stay (below_drewN (Below.refl _ _) _))⟩
    have g1b : (p.clock != k.fol.sender) = false := by simpa using g1
    by_cases g2 : p.port = k.fol.sport
    rotate_left
    · have g2b : (p.port != k.fol.sport) = true := by simpa using g2
      have HX := Lib.hid (HNO.out (by rw [HSZ.out, if_pos (.inr g2)]))
      clear g1 g2
      go_wp2_with fail
      go_quiet (fail)
      go_wp2_with fail
      go_ret
      exact ⟨_, rfl, HX.out.1.below (below_drewN (Below.refl _ _) _), HX.out.2.trans (HX.out.1.stay (below_drewN (Below.refl _ _) _))⟩
    have g2b : (p.port != k.fol.sport) = false := by simpa using g2
    have hsy := HSZ.out
    rw [if_neg (fun h => h.elim (fun h => h g1) (fun h => h g2))] at hsy
    have HSW := Lib.hid hsy
    clear g1 g2 hsy HSZ
    go_wp2_with fail
    go_quiet (fail)
    generalize hw3 : w2.drewN _ = w3
    have hd3 : Below w2.heap.size w2 w3 := by rw [← hw3]; exact below_drewN (Below.refl _ _) _
    have HP3 := Lib.hid (HP.out.below hd3)
    have HD3 := Lib.hid hd3
    have HR3 := Lib.hid (rangeAt_below HP2.out hd3)
    clear hw3 hd3 c4 c5 i20 i21 g1b g2b x5 k0 HP
    obtain ⟨x, hx⟩ : ∃ x, followX q.ex p = x := ⟨_, rfl⟩
    obtain ⟨er, her⟩ : ∃ x, followE q.ex p = x := ⟨_, rfl⟩
    have hre := follow_any q.ex xb p wf w3 HP3.out.ex
    rw [hx, her] at hre
    have HRE := Lib.hid hre
    have hsy := HSW.out
    rw [hx, her] at hsy
    have HSV := Lib.hid hsy
    clear hre hsy hx her HSW
    go_wp2_with (refine load_ptp_at HR3.out _ (by rfl) rfl rfl ?_)
    refine HRE.out.mono ?_
    rintro e w4 ⟨rfl, hX, ht4⟩
    have HP4 := Lib.hid (HP3.out.exch hX ht4)
    have HK4 := Lib.hid ((Keep.of (M := fun g => g = sp ∨ g = xb) HD3.out).thenTouch ht4 (.inl (.inr rfl)))
    clear hX ht4 HRE HP3 HD3 HR3
    by_cases hez : er = 0
    rotate_left
    · have hzb : (er != 0) = true := by simpa using hez
      have HQE := Lib.hid (show q' = { q with ex := x } by rw [HSV.out, exP, if_neg hez])
      have hr := HTU.out w4 { q with ex := x } rb xb lv hs _ HK4.out (fun g hg => hg.elim .inl (fun e => .inr (.inl e))) HP4.out (fun g hg => .inl hg)
      have HR := Lib.hid hr
      clear hez hr
      go_wp2_with fail
      go_ret
      obtain ⟨h1, h2⟩ := HR.out.done HC2.out rfl HS2.out
      refine ⟨_, rfl, ?_, (HE.out.stay HB2.out).trans h2⟩
      rw [HKE.out, HQQ.out, HQE.out]
      exact h1
    subst hez
    have HQE := Lib.hid (show q' = syncedP { q with ex := x } by rw [HSV.out, exP, if_pos rfl])
    have HSD := Lib.hid (synced_any HP4.out hn1' hn9')
    go_wp2_with fail
    refine HSD.out.mono ?_
    rintro e w5 ⟨rfl, hP5, ht5⟩
    have hr := HTU.out w5 (syncedP { q with ex := x }) rb xb lv hs _ (HK4.out.thenTouch ht5 (.inl (.inl rfl))) (fun g hg => hg.elim .inl (fun e => .inr (.inl e))) hP5 (fun g hg => .inl hg)
    have HR := Lib.hid hr
    clear hP5 ht5 hr HSD
    go_wp2_with fail
    go_ret
    obtain ⟨h1, h2⟩ := HR.out.done HC2.out rfl HS2.out
    refine ⟨_, rfl, ?_, (HE.out.stay HB2.out).trans h2⟩
    rw [HKE.out, HQQ.out, HQE.out]
    exact h1
  · rw [if_neg hk0, if_neg hk8] at hsy
    have e0 : (p.kind == 0) = false := by simpa using hk0
    have e8 : (p.kind == 8) = false := by simpa using hk8
    have HX := Lib.hid (HNO.out hsy)
    clear hsy hub hk0 hk8
    go_wp2_with fail
    go_ret
    exact ⟨_, rfl, HX.out.1, HX.out.2⟩
end Go.Proofs.Ytfbmlpdomfchpaa
