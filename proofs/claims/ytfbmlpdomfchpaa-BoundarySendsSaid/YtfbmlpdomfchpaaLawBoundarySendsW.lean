/- The walk of BoundarySends. -/
import Derived.WalkKit
import Derived.LoopTactic
import Derived.Outline
import Derived.Lib.Hide
import Derived.Deep.QuietTactic
import Derived.BigQuiet
import Derived.IntWalk
import Derived.Deep.DeepCutAuto
import Derived.Deep.CutBlock
import Derived.Test.YtfbmlpdomfchpaaB11
import Derived.Test.YtfbmlpdomfchpaaB18
import Derived.Test.YtfbmlpdomfchpaaB24
namespace Go.Proofs.Ytfbmlpdomfchpaa
open Go.RowKit
set_option linter.unusedVariables false
set_option linter.unusedSimpArgs false

set_option maxRecDepth 100000 in
set_option maxHeartbeats 4000000 in
theorem BoundarySends_walk {A : Option Addr} {n cap : Nat} {l : List Bact} (c : BConf) (w : World) (ok : BactArg w A n cap l) (hwf : ∀ o ∈ l, (Lit.int .i64 o.msg.kind).wf = true) :
    Calls Try.prog 4 #[c.v, .slice A n cap] w fun e w' => e = .returned (.bool true) ∧ Below w.heap.size w w' := by
  have hlen := ok.len_eq
  have hmost := ok.most
  have hle := ok.le
  have OK := Lib.hid ok
  have WF := Lib.hid hwf
  have HL := Lib.hid hlen
  clear ok hwf hlen
  go_enter Try.func4, Try.ntmps4
  go_wp2_with fail
  generalize hW : w.alloc _ = w1
  have hb1 : Below w.heap.size w w1 := by rw [← hW]; exact (Below.refl _ _).alloc (Nat.le_refl _) _
  have hr1 : w1.rangeAt w.heap.size 0 c.cells := by
    rw [← hW]
    intro j v hv
    rw [Nat.zero_add, cell_of_row _ _ j _ _ (0, 0) (heap_alloc_new w _), ← hv]
    simp [BConf.cells]
  have hs1 : w.heap.size < w1.heap.size := by rw [← hW]; simp
  obtain ⟨qc, hqc⟩ : ∃ q, w.heap.size = q := ⟨_, rfl⟩
  rw [hqc] at hr1 hs1 ⊢
  have HB1 := Lib.hid hb1
  have HR1 := Lib.hid hr1
  have HQ := Lib.hid hqc
  clear hW hb1 hr1 hqc
  refine (short_any (OK.out.below HB1.out)).mono ?_
  rintro e w2 ⟨b, rfl, hb2⟩
  have HB2 := Lib.hid (below_then HB1.out hb2)
  have HR2 := Lib.hid (rangeAt_below HR1.out hb2)
  have hs2 : qc < w2.heap.size := Nat.lt_of_lt_of_le hs1 hb2.size
  clear hb2 HB1 HR1 hs1
  cases b
  · go_wp2_with fail
    refine (awake41 w2).mono ?_
    rintro e w3 ⟨rfl, hb3⟩
    have HB3 := Lib.hid (below_then HB2.out hb3)
    clear hb3
    go_wp2_with fail
    go_ret
    exact ⟨rfl, HB3.out⟩
  have c0 : w2.cell? ⟨qc, 0, none⟩ = some (.int .u64 c.id) := HR2.out 0 _ rfl
  have c1 : w2.cell? ⟨qc, 1, none⟩ = some (.int .i64 c.p1) := HR2.out 1 _ rfl
  have c2 : w2.cell? ⟨qc, 2, none⟩ = some (.int .i64 c.cls) := HR2.out 2 _ rfl
  have c3 : w2.cell? ⟨qc, 3, none⟩ = some (.int .i64 c.acc) := HR2.out 3 _ rfl
  have c4 : w2.cell? ⟨qc, 4, none⟩ = some (.int .i64 c.var) := HR2.out 4 _ rfl
  have c5 : w2.cell? ⟨qc, 5, none⟩ = some (.int .i64 c.p2) := HR2.out 5 _ rfl
  have c6 : w2.cell? ⟨qc, 6, none⟩ = some (.int .i64 c.domain) := HR2.out 6 _ rfl
  have c7 : w2.cell? ⟨qc, 7, none⟩ = some (.int .i64 c.ports) := HR2.out 7 _ rfl
  have c8 : w2.cell? ⟨qc, 8, none⟩ = some (.int .i64 c.window) := HR2.out 8 _ rfl
  have c9 : w2.cell? ⟨qc, 9, none⟩ = some (.int .i64 c.need) := HR2.out 9 _ rfl
  have c10 : w2.cell? ⟨qc, 10, none⟩ = some (.int .i64 c.timeout) := HR2.out 10 _ rfl
  by_cases hok : c.Ok
  rotate_left
  · have HBAD := Lib.hid hok
    clear hok
    go_wp2_with fail
    refine (bnew_bad c HBAD.out w2).mono ?_
    rintro e w3 ⟨rfl, hb3⟩
    have HB3 := Lib.hid (below_then HB2.out hb3)
    have HR3 := Lib.hid (rangeAt_below HR2.out hb3)
    have d0 : w3.cell? ⟨qc, 0, none⟩ = some (.int .u64 c.id) := HR3.out 0 _ rfl
    have d1 : w3.cell? ⟨qc, 1, none⟩ = some (.int .i64 c.p1) := HR3.out 1 _ rfl
    have d2 : w3.cell? ⟨qc, 2, none⟩ = some (.int .i64 c.cls) := HR3.out 2 _ rfl
    have d3 : w3.cell? ⟨qc, 3, none⟩ = some (.int .i64 c.acc) := HR3.out 3 _ rfl
    have d4 : w3.cell? ⟨qc, 4, none⟩ = some (.int .i64 c.var) := HR3.out 4 _ rfl
    have d5 : w3.cell? ⟨qc, 5, none⟩ = some (.int .i64 c.p2) := HR3.out 5 _ rfl
    have d6 : w3.cell? ⟨qc, 6, none⟩ = some (.int .i64 c.domain) := HR3.out 6 _ rfl
    have d7 : w3.cell? ⟨qc, 7, none⟩ = some (.int .i64 c.ports) := HR3.out 7 _ rfl
    have d8 : w3.cell? ⟨qc, 8, none⟩ = some (.int .i64 c.window) := HR3.out 8 _ rfl
    have d9 : w3.cell? ⟨qc, 9, none⟩ = some (.int .i64 c.need) := HR3.out 9 _ rfl
    have d10 : w3.cell? ⟨qc, 10, none⟩ = some (.int .i64 c.timeout) := HR3.out 10 _ rfl
    clear hb3 c0 c1 c2 c3 c4 c5 c6 c7 c8 c9 c10
    go_wp2_with fail
    refine (check_bad c HBAD.out w3).mono ?_
    rintro e w4 ⟨rfl, hb4⟩
    have HB4 := Lib.hid (below_then HB3.out hb4)
    clear hb4 d0 d1 d2 d3 d4 d5 d6 d7 d8 d9 d10
    go_wp2_with fail
    refine (awake41 w4).mono ?_
    rintro e w5 ⟨rfl, hb5⟩
    have HB5 := Lib.hid (below_then HB4.out hb5)
    clear hb5
    go_wp2_with fail
    go_ret
    exact ⟨rfl, HB5.out⟩
  have HOK := Lib.hid hok
  clear hok
  go_wp2_with fail
  refine (bnew_any c HOK.out w2).mono ?_
  rintro e w3 ⟨kb, rfl, hE3, hb3⟩
  have HE3 := Lib.hid hE3
  have HB3 := Lib.hid hb3
  clear hb3 hE3 c0 c1 c2 c3 c4 c5 c6 c7 c8 c9 c10
  have hn0 : (0 : Int) ≤ (n : Int) := by omega
  go_wp2_with fail
  go_loopw [6, 32] (fun v6 v32 wr => ∃ (j : Nat) (t : Int) (k : Ck), j ≤ n ∧ v32 = .int .i64 (j : Int) ∧ v6 = .int .i64 t ∧ CkE wr w2.heap.size kb [] k ∧ k.Good ∧ k.c = c ∧ Below w2.heap.size w2 wr) (fun _ v32 _ => n - (intOf v32).toNat)
  case atStart => exact ⟨0, 0, _, Nat.zero_le _, rfl, rfl, HE3.out, good_new c HOK.out, rfl, HB3.out⟩
  case round =>
    obtain ⟨j, t, k, hj, rfl, rfl, hE, hgood, hkc, hst⟩ := hrel
    have HE := Lib.hid hE
    have HGD := Lib.hid hgood
    have HKC := Lib.hid hkc
    have HBR := Lib.hid hst
    clear hE hgood hkc hst
    by_cases hlt : j < n
    · have hlj : decide ((j : Int) < (n : Int)) = true := by simp; omega
      have hk0 : (0 : Int) ≤ (j : Int) := by omega
      have hk1 : (j : Int) < (n : Int) := by omega
      obtain ⟨b, off, rfl, hbl, hrow⟩ := (OK.out.below (below_then HB2.out HBR.out)).at_ (by omega)
      obtain ⟨a, ha⟩ : ∃ a, l.getD j .zero = a := ⟨_, rfl⟩
      have hra := hrow j (by rw [HL.out]; exact hlt)
      rw [ha] at hra
      have hwa : (Lit.int .i64 a.msg.kind).wf = true := WF.out a (by rw [← ha, getD_act l j (by rw [HL.out]; exact hlt)]; exact List.getElem_mem _)
      have HRA := Lib.hid hra
      have HWA := Lib.hid hwa
      clear hrow hra ha hbl hwa
      go_upto_region 10 with (first | (refine load_act HRA.out _ (by rfl) rfl rfl ?_) | (refine store_act_new (o := a) rfl rfl _ _ (by rfl) rfl rfl rfl ?_; intro w6 h6))
      try simp only [Act.put, List.setIfInBounds_toArray, List.set_cons_succ, List.set_cons_zero]
      obtain ⟨qa, hqa⟩ : ∃ q, wr.heap.size = q := ⟨_, rfl⟩
      have HA6 := Lib.hid (show w6.rangeAt qa 0 a.cells by rw [← hqa]; exact h6.out.1)
      have HB6 := Lib.hid h6.out.2.1
      rw [hqa]
      have HE6 := Lib.hid (HE.out.below HB6.out)
      have HBB6 := Lib.hid (below_then HBR.out HB6.out)
      have a0 : w6.cell? ⟨qa, 0, none⟩ = some (.int .i64 a.kind) := HA6.out 0 _ rfl
      have a2 : w6.cell? ⟨qa, 2, none⟩ = some (.int .i64 a.at_) := HA6.out 2 _ rfl
      clear h6 hqa HRA
      go_cut [43] (fun v43 wx => v43 = .bool (a.kind == 0 || a.kind == 1) ∧ wx = w6)
      case first =>
        cases g0 : a.kind == 0
        · have G0 := Lib.hid g0
          go_wp2_with fail
          go_meet
          case rel => exact ⟨by rw [G0.out]; rfl, rfl⟩
        · have G0 := Lib.hid g0
          go_wp2_with fail
          go_meet
          case rel => exact ⟨by rw [G0.out]; rfl, rfl⟩
      case rest =>
        obtain ⟨rfl, rfl⟩ := hcut
        obtain ⟨w6, rfl⟩ : ∃ x : World, x = wc := ⟨_, rfl⟩
        obtain ⟨tb, htb⟩ : ∃ x, (a.kind == 0 || a.kind == 1) = x := ⟨_, rfl⟩
        rw [htb]
        clear htb a0
        go_upto_if 43 with fail
        go_cut [6] (fun v6 wx => (∃ t2, v6 = .int .i64 t2) ∧ wx = w6)
        case first =>
          cases tb
          · go_wp2_with fail
            go_meet
            case rel => exact ⟨⟨_, rfl⟩, rfl⟩
          · go_wp2_with fail
            go_meet
            case rel => exact ⟨⟨_, rfl⟩, rfl⟩
        case rest =>
          obtain ⟨⟨t2, rfl⟩, rfl⟩ := hcut
          obtain ⟨w6, rfl⟩ : ∃ x : World, x = wc := ⟨_, rfl⟩
          clear a2
          go_wp2_with (refine load_act HA6.out _ (by rfl) rfl rfl ?_)
          refine (play_any HE6.out HGD.out a HWA.out t2).mono ?_
          rintro e w7 ⟨rfl, hE7, hst7⟩
          have HE7 := Lib.hid hE7
          have HG2 := Lib.hid (good_play HGD.out a t2)
          have HC2 := Lib.hid ((play_conf k a t2).trans HKC.out)
          have HB7 := Lib.hid (HBB6.out.trans hst7.below)
          clear hE7 hst7 HE6 HBB6 HGD HKC HE HBR HB6 HA6
          go_wp2_with fail
          go_roundw
          case rel => exact ⟨j + 1, t2, _, by omega, by go_num, rfl, HE7.out, HG2.out, HC2.out, HB7.out⟩
          case measure => simp [intOf]; omega
    · obtain rfl : j = n := by omega
      have hle2 : decide ((j : Int) < (j : Int)) = false := by simp <;> omega
      have hfit := good_fit HGD.out
      have hs0 := hfit.stepsa
      have hs1 := hfit.stepsb
      clear hfit hlt
      go_wp2_with fail
      refine (bsend_any HE.out HGD.out.inv hs0 (by omega)).mono ?_
      rintro e w4 ⟨A1, c1, rfl, hA1, hE4, hst4⟩
      have hf2 := fol_send k
      have hg4 := good_send HGD.out
      obtain ⟨L, hL⟩ : ∃ L, sendL k = L := ⟨_, rfl⟩
      have HSL := Lib.hid hL
      obtain ⟨m, hm⟩ : ∃ m, L.length = m := ⟨_, rfl⟩
      have hsn := sendL_next k
      obtain ⟨k4, hk4⟩ : ∃ x, sendK k = x := ⟨_, rfl⟩
      have hsent : ∀ x ∈ L, Sent k x := fun x hx => sent_mem HGD.out (by rw [hL]; exact hx)
      have hstt : ∀ n, stateF k4 n = stateF k n := fun n => by rw [← hk4]; exact state_send n
      rw [hL, hm] at hA1 ⊢
      rw [hk4, hL] at hsn
      rw [hk4] at hE4 hg4 hf2
      have HA1 := Lib.hid hA1
      have HE4 := Lib.hid hE4
      have HG4 := Lib.hid hg4
      have HF4 := Lib.hid hf2
      have HSN := Lib.hid hsn
      have HSE := Lib.hid hsent
      have HSS := Lib.hid hstt
      have HM := Lib.hid hm
      have HB4 := Lib.hid (HBR.out.trans hst4.below)
      have HK4 := Lib.hid hk4
      clear hA1 hE4 hst4 hg4 hf2 hsn hsent hm hL hk4 hstt hs0 hs1
      have hfit := good_fit HG4.out
      have hs0 := hfit.stepsa
      have hs1 := hfit.stepsb
      clear hfit
      go_wp2_with fail
      refine (bsend_any HE4.out HG4.out.inv hs0 (by omega)).mono ?_
      rintro e w5 ⟨A2, c2, rfl, hA2, hE5, hst5⟩
      have e2 : (sendL k4).length = m := by rw [HSN.out, List.length_map, HM.out]
      rw [e2] at hA2 ⊢
      rw [HSN.out] at hA2
      have hf5 := fol_send k4
      obtain ⟨k5, hk5⟩ : ∃ x, sendK k4 = x := ⟨_, rfl⟩
      have hst5' : ∀ n, stateF k5 n = stateF k n := fun n => by rw [← hk5, state_send, HSS.out]
      rw [hk5] at hE5 hf5
      have HA2 := Lib.hid hA2
      have HA15 := Lib.hid (HA1.out.stay hst5 (fun q hq => List.mem_append.2 (.inl hq)))
      have HE5 := Lib.hid (hE5.less (T := []) (fun q hq => by simp at hq))
      have HF5 := Lib.hid (show k5.fol = k.fol ∧ k5.c = c from ⟨hf5.1.trans HF4.out.1, hf5.2.trans (HF4.out.2.trans HKC.out)⟩)
      have HSS5 := Lib.hid hst5'
      have HB5 := Lib.hid (HB4.out.trans hst5.below)
      have hm80 : m ≤ 8 := by
        have h1 : L.length ≤ k.ports.length := by
          have h2 := sendTo_len k k.ports.length
          rw [← HSL.out]
          unfold sendL
          split
          · simp
          · exact h2
        have := (insB_spec HGD.out.inv.conf.ports).2
        have := HGD.out.inv.num
        rw [← HM.out]
        omega
      have hm1 : c1 ≤ 9223372036854775807 := HA15.out.most
      have hm2 : c2 ≤ 9223372036854775807 := HA2.out.most
      have hl1 : m ≤ c1 := HA15.out.le
      have hl2 : m ≤ c2 := HA2.out.le
      have hm0 : (0 : Int) ≤ (m : Int) := by omega
      clear hA2 hE5 hf5 hst5 hk5 hst5' e2 HA1 HE4 HE HK4 HSN HF4 HB4 HG4 HSS
      go_wp2_with fail
      go_loopw [64] (fun v64 wr2 => ∃ i : Nat, i ≤ m ∧ v64 = .int .i64 (i : Int) ∧ Below w5.heap.size w5 wr2) (fun v64 _ => m - (intOf v64).toNat)
      case atStart => exact ⟨0, Nat.zero_le _, rfl, Below.refl _ _⟩
      case round =>
        obtain ⟨i, hi, rfl, hb⟩ := hrel
        have HBW := Lib.hid hb
        clear hb
        by_cases hlt : i < m
        rotate_left
        · obtain rfl : i = m := by omega
          have hle3 : decide ((i : Int) < (i : Int)) = false := by simp <;> omega
          go_wp2_with fail
          refine (awake41 _).mono ?_
          rintro e w9 ⟨rfl, hb9⟩
          have HB9 := Lib.hid (below_then HB2.out (HB5.out.trans ((below_then HBW.out hb9).mono HB5.out.size)))
          clear hb9
          go_wp2_with fail
          go_ret
          exact ⟨rfl, HB9.out⟩
        have hli : decide ((i : Int) < (m : Int)) = true := by simp; omega
        have hi0 : (0 : Int) ≤ (i : Int) := by omega
        have hi1 : (i : Int) < (m : Int) := by omega
        obtain ⟨w6, hw6⟩ : ∃ x : World, wr = x := ⟨_, rfl⟩
        subst hw6
        have hA1 := HA15.out.keep (Keep.of (M := fun _ => False) HBW.out) (fun _ _ h => h)
        have hA2 := HA2.out.keep (Keep.of (M := fun _ => False) HBW.out) (fun _ _ h => h)
        obtain ⟨b1, rfl, hr1⟩ := hA1.at_ (by omega)
        obtain ⟨b2, rfl, hr2⟩ := hA2.at_ (by omega)
        obtain ⟨x, hx⟩ : ∃ x, L[i]? = some x := ⟨_, List.getElem?_eq_getElem (by rw [HM.out]; exact hlt)⟩
        have hx1 := hr1 i x hx
        have hx2 := hr2 i (bump x) (by rw [List.getElem?_map, hx]; rfl)
        have hsx := HSE.out x (List.mem_of_getElem? hx)
        have HX1 := Lib.hid hx1
        have HX2 := Lib.hid hx2
        have HSX := Lib.hid hsx
        have HE6 := Lib.hid (HE5.out.below HBW.out)
        have d0 : wr.cell? ⟨qc, 0, none⟩ = some (.int .u64 c.id) := cell_below HBW.out ((HB5.out.cell hs2).trans (HR2.out 0 _ rfl))
        have HD0 := Lib.hid d0
        clear hA1 hA2 hr1 hr2 hx hx1 hx2 hsx d0
        go_upto_region 20 with (first | (refine load_pm HX1.out _ (by rfl) rfl rfl ?_) | (refine store_pm_new (m := x) rfl rfl _ _ (by rfl) rfl rfl rfl ?_; intro w7 h7))
        try simp only [Act.put, List.setIfInBounds_toArray, List.set_cons_succ, List.set_cons_zero]
        obtain ⟨qm, hqm⟩ : ∃ q, wr.heap.size = q := ⟨_, rfl⟩
        have HM7 := Lib.hid (show PMBlk w7 qm x by rw [← hqm]; exact h7.out.1)
        have HB7 := Lib.hid h7.out.2
        rw [hqm]
        have HE7 := Lib.hid (HE6.out.below HB7.out)
        have HX27 := Lib.hid (rangeAt_below HX2.out HB7.out)
        have d0 : w7.cell? ⟨qc, 0, none⟩ = some (.int .u64 c.id) := cell_below HB7.out HD0.out
        have HR7 := Lib.hid (show w7.rangeAt qm 1 x.msg.cells from by have := PM.msg_range HM7.out.range; simpa using this)
        have hwf : (Lit.int .i64 x.msg.kind).wf = true := by rw [HSX.out.kind]; decide
        have hof : ∀ r w, Calls Try.prog 16 #[x.msg.v, .int .u64 r, .int .i64 1] w fun e w' => e = .returned (.tuple #[(ofF x.msg r 1).v, .int .i64 0]) ∧ Below w.heap.size w w' := fun r w => by
          have h := of_any x.msg hwf r 1 w
          rw [HSX.out.of_] at h
          exact h
        have HOF := Lib.hid hof
        have HWF := Lib.hid hwf
        clear h7 hqm hwf hof HX1 HX2 HE6 HD0
        go_wp2_with (refine load_ptp_at HR7.out _ (by rfl) rfl rfl ?_)
        refine (HOF.out _ _).mono ?_
        rintro e w8 ⟨rfl, hb8⟩
        generalize hd : ofF x.msg _ 1 = d
        have hgm : d.gm = k.fol.gm := by rw [← hd]; exact HSX.out.gm _ _
        have HGM := Lib.hid hgm
        have HB8 := Lib.hid (below_then HB7.out hb8)
        have HM8 := Lib.hid (HM7.out.below hb8)
        have HE8 := Lib.hid (HE7.out.below hb8)
        have HX28 := Lib.hid (rangeAt_below HX27.out hb8)
        clear hb8 hd hgm d0 HB7 HM7 HE7 HX27 HR7 HOF
        have hz9 : DSBox (w8.alloc (.cells DS.zero.cells.toArray 35)) w8.heap.size .zero := heap_alloc_new w8 _
        have HZ9 := Lib.hid hz9
        have HA9 := Lib.hid (show Below w8.heap.size w8 (w8.alloc (.cells DS.zero.cells.toArray 35)) from (Below.refl _ _).alloc (Nat.le_refl _) _)
        clear hz9
        go_upto_region 21 with (refine store_ds_k (d := d) HZ9.out _ _ (by rfl) rfl rfl rfl ?_; intro w9 h9)
        try simp only [Act.put, List.setIfInBounds_toArray, List.set_cons_succ, List.set_cons_zero]
        obtain ⟨qd, hqd⟩ : ∃ q, w8.heap.size = q := ⟨_, rfl⟩
        have hb9 : Below w8.heap.size w8 w9 := Touch.below HA9.out h9.out.2 (Nat.le_refl _) (Nat.le_refl _)
        have HD9 := Lib.hid h9.out.1
        rw [hqd] at HD9 ⊢
        have HB9 := Lib.hid (below_then HB8.out hb9)
        have HM9 := Lib.hid (HM8.out.below hb9)
        have HE9 := Lib.hid (HE8.out.below hb9)
        have HX29 := Lib.hid (rangeAt_below HX28.out hb9)
        have HR9 := Lib.hid (show w9.rangeAt qm 1 x.msg.cells from by have := PM.msg_range HM9.out.range; simpa using this)
        clear hqd h9 hb9 HZ9 HA9 HB8 HM8 HE8 HX28
        obtain ⟨f, hf⟩ : ∃ f, k.fol = f := ⟨_, rfl⟩
        have hff := HF5.out.1
        rw [hf] at hff
        have z0 : ∀ u : Aft w9, u.now.cell? ⟨qm, 0, none⟩ = some (.int .i64 x.port) := fun u => u.cell (HM9.out.range 0 _ rfl)
        have z6 : ∀ u : Aft w9, u.now.cell? ⟨qm, 6, none⟩ = some (.int .i64 x.port) := fun u => by rw [← HSX.out.port]; exact u.cell (HM9.out.range 6 _ rfl)
        have y5 : ∀ u : Aft w9, u.now.cell? ⟨qd, 5, none⟩ = some (.int .u64 f.gm) := fun u => by rw [← hf, ← HGM.out]; exact u.cell (HD9.out.cell 5)
        have hfd := field_gm f
        have HPAR := Lib.hid (show ∀ w, CkE w w2.heap.size kb [] k5 → Calls Try.prog 13 #[.pointer (some ⟨kb, 0, none⟩)] w fun e w' => e = .returned f.v ∧ Below w.heap.size w w' from fun w h => by have h2 := parent_any h; rw [hff] at h2; exact h2)
        have HSTA := Lib.hid (show ∀ w, CkE w w2.heap.size kb [] k5 → Calls Try.prog 12 #[.pointer (some ⟨kb, 0, none⟩), .int .i64 x.port] w fun e w' => e = .returned (.int .i64 6) ∧ w = w' from fun w h => by have h2 := state_any h x.port; rw [HSS5.out, HSX.out.state] at h2; exact h2)
        have HCHK := Lib.hid (show ∀ w, Calls Try.prog 17 #[x.msg.v] w fun e w' => e = .returned (.int .i64 0) ∧ Below w.heap.size w w' from fun w => by have h2 := check_any x.msg HWF.out w; rw [HSX.out.check] at h2; exact h2)
        clear hf hff
        go_cut [108] (fun v108 wx => v108 = .bool false ∧ Below w9.heap.size w9 wx)
        case first =>
          refine wp_region_calm (by kernel_rfl) (by kernel_rfl) ?_
          repeat (first
            | (refine quiet_load_mid (by rfl) _ _ rfl qm 1 rfl x.msg.cells _ (Aft.range HR9.out) Try.underlying42 rfl infoPtp ?_; simp only [Act.put, List.setIfInBounds_toArray, List.set_cons_succ, List.set_cons_zero])
            | go_big_quiet_step ((first
              | (go_at_call 17; exact calm_of (HCHK.out _))
              | (go_at_call 13; exact calm_of (HPAR.out _ (HE9.out.below (Aft.below _))))
              | (go_at_call 12; exact calm_same (HSTA.out _ (HE9.out.below (Aft.below _)))))))
          refine wpQuiet_nil ?_
          rintro _ ⟨u, rfl⟩
          clear z0 z6 y5 hfd
          go_wp2_with fail
          go_meet
          case rel => exact ⟨rfl, u.below⟩
        case rest =>
          obtain ⟨rfl, hb10⟩ := hcut
          obtain ⟨w10, rfl⟩ : ∃ x : World, x = wc := ⟨_, rfl⟩
          have HB10 := Lib.hid (below_then HB9.out hb10)
          have HM10 := Lib.hid (HM9.out.below hb10)
          have HX210 := Lib.hid (rangeAt_below HX29.out hb10)
          clear z0 z6 y5 hfd hb10 HB9 HM9 HE9 HX29 HR9 HD9 HPAR HSTA HCHK
          go_upto_region 24 with (first | (refine load_pm HX210.out _ (by rfl) rfl rfl ?_) | (refine store_pm_new (m := bump x) rfl rfl _ _ (by rfl) rfl rfl rfl ?_; intro w11 h11))
          try simp only [Act.put, List.setIfInBounds_toArray, List.set_cons_succ, List.set_cons_zero]
          obtain ⟨qn, hqn⟩ : ∃ q, w10.heap.size = q := ⟨_, rfl⟩
          have hnn : PMBlk w11 qn (bump x) := by rw [← hqn]; exact h11.out.1
          have hb11 := h11.out.2
          rw [hqn]
          have hmn : qm < w10.heap.size := HM10.out.lt
          have hne : ¬ (qm = qn) := by omega
          have HB11 := Lib.hid (below_then HB10.out hb11)
          have HM11 := Lib.hid (HM10.out.below hb11)
          have HX211 := Lib.hid (rangeAt_below HX210.out hb11)
          have hb2n : b2 < w10.heap.size := World.block_lt_of_cell? w10 _ (HX210.out 0 _ rfl)
          have hne2 : ¬ (b2 = qn) := by omega
          have hqnl : w10.heap.size ≤ qn := Nat.le_of_eq hqn
          obtain ⟨s, hs⟩ : ∃ s, x.msg.seq = s := ⟨_, rfl⟩
          have hs0 : 0 ≤ s := by rw [← hs]; exact HSX.out.seq0
          have hs1 : s ≤ 65535 := by rw [← hs]; exact HSX.out.seq1
          have m7 : w11.cell? ⟨qm, 7, none⟩ = some (.int .i64 s) := by rw [← hs]; exact HM11.out.range 7 _ rfl
          have n7 : w11.cell? ⟨qn, 7, none⟩ = some (.int .i64 (bump x).msg.seq) := hnn.range 7 _ rfl
          have f7 : w11.frozen? ⟨qn, 7, none⟩ = false := frozen_of_row w11 qn 7 _ _ hnn
          have HNN := Lib.hid hnn
          have HS := Lib.hid hs
          have HB10N := Lib.hid (And.intro hqnl hb11)
          clear hqn h11 hnn hs hb11 HX210 HM10
          go_upto_region 25 with fail
          generalize hw12 : w11.setCell _ _ = w12
          have ht12 : Touch qn w11 w12 := by rw [← hw12]; exact (Touch.refl qn w11).set 7 _
          have hn12 : PMBlk w12 qn x := by
            show w12.heap[qn]? = _
            rw [← hw12, heap_set HNN.out, ← HS.out]
            simp [PM.cells, Ptp.cells, bump]
          have HN12 := Lib.hid hn12
          have HM12 := Lib.hid (show PMBlk w12 qm x from (ht12.block qm HM11.out.lt hne).trans HM11.out)
          have HX12 := Lib.hid (rangeAt_touch HX211.out ht12 hne2)
          have HB12 := Lib.hid (below_then HB10.out (Touch.below HB10N.out.2 ht12 HB10N.out.1 (Nat.le_refl _)))
          clear hw12 ht12 hn12 m7 n7 f7 HM11 HX211 HNN HB10N HB11
          obtain ⟨r, hr⟩ : ∃ r, (s + 1) % 65536 = r := ⟨_, rfl⟩
          have hbs : (bump x).msg.seq = r := by rw [← hr, ← HS.out]; rfl
          have m7 : ∀ u : Aft w12, u.now.cell? ⟨qm, 7, none⟩ = some (.int .i64 s) := fun u => by rw [← HS.out]; exact u.cell (HM12.out.range 7 _ rfl)
          have n7 : ∀ u : Aft w12, u.now.cell? ⟨b2, i * 22 + 7, none⟩ = some (.int .i64 r) := fun u => by rw [← hbs]; exact u.cell (HX12.out 7 _ rfl)
          have n7' : ∀ u : Aft w12, u.now.cell? ⟨b2, i * 22 + 1 + 6, none⟩ = some (.int .i64 r) := fun u => n7 u
          have hnp : ∀ w : World, (binOp .neq 53 (.agg x.cells.toArray) (.agg x.cells.toArray)).run Try.prog w = .ok (.bool false) w := neq_pm x
          have hwr : IntKind.i64.wrap (s + 1) = s + 1 := IntWalk.i64_in _ (by omega)
          have htm : (s + 1).tmod 65536 = r := by rw [← hr]; exact Int.tmod_eq_emod_of_nonneg (by omega)
          have HRR := Lib.hid hr
          have HBS := Lib.hid hbs
          clear hr hbs
          go_cut [134] (fun v134 wx => v134 = .bool false ∧ Below w12.heap.size w12 wx)
          case first =>
            refine wp_region_calm (by kernel_rfl) (by kernel_rfl) ?_
            repeat (first
              | (refine quiet_load_mid (by rfl) _ _ rfl qn 0 rfl x.cells _ (Aft.range HN12.out.range) Try.underlying53 rfl infoPM22 ?_; simp only [Act.put, List.setIfInBounds_toArray, List.set_cons_succ, List.set_cons_zero])
              | (refine quiet_load_mid (by rfl) _ _ rfl qm 0 rfl x.cells _ (Aft.range HM12.out.range) Try.underlying53 rfl infoPM22 ?_; simp only [Act.put, List.setIfInBounds_toArray, List.set_cons_succ, List.set_cons_zero])
              | go_big_quiet_step (fail))
            refine wpQuiet_nil ?_
            rintro _ ⟨u, rfl⟩
            clear m7 n7 n7' hnp hwr htm
            go_wp2_with fail
            go_meet
            case rel => exact ⟨rfl, u.below⟩
          case rest =>
            obtain ⟨rfl, hb13⟩ := hcut
            have HB13 := Lib.hid (HBW.out.trans ((below_then HB12.out hb13).mono HBW.out.size))
            clear m7 n7 n7' hnp hwr htm hb13
            go_wp2_with fail
            go_roundw
            case rel => exact ⟨i + 1, by omega, by go_num, HB13.out⟩
            case measure => simp [intOf]; omega
end Go.Proofs.Ytfbmlpdomfchpaa
