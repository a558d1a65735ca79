/- The walk of BoundaryFollows. -/
import Derived.WalkKit
import Derived.LoopTactic
import Derived.Outline
import Derived.Lib.Hide
import Derived.Deep.DeepCutAuto
import Derived.Deep.CutBlock
import Derived.Test.YtfbmlpdomfchpaaB11
import Derived.Test.YtfbmlpdomfchpaaB18
import Derived.Test.YtfbmlpdomfchpaaB23
namespace Go.Proofs.Ytfbmlpdomfchpaa
open Go.RowKit
set_option linter.unusedVariables false
set_option linter.unusedSimpArgs false

/-- How many of the first j ports use sync messages. -/
def cntTo (k : Ck) : Nat → Int
  | 0 => 0
  | j + 1 => match k.ports[j]? with
    | some p => if usesB p.now = true then cntTo k j + 1 else cntTo k j
    | none => cntTo k j
theorem cnt_one {k : Ck} (h : k.Good) : ∀ j, (cntTo k j = 0 ∧ ∀ i p, i < j → k.ports[i]? = some p → usesB p.now = false) ∨ (cntTo k j = 1 ∧ ∃ i p, i < j ∧ k.ports[i]? = some p ∧ usesB p.now = true)
  | 0 => .inl ⟨rfl, fun i p hi => by omega⟩
  | j + 1 => by
    have ih := cnt_one h j
    unfold cntTo
    cases hp : k.ports[j]? with
    | none =>
      simp only []
      rcases ih with ⟨e, hno⟩ | ⟨e, i, p, hi, hpi, hu⟩
      · exact .inl ⟨e, fun i p hi hpi => by
          by_cases hij : i = j
          · subst hij; rw [hp] at hpi; cases hpi
          · exact hno i p (by omega) hpi⟩
      · exact .inr ⟨e, i, p, by omega, hpi, hu⟩
    | some q =>
      simp only []
      by_cases hu : usesB q.now = true
      · rw [if_pos hu]
        rcases ih with ⟨e, hno⟩ | ⟨e, i, p, hi, hpi, hui⟩
        · exact .inr ⟨by omega, j, q, by omega, hp, hu⟩
        · have := h.one i j p q hpi hp hui hu
          omega
      · rw [if_neg hu]
        rcases ih with ⟨e, hno⟩ | ⟨e, i, p, hi, hpi, hui⟩
        · exact .inl ⟨e, fun i p hi hpi => by
            by_cases hij : i = j
            · subst hij; rw [hp] at hpi; injection hpi with hpi; subst hpi; simpa using hu
            · exact hno i p (by omega) hpi⟩
        · exact .inr ⟨e, i, p, by omega, hpi, hui⟩
theorem cnt_range {k : Ck} (h : k.Good) (j : Nat) : 0 ≤ cntTo k j ∧ cntTo k j ≤ 1 := by
  rcases cnt_one h j with ⟨e, _⟩ | ⟨e, _⟩ <;> omega
set_option maxRecDepth 100000 in
set_option maxHeartbeats 4000000 in
theorem BoundaryFollows_walk {A : Option Addr} {n cap : Nat} {l : List Bact} (c : BConf) (w : World) (ok : BactArg w A n cap l) (hwf : ∀ o ∈ l, (Lit.int .i64 o.msg.kind).wf = true) :
    Calls Try.prog 3 #[c.v, .slice A n cap] w fun e w' => e = .returned (.bool true) ∧ Below w.heap.size w w' := by
  have hlen := ok.len_eq
  have hmost := ok.most
  have hle := ok.le
  have OK := Lib.hid ok
  have WF := Lib.hid hwf
  have HL := Lib.hid hlen
  clear ok hwf hlen
  go_enter Try.func3, Try.ntmps3
  go_wp2_with fail
  generalize hW : w.alloc _ = w1
  have hb1 : Below w.heap.size w w1 := by rw [← hW]; exact (Below.refl _ _).alloc (Nat.le_refl _) _
  have hr1 : w1.rangeAt w.heap.size 0 c.cells := by
    rw [← hW]
    intro j v hv
    rw [Nat.zero_add, cell_of_row _ _ j _ _ (0, 0) (heap_alloc_new w _), ← hv]
    simp [BConf.cells]
  have hs1 : w.heap.size < w1.heap.size := by rw [← hW]; simp
  obtain ⟨qc, hqc⟩ : ∃ q, w.heap.size = q := ⟨_, rfl⟩
  rw [hqc] at hr1 hs1 ⊢
  have HB1 := Lib.hid hb1
  have HR1 := Lib.hid hr1
  have HQ := Lib.hid hqc
  clear hW hb1 hr1 hqc
  refine (short_any (OK.out.below HB1.out)).mono ?_
  rintro e w2 ⟨b, rfl, hb2⟩
  have HB2 := Lib.hid (below_then HB1.out hb2)
  have HR2 := Lib.hid (rangeAt_below HR1.out hb2)
  have hs2 : qc < w2.heap.size := Nat.lt_of_lt_of_le hs1 hb2.size
  clear hb2 HB1 HR1 hs1
  cases b
  · go_wp2_with fail
    refine (awake41 w2).mono ?_
    rintro e w3 ⟨rfl, hb3⟩
    have HB3 := Lib.hid (below_then HB2.out hb3)
    clear hb3
    go_wp2_with fail
    go_ret
    exact ⟨rfl, HB3.out⟩
  have c0 : w2.cell? ⟨qc, 0, none⟩ = some (.int .u64 c.id) := HR2.out 0 _ rfl
  have c1 : w2.cell? ⟨qc, 1, none⟩ = some (.int .i64 c.p1) := HR2.out 1 _ rfl
  have c2 : w2.cell? ⟨qc, 2, none⟩ = some (.int .i64 c.cls) := HR2.out 2 _ rfl
  have c3 : w2.cell? ⟨qc, 3, none⟩ = some (.int .i64 c.acc) := HR2.out 3 _ rfl
  have c4 : w2.cell? ⟨qc, 4, none⟩ = some (.int .i64 c.var) := HR2.out 4 _ rfl
  have c5 : w2.cell? ⟨qc, 5, none⟩ = some (.int .i64 c.p2) := HR2.out 5 _ rfl
  have c6 : w2.cell? ⟨qc, 6, none⟩ = some (.int .i64 c.domain) := HR2.out 6 _ rfl
  have c7 : w2.cell? ⟨qc, 7, none⟩ = some (.int .i64 c.ports) := HR2.out 7 _ rfl
  have c8 : w2.cell? ⟨qc, 8, none⟩ = some (.int .i64 c.window) := HR2.out 8 _ rfl
  have c9 : w2.cell? ⟨qc, 9, none⟩ = some (.int .i64 c.need) := HR2.out 9 _ rfl
  have c10 : w2.cell? ⟨qc, 10, none⟩ = some (.int .i64 c.timeout) := HR2.out 10 _ rfl
  by_cases hok : c.Ok
  rotate_left
  · have HBAD := Lib.hid hok
    clear hok
    go_wp2_with fail
    refine (bnew_bad c HBAD.out w2).mono ?_
    rintro e w3 ⟨rfl, hb3⟩
    have HB3 := Lib.hid (below_then HB2.out hb3)
    have HR3 := Lib.hid (rangeAt_below HR2.out hb3)
    have d0 : w3.cell? ⟨qc, 0, none⟩ = some (.int .u64 c.id) := HR3.out 0 _ rfl
    have d1 : w3.cell? ⟨qc, 1, none⟩ = some (.int .i64 c.p1) := HR3.out 1 _ rfl
    have d2 : w3.cell? ⟨qc, 2, none⟩ = some (.int .i64 c.cls) := HR3.out 2 _ rfl
    have d3 : w3.cell? ⟨qc, 3, none⟩ = some (.int .i64 c.acc) := HR3.out 3 _ rfl
    have d4 : w3.cell? ⟨qc, 4, none⟩ = some (.int .i64 c.var) := HR3.out 4 _ rfl
    have d5 : w3.cell? ⟨qc, 5, none⟩ = some (.int .i64 c.p2) := HR3.out 5 _ rfl
    have d6 : w3.cell? ⟨qc, 6, none⟩ = some (.int .i64 c.domain) := HR3.out 6 _ rfl
    have d7 : w3.cell? ⟨qc, 7, none⟩ = some (.int .i64 c.ports) := HR3.out 7 _ rfl
    have d8 : w3.cell? ⟨qc, 8, none⟩ = some (.int .i64 c.window) := HR3.out 8 _ rfl
    have d9 : w3.cell? ⟨qc, 9, none⟩ = some (.int .i64 c.need) := HR3.out 9 _ rfl
    have d10 : w3.cell? ⟨qc, 10, none⟩ = some (.int .i64 c.timeout) := HR3.out 10 _ rfl
    clear hb3 c0 c1 c2 c3 c4 c5 c6 c7 c8 c9 c10
    go_wp2_with fail
    refine (check_bad c HBAD.out w3).mono ?_
    rintro e w4 ⟨rfl, hb4⟩
    have HB4 := Lib.hid (below_then HB3.out hb4)
    clear hb4 d0 d1 d2 d3 d4 d5 d6 d7 d8 d9 d10
    go_wp2_with fail
    refine (awake41 w4).mono ?_
    rintro e w5 ⟨rfl, hb5⟩
    have HB5 := Lib.hid (below_then HB4.out hb5)
    clear hb5
    go_wp2_with fail
    go_ret
    exact ⟨rfl, HB5.out⟩
  have HOK := Lib.hid hok
  clear hok
  go_wp2_with fail
  refine (bnew_any c HOK.out w2).mono ?_
  rintro e w3 ⟨kb, rfl, hE3, hb3⟩
  have HE3 := Lib.hid hE3
  have HB3 := Lib.hid hb3
  have HR3 := Lib.hid (rangeAt_below HR2.out hb3)
  have d0 : w3.cell? ⟨qc, 0, none⟩ = some (.int .u64 c.id) := HR3.out 0 _ rfl
  have d1 : w3.cell? ⟨qc, 1, none⟩ = some (.int .i64 c.p1) := HR3.out 1 _ rfl
  have d2 : w3.cell? ⟨qc, 2, none⟩ = some (.int .i64 c.cls) := HR3.out 2 _ rfl
  have d3 : w3.cell? ⟨qc, 3, none⟩ = some (.int .i64 c.acc) := HR3.out 3 _ rfl
  have d4 : w3.cell? ⟨qc, 4, none⟩ = some (.int .i64 c.var) := HR3.out 4 _ rfl
  have d5 : w3.cell? ⟨qc, 5, none⟩ = some (.int .i64 c.p2) := HR3.out 5 _ rfl
  clear hb3 hE3 c0 c1 c2 c3 c4 c5 c6 c7 c8 c9 c10
  go_wp2_with fail
  refine (own_any ⟨c.p1, c.cls, c.acc, c.var, c.p2⟩ c.id w3).mono ?_
  rintro e w4 ⟨rfl, hb4⟩
  rw [show ownF ⟨c.p1, c.cls, c.acc, c.var, c.p2⟩ c.id = c.own from rfl]
  have HE4 := Lib.hid (HE3.out.below hb4)
  have HB4 := Lib.hid (below_then HB3.out hb4)
  clear hb4 d0 d1 d2 d3 d4 d5 HE3 HB3 HR3
  have hz5 : DSBox (w4.alloc (.cells DS.zero.cells.toArray 35)) w4.heap.size .zero := heap_alloc_new w4 _
  have HZ5 := Lib.hid hz5
  have HA5 := Lib.hid (show Below w4.heap.size w4 (w4.alloc (.cells DS.zero.cells.toArray 35)) from (Below.refl _ _).alloc (Nat.le_refl _) _)
  clear hz5
  go_upto_region 7 with (refine store_ds_k (d := c.own) HZ5.out _ _ (by rfl) rfl rfl rfl ?_; intro w5 h5)
  try simp only [Act.put, List.setIfInBounds_toArray, List.set_cons_succ, List.set_cons_zero]
  obtain ⟨qo, hqo⟩ : ∃ q, w4.heap.size = q := ⟨_, rfl⟩
  have hb45 : Below w4.heap.size w4 w5 := Touch.below HA5.out h5.out.2 (Nat.le_refl _) (Nat.le_refl _)
  have HO5 := Lib.hid h5.out.1
  have HB5 := Lib.hid (below_then HB4.out hb45)
  rw [hqo] at HO5 ⊢
  have HE5 := Lib.hid (HE4.out.add hb45 (Nat.le_of_eq hqo) HO5.out.lt)
  clear hqo h5 hb45 HZ5 HA5 HE4 HB4
  have hn0 : (0 : Int) ≤ (n : Int) := by omega
  have HLOW := Lib.hid (show Below w.heap.size w w2 from HB2.out)
  go_wp2_with fail
  go_loopw [7, 35] (fun v7 v35 wr => ∃ (j : Nat) (t : Int) (k : Ck), j ≤ n ∧ v35 = .int .i64 (j : Int) ∧ v7 = .int .i64 t ∧ CkE wr w2.heap.size kb [qo] k ∧ k.Good ∧ k.c = c ∧ Stay w2.heap.size [qo] w5 wr) (fun _ v35 _ => n - (intOf v35).toNat)
  case atStart => exact ⟨0, 0, _, Nat.zero_le _, rfl, rfl, HE5.out, good_new c HOK.out, rfl, ⟨Below.refl _ _, fun _ _ => rfl⟩⟩
  case round =>
    obtain ⟨j, t, k, hj, rfl, rfl, hE, hgood, hkc, hst⟩ := hrel
    have HE := Lib.hid hE
    have HGD := Lib.hid hgood
    have HKC := Lib.hid hkc
    have HST := Lib.hid hst
    clear hE hgood hkc hst
    have HBR := Lib.hid (HB5.out.trans HST.out.below)
    by_cases hlt : j < n
    rotate_left
    · obtain rfl : j = n := by omega
      have hle2 : decide ((j : Int) < (j : Int)) = false := by simp <;> omega
      go_wp2_with fail
      refine (awake41 wr).mono ?_
      rintro e w6 ⟨rfl, hb6⟩
      have HB6 := Lib.hid (below_then (below_then HB2.out HBR.out) hb6)
      clear hb6
      go_wp2_with fail
      go_ret
      exact ⟨rfl, HB6.out⟩
    have hlj : decide ((j : Int) < (n : Int)) = true := by simp; omega
    have hk0 : (0 : Int) ≤ (j : Int) := by omega
    have hk1 : (j : Int) < (n : Int) := by omega
    obtain ⟨b, off, rfl, hbl, hrow⟩ := (OK.out.below (below_then HB2.out HBR.out)).at_ (by omega)
    obtain ⟨a, ha⟩ : ∃ a, l.getD j .zero = a := ⟨_, rfl⟩
    have hra := hrow j (by rw [HL.out]; exact hlt)
    rw [ha] at hra
    have hwa : (Lit.int .i64 a.msg.kind).wf = true := WF.out a (by rw [← ha, getD_act l j (by rw [HL.out]; exact hlt)]; exact List.getElem_mem _)
    have HRA := Lib.hid hra
    have HWA := Lib.hid hwa
    clear hrow hra ha hbl hwa
    go_upto_region 11 with (first | (refine load_act HRA.out _ (by rfl) rfl rfl ?_) | (refine store_act_new (o := a) rfl rfl _ _ (by rfl) rfl rfl rfl ?_; intro w6 h6))
    try simp only [Act.put, List.setIfInBounds_toArray, List.set_cons_succ, List.set_cons_zero]
    obtain ⟨qa, hqa⟩ : ∃ q, wr.heap.size = q := ⟨_, rfl⟩
    have HA6 := Lib.hid (show w6.rangeAt qa 0 a.cells by rw [← hqa]; exact h6.out.1)
    have HB6 := Lib.hid h6.out.2.1
    rw [hqa]
    have HE6 := Lib.hid (HE.out.below HB6.out)
    have HST6 := Lib.hid (HST.out.trans (HE.out.stay HB6.out))
    have a0 : w6.cell? ⟨qa, 0, none⟩ = some (.int .i64 a.kind) := HA6.out 0 _ rfl
    have a2 : w6.cell? ⟨qa, 2, none⟩ = some (.int .i64 a.at_) := HA6.out 2 _ rfl
    clear h6 hqa HRA
    go_cut [46] (fun v46 wx => v46 = .bool (a.kind == 0 || a.kind == 1) ∧ wx = w6)
    case first =>
      cases g0 : a.kind == 0
      · have G0 := Lib.hid g0
        go_wp2_with fail
        go_meet
        case rel => exact ⟨by rw [G0.out]; rfl, rfl⟩
      · have G0 := Lib.hid g0
        go_wp2_with fail
        go_meet
        case rel => exact ⟨by rw [G0.out]; rfl, rfl⟩
    case rest =>
      obtain ⟨rfl, rfl⟩ := hcut
      obtain ⟨w6, rfl⟩ : ∃ x : World, x = wc := ⟨_, rfl⟩
      obtain ⟨tb, htb⟩ : ∃ x, (a.kind == 0 || a.kind == 1) = x := ⟨_, rfl⟩
      rw [htb]
      clear htb a0
      go_upto_if 46 with fail
      go_cut [7] (fun v7 wx => (∃ t2, v7 = .int .i64 t2) ∧ wx = w6)
      case first =>
        cases tb
        · go_wp2_with fail
          go_meet
          case rel => exact ⟨⟨_, rfl⟩, rfl⟩
        · go_wp2_with fail
          go_meet
          case rel => exact ⟨⟨_, rfl⟩, rfl⟩
      case rest =>
        obtain ⟨⟨t2, rfl⟩, rfl⟩ := hcut
        obtain ⟨w6, rfl⟩ : ∃ x : World, x = wc := ⟨_, rfl⟩
        clear a2
        go_wp2_with (refine load_act HA6.out _ (by rfl) rfl rfl ?_)
        refine (play_any HE6.out HGD.out a HWA.out t2).mono ?_
        rintro e w7 ⟨rfl, hE7, hst7⟩
        obtain ⟨k2, hk2⟩ : ∃ x, playK k a t2 = x := ⟨_, rfl⟩
        have hg2 := good_play HGD.out a t2
        have hc2 := play_conf k a t2
        rw [hk2] at hE7 hg2 hc2
        have HE7 := Lib.hid hE7
        have HG2 := Lib.hid hg2
        have HC2 := Lib.hid (hc2.trans HKC.out)
        have HST7 := Lib.hid (HST6.out.trans hst7)
        clear hE7 hst7 hk2 hg2 hc2 HE6 HST6 HGD HKC HE HST HB6 HA6
        obtain ⟨m, hm⟩ : ∃ m, k2.ports.length = m := ⟨_, rfl⟩
        have hmc : c.ports = (m : Int) := by have := HG2.out.inv.num; rw [HC2.out] at this; omega
        have hm8 : m ≤ 8 := by have := (insB_spec HOK.out.ports).2; omega
        have HM := Lib.hid hm
        have d7 : w7.cell? ⟨qc, 7, none⟩ = some (.int .i64 (m : Int)) := by rw [← hmc]; exact HST7.out.cell (cell_below HB5.out (HR2.out 7 _ rfl)) (.inl hs2)
        clear hm hmc
        go_wp2_with fail
        obtain ⟨wp, rfl⟩ : ∃ x : World, x = w7 := ⟨_, rfl⟩
        go_loop [10, 11] (fun v10 v11 => ∃ i : Nat, i ≤ m ∧ v11 = .int .i64 ((i : Int) + 1) ∧ v10 = .int .i64 (cntTo k2 i)) (fun _ v11 => m + 1 - (intOf v11).toNat)
        case atStart => exact ⟨0, Nat.zero_le _, rfl, rfl⟩
        case round =>
          obtain ⟨i, hi, rfl, rfl⟩ := hrel
          obtain ⟨hcr0, hcr1⟩ := cnt_range HG2.out i
          obtain ⟨cn, hcn⟩ : ∃ x, cntTo k2 i = x := ⟨_, rfl⟩
          rw [hcn] at hcr0 hcr1 ⊢
          have HCN := Lib.hid hcn
          clear hcn
          by_cases hli : i < m
          · have hle3 : decide ((i : Int) + 1 ≤ (m : Int)) = true := by simp; omega
            obtain ⟨p, hp⟩ : ∃ p, k2.ports[i]? = some p := ⟨_, List.getElem?_eq_getElem (by rw [HM.out]; exact hli)⟩
            have hsf : stateF k2 ((i : Int) + 1) = p.now := by
              rw [stateF, if_pos (by omega), show ((i : Int) + 1).toNat - 1 = i from by omega, hp]
            have hsa := state_any HE7.out ((i : Int) + 1)
            rw [hsf] at hsa
            have HSA := Lib.hid hsa
            have hcx : cntTo k2 (i + 1) = if usesB p.now = true then cn + 1 else cn := by rw [cntTo, hp]; simp only []; rw [HCN.out]
            have HCX := Lib.hid hcx
            clear hp hsf hsa hcx
            by_cases h8 : p.now = 8
            · have HX := Lib.hid (show cntTo k2 (i + 1) = cn + 1 by rw [HCX.out, if_pos (by rw [h8]; rfl)])
              rw [h8] at HSA
              clear h8
              go_wp2_with fail
              refine HSA.out.mono ?_
              rintro e _ ⟨rfl, rfl⟩
              go_wp2_with fail
              go_round
              case rel => exact ⟨i + 1, by omega, by go_num, by rw [HX.out]⟩
              case measure => simp [intOf]; omega
            have b8 : (p.now == 8) = false := by simpa using h8
            by_cases h9 : p.now = 9
            · have HX := Lib.hid (show cntTo k2 (i + 1) = cn + 1 by rw [HCX.out, if_pos (by rw [h9]; rfl)])
              rw [h9] at HSA
              clear h8 h9 b8
              go_wp2_with fail
              refine HSA.out.mono ?_
              rintro e _ ⟨rfl, rfl⟩
              go_wp2_with fail
              go_round
              case rel => exact ⟨i + 1, by omega, by go_num, by rw [HX.out]⟩
              case measure => simp [intOf]; omega
            have b9 : (p.now == 9) = false := by simpa using h9
            have HX := Lib.hid (show cntTo k2 (i + 1) = cn by rw [HCX.out, if_neg (by simp [usesB, h8, h9])])
            clear h8 h9
            go_wp2_with fail
            refine HSA.out.mono ?_
            rintro e _ ⟨rfl, rfl⟩
            go_wp2_with fail
            go_round
            case rel => exact ⟨i + 1, by omega, by go_num, by rw [HX.out]⟩
            case measure => simp [intOf]; omega
          · obtain rfl : i = m := by omega
            have hle3 : decide ((i : Int) + 1 ≤ (i : Int)) = false := by simp <;> omega
            go_wp2_with fail
            obtain ⟨f, hf⟩ : ∃ f, k2.fol = f := ⟨_, rfl⟩
            have hpa := parent_any HE7.out
            have hfo := HG2.out.fol
            rw [hf] at hpa hfo
            rw [HC2.out] at hfo
            have HFO := Lib.hid hfo
            refine hpa.mono ?_
            rintro e w8 ⟨rfl, hb8⟩
            have HE8 := Lib.hid (HE7.out.below hb8)
            have HST8 := Lib.hid (HST7.out.trans (HE7.out.stay hb8))
            have hz9 : DSBox (w8.alloc (.cells DS.zero.cells.toArray 35)) w8.heap.size .zero := heap_alloc_new w8 _
            have HZ9 := Lib.hid hz9
            have HA9 := Lib.hid (show Below w8.heap.size w8 (w8.alloc (.cells DS.zero.cells.toArray 35)) from (Below.refl _ _).alloc (Nat.le_refl _) _)
            clear hpa hfo hf hb8 hz9 d7 HE7 HST7
            go_upto_region 22 with (refine store_ds_k (d := f) HZ9.out _ _ (by rfl) rfl rfl rfl ?_; intro w9 h9)
            try simp only [Act.put, List.setIfInBounds_toArray, List.set_cons_succ, List.set_cons_zero]
            obtain ⟨qd, hqd⟩ : ∃ q, w8.heap.size = q := ⟨_, rfl⟩
            have hb9 : Below w8.heap.size w8 w9 := Touch.below HA9.out h9.out.2 (Nat.le_refl _) (Nat.le_refl _)
            have HD9 := Lib.hid h9.out.1
            rw [hqd] at HD9 ⊢
            have HE9 := Lib.hid (HE8.out.below hb9)
            have HST9 := Lib.hid (HST8.out.trans (HE8.out.stay hb9))
            have HO9 := Lib.hid (show DSBox w9 qo c.own from (HST9.out.same qo (by simp)).trans HO5.out)
            have i0 : w9.cell? ⟨qc, 0, none⟩ = some (.int .u64 c.id) := HST9.out.cell (cell_below HB5.out (HR2.out 0 _ rfl)) (.inl hs2)
            have q5 : w9.cell? ⟨qd, 5, none⟩ = some (.int .u64 f.gm) := HD9.out.cell 5
            clear hqd h9 hb9 HZ9 HA9 HE8 HST8
            obtain hcz | hcz : cn = 0 ∨ cn = 1 := by omega
            all_goals subst hcz
            all_goals clear hcr0 hcr1
            all_goals
              have hne := neq_ds f c.own
              by_cases hfo : f = c.own
              · have hd : decide (f = c.own) = true := by simpa using hfo
                clear hfo
                have tokd : True := trivial
                have toko : True := trivial
                go_upto_if 92 with (first | (have _t := tokd; refine load_ds HD9.out.range _ (by rfl) rfl rfl ?_; clear _t tokd) | (have _t := toko; refine load_ds HO9.out.range _ (by rfl) rfl rfl ?_; clear _t toko))
                go_wp2_with fail
                go_roundw
                case rel => exact ⟨j + 1, t2, k2, by omega, by go_num, rfl, HE9.out, HG2.out, HC2.out, HST9.out⟩
                case measure => simp [intOf]; omega
              · have hd : decide (f = c.own) = false := by simpa using hfo
                have hgl : f.gm ≠ c.id ∧ lessB c.own f = false := by
                  rcases HFO.out with e | ⟨h1, h2, _⟩
                  · exact absurd e hfo
                  · exact ⟨h1, h2⟩
                have hgb : (f.gm == c.id) = false := by simpa using hgl.1
                have HLS := Lib.hid (less_false hgl.2 w9)
                clear hfo hgl
                have tokd : True := trivial
                have toko : True := trivial
                have tokd2 : True := trivial
                have toko2 : True := trivial
                go_upto_if 92 with (first | (have _t := tokd; refine load_ds HD9.out.range _ (by rfl) rfl rfl ?_; clear _t tokd) | (have _t := toko; refine load_ds HO9.out.range _ (by rfl) rfl rfl ?_; clear _t toko) | (have _t := tokd2; refine load_ds HD9.out.range _ (by rfl) rfl rfl ?_; clear _t tokd2) | (have _t := toko2; refine load_ds HO9.out.range _ (by rfl) rfl rfl ?_; clear _t toko2))
                refine HLS.out.mono ?_
                rintro e w10 ⟨rfl, hb10⟩
                have HE10 := Lib.hid (HE9.out.below hb10)
                have HST10 := Lib.hid (HST9.out.trans (HE9.out.stay hb10))
                clear hb10 hne hd i0 q5
                go_wp2_with fail
                go_roundw
                case rel => exact ⟨j + 1, t2, k2, by omega, by go_num, rfl, HE10.out, HG2.out, HC2.out, HST10.out⟩
                case measure => simp [intOf]; omega
end Go.Proofs.Ytfbmlpdomfchpaa
