/- The walk of ForeignBounds (written by gen_bounds.py). -/
import Derived.WalkKit
import Derived.LoopTactic
import Derived.Outline
import Derived.Lib.Hide
import Derived.StillTailTactics
import Derived.Deep.QuietTactic
import Derived.Deep.DeepCutAuto
import Derived.Test.YtboijaffpnmcaaaF18
import Derived.Test.YtboijaffpnmcaaaF22
namespace Go.Proofs.Ytboijaffpnmcaaa
open Go.RowKit
set_option linter.unusedVariables false
set_option linter.unusedSimpArgs false

set_option maxRecDepth 100000 in
set_option maxHeartbeats 4000000 in
theorem ForeignBounds_walk (window : Int) {A : Option Addr} {len cap : Nat} {l : List Op35} (w : World) (h : OpArg w A len cap l) (hat : ∀ o ∈ l, o.at_ ≤ 9223372036854775807) : Calls Try.prog 3 #[.int .i64 window, .slice A len cap] w fun e w' => e = .returned (.bool true) ∧ Below w.heap.size w w' := by
  have HA := Lib.hid h
  have HAT := Lib.hid hat
  clear h hat
  go_enter Try.func3, Try.ntmps3
  go_wp2_with fail
  by_cases hb1 : window < 1
  · refine (fnew_bad window 1 (.inl hb1) w).mono ?_
    rintro e _ ⟨rfl, rfl⟩
    have d0 : decide (1 ≤ window) = false := by simp; omega
    clear hb1
    go_wp2_with fail
    refine (awake35 w).mono ?_
    rintro e wz ⟨rfl, hbz⟩
    have HBZ := Lib.hid (show Below w.heap.size w wz from (Below.refl w.heap.size w).trans (hbz.mono (Below.refl w.heap.size w).size))
    clear hbz
    go_wp2_with fail
    go_ret
    exact ⟨rfl, HBZ.out⟩
  by_cases hb2 : 1125899906842624 < window
  · refine (fnew_bad window 1 (.inr (.inl hb2)) w).mono ?_
    rintro e _ ⟨rfl, rfl⟩
    have d0 : decide (1 ≤ window) = true := by simp; omega
    have d1 : decide (window ≤ 1125899906842624) = false := by simp; omega
    clear hb1 hb2
    go_wp2_with fail
    refine (awake35 w).mono ?_
    rintro e wz ⟨rfl, hbz⟩
    have HBZ := Lib.hid (show Below w.heap.size w wz from (Below.refl w.heap.size w).trans (hbz.mono (Below.refl w.heap.size w).size))
    clear hbz
    go_wp2_with fail
    go_ret
    exact ⟨rfl, HBZ.out⟩
  have hc1 : 1 ≤ window := by omega
  have hc2 : window ≤ 1125899906842624 := by omega
  have d0 : decide (1 ≤ window) = true := by simp; omega
  have d1 : decide (window ≤ 1125899906842624) = true := by simp; omega
  refine (aw_new window 1 hc1 hc2 (by decide) (by decide) w).mono ?_
  rintro e w2 ⟨rfl, hA2, hb2, hs2⟩
  obtain ⟨B, hB⟩ : ∃ B, w.heap.size = B := ⟨_, rfl⟩
  rw [hB] at hA2 hs2 hb2 ⊢
  have HA2 := Lib.hid hA2
  have HB2 := Lib.hid hb2
  have HBE := Lib.hid hB
  clear hA2 hb2 hB hb1
  by_cases hlong : 60 < len
  · have d2 : decide (60 < (len : Int)) = true := by simp; omega
    go_wp2_with fail
    refine (awake35 w2).mono ?_
    rintro e w3 ⟨rfl, hb⟩
    have HB3 := Lib.hid (show Below w.heap.size w w3 from by rw [HBE.out]; exact HB2.out.trans (hb.mono (by omega)))
    clear hb
    go_wp2_with fail
    go_ret
    exact ⟨rfl, HB3.out⟩
  have d2 : decide (60 < (len : Int)) = false := by simp; omega
  go_wp2_with fail
  go_loopw [6] (fun vi wr => ∃ k : Nat, k ≤ len ∧ vi = .int .i64 k ∧ AwE wr B [] (runS (newF window 1) (l.take k)) ∧ Below B w2 wr) (fun vi _ => len - (intOf vi).toNat)
  case atStart => exact ⟨0, Nat.zero_le _, rfl, HA2.out, Below.refl _ _⟩
  case round =>
    obtain ⟨k, hk, rfl, hA, hbr⟩ := hrel
    by_cases hlt : k < len
    · have hk0 : (0 : Int) ≤ (k : Int) := by omega
      have hk1 : (k : Int) < (len : Int) := by omega
      have hle := HA.out.le
      have hmo := HA.out.most
      obtain ⟨b, off, rfl, hbl, hat⟩ := HA.out.at_ (by omega)
      obtain ⟨o, ho⟩ : ∃ o, l[k]? = some o := ⟨_, List.getElem?_eq_getElem (by rw [HA.out.len_eq]; exact hlt)⟩
      have hoat := HAT.out o (List.mem_of_getElem? ho)
      have hop : wr.rangeAt b (off + k * 13) o.cells := fun j v hv => by
        have h1 := hat k o ho j v hv
        have hb1 : b < B := by rw [HBE.out] at hbl; omega
        exact (hbr.cell hb1).trans ((HB2.out.cell hb1).trans h1)
      have HO := Lib.hid hop
      have HNX := Lib.hid (runS_next (f := newF window 1) ho)
      have HAW := Lib.hid hA
      have HBR := Lib.hid hbr
      clear hat ho hop hA hbr
      have t0 : wr.cell? ⟨b, off + k * 13 + 1, none⟩ = some (.int .i64 o.at_) := HO.out 1 _ rfl
      have s0 : wr.cell? ⟨b, off + k * 13 + 2, none⟩ = some (.int .i64 o.set.p1) := HO.out 2 _ rfl
      have s1 : wr.cell? ⟨b, off + k * 13 + 3, none⟩ = some (.int .i64 o.set.cls) := HO.out 3 _ rfl
      have s2 : wr.cell? ⟨b, off + k * 13 + 4, none⟩ = some (.int .i64 o.set.acc) := HO.out 4 _ rfl
      have s3 : wr.cell? ⟨b, off + k * 13 + 5, none⟩ = some (.int .i64 o.set.var) := HO.out 5 _ rfl
      have s4 : wr.cell? ⟨b, off + k * 13 + 6, none⟩ = some (.int .i64 o.set.p2) := HO.out 6 _ rfl
      have s5 : wr.cell? ⟨b, off + k * 13 + 7, none⟩ = some (.int .u64 o.set.gm) := HO.out 7 _ rfl
      have s6 : wr.cell? ⟨b, off + k * 13 + 8, none⟩ = some (.int .i64 o.set.steps) := HO.out 8 _ rfl
      have s7 : wr.cell? ⟨b, off + k * 13 + 9, none⟩ = some (.int .u64 o.set.sender) := HO.out 9 _ rfl
      have s8 : wr.cell? ⟨b, off + k * 13 + 10, none⟩ = some (.int .i64 o.set.sport) := HO.out 10 _ rfl
      have s9 : wr.cell? ⟨b, off + k * 13 + 11, none⟩ = some (.int .u64 o.set.recv) := HO.out 11 _ rfl
      have s10 : wr.cell? ⟨b, off + k * 13 + 12, none⟩ = some (.int .i64 o.set.rport) := HO.out 12 _ rfl
      go_upto_region 7 with fail
      go_still_tail 11, (by kernel_rfl)
      change wpList _ _ _ _ _ (World.drew wr)
      have HW3 := Lib.hid (show AwE wr.drew B [] (runS (newF window 1) (l.take k)) ∧ Below B w2 wr.drew from ⟨HAW.out.below (below_drewN (Below.refl _ _) 1), below_drewN HBR.out 1⟩)
      have HO3 := Lib.hid (show wr.drew.rangeAt b (off + k * 13) o.cells from HO.out)
      have hbB : b < B := by rw [HBE.out] at hbl; omega
      have hwin := runS_window (l.take k) (newF window 1)
      have huq := runS_uniq (l.take k) (newF window 1) (newF_uniq _ _)
      obtain ⟨F, hF⟩ : ∃ F, runS (newF window 1) (l.take k) = F := ⟨_, rfl⟩
      rw [hF] at HNX HW3 hwin huq
      have HFND := Lib.hid (heard_found (f := F) (d := o.set) (t := o.at_) (by rw [hwin.1]; exact hc1) hwin.2)
      have HUQ := Lib.hid (huq.heard o.set o.at_)
      generalize wr.drew = w3 at *
      clear t0 s0 s1 s2 s3 s4 s5 s6 s7 s8 s9 s10 HAW HBR HO hF hwin huq
      go_wp2_with fail
      refine (aw_hear HW3.out.1 o.set o.at_).mono ?_
      rintro e w4 ⟨rfl, hA4, hS4⟩
      have HA4 := Lib.hid hA4
      have HB4 := Lib.hid (show Below B w2 w4 from HW3.out.2.trans hS4.below)
      have HO4 := Lib.hid (show w4.rangeAt b (off + k * 13) o.cells from fun j v hv => hS4.cell (HO3.out j v hv) (.inl hbB))
      have t1 : w4.cell? ⟨b, off + k * 13 + 1, none⟩ = some (.int .i64 o.at_) := HO4.out 1 _ rfl
      clear hA4 hS4 HW3 HO3
      go_wp2_with fail
      refine (aw_qualS HA4.out o.at_ hoat rfl).mono ?_
      rintro e w5 ⟨A1, c1, rfl, _, hS5, hb5, ho5⟩
      have HA5 := Lib.hid (HA4.out.below hb5)
      have HB5 := Lib.hid (HB4.out.trans hS5.below)
      have HO5 := Lib.hid (rangeAt_below HO4.out hb5)
      have HQ5 := Lib.hid ho5
      have hqf := qual_five HA4.out o.at_
      have hql := qual_len (hearS F o.set o.at_) o.at_
      have hfive := HA4.out.inv.five
      have HAP := Lib.hid (fun (j m : Nat) (a b : DS) h1 h2 h3 => qual_apart HUQ.out (t := o.at_) (j := j) (m := m) (a := a) (b := b) h1 h2 h3)
      obtain ⟨qs, hqs⟩ : ∃ q, qualF (hearS F o.set o.at_) o.at_ = q := ⟨_, rfl⟩
      rw [hqs] at HQ5 HFND hqf hql HAP ⊢
      obtain ⟨z, hz⟩ : ∃ z, hearE F o.set o.at_ = z := ⟨_, rfl⟩
      rw [hz] at HFND ⊢
      obtain ⟨F2, hF2⟩ : ∃ f, hearS F o.set o.at_ = f := ⟨_, rfl⟩
      rw [hF2] at HA5 HNX hql hfive
      obtain ⟨N, hN⟩ : ∃ n, F2.list.length = n := ⟨_, rfl⟩
      rw [hN] at hql hfive
      obtain ⟨n, hn⟩ : ∃ n, qs.length = n := ⟨_, rfl⟩
      rw [hn] at hqf hql ⊢
      have HN := Lib.hid hn
      have HNN := Lib.hid hN
      clear hS5 hb5 ho5 t1 HA4 HB4 HO4 hqs hz hF2 hn hN HUQ
      go_wp2_with fail
      go_loopw [9, 10] (fun vf vi wm => ∃ m : Nat, m ≤ n ∧ vi = .int .i64 m ∧ vf = .bool (foundTo qs o.set m) ∧ Below w5.heap.size w5 wm) (fun _ vi _ => n - (intOf vi).toNat)
      case atStart => exact ⟨0, Nat.zero_le _, rfl, rfl, Below.refl _ _⟩
      case round =>
        obtain ⟨m, hm, rfl, rfl, hbm⟩ := hrel
        have HBM := Lib.hid hbm
        by_cases hmt : m < n
        · have hm0 : (0 : Int) ≤ (m : Int) := by omega
          have hm1 : (m : Int) < (n : Int) := by omega
          obtain ⟨d, hd⟩ : ∃ d, qs[m]? = some d := ⟨_, List.getElem?_eq_getElem (by rw [HN.out]; exact hmt)⟩
          rcases owns_ds HQ5.out rfl with ⟨_, e⟩ | ⟨g, cap1, e, hbg, hg, hle1, hcm, hrg⟩
          · rw [e] at hd; simp at hd
          have e1 : A1 = some ⟨g, 0, none⟩ := by injection e
          have e2 : c1 = cap1 := by injection e
          subst e1 e2
          rw [HN.out] at hle1
          unfold maxLen at hcm
          have HRG := Lib.hid hrg
          have ha := rangeAt_below (hrg m d hd) hbm
          have hc := rangeAt_below HO5.out hbm
          have HNX2 := Lib.hid (found_next (x := o.set) hd)
          have HD := Lib.hid hd
          have he := eql_ds d o.set
          have a0 : wr.cell? ⟨g, m * 11, none⟩ = some (.int .i64 d.p1) := ha 0 _ rfl
          have a1 : wr.cell? ⟨g, m * 11 + 1, none⟩ = some (.int .i64 d.cls) := ha 1 _ rfl
          have a2 : wr.cell? ⟨g, m * 11 + 2, none⟩ = some (.int .i64 d.acc) := ha 2 _ rfl
          have a3 : wr.cell? ⟨g, m * 11 + 3, none⟩ = some (.int .i64 d.var) := ha 3 _ rfl
          have a4 : wr.cell? ⟨g, m * 11 + 4, none⟩ = some (.int .i64 d.p2) := ha 4 _ rfl
          have a5 : wr.cell? ⟨g, m * 11 + 5, none⟩ = some (.int .u64 d.gm) := ha 5 _ rfl
          have a6 : wr.cell? ⟨g, m * 11 + 6, none⟩ = some (.int .i64 d.steps) := ha 6 _ rfl
          have a7 : wr.cell? ⟨g, m * 11 + 7, none⟩ = some (.int .u64 d.sender) := ha 7 _ rfl
          have a8 : wr.cell? ⟨g, m * 11 + 8, none⟩ = some (.int .i64 d.sport) := ha 8 _ rfl
          have a9 : wr.cell? ⟨g, m * 11 + 9, none⟩ = some (.int .u64 d.recv) := ha 9 _ rfl
          have a10 : wr.cell? ⟨g, m * 11 + 10, none⟩ = some (.int .i64 d.rport) := ha 10 _ rfl
          have s0 : wr.cell? ⟨b, off + k * 13 + 2, none⟩ = some (.int .i64 o.set.p1) := hc 2 _ rfl
          have s1 : wr.cell? ⟨b, off + k * 13 + 3, none⟩ = some (.int .i64 o.set.cls) := hc 3 _ rfl
          have s2 : wr.cell? ⟨b, off + k * 13 + 4, none⟩ = some (.int .i64 o.set.acc) := hc 4 _ rfl
          have s3 : wr.cell? ⟨b, off + k * 13 + 5, none⟩ = some (.int .i64 o.set.var) := hc 5 _ rfl
          have s4 : wr.cell? ⟨b, off + k * 13 + 6, none⟩ = some (.int .i64 o.set.p2) := hc 6 _ rfl
          have s5 : wr.cell? ⟨b, off + k * 13 + 7, none⟩ = some (.int .u64 o.set.gm) := hc 7 _ rfl
          have s6 : wr.cell? ⟨b, off + k * 13 + 8, none⟩ = some (.int .i64 o.set.steps) := hc 8 _ rfl
          have s7 : wr.cell? ⟨b, off + k * 13 + 9, none⟩ = some (.int .u64 o.set.sender) := hc 9 _ rfl
          have s8 : wr.cell? ⟨b, off + k * 13 + 10, none⟩ = some (.int .i64 o.set.sport) := hc 10 _ rfl
          have s9 : wr.cell? ⟨b, off + k * 13 + 11, none⟩ = some (.int .u64 o.set.recv) := hc 11 _ rfl
          have s10 : wr.cell? ⟨b, off + k * 13 + 12, none⟩ = some (.int .i64 o.set.rport) := hc 12 _ rfl
          clear ha hc hd hrg e hbm
          go_upto_region 13 with fail
          go_cut [9] (fun v9 wx => v9 = .bool (foundTo qs o.set (m + 1)) ∧ Below w5.heap.size w5 wx)
          case first =>
            cases hf : foundTo qs o.set m
            all_goals cases hdx : decide (d = o.set)
            all_goals rw [hf, hdx] at HNX2
            all_goals go_quiet (fail)
            all_goals go_wp2_with fail
            all_goals go_meet
            all_goals (case rel => exact ⟨by rw [HNX2.out]; rfl, below_drewN HBM.out _⟩)
          case rest =>
            obtain ⟨rfl, hbc⟩ := hcut
            have HBC := Lib.hid hbc
            clear a0 a1 a2 a3 a4 a5 a6 a7 a8 a9 a10 s0 s1 s2 s3 s4 s5 s6 s7 s8 s9 s10 he hbc HBM
            go_wp2_with fail
            go_loopw [11] (fun vj wi => ∃ j : Nat, j ≤ m ∧ vj = .int .i64 j ∧ Below w5.heap.size w5 wi) (fun vj _ => m - (intOf vj).toNat)
            case atStart => exact ⟨0, Nat.zero_le _, rfl, HBC.out⟩
            case round =>
              obtain ⟨j, hj, rfl, hbi⟩ := hrel
              have HBI := Lib.hid hbi
              by_cases hjt : j < m
              · have hj0 : (0 : Int) ≤ (j : Int) := by omega
                have hj1 : (j : Int) < (n : Int) := by omega
                have hj2 : (j : Int) < (m : Int) := by omega
                obtain ⟨d2, hd2⟩ : ∃ d, qs[j]? = some d := ⟨_, List.getElem?_eq_getElem (by rw [HN.out]; omega)⟩
                have hu := HAP.out j m d2 d hd2 HD.out hjt
                have ha := rangeAt_below (HRG.out m d HD.out) hbi
                have hc := rangeAt_below (HRG.out j d2 hd2) hbi
                have a7 : wr.cell? ⟨g, m * 11 + 7, none⟩ = some (.int .u64 d.sender) := ha 7 _ rfl
                have a8 : wr.cell? ⟨g, m * 11 + 8, none⟩ = some (.int .i64 d.sport) := ha 8 _ rfl
                have c7 : wr.cell? ⟨g, j * 11 + 7, none⟩ = some (.int .u64 d2.sender) := hc 7 _ rfl
                have c8 : wr.cell? ⟨g, j * 11 + 8, none⟩ = some (.int .i64 d2.sport) := hc 8 _ rfl
                clear ha hc hd2 hbi
                rcases hu with hu | ⟨hu, hv⟩
                all_goals go_wp2_with fail
                all_goals go_quiet (fail)
                all_goals go_wp2_with fail
                all_goals go_roundw
                all_goals first
                  | (case rel => exact ⟨j + 1, by omega, by go_num, below_drewN HBI.out _⟩)
                  | skip
                all_goals simp [intOf]; omega
              · obtain rfl : j = m := by omega
                clear hbi
                go_wp2_with fail
                go_roundw
                case rel => exact ⟨j + 1, by omega, by go_num, rfl, HBI.out⟩
                case measure => simp [intOf]; omega
        · obtain rfl : m = n := by omega
          have HAM := Lib.hid (HA5.out.below hbm)
          have HBM2 := Lib.hid (show Below B w2 wr from HB5.out.trans (hbm.mono (Nat.le_of_lt HA5.out.size)))
          have hfa : z = 0 → foundTo qs o.set m = true := fun e => by rw [← HN.out]; exact found_all (HFND.out e)
          have g5 : decide (5 < (N : Int)) = false := by simp; omega
          have gl : decide ((N : Int) < (m : Int)) = false := by simp; omega
          clear hbm HBM HA5 HB5 HQ5 HFND
          go_wp2_with fail
          refine (aw_len HAM.out).mono ?_
          rintro e _ ⟨rfl, rfl⟩
          rw [HNN.out]
          go_wp2_with fail
          refine (aw_len HAM.out).mono ?_
          rintro e _ ⟨rfl, rfl⟩
          rw [HNN.out]
          by_cases hz0 : z = 0
          · have hft := hfa hz0
            subst hz0
            rw [hft]
            clear hfa hft
            go_wp2_with fail
            go_roundw
            case rel => exact ⟨k + 1, by omega, by go_num, by rw [HNX.out]; exact HAM.out, HBM2.out⟩
            case measure => simp [intOf]; omega
          · have hzb : (z == 0) = false := by simpa using hz0
            clear hfa hz0
            go_wp2_with fail
            go_roundw
            case rel => exact ⟨k + 1, by omega, by go_num, by rw [HNX.out]; exact HAM.out, HBM2.out⟩
            case measure => simp [intOf]; omega
    · obtain rfl : k = len := by omega
      have HBE2 := Lib.hid (show Below w.heap.size w wr from by rw [HBE.out]; exact HB2.out.trans hbr)
      clear hA hbr
      go_wp2_with fail
      refine (awake35 wr).mono ?_
      rintro e wz ⟨rfl, hbz⟩
      have HBZ := Lib.hid (show Below w.heap.size w wz from (HBE2.out).trans (hbz.mono (HBE2.out).size))
      clear hbz
      go_wp2_with fail
      go_ret
      exact ⟨rfl, HBZ.out⟩
end Go.Proofs.Ytboijaffpnmcaaa
