/- The walk of ForeignSilence (written by gen_foreign.py). -/
import Derived.WalkKit
import Derived.LoopTactic
import Derived.Outline
import Derived.Lib.Hide
import Derived.StillTailTactics
import Derived.Deep.QuietTactic
import Derived.Test.YtboijaffpnmcaaaF18
import Derived.Test.YtboijaffpnmcaaaF20
namespace Go.Proofs.Ytboijaffpnmcaaa
open Go.RowKit
set_option linter.unusedVariables false
set_option linter.unusedSimpArgs false

set_option maxRecDepth 100000 in
set_option maxHeartbeats 4000000 in
theorem ForeignSilence_walk (c : Cf) {A : Option Addr} {len cap : Nat} {l : List Op35} (w : World) (h : OpArg w A len cap l) : Calls Try.prog 5 #[c.v, .slice A len cap] w fun e w' => e = .returned (.bool true) ∧ Below w.heap.size w w' := by
  have HA := Lib.hid h
  clear h
  go_enter Try.func5, Try.ntmps5
  go_wp2_with fail
  generalize hW : w.alloc _ = w1
  have hb : Below w.heap.size w w1 := by rw [← hW]; exact (Below.refl _ _).alloc (Nat.le_refl _) _
  have hr : w1.rangeAt w.heap.size 0 [.int .i64 c.window, .int .i64 c.need] := by
    rw [← hW]
    intro j v hv
    rw [Nat.zero_add, cell_of_row _ _ j _ _ (0, 0) (heap_alloc_new w _), ← hv]
    simp
  have hs : w.heap.size < w1.heap.size := by rw [← hW]; simp
  have HB1 := Lib.hid hb
  have HR1 := Lib.hid hr
  clear hW hb hr
  by_cases hbad : c.window < 1 ∨ 1125899906842624 < c.window ∨ c.need < 1 ∨ 8 < c.need
  · refine (fnew_bad c.window c.need hbad w1).mono ?_
    rintro e _ ⟨rfl, rfl⟩
    clear hbad
    go_wp2_with fail
    refine (awake35 w1).mono ?_
    rintro e w3 ⟨rfl, hb⟩
    have HB3 := Lib.hid (below_then HB1.out hb)
    clear hb
    go_wp2_with fail
    go_ret
    exact ⟨rfl, HB3.out⟩
  have hc1 : 1 ≤ c.window := by omega
  have hc2 : c.window ≤ 1125899906842624 := by omega
  have hc3 : 1 ≤ c.need := by omega
  refine (aw_new c.window c.need hc1 hc2 hc3 (by omega) w1).mono ?_
  rintro e w2 ⟨rfl, hA2, hb2, hs2⟩
  obtain ⟨B, hB⟩ : ∃ B, w1.heap.size = B := ⟨_, rfl⟩
  obtain ⟨qx, hqx⟩ : ∃ q, w.heap.size = q := ⟨_, rfl⟩
  rw [hB] at hA2 hs2 hb2 hs ⊢
  rw [hqx] at hs HR1 ⊢
  have HA2 := Lib.hid hA2
  have HB2 := Lib.hid hb2
  have HQX := Lib.hid hqx
  have HBE := Lib.hid hB
  clear hA2 hb2 hB hqx hbad
  by_cases hlong : 60 < len
  · have d0 : decide (60 < (len : Int)) = true := by simp; omega
    go_wp2_with fail
    refine (awake35 w2).mono ?_
    rintro e w3 ⟨rfl, hb⟩
    have HB3 := Lib.hid (show Below w.heap.size w w3 from HB1.out.trans (by rw [HQX.out]; exact (HB2.out.mono (Nat.le_of_lt hs)).trans (hb.mono (by omega))))
    clear hb
    go_wp2_with fail
    go_ret
    exact ⟨rfl, HB3.out⟩
  have d0 : decide (60 < (len : Int)) = false := by simp; omega
  go_wp2_with fail
  go_loopw [6, 7] (fun vn vi wr => ∃ k : Nat, k ≤ len ∧ vi = .int .i64 k ∧ vn = .int .i64 (runS (newF c.window c.need) (l.take k)).last ∧ AwE wr B [] (runS (newF c.window c.need) (l.take k)) ∧ Below B w2 wr) (fun _ vi _ => len - (intOf vi).toNat)
  case atStart => exact ⟨0, Nat.zero_le _, rfl, rfl, HA2.out, Below.refl _ _⟩
  case round =>
    obtain ⟨k, hk, rfl, rfl, hA, hbr⟩ := hrel
    by_cases hlt : k < len
    · have hk0 : (0 : Int) ≤ (k : Int) := by omega
      have hk1 : (k : Int) < (len : Int) := by omega
      have hle := HA.out.le
      have hmo := HA.out.most
      obtain ⟨b, off, rfl, hbl, hat⟩ := HA.out.at_ (by omega)
      obtain ⟨o, ho⟩ : ∃ o, l[k]? = some o := ⟨_, List.getElem?_eq_getElem (by rw [HA.out.len_eq]; exact hlt)⟩
      have hop : wr.rangeAt b (off + k * 13) o.cells := fun j v hv => by
        have h1 := cell_below HB1.out (hat k o ho j v hv)
        have hb1 : b < B := by rw [HQX.out] at hbl; omega
        exact (hbr.cell hb1).trans ((HB2.out.cell hb1).trans h1)
      have HO := Lib.hid hop
      have HNX := Lib.hid (runS_next (f := newF c.window c.need) ho)
      have HAW := Lib.hid hA
      have HBR := Lib.hid hbr
      clear hat ho hop hA hbr
      have t0 : wr.cell? ⟨b, off + k * 13 + 1, none⟩ = some (.int .i64 o.at_) := HO.out 1 _ rfl
      have s0 : wr.cell? ⟨b, off + k * 13 + 2, none⟩ = some (.int .i64 o.set.p1) := HO.out 2 _ rfl
      have s1 : wr.cell? ⟨b, off + k * 13 + 3, none⟩ = some (.int .i64 o.set.cls) := HO.out 3 _ rfl
      have s2 : wr.cell? ⟨b, off + k * 13 + 4, none⟩ = some (.int .i64 o.set.acc) := HO.out 4 _ rfl
      have s3 : wr.cell? ⟨b, off + k * 13 + 5, none⟩ = some (.int .i64 o.set.var) := HO.out 5 _ rfl
      have s4 : wr.cell? ⟨b, off + k * 13 + 6, none⟩ = some (.int .i64 o.set.p2) := HO.out 6 _ rfl
      have s5 : wr.cell? ⟨b, off + k * 13 + 7, none⟩ = some (.int .u64 o.set.gm) := HO.out 7 _ rfl
      have s6 : wr.cell? ⟨b, off + k * 13 + 8, none⟩ = some (.int .i64 o.set.steps) := HO.out 8 _ rfl
      have s7 : wr.cell? ⟨b, off + k * 13 + 9, none⟩ = some (.int .u64 o.set.sender) := HO.out 9 _ rfl
      have s8 : wr.cell? ⟨b, off + k * 13 + 10, none⟩ = some (.int .i64 o.set.sport) := HO.out 10 _ rfl
      have s9 : wr.cell? ⟨b, off + k * 13 + 11, none⟩ = some (.int .u64 o.set.recv) := HO.out 11 _ rfl
      have s10 : wr.cell? ⟨b, off + k * 13 + 12, none⟩ = some (.int .i64 o.set.rport) := HO.out 12 _ rfl
      go_upto_region 8 with fail
      go_still_tail 11, (by kernel_rfl)
      change wpList _ _ _ _ _ (World.drew wr)
      have HW3 := Lib.hid (show AwE wr.drew B [] (runS (newF c.window c.need) (l.take k)) ∧ Below B w2 wr.drew from ⟨HAW.out.below (below_drewN (Below.refl _ _) 1), below_drewN HBR.out 1⟩)
      have HO3 := Lib.hid (show wr.drew.rangeAt b (off + k * 13) o.cells from HO.out)
      have hbB : b < B := by rw [HQX.out] at hbl; omega
      obtain ⟨F, hF⟩ : ∃ F, runS (newF c.window c.need) (l.take k) = F := ⟨_, rfl⟩
      rw [hF] at HNX HW3 ⊢
      generalize wr.drew = w3 at *
      clear t0 s0 s1 s2 s3 s4 s5 s6 s7 s8 s9 s10 HAW HBR HO hF
      go_wp2_with fail
      refine (aw_hear HW3.out.1 o.set o.at_).mono ?_
      rintro e w4 ⟨rfl, hA4, hS4⟩
      have t1 : w4.cell? ⟨b, off + k * 13 + 1, none⟩ = some (.int .i64 o.at_) := hS4.cell (HO3.out 1 _ rfl) (.inl hbB)
      have HN4 := Lib.hid (show AwE w4 B [] (runS (newF c.window c.need) (l.take (k + 1))) ∧ Below B w2 w4 from ⟨by rw [HNX.out]; exact hA4, HW3.out.2.trans hS4.below⟩)
      obtain ⟨z, hz⟩ : ∃ z, hearE F o.set o.at_ = z := ⟨_, rfl⟩
      have hlast := hearS_last F o.set o.at_
      rw [hz] at hlast ⊢
      have HL := Lib.hid hlast
      clear hA4 hS4 hz HW3 HO3 hlast
      by_cases hz0 : z = 0
      · subst hz0
        go_wp2_with fail
        go_roundw
        case rel => exact ⟨k + 1, by omega, by go_num, by rw [HNX.out, HL.out]; rfl, HN4.out.1, HN4.out.2⟩
        case measure => simp [intOf]; omega
      · have hzb : (z == 0) = false := by simpa using hz0
        have HZ0 := Lib.hid hz0
        clear hz0
        go_wp2_with fail
        go_roundw
        case rel => exact ⟨k + 1, by omega, by go_num, by rw [HNX.out, HL.out, if_neg HZ0.out], HN4.out.1, HN4.out.2⟩
        case measure => simp [intOf]; omega
    · obtain rfl : k = len := by omega
      have el : l.take k = l := List.take_of_length_le (by rw [HA.out.len_eq]; exact Nat.le_refl _)
      have hpast := runS_past (l.take k) (newF c.window c.need) (newF_past _ _)
      have hwin := runS_window (l.take k) (newF c.window c.need)
      obtain ⟨F, hF⟩ : ∃ F, runS (newF c.window c.need) (l.take k) = F := ⟨_, rfl⟩
      rw [hF] at hA hpast hwin ⊢
      have HAW := Lib.hid hA
      have hqB : qx < B := hs
      have HBR := Lib.hid (show Below w.heap.size w wr from HB1.out.trans (by rw [HQX.out]; exact (HB2.out.trans hbr).mono (Nat.le_of_lt hs)))
      have HX := Lib.hid (show wr.rangeAt qx 0 [.int .i64 c.window, .int .i64 c.need] from fun j v hv => ((HB2.out.trans hbr).cell hqB).trans (HR1.out j v hv))
      have HP := Lib.hid hpast
      have HWI := Lib.hid hwin
      clear hA hbr hF el HA2 HB1 HR1 HB2 hpast hwin
      have hl0 := HAW.out.inv.ok.l0
      have hl1 := HAW.out.inv.ok.l1
      have hq := qual_none HP.out (by rw [HWI.out.1]; show 0 ≤ c.window; omega) (by rw [HWI.out.2]; exact hc3)
      have hfo := forget_none HP.out (by rw [HWI.out.1]; show 0 ≤ c.window; omega)
      rw [show F.window = c.window from HWI.out.1] at hq hfo
      obtain ⟨now, hnow⟩ : ∃ n, F.last = n := ⟨_, rfl⟩
      rw [hnow] at hl0 hl1 hq hfo ⊢
      have HQ := Lib.hid hq
      have HFO := Lib.hid hfo
      have hwr : IntKind.i64.wrap (now + c.window) = now + c.window := IntWalk.i64_in _ (by omega)
      have ht : now + c.window ≤ 9223372036854775807 := by omega
      have htn : now ≤ 9223372036854775807 := by omega
      have c0 : wr.cell? ⟨qx, 0, none⟩ = some (.int .i64 c.window) := HX.out 0 _ rfl
      have HNOW := Lib.hid hnow
      clear hq hfo hnow
      go_wp2_with fail
      refine (aw_len HAW.out).mono ?_
      rintro e _ ⟨rfl, rfl⟩
      go_wp2_with fail
      refine (aw_best HAW.out (now + c.window) ht).mono ?_
      rintro e w3 ⟨rfl, hb3⟩
      rw [HQ.out, show bestR [] = DS.zero from rfl, show (!([] : List DS).isEmpty) = false from rfl]
      have HA3 := Lib.hid (HAW.out.below hb3)
      have HB3 := Lib.hid (below_then HBR.out hb3)
      have HX3 := Lib.hid (rangeAt_below HX.out hb3)
      clear hb3 c0 HAW HBR HX
      go_upto_region 12 with fail
      generalize hW : w3.alloc _ = w4
      have hb4 : Below w3.heap.size w3 w4 := by rw [← hW]; exact (Below.refl _ _).alloc (Nat.le_refl _) _
      have HA4 := Lib.hid (HA3.out.below hb4)
      have HB4 := Lib.hid (below_then HB3.out hb4)
      have HX4 := Lib.hid (rangeAt_below HX3.out hb4)
      have c0 : w4.cell? ⟨qx, 0, none⟩ = some (.int .i64 c.window) := HX4.out 0 _ rfl
      clear hW hb4 HA3 HB3 HX3
      go_wp2_with fail
      refine (aw_qualS HA4.out (now + c.window) ht HQ.out).mono ?_
      rintro e w5 ⟨A1, c1, rfl, hA5, hS5, hb5, ho5⟩
      have HA5 := Lib.hid hA5
      have HB5 := Lib.hid (below_then HB4.out hb5)
      have HX5 := Lib.hid (rangeAt_below HX4.out hb5)
      clear hA5 hS5 hb5 ho5 c0 HA4 HB4 HX4
      go_wp2_with fail
      refine (aw_len HA5.out).mono ?_
      rintro e _ ⟨rfl, rfl⟩
      have c0 : w5.cell? ⟨qx, 0, none⟩ = some (.int .i64 c.window) := HX5.out 0 _ rfl
      go_wp2_with fail
      refine (aw_forget HA5.out (now + c.window) ht).mono ?_
      rintro e w6 ⟨rfl, hA6, hS6⟩
      rw [show ((F.list.length : Int) - ((forgetF F (now + c.window)).list.length : Int)) = F.list.length from by rw [HFO.out]; simp]
      have HA6 := Lib.hid hA6
      have HB6 := Lib.hid (show Below w.heap.size w w6 from HB5.out.trans (by rw [HQX.out]; exact hS6.below.mono (Nat.le_of_lt hqB)))
      clear hA6 hS6 c0 HA5 HB5 HX5
      go_wp2_with fail
      refine (aw_len HA6.out).mono ?_
      rintro e _ ⟨rfl, rfl⟩
      rw [HFO.out, List.length_nil]
      go_wp2_with fail
      refine (aw_qualS HA6.out now htn (qual_empty HFO.out now)).mono ?_
      rintro e w7 ⟨A2, c2, rfl, hA7, hS7, hb7, ho7⟩
      have HB7 := Lib.hid (below_then HB6.out hb7)
      clear hA7 hS7 hb7 ho7 HA6 HB6
      go_wp2_with fail
      refine (awake35 w7).mono ?_
      rintro e w8 ⟨rfl, hb8⟩
      have HB8 := Lib.hid (below_then HB7.out hb8)
      clear hb8 HB7
      go_wp2_with fail
      go_ret
      exact ⟨rfl, HB8.out⟩
end Go.Proofs.Ytboijaffpnmcaaa
