/- The walk of ForeignRefuses. -/
import Derived.WalkKit
import Derived.LoopTactic
import Derived.Outline
import Derived.Lib.Hide
import Derived.StillTailTactics
import Derived.Test.YtboijaffpnmcaaaF18
import Derived.Test.YtboijaffpnmcaaaF19
namespace Go.Proofs.Ytboijaffpnmcaaa
open Go.RowKit
set_option linter.unusedVariables false
set_option linter.unusedSimpArgs false

theorem or4 {a b c d : Bool} (h : (a || (b || (c || d))) = true) : (a = true) ∨ (a = false ∧ b = true) ∨ (a = false ∧ b = false ∧ c = true) ∨ (a = false ∧ b = false ∧ c = false ∧ d = true) := by
  cases a <;> cases b <;> cases c <;> cases d <;> simp at h ⊢
set_option maxRecDepth 100000 in
set_option maxHeartbeats 4000000 in
theorem ForeignRefuses_walk (x : Op35) {A : Option Addr} {len cap : Nat} {l : List Op35} (w : World) (h : OpArg w A len cap l) : Calls Try.prog 7 #[.slice A len cap, x.v] w fun e w' => e = .returned (.bool true) ∧ Below w.heap.size w w' := by
  have HA := Lib.hid h
  clear h
  go_enter Try.func7, Try.ntmps7
  go_wp2_with fail
  generalize hW : w.alloc _ = w1
  have hb : Below w.heap.size w w1 := by rw [← hW]; exact (Below.refl _ _).alloc (Nat.le_refl _) _
  have hr : w1.rangeAt w.heap.size 0 x.cells := by
    rw [← hW]
    intro j v hv
    rw [Nat.zero_add, cell_of_row _ _ j _ _ (0, 0) (heap_alloc_new w _), ← hv]
    simp [Op35.cells, DS.cells]
  have hs : w.heap.size < w1.heap.size := by rw [← hW]; simp
  have HB1 := Lib.hid hb
  have HR1 := Lib.hid hr
  clear hW hb hr
  refine (aw_new 1000 1 (by decide) (by decide) (by decide) (by decide) w1).mono ?_
  rintro e w2 ⟨rfl, hA2, hb2, hs2⟩
  obtain ⟨B, hB⟩ : ∃ B, w1.heap.size = B := ⟨_, rfl⟩
  obtain ⟨qx, hqx⟩ : ∃ q, w.heap.size = q := ⟨_, rfl⟩
  rw [hB] at hA2 hs2 hb2 hs ⊢
  rw [hqx] at hs HR1 ⊢
  have HA2 := Lib.hid hA2
  have HB2 := Lib.hid hb2
  have HQX := Lib.hid hqx
  have HBE := Lib.hid hB
  clear hA2 hb2 hB hqx
  by_cases hlong : 60 < len
  · have d0 : decide (60 < (len : Int)) = true := by simp; omega
    go_wp2_with fail
    refine (awake35 w2).mono ?_
    rintro e w3 ⟨rfl, hb⟩
    have HB3 := Lib.hid (show Below w.heap.size w w3 from HB1.out.trans (by rw [HQX.out]; exact (HB2.out.mono (Nat.le_of_lt hs)).trans (hb.mono (by omega))))
    clear hb
    go_wp2_with fail
    go_ret
    exact ⟨rfl, HB3.out⟩
  have d0 : decide (60 < (len : Int)) = false := by simp; omega
  go_wp2_with fail
  go_loopw [6, 7] (fun vn vi wr => ∃ k : Nat, k ≤ len ∧ vi = .int .i64 k ∧ vn = .int .i64 (runS (newF 1000 1) (l.take k)).last ∧ AwE wr B [] (runS (newF 1000 1) (l.take k)) ∧ Below B w2 wr) (fun _ vi _ => len - (intOf vi).toNat)
  case atStart => exact ⟨0, Nat.zero_le _, rfl, rfl, HA2.out, Below.refl _ _⟩
  case round =>
    obtain ⟨k, hk, rfl, rfl, hA, hbr⟩ := hrel
    by_cases hlt : k < len
    · have hk0 : (0 : Int) ≤ (k : Int) := by omega
      have hk1 : (k : Int) < (len : Int) := by omega
      have hle := HA.out.le
      have hmo := HA.out.most
      obtain ⟨b, off, rfl, hbl, hat⟩ := HA.out.at_ (by omega)
      obtain ⟨o, ho⟩ : ∃ o, l[k]? = some o := ⟨_, List.getElem?_eq_getElem (by rw [HA.out.len_eq]; exact hlt)⟩
      have hop : wr.rangeAt b (off + k * 13) o.cells := fun j v hv => by
        have h1 := cell_below HB1.out (hat k o ho j v hv)
        have hb1 : b < B := by rw [HQX.out] at hbl; omega
        exact (hbr.cell hb1).trans ((HB2.out.cell hb1).trans h1)
      have HO := Lib.hid hop
      have HD := Lib.hid (Op35.range hop)
      have HNX := Lib.hid (runS_next (f := newF 1000 1) ho)
      have HAW := Lib.hid hA
      have HBR := Lib.hid hbr
      clear hat ho hop hA hbr
      have t0 : wr.cell? ⟨b, off + k * 13 + 1, none⟩ = some (.int .i64 o.at_) := HO.out 1 _ rfl
      have s0 : wr.cell? ⟨b, off + k * 13 + 2, none⟩ = some (.int .i64 o.set.p1) := HO.out 2 _ rfl
      have s1 : wr.cell? ⟨b, off + k * 13 + 3, none⟩ = some (.int .i64 o.set.cls) := HO.out 3 _ rfl
      have s2 : wr.cell? ⟨b, off + k * 13 + 4, none⟩ = some (.int .i64 o.set.acc) := HO.out 4 _ rfl
      have s3 : wr.cell? ⟨b, off + k * 13 + 5, none⟩ = some (.int .i64 o.set.var) := HO.out 5 _ rfl
      have s4 : wr.cell? ⟨b, off + k * 13 + 6, none⟩ = some (.int .i64 o.set.p2) := HO.out 6 _ rfl
      have s5 : wr.cell? ⟨b, off + k * 13 + 7, none⟩ = some (.int .u64 o.set.gm) := HO.out 7 _ rfl
      have s6 : wr.cell? ⟨b, off + k * 13 + 8, none⟩ = some (.int .i64 o.set.steps) := HO.out 8 _ rfl
      have s7 : wr.cell? ⟨b, off + k * 13 + 9, none⟩ = some (.int .u64 o.set.sender) := HO.out 9 _ rfl
      have s8 : wr.cell? ⟨b, off + k * 13 + 10, none⟩ = some (.int .i64 o.set.sport) := HO.out 10 _ rfl
      have s9 : wr.cell? ⟨b, off + k * 13 + 11, none⟩ = some (.int .u64 o.set.recv) := HO.out 11 _ rfl
      have s10 : wr.cell? ⟨b, off + k * 13 + 12, none⟩ = some (.int .i64 o.set.rport) := HO.out 12 _ rfl
      go_upto_region 10 with fail
      go_still_tail 11, (by kernel_rfl)
      change wpList _ _ _ _ _ (World.drew wr)
      have HW3 := Lib.hid (show AwE wr.drew B [] (runS (newF 1000 1) (l.take k)) ∧ Below B w2 wr.drew from ⟨HAW.out.below (below_drewN (Below.refl _ _) 1), below_drewN HBR.out 1⟩)
      have HO3 := Lib.hid (show wr.drew.rangeAt b (off + k * 13) o.cells from HO.out)
      have hbB : b < B := by rw [HQX.out] at hbl; omega
      obtain ⟨F, hF⟩ : ∃ F, runS (newF 1000 1) (l.take k) = F := ⟨_, rfl⟩
      rw [hF] at HNX HW3 ⊢
      generalize wr.drew = w3 at *
      clear t0 s0 s1 s2 s3 s4 s5 s6 s7 s8 s9 s10 HAW HBR HO HD hF
      go_wp2_with fail
      refine (aw_hear HW3.out.1 o.set o.at_).mono ?_
      rintro e w4 ⟨rfl, hA4, hS4⟩
      have t1 : w4.cell? ⟨b, off + k * 13 + 1, none⟩ = some (.int .i64 o.at_) := hS4.cell (HO3.out 1 _ rfl) (.inl hbB)
      have HN4 := Lib.hid (show AwE w4 B [] (runS (newF 1000 1) (l.take (k + 1))) ∧ Below B w2 w4 from ⟨by rw [HNX.out]; exact hA4, HW3.out.2.trans hS4.below⟩)
      obtain ⟨z, hz⟩ : ∃ z, hearE F o.set o.at_ = z := ⟨_, rfl⟩
      have hlast := hearS_last F o.set o.at_
      rw [hz] at hlast ⊢
      have HL := Lib.hid hlast
      clear hA4 hS4 hz HW3 HO3 hlast
      by_cases hz0 : z = 0
      · subst hz0
        go_wp2_with fail
        go_roundw
        case rel => exact ⟨k + 1, by omega, by go_num, by rw [HNX.out, HL.out]; rfl, HN4.out.1, HN4.out.2⟩
        case measure => simp [intOf]; omega
      · have hzb : (z == 0) = false := by simpa using hz0
        have HZ0 := Lib.hid hz0
        clear hz0
        go_wp2_with fail
        go_roundw
        case rel => exact ⟨k + 1, by omega, by go_num, by rw [HNX.out, HL.out, if_neg HZ0.out], HN4.out.1, HN4.out.2⟩
        case measure => simp [intOf]; omega
    · obtain rfl : k = len := by omega
      have el : l.take k = l := List.take_of_length_le (by rw [HA.out.len_eq]; exact Nat.le_refl _)
      obtain ⟨F, hF⟩ : ∃ F, runS (newF 1000 1) (l.take k) = F := ⟨_, rfl⟩
      rw [hF] at hA ⊢
      have HAW := Lib.hid hA
      have hqB : qx < B := hs
      have HBR := Lib.hid (show Below w.heap.size w wr from HB1.out.trans (by rw [HQX.out]; exact (HB2.out.trans hbr).mono (Nat.le_of_lt hs)))
      have HX := Lib.hid (show wr.rangeAt qx 0 x.cells from fun j v hv => ((HB2.out.trans hbr).cell hqB).trans (HR1.out j v hv))
      have HZ := Lib.hid (hearE_zero F x.set x.at_ hA.inv.ok.l0)
      clear hA hbr hF el HA2 HB1 HR1 HB2
      go_wp2_with fail
      refine (aw_len HAW.out).mono ?_
      rintro e _ ⟨rfl, rfl⟩
      go_wp2_with fail
      refine (aw_qualS HAW.out F.last (last_most HAW.out) rfl).mono ?_
      rintro e w3 ⟨A1, c1, rfl, hA3, hS3, hb3, ho3⟩
      have HA3 := Lib.hid hA3
      have HB3 := Lib.hid (HBR.out.trans (hb3.mono HBR.out.size))
      have HX3 := Lib.hid (show w3.rangeAt qx 0 x.cells from rangeAt_below HX.out hb3)
      have HO3 := Lib.hid ho3
      have x1 : w3.cell? ⟨qx, 1, none⟩ = some (.int .i64 x.at_) := HX3.out 1 _ rfl
      clear hA3 hS3 hb3 ho3 HBR HX
      go_wp2_with (refine load_ds (Op35.range HX3.out) _ (by rfl) rfl rfl ?_)
      refine (aw_hear HA3.out x.set x.at_).mono ?_
      rintro e w4 ⟨rfl, hA4, hS4⟩
      have HB4 := Lib.hid (show Below w.heap.size w w4 from HB3.out.trans (by rw [HQX.out]; exact hS4.below.mono (Nat.le_of_lt hqB)))
      have y1 : w4.cell? ⟨qx, 1, none⟩ = some (.int .i64 x.at_) := hS4.cell x1 (.inl hqB)
      have y9 : w4.cell? ⟨qx, 9, none⟩ = some (.int .u64 x.set.sender) := hS4.cell (HX3.out 9 _ rfl) (.inl hqB)
      have y11 : w4.cell? ⟨qx, 11, none⟩ = some (.int .u64 x.set.recv) := hS4.cell (HX3.out 11 _ rfl) (.inl hqB)
      have y8 : w4.cell? ⟨qx, 8, none⟩ = some (.int .i64 x.set.steps) := hS4.cell (HX3.out 8 _ rfl) (.inl hqB)
      have HO4 := Lib.hid (ownsRow_stay HO3.out hS4 (by simp))
      have hlw : (Hid (hearE F x.set x.at_ = 0 ∨ hearS F x.set x.at_ = F)) := by
        by_cases e : hearE F x.set x.at_ = 0
        · exact .inl e
        · exact .inr (by rw [hearS, if_neg e])
      have HA4 := Lib.hid hA4
      clear hA4 hS4 x1 HX3 HB3 HA3 HO3
      obtain ⟨z, hz⟩ : ∃ z, hearE F x.set x.at_ = z := ⟨_, rfl⟩
      have hzz := HZ.out
      rw [hz] at hlw hzz ⊢
      clear hz HZ
      by_cases hz0 : z = 0
      · subst hz0
        have hzz2 : (decide (x.at_ < F.last) || (decide (1125899906842624 < x.at_) || (x.set.sender == x.set.recv || decide (32 ≤ x.set.steps)))) = false := hzz.symm
        rw [Bool.or_eq_false_iff, Bool.or_eq_false_iff, Bool.or_eq_false_iff] at hzz2
        obtain ⟨e1, e2, e3, e4⟩ := hzz2
        clear hzz hlw
        go_wp2_with fail
        refine (awake35 w4).mono ?_
        rintro e w5 ⟨rfl, hb⟩
        have HB5 := Lib.hid (below_then HB4.out hb)
        clear hb y1 y8 y9 y11 e1 e2 e3 e4
        go_wp2_with fail
        go_ret
        exact ⟨rfl, HB5.out⟩
      · have hzb1 : (z == 0) = false := by simpa using hz0
        have hzb2 : (z != 0) = true := by simpa using hz0
        have hw : hearS F x.set x.at_ = F := hlw.out.resolve_left hz0
        rw [hzb2] at hzz
        have hcs : (decide (x.at_ < F.last) = true) ∨ (decide (x.at_ < F.last) = false ∧ decide (1125899906842624 < x.at_) = true) ∨ (decide (x.at_ < F.last) = false ∧ decide (1125899906842624 < x.at_) = false ∧ (x.set.sender == x.set.recv) = true) ∨ (decide (x.at_ < F.last) = false ∧ decide (1125899906842624 < x.at_) = false ∧ (x.set.sender == x.set.recv) = false ∧ decide (32 ≤ x.set.steps) = true) := or4 hzz.symm
        have HA5 := Lib.hid (show AwE w4 B ((Value.slice A1 (qualF F F.last).length c1).ownBlock.toList ++ []) F from by have := HA4.out; rw [hw] at this; exact this)
        clear hzz hlw hz0 hw HA4
        rcases hcs with e1 | ⟨e1, e2⟩ | ⟨e1, e2, e3⟩ | ⟨e1, e2, e3, e4⟩
        all_goals go_wp2_with fail
        all_goals refine (aw_len HA5.out).mono ?_
        all_goals rintro e _ ⟨rfl, rfl⟩
        all_goals go_wp2_with fail
        all_goals refine (aw_qualS HA5.out F.last (last_most HA5.out) rfl).mono ?_
        all_goals rintro e w5 ⟨A2, c2, rfl, _, _, hb5, ho5⟩
        all_goals have HO5 := Lib.hid ho5
        all_goals have HO6 := Lib.hid (ownsRow_below HO4.out hb5)
        all_goals have HB5 := Lib.hid (below_then HB4.out hb5)
        all_goals have HQ := Lib.hid (qual_five HA5.out F.last)
        all_goals clear hb5 ho5 y1 y8 y9 y11
        all_goals go_wp2_with fail
        all_goals refine (same_any HO5.out HO6.out HQ.out).mono ?_
        all_goals rintro e w6 ⟨rfl, hb6⟩
        all_goals have HB6 := Lib.hid (below_then HB5.out hb6)
        all_goals clear hb6 HO5 HO6
        all_goals go_wp2_with fail
        all_goals refine (awake35 w6).mono ?_
        all_goals rintro e w7 ⟨rfl, hb7⟩
        all_goals have HB7 := Lib.hid (below_then HB6.out hb7)
        all_goals clear hb7
        all_goals go_wp2_with fail
        all_goals go_ret
        all_goals exact ⟨rfl, HB7.out⟩
end Go.Proofs.Ytboijaffpnmcaaa
