/- The walk of ForeignNeeds (written by gen_needs.py). -/
import Derived.WalkKit
import Derived.LoopTactic
import Derived.Outline
import Derived.Lib.Hide
import Derived.StillTailTactics
import Derived.Deep.QuietTactic
import Derived.Deep.DeepCutAuto
import Derived.OwnWalk
import Derived.Test.YtboijaffpnmcaaaF18
import Derived.Test.YtboijaffpnmcaaaF23
namespace Go.Proofs.Ytboijaffpnmcaaa
open Go.RowKit
set_option linter.unusedVariables false
set_option linter.unusedSimpArgs false

set_option maxRecDepth 100000 in
set_option maxHeartbeats 4000000 in
theorem ForeignNeeds_walk (c : Cf) (at_ : Int) {A : Option Addr} {len cap : Nat} {l : List Int} (w : World) (h : IntArg w A len cap l) (hat : at_ ≤ 9223372036854775807) : Calls Try.prog 6 #[c.v, .slice A len cap, .int .i64 at_] w fun e w' => e = .returned (.bool true) ∧ Below w.heap.size w w' := by
  have HA := Lib.hid h
  clear h
  go_enter Try.func6, Try.ntmps6
  go_wp2_with fail
  generalize hW : w.alloc _ = w1
  have hb : Below w.heap.size w w1 := by rw [← hW]; exact (Below.refl _ _).alloc (Nat.le_refl _) _
  have hr : w1.rangeAt w.heap.size 0 [.int .i64 c.window, .int .i64 c.need] := by
    rw [← hW]
    intro j v hv
    rw [Nat.zero_add, cell_of_row _ _ j _ _ (0, 0) (heap_alloc_new w _), ← hv]
    simp
  have hs : w.heap.size < w1.heap.size := by rw [← hW]; simp
  have HB1 := Lib.hid hb
  have HR1 := Lib.hid hr
  clear hW hb hr
  by_cases hbad : c.window < 1 ∨ 1125899906842624 < c.window ∨ c.need < 1 ∨ 8 < c.need
  · refine (fnew_bad c.window c.need hbad w1).mono ?_
    rintro e _ ⟨rfl, rfl⟩
    clear hbad
    go_wp2_with fail
    refine (awake35 w1).mono ?_
    rintro e w3 ⟨rfl, hb⟩
    have HB3 := Lib.hid (below_then HB1.out hb)
    clear hb
    go_wp2_with fail
    go_ret
    exact ⟨rfl, HB3.out⟩
  have hc1 : 1 ≤ c.window := by omega
  have hc2 : c.window ≤ 1125899906842624 := by omega
  have hc3 : 1 ≤ c.need := by omega
  refine (aw_new c.window c.need hc1 hc2 hc3 (by omega) w1).mono ?_
  rintro e w2 ⟨rfl, hA2, hb2, hs2⟩
  obtain ⟨B, hB⟩ : ∃ B, w1.heap.size = B := ⟨_, rfl⟩
  obtain ⟨qx, hqx⟩ : ∃ q, w.heap.size = q := ⟨_, rfl⟩
  rw [hB] at hA2 hs2 hb2 hs ⊢
  rw [hqx] at hs HR1 ⊢
  have HA2 := Lib.hid hA2
  have HB2 := Lib.hid hb2
  have HQX := Lib.hid hqx
  have HBE := Lib.hid hB
  clear hA2 hb2 hB hqx hbad
  by_cases hlong : 40 < len
  · have d0 : decide (40 < (len : Int)) = true := by simp; omega
    go_wp2_with fail
    refine (awake35 w2).mono ?_
    rintro e w3 ⟨rfl, hb⟩
    have HB3 := Lib.hid (show Below w.heap.size w w3 from HB1.out.trans (by rw [HQX.out]; exact (HB2.out.mono (Nat.le_of_lt hs)).trans (hb.mono (by omega))))
    clear hb
    go_wp2_with fail
    go_ret
    exact ⟨rfl, HB3.out⟩
  have d0 : decide (40 < (len : Int)) = false := by simp; omega
  go_wp2_with fail
  generalize hW : World.alloc w2 _ = w3
  have hb3 : Below w2.heap.size w2 w3 := by rw [← hW]; exact (Below.refl _ _).alloc (Nat.le_refl _) _
  have hA3 : AwE w3 B [w2.heap.size] (newF c.window c.need) := by rw [← hW]; exact HA2.out.add ((Below.refl _ _).alloc (Nat.le_refl _) _) (Nat.le_refl _) (by simp)
  have hd3 : w3.rangeAt w2.heap.size 0 dN.cells := by
    rw [← hW]
    intro j v hv
    rw [Nat.zero_add, cell_of_row _ _ j _ _ (0, 0) (heap_alloc_new w2 _), ← hv]
    simp [DS.cells, dN, DS.zero]
  have hs3 : w2.heap.size < w3.heap.size := by rw [← hW]; simp
  obtain ⟨qd, hqd⟩ : ∃ q, w2.heap.size = q := ⟨_, rfl⟩
  rw [hqd] at hA3 hd3 hs3 ⊢
  have hB3 : Below B w2 w3 := hb3.mono (by omega)
  obtain ⟨bs, hbs⟩ : ∃ q, w3.heap.size = q := ⟨_, rfl⟩
  rw [hbs] at hs3
  have hBb : B ≤ bs := by have := HA2.out.size; rw [hqd] at this; omega
  have HA3 := Lib.hid hA3
  have HD3 := Lib.hid hd3
  have HB3 := Lib.hid hB3
  have HBS := Lib.hid hbs
  have hqB0 : B < qd := by rw [← hqd]; exact hs2
  clear hW hb3 hA3 hd3 hB3 hqd hbs HA2
  go_wp2_with fail
  go_loopw [9, 10] (fun vh vi wr => ∃ k : Nat, k ≤ len ∧ vi = .int .i64 k ∧ wr.ownsRow bs 3 1 vh (runN (newF c.window c.need) (l.take k)).2.length (intsV (runN (newF c.window c.need) (l.take k)).2) ∧ AwE wr B (vh.ownBlock.toList ++ [qd]) (runN (newF c.window c.need) (l.take k)).1 ∧ wr.rangeAt qd 0 dN.cells ∧ Below B w2 wr ∧ bs ≤ wr.heap.size) (fun _ vi _ => len - (intOf vi).toNat)
  case atStart => exact ⟨0, Nat.zero_le _, rfl, World.ownsRow_nil _ _ _ _, HA3.out, HD3.out, HB3.out, by rw [HBS.out]; exact Nat.le_refl _⟩
  case round =>
    obtain ⟨k, hk, rfl, hv, hA, hd, hbr, hbw⟩ := hrel
    have hkl := runN_len (l.take k) (newF c.window c.need, [])
    have hrn := runN_inv (l.take k) (newF c.window c.need, []) (NeedInv.new _ _)
    have hwi := runN_window (l.take k) (newF c.window c.need, [])
    rw [show (l.take k).foldl stepN (newF c.window c.need, []) = runN (newF c.window c.need) (l.take k) from rfl] at hkl hrn hwi
    by_cases hlt : k < len
    · have hk0 : (0 : Int) ≤ (k : Int) := by omega
      have hk1 : (k : Int) < (len : Int) := by omega
      have hle := HA.out.le
      have hmo := HA.out.most
      obtain ⟨b, off, rfl, hbl, hat2⟩ := HA.out.at_ (by omega)
      obtain ⟨t, ht⟩ : ∃ t, l[k]? = some t := ⟨_, List.getElem?_eq_getElem (by rw [HA.out.len_eq]; exact hlt)⟩
      have hbB : b < B := by rw [HQX.out] at hbl; omega
      have t0 : wr.cell? ⟨b, off + k, none⟩ = some (.int .i64 t) := (hbr.cell hbB).trans ((HB2.out.cell hbB).trans (cell_below HB1.out (hat2 k t ht)))
      have HNX := Lib.hid (runN_next (f := newF c.window c.need) ht)
      obtain ⟨F, hF⟩ : ∃ F, (runN (newF c.window c.need) (l.take k)).1 = F := ⟨_, rfl⟩
      obtain ⟨acc, hac⟩ : ∃ a, (runN (newF c.window c.need) (l.take k)).2 = a := ⟨_, rfl⟩
      have hpair : runN (newF c.window c.need) (l.take k) = (F, acc) := by rw [← hF, ← hac]
      rw [hpair] at HNX hv hA hkl
      have hkl2 : acc.length ≤ k := by have := hkl; simp at this; omega
      have hv : wr.ownsRow bs 3 1 u9 acc.length (intsV acc) := hv
      have hA : AwE wr B (u9.ownBlock.toList ++ [qd]) F := hA
      have HV := Lib.hid hv
      obtain ⟨A1, c1, rfl⟩ : ∃ A1 c1, u9 = .slice A1 acc.length c1 := by
        rcases owns_ints hv with ⟨e, e2⟩ | ⟨g, c, e, _⟩
        · exact ⟨none, 0, by rw [e, e2]; rfl⟩
        · exact ⟨_, _, e⟩
      have e0 : wr.cell? ⟨qd, 0, none⟩ = some (.int .i64 dN.p1) := hd 0 _ rfl
      have e1 : wr.cell? ⟨qd, 1, none⟩ = some (.int .i64 dN.cls) := hd 1 _ rfl
      have e2 : wr.cell? ⟨qd, 2, none⟩ = some (.int .i64 dN.acc) := hd 2 _ rfl
      have e3 : wr.cell? ⟨qd, 3, none⟩ = some (.int .i64 dN.var) := hd 3 _ rfl
      have e4 : wr.cell? ⟨qd, 4, none⟩ = some (.int .i64 dN.p2) := hd 4 _ rfl
      have e5 : wr.cell? ⟨qd, 5, none⟩ = some (.int .u64 dN.gm) := hd 5 _ rfl
      have e6 : wr.cell? ⟨qd, 6, none⟩ = some (.int .i64 dN.steps) := hd 6 _ rfl
      have e7 : wr.cell? ⟨qd, 7, none⟩ = some (.int .u64 dN.sender) := hd 7 _ rfl
      have e8 : wr.cell? ⟨qd, 8, none⟩ = some (.int .i64 dN.sport) := hd 8 _ rfl
      have e9 : wr.cell? ⟨qd, 9, none⟩ = some (.int .u64 dN.recv) := hd 9 _ rfl
      have e10 : wr.cell? ⟨qd, 10, none⟩ = some (.int .i64 dN.rport) := hd 10 _ rfl
      have HAW := Lib.hid hA
      have HBR := Lib.hid hbr
      have HDR := Lib.hid hd
      clear hv hA hd hbr ht hat2 hF hac hpair hkl hrn hwi
      go_upto_region 9 with fail
      go_still_tail 6, (by kernel_rfl)
      change wpList _ _ _ _ _ (World.drew wr)
      have HA4 := Lib.hid (show AwE wr.drew B ((Value.slice A1 acc.length c1).ownBlock.toList ++ [qd]) F from HAW.out.below (below_drewN (Below.refl _ _) 1))
      have HB4 := Lib.hid (show Below B w2 wr.drew from below_drewN HBR.out 1)
      have HV4 := Lib.hid (show wr.drew.ownsRow bs 3 1 (.slice A1 acc.length c1) acc.length (intsV acc) from HV.out)
      have HD4 := Lib.hid (show wr.drew.rangeAt qd 0 dN.cells from HDR.out)
      have hbw4 : bs ≤ wr.drew.heap.size := hbw
      have t4 : wr.drew.cell? ⟨b, off + k, none⟩ = some (.int .i64 t) := t0
      clear t0 e0 e1 e2 e3 e4 e5 e6 e7 e8 e9 e10 HAW HBR HDR HV hbw
      generalize wr.drew = w4 at *
      have T4 := Lib.hid t4
      clear t4
      go_wp2_with fail
      refine (aw_hear HA4.out dN t).mono ?_
      rintro e w5 ⟨rfl, hA5, hS5⟩
      have HA5 := Lib.hid hA5
      have HB5 := Lib.hid (show Below B w2 w5 from HB4.out.trans hS5.below)
      have HV5 := Lib.hid (ownsRow_stay HV4.out hS5 (fun q hq => List.mem_append.2 (.inl hq)))
      have HD5 := Lib.hid (range_stay hS5 HD4.out (by simp))
      have t5 : w5.cell? ⟨b, off + k, none⟩ = some (.int .i64 t) := hS5.cell T4.out (.inl hbB)
      have hbw5 : bs ≤ w5.heap.size := Nat.le_trans hbw4 hS5.below.size
      obtain ⟨z, hz⟩ : ∃ z, hearE F dN t = z := ⟨_, rfl⟩
      rw [hz]
      have HZ := Lib.hid hz
      clear hA5 hS5 hz HA4 HB4 HV4 HD4 T4 hbw4
      by_cases hz0 : z = 0
      · have HNX2 := Lib.hid (show runN (newF c.window c.need) (l.take (k + 1)) = (hearF F dN t, acc ++ [t]) from by rw [HNX.out]; show (if hearE F dN t = 0 then (hearF F dN t, acc ++ [t]) else (F, acc)) = _; rw [if_pos (HZ.out.trans hz0)])
        have HA5b := Lib.hid (show AwE w5 B ((Value.slice A1 acc.length c1).ownBlock.toList ++ [qd]) (hearF F dN t) from by have := HA5.out; rw [hearS, if_pos (HZ.out.trans hz0)] at this; exact this)
        obtain ⟨i0, hi0, hz0', hz1', hz2'⟩ := info_parts infoInt
        subst hz0
        clear HA5 HNX
        go_wp2_with (at_builtin; refine wpList_append_own2 rfl _ _ 45 rfl bs 3 i0 (.int .i64 0) 1 8 Try.underlying45 hi0 hz0' hz1' hz2' rfl (by decide) _ _ _ rfl (World.ownsRow.alloc HV5.out _) ⟨w5.heap.size, 0, none⟩ 1 1 [.int .i64 t] rfl rfl (fun j u hu => by rw [Addr.add_mid, Nat.zero_add, cell_of_row _ _ j _ _ (0, 0) (heap_alloc_new w5 _), ← hu]; simp) (by simp [Value.oneCell']) (by unfold maxLen; omega) (by omega) (by simp; omega) ?_)
        intro v' w6 hown6 hgrow6 hfr6
        obtain ⟨hA6, hq6, hb6⟩ := aw_append HA5b.out hgrow6 hfr6 hown6 HV5.out hs3 hBb
        have hqd5 : qd < w5.heap.size := by omega
        have HEND := Lib.hid (show w6.ownsRow bs 3 1 v' (acc ++ [t]).length (intsV (acc ++ [t])) ∧ AwE w6 B (v'.ownBlock.toList ++ [qd]) (hearF F dN t) ∧ w6.rangeAt qd 0 dN.cells ∧ Below B w2 w6 ∧ bs ≤ w6.heap.size from ⟨by rw [intsV, List.map_append, List.length_append]; exact hown6, hA6, fun j v hv => by rw [← HD5.out j v hv]; exact World.cell?_of_block (hq6 qd hs3 hqd5), HB5.out.trans hb6, Nat.le_trans hbw5 hb6.size⟩)
        clear hown6 hgrow6 hfr6 hA6 hq6 hb6 t5 HV5 HD5 HB5 HA5b
        go_wp2_with fail
        go_roundw
        case rel => exact ⟨k + 1, by omega, by go_num, by rw [HNX2.out]; exact HEND.out.1, by rw [HNX2.out]; exact HEND.out.2.1, HEND.out.2.2.1, HEND.out.2.2.2.1, HEND.out.2.2.2.2⟩
        case measure => simp [intOf]; omega
      · have hne : ¬ hearE F dN t = 0 := by rw [HZ.out]; exact hz0
        have HNX2 := Lib.hid (show runN (newF c.window c.need) (l.take (k + 1)) = (F, acc) from by rw [HNX.out]; show (if hearE F dN t = 0 then (hearF F dN t, acc ++ [t]) else (F, acc)) = _; rw [if_neg hne])
        have HA5b := Lib.hid (show AwE w5 B ((Value.slice A1 acc.length c1).ownBlock.toList ++ [qd]) F from by have := HA5.out; rw [hearS, if_neg hne] at this; exact this)
        have hzb : (z == 0) = false := by simpa using hz0
        clear hz0 hne HA5 HNX t5
        go_wp2_with fail
        go_roundw
        case rel => exact ⟨k + 1, by omega, by go_num, by rw [HNX2.out]; exact HV5.out, by rw [HNX2.out]; exact HA5b.out, HD5.out, HB5.out, hbw5⟩
        case measure => simp [intOf]; omega
    · obtain rfl : k = len := by omega
      have el : l.take k = l := List.take_of_length_le (by rw [HA.out.len_eq]; exact Nat.le_refl _)
      obtain ⟨wL, hwL⟩ : ∃ x, x = wr := ⟨_, rfl⟩
      subst hwL
      obtain ⟨F, hF⟩ : ∃ F, (runN (newF c.window c.need) (l.take k)).1 = F := ⟨_, rfl⟩
      obtain ⟨acc, hac⟩ : ∃ a, (runN (newF c.window c.need) (l.take k)).2 = a := ⟨_, rfl⟩
      have hpair : runN (newF c.window c.need) (l.take k) = (F, acc) := by rw [← hF, ← hac]
      rw [hpair] at hv hA hkl hrn hwi
      have hv : wL.ownsRow bs 3 1 u9 acc.length (intsV acc) := hv
      have hA : AwE wL B (u9.ownBlock.toList ++ [qd]) F := hA
      have hrn : NeedInv F acc := hrn
      have hln : acc.length ≤ 40 := by have := hkl; simp at this; omega
      have HNI := Lib.hid hrn
      have hwi1 : F.window = c.window := hwi.1
      have hwi2 : F.need = c.need := hwi.2
      have HWI := Lib.hid (And.intro hwi1 hwi2)
      have hqB : qx < B := hs
      have HBW := Lib.hid (show Below w.heap.size w wL from HB1.out.trans (by rw [HQX.out]; exact (HB2.out.trans hbr).mono (Nat.le_of_lt hs)))
      have HX := Lib.hid (show wL.rangeAt qx 0 [.int .i64 c.window, .int .i64 c.need] from fun j v hv => ((HB2.out.trans hbr).cell hqB).trans (HR1.out j v hv))
      have HAW := Lib.hid hA
      have HDR := Lib.hid hd
      have hform := owns_ints hv
      have hll0 := hA.inv.ok.l0
      have hll1 := hA.inv.ok.l1
      clear hbr el HB1 HR1 HB2 hwi hwi1 hwi2 hF hac hpair hkl hrn hd hA hv HA3 HD3 HB3
      rcases hform with ⟨rfl, rfl⟩ | ⟨gh, ch, rfl, hbg, hgl, hlc, hcm, hcells⟩
      · have HQN := Lib.hid (qual_empty (HNI.out.none_ rfl) at_)
        go_wp2_with fail
        refine (aw_qualS HAW.out at_ hat HQN.out).mono ?_
        rintro e w5 ⟨A2, c2, rfl, _, _, hb5, _⟩
        have HB5 := Lib.hid (below_then HBW.out hb5)
        clear hb5 HBW HX HAW HDR
        go_wp2_with fail
        refine (awake35 w5).mono ?_
        rintro e wz ⟨rfl, hbz⟩
        have HBZ := Lib.hid (below_then HB5.out hbz)
        clear hbz
        go_wp2_with fail
        go_ret
        exact ⟨rfl, HBZ.out⟩
      · by_cases hne : acc = []
        · subst hne
          have HQN := Lib.hid (qual_empty (HNI.out.none_ rfl) at_)
          clear hcells
          go_wp2_with fail
          refine (aw_qualS HAW.out at_ hat HQN.out).mono ?_
          rintro e w5 ⟨A2, c2, rfl, _, _, hb5, _⟩
          have HB5 := Lib.hid (below_then HBW.out hb5)
          clear hb5 HBW HX HAW HDR
          go_wp2_with fail
          refine (awake35 w5).mono ?_
          rintro e wz ⟨rfl, hbz⟩
          have HBZ := Lib.hid (below_then HB5.out hbz)
          clear hbz
          go_wp2_with fail
          go_ret
          exact ⟨rfl, HBZ.out⟩
        obtain ⟨m, hm⟩ : ∃ m, acc.length = m + 1 := ⟨acc.length - 1, by have := List.length_pos_iff.2 hne; omega⟩
        have hlast : acc.getD m 0 = F.last := by
          rw [(HNI.out.some_ hne).2, getD_nth _ _ (by omega), List.getLastD_eq_getLast?, List.getLast?_eq_getElem?, List.getElem?_eq_getElem (by omega)]
          simp [hm]
        have HC := Lib.hid hcells
        have HM := Lib.hid hm
        have HNE := Lib.hid hne
        have x0 : wL.cell? ⟨gh, m, none⟩ = some (.int .i64 F.last) := by rw [hcells m (by omega), hlast]
        have HLAST := Lib.hid hlast
        rw [hm] at hlc hln ⊢
        unfold maxLen at hcm
        obtain ⟨last, hla⟩ : ∃ x, F.last = x := ⟨_, rfl⟩
        obtain ⟨now, hnow⟩ : ∃ x, (if at_ < last then last else at_) = x := ⟨_, rfl⟩
        rw [hla] at hll0 hll1 x0
        have hno0 : 0 ≤ now := by rw [← hnow]; split <;> omega
        have hno1 : now ≤ 9223372036854775807 := by rw [← hnow]; split <;> omega
        have HNOW := Lib.hid hnow
        have HLA := Lib.hid hla
        clear hm hne hlast hcells hla hnow
        have hmx1 : max at_ last = now := by rw [← HNOW.out]; split <;> omega
        obtain ⟨i0, hi0⟩ : ∃ i, m + 1 - 8 = i := ⟨_, rfl⟩
        have hmx2 : max (0 : Int) ((m : Int) + 1 - 8) = (i0 : Int) := by omega
        have hi1 : i0 ≤ m + 1 := by omega
        have HI0 := Lib.hid hi0
        clear hi0
        obtain ⟨p, hp⟩ : ∃ p : Int → Bool, (fun t => decide (now - t < c.window)) = p := ⟨_, rfl⟩
        have HP := Lib.hid (show ∀ t, p t = decide (now - t < c.window) from fun t => by rw [← hp])
        have HREC := Lib.hid (show cntTo p acc i0 (m + 1) = recentF F.window F.last at_ (last8 acc) from by
          rw [← hp, ← HWI.out.1, ← HI0.out, ← HM.out]
          exact cnt_recent acc F.window F.last at_ now (by rw [HLA.out]; exact HNOW.out))
        clear hp
        go_upto_region 16 with fail
        clear x0 hmx1 hmx2
        go_wp2_with fail
        go_loopw [12, 13] (fun vr vi wx => ∃ q : Nat, i0 ≤ q ∧ q ≤ m + 1 ∧ vi = .int .i64 q ∧ vr = .int .i64 (cntTo p acc i0 q) ∧ Below wL.heap.size wL wx) (fun _ vi _ => m + 1 - (intOf vi).toNat)
        case atStart => exact ⟨i0, Nat.le_refl _, hi1, rfl, by rw [cnt_start]; rfl, Below.refl _ _⟩
        case round =>
          obtain ⟨q, hq0, hq1, rfl, rfl, hbq⟩ := hrel
          have HBQ := Lib.hid hbq
          by_cases hqt : q < m + 1
          · have hk0 : (0 : Int) ≤ (q : Int) := by omega
            have hk1 : (q : Int) < (m : Int) + 1 := by omega
            obtain ⟨t, ht⟩ : ∃ t, acc[q]? = some t := ⟨_, List.getElem?_eq_getElem (by rw [HM.out]; exact hqt)⟩
            have htr := HNI.out.range t (List.mem_of_getElem? ht)
            have y0 : wr.cell? ⟨gh, q, none⟩ = some (.int .i64 t) := by
              refine cell_below hbq ?_
              rw [HC.out q (by rw [HM.out]; exact hqt), List.getD_eq_getElem?_getD, ht]
              rfl
            have y1 : wr.cell? ⟨qx, 0, none⟩ = some (.int .i64 c.window) := cell_below hbq (HX.out 0 _ rfl)
            have hsub : IntKind.i64.wrap (now - t) = now - t := IntWalk.i64_in _ (by omega)
            have hst := cnt_next (p := p) ht hq0
            have hcl := cnt_le p acc i0 q
            obtain ⟨n, hn⟩ : ∃ n, cntTo p acc i0 q = n := ⟨_, rfl⟩
            rw [hn] at hst hcl ⊢
            have HS := Lib.hid hst
            have hpt := HP.out t
            clear hst ht hn hbq
            cases hd : decide (now - t < c.window)
            all_goals rw [hd] at hpt
            all_goals have HPT := Lib.hid hpt
            all_goals clear hpt
            all_goals go_wp2_with fail
            all_goals go_quiet (fail)
            all_goals clear y0 y1 hsub
            all_goals go_wp2_with fail
            all_goals go_roundw
            all_goals first
              | (case rel => exact ⟨q + 1, by omega, by omega, by go_num, by rw [HS.out, HPT.out]; simp, below_drewN HBQ.out _⟩)
              | skip
            all_goals simp [intOf]; omega
          · obtain rfl : q = m + 1 := by omega
            obtain ⟨rc, hrc⟩ : ∃ n, cntTo p acc i0 (m + 1) = n := ⟨_, rfl⟩
            have hre := HREC.out
            rw [hrc] at hre ⊢
            have HQL := Lib.hid (need_qual HNI.out HNE.out at_)
            have hqe := HQL.out
            rw [← hre, HWI.out.2] at hqe
            have HQE := Lib.hid hqe
            have HAQ := Lib.hid (HAW.out.below hbq)
            have HBQ2 := Lib.hid (below_then HBW.out hbq)
            have HXQ := Lib.hid (rangeAt_below HX.out hbq)
            have HDQ := Lib.hid (rangeAt_below HDR.out hbq)
            clear hre hqe HQL hrc hbq HAW HBW HX HDR
            by_cases hnr : c.need ≤ (rc : Int)
            · have hge : decide (c.need ≤ (rc : Int)) = true := by simpa using hnr
              have HQ1 := Lib.hid (show qualF F at_ = [dN] from by rw [HQE.out, if_pos hnr])
              go_wp2_with fail
              refine (aw_qualS HAQ.out at_ hat HQ1.out).mono ?_
              rintro e w5 ⟨A2, c2, rfl, _, _, hb5, ho5⟩
              rcases owns_ds ho5 rfl with ⟨_, e⟩ | ⟨g, cap1, e, hbg5, hg5, hle5, hcm5, hrg5⟩
              · cases e
              have e1 : A2 = some ⟨g, 0, none⟩ := by injection e
              have e2 : c2 = cap1 := by injection e
              subst e1 e2
              have HB5 := Lib.hid (below_then HBQ2.out hb5)
              have hra := hrg5 0 dN rfl
              have hrb := rangeAt_below HDQ.out hb5
              have f1 : w5.cell? ⟨qx, 1, none⟩ = some (.int .i64 c.need) := rangeAt_below HXQ.out hb5 1 _ rfl
              have a0 : w5.cell? ⟨g, 0, none⟩ = some (.int .i64 dN.p1) := by have := hra 0 _ rfl; simpa using this
              have a1 : w5.cell? ⟨g, 1, none⟩ = some (.int .i64 dN.cls) := by have := hra 1 _ rfl; simpa using this
              have a2 : w5.cell? ⟨g, 2, none⟩ = some (.int .i64 dN.acc) := by have := hra 2 _ rfl; simpa using this
              have a3 : w5.cell? ⟨g, 3, none⟩ = some (.int .i64 dN.var) := by have := hra 3 _ rfl; simpa using this
              have a4 : w5.cell? ⟨g, 4, none⟩ = some (.int .i64 dN.p2) := by have := hra 4 _ rfl; simpa using this
              have a5 : w5.cell? ⟨g, 5, none⟩ = some (.int .u64 dN.gm) := by have := hra 5 _ rfl; simpa using this
              have a6 : w5.cell? ⟨g, 6, none⟩ = some (.int .i64 dN.steps) := by have := hra 6 _ rfl; simpa using this
              have a7 : w5.cell? ⟨g, 7, none⟩ = some (.int .u64 dN.sender) := by have := hra 7 _ rfl; simpa using this
              have a8 : w5.cell? ⟨g, 8, none⟩ = some (.int .i64 dN.sport) := by have := hra 8 _ rfl; simpa using this
              have a9 : w5.cell? ⟨g, 9, none⟩ = some (.int .u64 dN.recv) := by have := hra 9 _ rfl; simpa using this
              have a10 : w5.cell? ⟨g, 10, none⟩ = some (.int .i64 dN.rport) := by have := hra 10 _ rfl; simpa using this
              have b0 : w5.cell? ⟨qd, 0, none⟩ = some (.int .i64 dN.p1) := hrb 0 _ rfl
              have b1 : w5.cell? ⟨qd, 1, none⟩ = some (.int .i64 dN.cls) := hrb 1 _ rfl
              have b2 : w5.cell? ⟨qd, 2, none⟩ = some (.int .i64 dN.acc) := hrb 2 _ rfl
              have b3 : w5.cell? ⟨qd, 3, none⟩ = some (.int .i64 dN.var) := hrb 3 _ rfl
              have b4 : w5.cell? ⟨qd, 4, none⟩ = some (.int .i64 dN.p2) := hrb 4 _ rfl
              have b5 : w5.cell? ⟨qd, 5, none⟩ = some (.int .u64 dN.gm) := hrb 5 _ rfl
              have b6 : w5.cell? ⟨qd, 6, none⟩ = some (.int .i64 dN.steps) := hrb 6 _ rfl
              have b7 : w5.cell? ⟨qd, 7, none⟩ = some (.int .u64 dN.sender) := hrb 7 _ rfl
              have b8 : w5.cell? ⟨qd, 8, none⟩ = some (.int .i64 dN.sport) := hrb 8 _ rfl
              have b9 : w5.cell? ⟨qd, 9, none⟩ = some (.int .u64 dN.recv) := hrb 9 _ rfl
              have b10 : w5.cell? ⟨qd, 10, none⟩ = some (.int .i64 dN.rport) := hrb 10 _ rfl
              have he := eql_ds dN dN
              have hdd : decide (dN = dN) = true := by simp
              rw [show ([dN] : List DS).length = 1 from rfl] at *
              clear ho5 e hrg5 hra hrb hb5 HAQ HBQ2 HXQ HDQ hnr
              go_upto_region 21 with fail
              go_still_tail 26, (by kernel_rfl)
              change wpList _ _ _ _ _ (World.drew w5)
              have HB6 := Lib.hid (show Below w.heap.size w w5.drew from below_drewN HB5.out 1)
              generalize w5.drew = w6 at HB6 ⊢
              clear f1 a0 a1 a2 a3 a4 a5 a6 a7 a8 a9 a10 b0 b1 b2 b3 b4 b5 b6 b7 b8 b9 b10 he hdd hge
              go_wp2_with fail
              refine (awake35 w6).mono ?_
              rintro e wz ⟨rfl, hbz⟩
              have HBZ := Lib.hid (below_then HB6.out hbz)
              clear hbz
              go_wp2_with fail
              go_ret
              exact ⟨rfl, HBZ.out⟩
            · have hge : decide (c.need ≤ (rc : Int)) = false := by simpa using hnr
              have HQ1 := Lib.hid (show qualF F at_ = [] from by rw [HQE.out, if_neg hnr])
              go_wp2_with fail
              refine (aw_qualS HAQ.out at_ hat HQ1.out).mono ?_
              rintro e w5 ⟨A2, c2, rfl, _, _, hb5, ho5⟩
              have HB5 := Lib.hid (below_then HBQ2.out hb5)
              have f1 : w5.cell? ⟨qx, 1, none⟩ = some (.int .i64 c.need) := rangeAt_below HXQ.out hb5 1 _ rfl
              rw [show ([] : List DS).length = 0 from rfl] at *
              clear ho5 hb5 HAQ HBQ2 HXQ HDQ hnr
              go_upto_region 21 with fail
              go_still_tail 26, (by kernel_rfl)
              change wpList _ _ _ _ _ (World.drew w5)
              have HB6 := Lib.hid (show Below w.heap.size w w5.drew from below_drewN HB5.out 1)
              generalize w5.drew = w6 at HB6 ⊢
              clear f1 hge
              go_wp2_with fail
              refine (awake35 w6).mono ?_
              rintro e wz ⟨rfl, hbz⟩
              have HBZ := Lib.hid (below_then HB6.out hbz)
              clear hbz
              go_wp2_with fail
              go_ret
              exact ⟨rfl, HBZ.out⟩
end Go.Proofs.Ytboijaffpnmcaaa
