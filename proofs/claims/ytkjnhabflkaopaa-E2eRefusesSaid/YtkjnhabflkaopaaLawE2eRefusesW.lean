/- The walk of E2eRefuses (written by gen_refuses.py). -/
import Derived.WalkKit
import Derived.LoopTactic
import Derived.Outline
import Derived.Lib.Hide
import Derived.Test.YtkjnhabflkaopaaE15
import Derived.Test.YtkjnhabflkaopaaOpArg
namespace Go.Proofs.Ytkjnhabflkaopaa
open Go.RowKit
set_option linter.unusedVariables false
set_option linter.unusedSimpArgs false

set_option maxRecDepth 100000 in
set_option maxHeartbeats 20000000 in
theorem E2eRefuses_walk {A : Option Addr} {n cap : Nat} {l : List Opx} (d : Int) (w : World) (ok : OpArg w A n cap l) (hwf : ∀ o ∈ l, (Lit.int .i64 o.p.kind).wf = true) :
    Calls Try.prog 8 #[.int .i64 d, .slice A n cap] w fun e w' => e = .returned (.bool true) ∧ Below w.heap.size w w' := by
  have hlen := ok.len_eq
  have hmost := ok.most
  have hle := ok.le
  have OK := Lib.hid ok
  have WF := Lib.hid hwf
  clear ok hwf
  by_cases glo : d < 0
  · have dlo : decide (d < 0) = true := by simpa using glo
    have dlo2 : decide (0 ≤ d) = false := by simpa using glo
    have HN := Lib.hid (new_bad d (by omega))
    go_enter Try.func8, Try.ntmps8
    go_wp2_with fail
    refine (HN.out _).mono ?_
    rintro e _ ⟨rfl, rfl⟩
    go_wp2_with fail
    refine (awake38 _).mono ?_
    rintro e w9 ⟨rfl, hb9⟩
    have HBE := Lib.hid (hb9)
    clear hb9
    go_wp2_with fail
    go_ret
    exact ⟨rfl, HBE.out⟩
  by_cases ghi : 255 < d
  · have dlo2 : decide (0 ≤ d) = true := by simp; omega
    have dhi : decide (d ≤ 255) = false := by simpa using ghi
    have HN := Lib.hid (new_bad d (by omega))
    go_enter Try.func8, Try.ntmps8
    go_wp2_with fail
    refine (HN.out _).mono ?_
    rintro e _ ⟨rfl, rfl⟩
    go_wp2_with fail
    refine (awake38 _).mono ?_
    rintro e w9 ⟨rfl, hb9⟩
    have HBE := Lib.hid (hb9)
    clear hb9
    go_wp2_with fail
    go_ret
    exact ⟨rfl, HBE.out⟩
  have d0 : decide (0 ≤ d) = true := by simp; omega
  have d1 : decide (d ≤ 255) = true := by simp; omega
  have HN := Lib.hid (new_ok d (by omega) (by omega))
  have hn0 : (0 : Int) ≤ (n : Int) := by omega
  by_cases hn : 50 < n
  · have hnb : (50 : Int) < (n : Int) := by omega
    go_enter Try.func8, Try.ntmps8
    go_wp2_with fail
    refine (HN.out _).mono ?_
    rintro e w0 ⟨rfl, hA, hb, hl⟩
    have HB0 := Lib.hid hb
    clear hA hb hl
    go_wp2_with fail
    refine (awake38 _).mono ?_
    rintro e w9 ⟨rfl, hb9⟩
    have HBE := Lib.hid (below_then HB0.out hb9)
    clear hb9
    go_wp2_with fail
    go_ret
    exact ⟨rfl, HBE.out⟩
  have hnb : (n : Int) ≤ 50 := by omega
  go_enter Try.func8, Try.ntmps8
  go_wp2_with fail
  refine (HN.out _).mono ?_
  rintro e w0 ⟨rfl, hA, hb, hl⟩
  have HB0 := Lib.hid hb
  have HA0 := Lib.hid hA
  clear hA hb hl
  skip
  go_wp2_with fail
  go_loopw [6, 7, 8] (fun s a i wr => ∃ (k : Nat) (sb ab : Bool) (x : Ex), k ≤ n ∧ i = .int .i64 k ∧ s = .bool sb ∧ a = .bool ab ∧ ExAt wr w.heap.size x ∧ Below w.heap.size w wr ∧ Inv x sb ab) (fun _ _ i _ => n - (intOf i).toNat)
  case atStart => exact ⟨0, false, false, .new d, by omega, rfl, rfl, rfl, HA0.out, HB0.out, Inv.start d⟩
  case round =>
    obtain ⟨k, sb, ab, x, hk, rfl, rfl, rfl, hx, hbw, hinv⟩ := hrel
    have HX := Lib.hid hx
    have HB := Lib.hid hbw
    have HI := Lib.hid hinv
    clear hx hbw hinv HA0 HB0
    by_cases hlt : k < n
    · have hk0 : (0 : Int) ≤ (k : Int) := by omega
      have hk1 : (k : Int) < (n : Int) := by omega
      obtain ⟨g, off, rfl, hg, hrow⟩ := OK.out.at_ (by omega)
      obtain ⟨o, ho⟩ : ∃ o, l.getD k .zero = o := ⟨_, rfl⟩
      have hop := hrow k (by omega)
      rw [ho] at hop
      have hwo : (Lit.int .i64 o.p.kind).wf = true := WF.out o (by rw [← ho, getD_opx l k (by omega)]; exact List.getElem_mem _)
      have hgb : g ≠ w.heap.size := Nat.ne_of_lt hg
      have HG := Lib.hid hgb
      have HO := Lib.hid (hop.below HB.out)
      have HCL := Lib.hid (call_any x w.heap.size o hwo)
      have HDL := Lib.hid (delay_any x w.heap.size)
      have HOF := Lib.hid (offset_any x w.heap.size)
      clear hop hrow ho hwo hgb hg
      obtain ⟨y, hy⟩ : ∃ y, callX x o = y := ⟨_, rfl⟩
      obtain ⟨f, hf⟩ : ∃ f, callE x o = f := ⟨_, rfl⟩
      have cl := HCL.out
      rw [hy, hf] at cl
      have HC := Lib.hid cl
      clear cl HCL
      have HDY := Lib.hid (delay_any y w.heap.size)
      have HOY := Lib.hid (offset_any y w.heap.size)
      have HYE := Lib.hid hy
      have HFE := Lib.hid hf
      clear hy hf
      skip
      go_wp2_with fail
      refine (HDL.out _ HX.out).mono ?_
      rintro e w1 ⟨rfl, hb⟩
      have HX1 := Lib.hid (HX.out.below hb)
      have HO1 := Lib.hid (HO.out.below hb)
      have HB1 := Lib.hid (below_then HB.out hb)
      clear hb HX HO HB
      go_wp2_with fail
      refine (HOF.out _ HX1.out).mono ?_
      rintro e w2 ⟨rfl, hb⟩
      have HX2 := Lib.hid (HX1.out.below hb)
      have HO2 := Lib.hid (HO1.out.below hb)
      have HB2 := Lib.hid (below_then HB1.out hb)
      clear hb HX1 HO1 HB1
      go_wp2_with (refine load_op_at HO2.out.range _ (by rfl) rfl rfl ?_)
      refine (HC.out _ HX2.out).mono ?_
      rintro e w3 ⟨rfl, hx, ht⟩
      have HX3 := Lib.hid hx
      have HO3 := Lib.hid (HO2.out.touch ht HG.out)
      have HB3 := Lib.hid (Touch.below HB2.out ht (Nat.le_refl _) (Nat.le_refl _))
      clear hx ht HX2 HO2 HB2
      go_wp2_with fail
      refine (HDY.out _ HX3.out).mono ?_
      rintro e w4 ⟨rfl, hb⟩
      have HX4 := Lib.hid (HX3.out.below hb)
      have HO4 := Lib.hid (HO3.out.below hb)
      have HB4 := Lib.hid (below_then HB3.out hb)
      clear hb HX3 HO3 HB3
      go_wp2_with fail
      refine (HOY.out _ HX4.out).mono ?_
      rintro e w5 ⟨rfl, hb⟩
      have HX5 := Lib.hid (HX4.out.below hb)
      have ho5 := HO4.out.below hb
      have HB5 := Lib.hid (below_then HB4.out hb)
      clear hb HX4 HO4 HB4
      have k0 := ho5.kind
      have k5 := ho5.p 2 _ rfl
      clear ho5 HDL HOF HC HDY HOY HG
      by_cases hz : f = 0
      · subst hz
        have hi2 := call_inv HI.out HFE.out
        rw [HYE.out] at hi2
        have hd0 : decide (y.delay < 0) = false := by simpa using hi2.delay
        have kp := call_keeps x o
        rw [HYE.out] at kp
        have HI2 := Lib.hid hi2
        have KP := Lib.hid kp
        clear hi2 kp HI HYE HFE
        have hcases : (o.kind = 0 ∨ o.kind = 1 ∨ o.kind = 2) ∨ (o.kind < 0 ∨ 2 < o.kind) := by omega
        rcases hcases with hks | hks
        · obtain ⟨kk, kd⟩ := KP.out hks
          rw [← kk, ← kd]
          have KK := Lib.hid kk
          have KD := Lib.hid kd
          clear KP kk kd
          rcases hks with hks | hks | hks
          · as_aux_lemma =>
              rw [hks] at k0
              cases htw : twoB o.p.flags
              all_goals first | have h5 : (bits .and .i64 o.p.flags 512 == 0) = true := by simpa [twoB, bne] using htw | have h5 : (bits .and .i64 o.p.flags 512 == 0) = false := by simpa [twoB, bne] using htw
              all_goals cases sb
              all_goals cases ab
              all_goals cases hkn : y.known
              all_goals first
                | (exfalso; have hcc := HI2.out.known hkn; simp [synB, hks, htw] at hcc; done)
                | (have HHK := Lib.hid hks
                   have HHT := Lib.hid htw
                   clear hks htw hkn
                   go_wp2_with fail
                   go_roundw
                   case rel => exact ⟨k + 1, _, _, y, by omega, by go_num, rfl, rfl, HX5.out, HB5.out, by have hh := HI2.out; simp [synB, HHK.out, HHT.out] at hh; exact hh⟩
                   case measure => simp [intOf]; omega)
          · as_aux_lemma =>
              rw [hks] at k0
              cases sb
              all_goals cases ab
              all_goals cases hkn : y.known
              all_goals first
                | (exfalso; have hcc := HI2.out.known hkn; simp [synB, hks] at hcc; done)
                | (have HHK := Lib.hid hks
                   clear hks hkn
                   go_wp2_with fail
                   go_roundw
                   case rel => exact ⟨k + 1, _, _, y, by omega, by go_num, rfl, rfl, HX5.out, HB5.out, by have hh := HI2.out; simp [synB, HHK.out] at hh; exact hh⟩
                   case measure => simp [intOf]; omega)
          · as_aux_lemma =>
              rw [hks] at k0
              cases sb
              all_goals cases ab
              all_goals cases hkn : y.known
              all_goals first
                | (exfalso; have hcc := HI2.out.known hkn; simp [synB, hks] at hcc; done)
                | (have HHK := Lib.hid hks
                   clear hks hkn
                   go_wp2_with fail
                   go_roundw
                   case rel => exact ⟨k + 1, _, _, y, by omega, by go_num, rfl, rfl, HX5.out, HB5.out, by have hh := HI2.out; simp [synB, HHK.out] at hh; exact hh⟩
                   case measure => simp [intOf]; omega)
        · as_aux_lemma =>
            have hh := HI2.out
            have e0 : (o.kind == 0) = false := by simp; omega
            have e1 : (o.kind == 1) = false := by simp; omega
            have e2 : (o.kind == 2) = false := by simp; omega
            simp only [synB, e0, e1, e2, Bool.false_and, Bool.or_false, Bool.false_or] at hh
            have HI3 := Lib.hid hh
            clear hh HI2 KP
            cases hkn : y.known
            all_goals cases sb
            all_goals cases ab
            all_goals rcases hks with hks | hks
            all_goals first | (have d2 : decide (0 ≤ o.kind) = false := by simp; omega) | (have d2 : decide (0 ≤ o.kind) = true := by simp; omega)
            all_goals first | (have d3 : decide (o.kind ≤ 2) = false := by simp; omega) | skip
            all_goals first
              | (exfalso; have hcc := HI3.out.known hkn; simp at hcc; done)
              | (clear hks hkn
                 go_wp2_with fail
                 go_roundw
                 case rel => exact ⟨k + 1, _, _, y, by omega, by go_num, rfl, rfl, HX5.out, HB5.out, HI3.out⟩
                 case measure => simp [intOf]; omega)
      · as_aux_lemma =>
          have e := call_fail (x := x) (o := o) (by rw [HFE.out]; exact hz)
          rw [HYE.out] at e
          subst e
          have hfb : (f != 0) = true := by simpa using hz
          have hfe : (f == 0) = false := by simpa using hz
          have hd0 : decide (y.delay < 0) = false := by simpa using HI.out.delay
          have hkn := HI.out.known
          clear hz HFE HYE
          cases hkn2 : y.known
          all_goals cases sb
          all_goals cases ab
          all_goals first
            | (exfalso; have hcc := hkn hkn2; simp at hcc; done)
            | (clear hkn hkn2
               go_wp2_with fail
               go_roundw
               case rel => exact ⟨k + 1, _, _, y, by omega, by go_num, rfl, rfl, HX5.out, HB5.out, HI.out⟩
               case measure => simp [intOf]; omega)
    · obtain rfl : k = n := by omega
      go_wp2_with fail
      refine (awake38 _).mono ?_
      rintro e w9 ⟨rfl, hb9⟩
      have HBE := Lib.hid (below_then HB.out hb9)
      clear hb9
      go_wp2_with fail
      go_ret
      exact ⟨rfl, HBE.out⟩
end Go.Proofs.Ytkjnhabflkaopaa
