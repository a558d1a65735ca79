/- The walk of TopPorts. -/
import Derived.WalkKit
import Derived.LoopTactic
import Derived.Outline
import Derived.Lib.Hide
import Derived.WalkSpells
import Derived.WalkLawsBesides
import Derived.Deep.DeepCutAuto
import Derived.Deep.CutBlock
import Derived.Test.YthehhcaohhlccaaDe7
import Derived.Test.YthehhcaohhlccaaPort2
import Derived.Test.YthehhcaohhlccaaDe8
namespace Go.Proofs.Ythehhcaohhlccaa
open Go.RowKit
set_option linter.unusedVariables false
set_option linter.unusedSimpArgs false

theorem master_cases {own : DS} {l : List PB} (hn : l.length ≤ 8) : masterF own l = own ∨ (0 ≤ pbest l ∧ masterF own l = (l.getD (pbest l).toNat .zero).set) := by
  unfold masterF
  rw [if_neg (by omega)]
  split
  · rename_i h; exact .inr ⟨h.2.1, rfl⟩
  · exact .inl rfl
theorem master_least {own : DS} {l : List PB} (hn : l.length ≤ 8) (hne : masterF own l ≠ own) {i : Nat} (hi : i < l.length) (hh : (l.getD i .zero).has = true) : lessB (l.getD i .zero).set (masterF own l) = false := by
  rcases master_cases (own := own) hn with h | ⟨h0, h⟩
  · exact absurd h hne
  · rw [h]; exact (pbTo_least l l.length i hi hh).2
theorem six_port {c : Int} (c1 : 1 ≤ c) (c6 : c ≤ 6) : (portF c == 6) = annB c := by
  obtain rfl | rfl | rfl | rfl | rfl | rfl : c = 1 ∨ c = 2 ∨ c = 3 ∨ c = 4 ∨ c = 5 ∨ c = 6 := by omega
  all_goals rfl
theorem uses_port {c : Int} (c1 : 1 ≤ c) (c6 : c ≤ 6) (w : World) : Calls Try.prog 32 #[.int .i64 (portF c)] w fun e w' => e = .returned (.bool (c == 6)) ∧ w = w' := by
  by_cases h : c = 6
  · subst h; exact uses_eight w
  · have e : (c == 6) = false := by simpa using h
    rw [e]
    refine uses_not _ ?_ ?_ w
    · unfold portF; split
      · omega
      · rw [if_pos (by omega)]; omega
    · unfold portF; split
      · omega
      · split <;> omega
set_option maxRecDepth 100000 in
set_option maxHeartbeats 4000000 in
theorem TopPorts_walk (own : DS) {A : Option Addr} {n cap : Nat} {l : List PB} (st : Int) (w : World) (ok : PBArg w A n cap l) :
    Calls Try.prog 10 #[own.v, .slice A n cap, .int .i64 st] w fun e w' => e = .returned (.bool true) ∧ Below w.heap.size w w' := by
  have hl := ok.len_eq
  have hmo := ok.most
  have hcp := ok.le
  have HL := Lib.hid hl
  have OK := Lib.hid ok
  clear hl ok
  by_cases h4 : st < 4
  · have d4 : decide (st < 4) = true := by simp; omega
    go_enter Try.func10, Try.ntmps10
    go_wp2_with fail
    go_ret
    exact ⟨rfl, (Below.refl _ _).alloc (Nat.le_refl _) _⟩
  have d4 : decide (st < 4) = false := by simp; omega
  by_cases h9 : 9 < st
  · have d9 : decide (9 < st) = true := by simp; omega
    go_enter Try.func10, Try.ntmps10
    go_wp2_with fail
    go_ret
    exact ⟨rfl, (Below.refl _ _).alloc (Nat.le_refl _) _⟩
  have d9 : decide (9 < st) = false := by simp; omega
  by_cases hn20 : 20 < n
  · have d20 : decide (20 < (n : Int)) = true := by simp; omega
    go_enter Try.func10, Try.ntmps10
    go_wp2_with fail
    go_ret
    exact ⟨rfl, (Below.refl _ _).alloc (Nat.le_refl _) _⟩
  have d20 : decide (20 < (n : Int)) = false := by simp; omega
  by_cases hn0 : 8 < n
  · have hg : decide (8 < (n : Int)) = true := by simp; omega
    go_enter Try.func10, Try.ntmps10
    go_wp2_with fail
    refine (decide_long own A n cap hn0 _).mono ?_
    rintro e w1 ⟨rfl, hb1⟩
    go_wp2_with fail
    go_ret
    exact ⟨rfl, below_then ((Below.refl _ _).alloc (Nat.le_refl _) _) hb1⟩
  have hn : n ≤ 8 := by omega
  have hst : 4 ≤ st := by omega
  have hst9 : st ≤ 9 := by omega
  have hnn : n = l.length := HL.out.symm
  go_enter Try.func10, Try.ntmps10
  clear hnn
  go_wp2_with fail
  generalize hW : w.alloc _ = W
  have hb0 : Below w.heap.size w W := by rw [← hW]; exact (Below.refl _ _).alloc (Nat.le_refl _) _
  have hO0 : BoxAt W w.heap.size own := by rw [← hW]; exact BoxAt.of (heap_alloc_new w _)
  have hs0 : w.heap.size < W.heap.size := by rw [← hW]; simp
  clear hW
  refine (decide_any own (OK.out.below hb0) hn).mono ?_
  rintro e w1 ⟨g, rfl, hb1, hrow⟩
  have HB := Lib.hid (below_then hb0 hb1)
  have hO1 := hO0.below hb1
  have HO := Lib.hid hO1
  have ROW := Lib.hid hrow
  have hs1 : w.heap.size < w1.heap.size := by have := hb1.size; omega
  clear hb0 hO0 hb1 hrow hs0
  obtain ⟨o0, o1, o2, o3, o4, o5, o6, o7, o8, o9, o10⟩ := hO1
  go_wp2_with fail
  obtain ⟨m, hm⟩ : ∃ m, masterF own l = m := ⟨_, rfl⟩
  refine (master_any own (OK.out.below HB.out) hn).mono ?_
  rintro e w2 ⟨rfl, hb2⟩
  rw [hm]
  have HM := Lib.hid hm
  have HB2 := Lib.hid (below_then HB.out hb2)
  have HO2 := Lib.hid (HO.out.below hb2)
  have ROW2 := Lib.hid (ROW.out.below hb2)
  have hs2 : w.heap.size < w2.heap.size := by have := hb2.size; omega
  clear hb2 hm o0 o1 o2 o3 o4 o5 o6 o7 o8 o9 o10 HB HO ROW hs1
  go_wp2_with fail
  generalize hW3 : w2.alloc _ = W3
  have hb3 : Below w2.heap.size w2 W3 := by rw [← hW3]; exact (Below.refl _ _).alloc (Nat.le_refl _) _
  have HM3 := Lib.hid (show BoxAt W3 w2.heap.size m by rw [← hW3]; exact BoxAt.of (heap_alloc_new w2 _))
  have HB3 := Lib.hid (below_then HB2.out hb3)
  have HO3 := Lib.hid (HO2.out.below hb3)
  have ROW3 := Lib.hid (ROW2.out.below hb3)
  have hs3 : w.heap.size < W3.heap.size := by have := hb3.size; omega
  have hs32 : w2.heap.size < W3.heap.size := by rw [← hW3]; simp
  clear hW3 hb3 HB2 HO2 ROW2
  generalize w2.heap.size = gm at *
  have hse : m = own ∨ ¬ m = own := Classical.em _
  have LEAST := Lib.hid (fun (hne : ¬ m = own) (i : Nat) (hi : i < n) (hh : (l.getD i .zero).has = true) => by have := master_least (own := own) (l := l) (by rw [HL.out]; exact hn) (by rw [HM.out]; exact hne) (by rw [HL.out]; exact hi) hh; rwa [HM.out] at this)
  go_loopw [46, 10] (fun i s wr => ∃ (k : Nat) (c : Int), k ≤ n ∧ i = .int .i64 k ∧ s = .int .i64 c ∧ ((c = 0 ∧ ∀ j, j < k → codeF own l (pbest l) j ≠ 6) ∨ (c = 1 ∧ ∃ j, j < k ∧ codeF own l (pbest l) j = 6)) ∧ Below W3.heap.size W3 wr) (fun i _ _ => n - (intOf i).toNat)
  case atStart => exact ⟨0, 0, Nat.zero_le _, rfl, rfl, .inl ⟨rfl, fun j hj => by omega⟩, Below.refl _ _⟩
  case round =>
    obtain ⟨k, c, hk, rfl, rfl, hno, hbr⟩ := hrel
    have HN := Lib.hid hno
    have HBR := Lib.hid hbr
    clear hno
    by_cases hlt : k < n
    · have hk0 : (0 : Int) ≤ (k : Int) := by omega
      have hk1 : (k : Int) < (n : Int) := by omega
      obtain ⟨b, off, rfl, hrow⟩ := OK.out.at_ (by omega)
      obtain ⟨q, hq⟩ : ∃ q, l.getD k .zero = q := ⟨_, rfl⟩
      have PA := Lib.hid ((hrow.below HB3.out) k (by rw [HL.out]; exact hlt))
      have hc := (ROW3.out.below hbr) k (by rw [codes_len, HL.out]; exact hlt)
      rw [codes_at own l k (by rw [HL.out]; exact hlt)] at hc
      have hrg := code_range own l (pbest l) k
      have hsix := code_six (own := own) (l := l) (i := k) (by rw [HL.out]; exact hlt)
      have hmh : codeF own l (pbest l) k = 6 → m = q.set := fun h => by
        have := master_hit (own := own) (l := l) (by rw [HL.out]; exact hn) (by rw [HL.out]; exact hlt) h
        rw [← HM.out, this, hq]
      have hle := fun h => LEAST.out h k hlt
      rw [hq] at hle
      have hcnt : codeF own l (pbest l) k = 6 → c = 0 := fun h => by
        rcases HN.out with h1 | ⟨_, j, hj, h2⟩
        · exact h1.1
        · have a1 := (hsix.1 h).2.1
          have a2 := ((code_six (own := own) (l := l) (i := j) (by rw [HL.out]; omega)).1 h2).2.1
          omega
      obtain ⟨v, hv⟩ : ∃ v, codeF own l (pbest l) k = v := ⟨_, rfl⟩
      rw [hv] at hc hrg hmh hcnt
      have PA' := Lib.hid (fun X (hb : Below W3.heap.size W3 X) => PA.out.below hb)
      rw [hq] at PA'
      have HV := Lib.hid hv
      have HQ := Lib.hid hq
      have LE := Lib.hid hle
      have MH := Lib.hid hmh
      have HC := Lib.hid hcnt
      have hv1 := hrg.1
      have hv6 := hrg.2
      have N1 := Lib.hid (next_one hst hst9 hv1 hv6)
      have N2 := Lib.hid (next_two (s := st) hv1 hv6)
      have US := Lib.hid (uses_port hv1 hv6)
      have S6 := Lib.hid (six_port hv1 hv6)
      clear hv hq hle hmh hcnt hrg hsix hrow hbr
      obtain ⟨md, hmd⟩ : ∃ md, midF st v = md := ⟨_, rfl⟩
      obtain ⟨pv, hpv⟩ : ∃ pv, portF v = pv := ⟨_, rfl⟩
      obtain ⟨an, han⟩ : ∃ an, annB v = an := ⟨_, rfl⟩
      have SN := Lib.hid (fun w => by have := sends_any (portF v) w; rw [S6.out, han, hpv] at this; exact this)
      have AN := Lib.hid (fun w => by have := ann_any v w; rw [han] at this; exact this)
      rw [hmd] at N1 N2
      rw [hpv] at N2 US
      clear hmd hpv han
      go_wp2_with fail
      refine (N1.out _).mono ?_
      rintro e x1 ⟨rfl, hx1⟩
      have X1 := Lib.hid (below_then HBR.out hx1)
      clear hx1
      go_wp2_with fail
      refine (N2.out _).mono ?_
      rintro e x2 ⟨rfl, hx2⟩
      have X2 := Lib.hid (below_then X1.out hx2)
      clear hx2 hc
      go_wp2_with fail
      refine (SN.out _).mono ?_
      rintro e _ ⟨rfl, rfl⟩
      go_wp2_with fail
      refine (AN.out _).mono ?_
      rintro e _ ⟨rfl, rfl⟩
      have hbne : (an != an) = false := by simp
      go_wp2_with fail
      refine (US.out _).mono ?_
      rintro e _ ⟨rfl, rfl⟩
      have HAFT := Lib.hid (show Below W3.heap.size W3 x2 from X2.out)
      have bm := (HM3.out.below HAFT.out).aft
      have bo := (HO3.out.below HAFT.out).aft
      have bq := PA'.out x2 HAFT.out
      have bqh := bq.has_aft
      have bqs := bq.2.aft
      clear bq
      obtain ⟨m0, m1, m2, m3, m4, m5, m6, m7, m8, m9, m10⟩ := bm
      obtain ⟨o0, o1, o2, o3, o4, o5, o6, o7, o8, o9, o10⟩ := bo
      obtain ⟨q0, q1, q2, q3, q4, q5, q6, q7, q8, q9, q10⟩ := bqs
      have en := neq_ds m own
      by_cases h6 : v = 6
      · have hmq := MH.out h6
        obtain rfl : c = 0 := HC.out h6
        have HV6 := Lib.hid (HV.out.trans h6)
        have en2 := neq_ds m q.set
        have dq := decide_eq_true hmq
        subst h6
        clear hmq
        go_wp2_with fail
        refine wp_region_calm (by kernel_rfl) (by kernel_rfl) ?_
        repeat (go_big_quiet_step (fail))
        refine wpQuiet_nil ?_
        rintro _ ⟨u, rfl⟩
        clear en2 dq
        rcases hse with hmo | hmo
        · have dn := decide_eq_true hmo
          clear hmo
          go_wp2_with fail
          refine wp_region_calm_at (u := u) (by kernel_rfl) (by kernel_rfl) ?_
          repeat (go_big_quiet_step (fail))
          refine wpQuiet_nil ?_
          rintro _ ⟨u2, rfl⟩
          go_wp2_with fail
          go_roundw
          case rel => exact ⟨k + 1, 1, by omega, by go_num, by go_num, .inr ⟨rfl, k, by omega, HV6.out⟩, below_then HAFT.out u2.below⟩
          case measure => simp [intOf]; omega
        · have dn := decide_eq_false hmo
          have hle := LE.out hmo
          clear hmo
          cases hqh : q.has with
          | false =>
            rw [hqh] at bqh
            clear hle hqh
            go_wp2_with fail
            refine wp_region_calm_at (u := u) (by kernel_rfl) (by kernel_rfl) ?_
            repeat (go_big_quiet_step (fail))
            refine wpQuiet_nil ?_
            rintro _ ⟨u2, rfl⟩
            go_wp2_with fail
            go_roundw
            case rel => exact ⟨k + 1, 1, by omega, by go_num, by go_num, .inr ⟨rfl, k, by omega, HV6.out⟩, below_then HAFT.out u2.below⟩
            case measure => simp [intOf]; omega
          | true =>
            rw [hqh] at bqh
            have LS := Lib.hid (hle hqh)
            clear hle hqh
            go_wp2_with fail
            refine wp_region_calm_at (u := u) (by kernel_rfl) (by kernel_rfl) ?_
            repeat (go_big_quiet_step ((go_at_call 18; with_reducible exact calm_of (less_false LS.out _))))
            refine wpQuiet_nil ?_
            rintro _ ⟨u2, rfl⟩
            go_wp2_with fail
            go_roundw
            case rel => exact ⟨k + 1, 1, by omega, by go_num, by go_num, .inr ⟨rfl, k, by omega, HV6.out⟩, below_then HAFT.out u2.below⟩
            case measure => simp [intOf]; omega
      · have b6 : (v == 6) = false := by simpa using h6
        have HN2 := Lib.hid (show (c = 0 ∧ ∀ j, j < k + 1 → codeF own l (pbest l) j ≠ 6) ∨ (c = 1 ∧ ∃ j, j < k + 1 ∧ codeF own l (pbest l) j = 6) by
          rcases HN.out with ⟨h1, h2⟩ | ⟨h1, j, hj, h2⟩
          · refine .inl ⟨h1, fun j hj => ?_⟩
            by_cases e : j = k
            · rw [e, HV.out]; exact h6
            · exact h2 j (by omega)
          · exact .inr ⟨h1, j, by omega, h2⟩)
        clear h6
        rcases hse with hmo | hmo
        · have dn := decide_eq_true hmo
          clear hmo
          go_wp2_with fail
          refine wp_region_calm (by kernel_rfl) (by kernel_rfl) ?_
          repeat (go_big_quiet_step (fail))
          refine wpQuiet_nil ?_
          rintro _ ⟨u2, rfl⟩
          go_wp2_with fail
          go_roundw
          case rel => exact ⟨k + 1, c, by omega, by go_num, rfl, HN2.out, below_then HAFT.out u2.below⟩
          case measure => simp [intOf]; omega
        · have dn := decide_eq_false hmo
          have hle := LE.out hmo
          clear hmo
          cases hqh : q.has with
          | false =>
            rw [hqh] at bqh
            clear hle hqh
            go_wp2_with fail
            refine wp_region_calm (by kernel_rfl) (by kernel_rfl) ?_
            repeat (go_big_quiet_step (fail))
            refine wpQuiet_nil ?_
            rintro _ ⟨u2, rfl⟩
            go_wp2_with fail
            go_roundw
            case rel => exact ⟨k + 1, c, by omega, by go_num, rfl, HN2.out, below_then HAFT.out u2.below⟩
            case measure => simp [intOf]; omega
          | true =>
            rw [hqh] at bqh
            have LS := Lib.hid (hle hqh)
            clear hle hqh
            go_wp2_with fail
            refine wp_region_calm (by kernel_rfl) (by kernel_rfl) ?_
            repeat (go_big_quiet_step ((go_at_call 18; with_reducible exact calm_of (less_false LS.out _))))
            refine wpQuiet_nil ?_
            rintro _ ⟨u2, rfl⟩
            go_wp2_with fail
            go_roundw
            case rel => exact ⟨k + 1, c, by omega, by go_num, rfl, HN2.out, below_then HAFT.out u2.below⟩
            case measure => simp [intOf]; omega
    · obtain rfl : k = n := by omega
      obtain ⟨m0, m1, m2, m3, m4, m5, m6, m7, m8, m9, m10⟩ := HM3.out.below hbr
      obtain ⟨o0, o1, o2, o3, o4, o5, o6, o7, o8, o9, o10⟩ := HO3.out.below hbr
      have ee := eql_ds m own
      clear hbr
      rcases HN.out with ⟨rfl, h⟩ | ⟨rfl, h⟩
      · have hmo : m = own := by
          rw [← HM.out]
          exact master_own (by rw [HL.out]; exact hn) (fun j hj => h j (by rw [HL.out] at hj; exact hj))
        have dn := decide_eq_true hmo
        clear hmo h hse
        go_wp2_with fail
        refine (awake19 _).mono ?_
        rintro e x ⟨rfl, hx⟩
        go_wp2_with fail
        go_ret
        exact ⟨rfl, below_then HB3.out (below_then HBR.out hx)⟩
      · clear h hse
        go_wp2_with fail
        refine (awake19 _).mono ?_
        rintro e x ⟨rfl, hx⟩
        go_wp2_with fail
        go_ret
        exact ⟨rfl, below_then HB3.out (below_then HBR.out hx)⟩
end Go.Proofs.Ythehhcaohhlccaa
