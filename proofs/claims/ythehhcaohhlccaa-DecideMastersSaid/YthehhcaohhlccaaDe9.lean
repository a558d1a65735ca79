/- The reference of chapter 36: best, code. -/
import Derived.WalkKit
import Derived.LoopTactic
import Derived.Outline
import Derived.Lib.Hide
import Derived.Test.YthehhcaohhlccaaDe7
namespace Go.Proofs.Ythehhcaohhlccaa
open Go.RowKit
set_option linter.unusedVariables false
set_option linter.unusedSimpArgs false

theorem rless_yes {a b : DS} (h : lessB a b = true) (w : World) : Calls Try.prog 19 #[a.v, b.v] w fun e w' => e = .returned (.bool true) ∧ Below w.heap.size w w' := by
  have := rless_any a b w; rwa [h] at this
theorem rless_no {a b : DS} (h : lessB a b = false) (w : World) : Calls Try.prog 19 #[a.v, b.v] w fun e w' => e = .returned (.bool false) ∧ Below w.heap.size w w' := by
  have := rless_any a b w; rwa [h] at this
set_option maxHeartbeats 1000000 in
theorem rpbest_any (l : List PB) (b off c : Nat) (w : World) (hl : l.length ≤ 1000) (hr : PBRow w b off l) : Calls Try.prog 57 #[.slice (some ⟨b, off, none⟩) l.length c] w fun e w' => e = .returned (.int .i64 (pbest l)) ∧ Below w.heap.size w w' := by
  have HR := Lib.hid hr
  clear hr
  go_enter Try.func57, Try.ntmps57
  go_wp2
  go_loopw [3, 4] (fun u i wr => ∃ (k : Nat) (m : Int), k ≤ l.length ∧ i = .int .i64 k ∧ u = .int .i64 m ∧ pbTo l k = m ∧ Below w.heap.size w wr) (fun _ i _ => l.length - (intOf i).toNat)
  case atStart => exact ⟨0, -1, Nat.zero_le _, rfl, rfl, rfl, Below.refl _ _⟩
  case round =>
    obtain ⟨k, m, hk, rfl, rfl, hm, hb⟩ := hrel
    have hR := HR.out.below hb
    have hrg := pbTo_range l k
    rw [hm] at hrg
    have HB := Lib.hid hb
    have HM := Lib.hid hm
    clear hb hm
    by_cases hlt : k < l.length
    · have hk0 : (0 : Int) ≤ (k : Int) := by omega
      have hk1 : (k : Int) < (l.length : Int) := by omega
      obtain ⟨p, hp⟩ : ∃ p, l.getD k .zero = p := ⟨_, rfl⟩
      have hA := hR k hlt
      rw [hp] at hA
      have hh := hA.has_aft
      have HA := Lib.hid hA.2
      have HP := Lib.hid hp
      have HRR := Lib.hid hR
      clear hp hR hA
      cases hph : p.has with
      | false =>
        rw [hph] at hh
        have HPH := Lib.hid hph
        clear hph
        go_wp2_with fail
        refine wp_region_calm (by kernel_rfl) (by kernel_rfl) ?_
        repeat (go_big_quiet_step (fail))
        refine wpQuiet_nil ?_
        rintro _ ⟨u, rfl⟩
        go_wp2
        go_roundw
        case rel => exact ⟨k + 1, m, by omega, by go_num, rfl, (pbTo_not (by rw [HP.out]; exact HPH.out)).trans HM.out, below_then HB.out u.below⟩
        case measure => simp [intOf]; omega
      | true =>
        rw [hph] at hh
        have HPH := Lib.hid hph
        clear hph
        by_cases hneg : m < 0
        · have hg : decide (m < 0) = true := by simpa using hneg
          go_wp2_with fail
          refine wp_region_calm (by kernel_rfl) (by kernel_rfl) ?_
          repeat (go_big_quiet_step (fail))
          refine wpQuiet_nil ?_
          rintro _ ⟨u, rfl⟩
          go_wp2
          go_roundw
          case rel => exact ⟨k + 1, k, by omega, by go_num, rfl, pbTo_first (by rw [HP.out]; exact HPH.out) (by rw [HM.out]; exact hneg), below_then HB.out u.below⟩
          case measure => simp [intOf]; omega
        · have hg : decide (m < 0) = false := by simpa using hneg
          obtain ⟨n, rfl⟩ : ∃ n : Nat, m = n := ⟨m.toNat, by omega⟩
          have hn : n < l.length := by omega
          have hn0 : (0 : Int) ≤ (n : Int) := by omega
          have hn1 : (n : Int) < (l.length : Int) := by omega
          obtain ⟨e, he⟩ : ∃ e, l.getD n .zero = e := ⟨_, rfl⟩
          have hB := HRR.out n hn
          rw [he] at hB
          have HE := Lib.hid he
          obtain ⟨a0, a1, a2, a3, a4, a5, a6, a7, a8, a9, a10⟩ := HA.out.aft
          obtain ⟨b0, b1, b2, b3, b4, b5, b6, b7, b8, b9, b10⟩ := hB.2.aft
          clear hB he
          go_wp2_with fail
          refine wp_region_calm (by kernel_rfl) (by kernel_rfl) ?_
          cases hless : lessB p.set e.set with
          | true =>
            have HL := Lib.hid hless
            clear hless
            repeat (go_big_quiet_step ((go_at_call 19; exact calm_of (rless_yes HL.out _))))
            refine wpQuiet_nil ?_
            rintro _ ⟨u, rfl⟩
            go_wp2
            go_roundw
            case rel => exact ⟨k + 1, k, by omega, by go_num, rfl, pbTo_less (by rw [HP.out]; exact HPH.out) (by rw [HM.out, HP.out, Int.toNat_natCast, HE.out]; exact HL.out), below_then HB.out u.below⟩
            case measure => simp [intOf]; omega
          | false =>
            have HL := Lib.hid hless
            clear hless
            repeat (go_big_quiet_step ((go_at_call 19; exact calm_of (rless_no HL.out _))))
            refine wpQuiet_nil ?_
            rintro _ ⟨u, rfl⟩
            go_wp2
            go_roundw
            case rel => exact ⟨k + 1, n, by omega, by go_num, rfl, (pbTo_stay (by rw [HM.out]; omega) (by rw [HM.out, HP.out, Int.toNat_natCast, HE.out]; exact HL.out)).trans HM.out, below_then HB.out u.below⟩
            case measure => simp [intOf]; omega
    · obtain rfl : k = l.length := by omega
      clear hR
      go_wp2
      go_ret
      exact ⟨ret_int HM.out.symm, HB.out⟩
set_option maxRecDepth 100000 in
set_option maxHeartbeats 2000000 in
theorem rcode_any (own : DS) (l : List PB) (b off c n k : Nat) (hn : l.length = n) (hk : k < n) (hl : n ≤ 8) (hst : ∀ p ∈ l, -9223372036854775808 ≤ p.set.steps) (w : World) (hr : PBRow w b off l) :
    Calls Try.prog 58 #[own.v, .slice (some ⟨b, off, none⟩) n c, .int .i64 (pbest l), .int .i64 k] w fun e w' => e = .returned (.int .i64 (codeF own l (pbest l) k)) ∧ Below w.heap.size w w' := by
  obtain ⟨r, hr0⟩ : ∃ r, codeF own l (pbest l) k = r := ⟨_, rfl⟩
  rw [hr0]
  have hrg := pbTo_range l l.length
  have e : pbTo l l.length = pbest l := rfl
  rw [e, hn] at hrg
  obtain ⟨m, hm⟩ : ∃ m, pbest l = m := ⟨_, rfl⟩
  rw [hm] at hrg hr0 ⊢
  have hk0 : (0 : Int) ≤ (k : Int) := by omega
  have hk1 : (k : Int) < (n : Int) := by omega
  obtain ⟨p, hp⟩ : ∃ p, l.getD k .zero = p := ⟨_, rfl⟩
  have hP := hr k (by omega)
  rw [hp] at hP
  have HRR := Lib.hid hr
  have HP := Lib.hid hp
  have HC := Lib.hid hr0
  have HN := Lib.hid hn
  have HPP := Lib.hid hP
  have HST := Lib.hid hst
  clear hr hp hr0 hn e hm hst
  obtain ⟨hh, a0, a1, a2, a3, a4, a5, a6, a7, a8, a9, a10⟩ := hP
  have hlt0 : w.heap.size < (w.alloc (.cells #[.int .i64 own.p1, .int .i64 own.cls, .int .i64 own.acc, .int .i64 own.var, .int .i64 own.p2, .int .u64 own.gm, .int .i64 own.steps, .int .u64 own.sender, .int .i64 own.sport, .int .u64 own.recv, .int .i64 own.rport] 24)).heap.size := by simp
  have hbw : b < w.heap.size := World.block_lt_of_cell? w _ hh
  by_cases hcl : own.cls ≤ 127
  · have hd1 : decide (own.cls ≤ 127) = true := by simp; omega
    cases hph : p.has with
    | false =>
      have hr : r = 1 := by rw [← HC.out]; exact code_m1 HP.out hcl (.inl hph)
      subst hr
      rw [hph] at hh
      clear hph
      go_enter Try.func58, Try.ntmps58
      go_wp2_with fail
      go_ret
      exact ⟨rfl, ((Below.refl w.heap.size w).alloc (Nat.le_refl _) _).alloc (by simp) _⟩
    | true =>
      rw [hph] at hh
      cases hle : lessB own p.set with
      | true =>
        have hr : r = 1 := by rw [← HC.out]; exact code_m1 HP.out hcl (.inr hle)
        subst hr
        have HLE := Lib.hid hle
        clear hph hle
        go_enter Try.func58, Try.ntmps58
        go_wp2_with fail
        refine (rless_yes HLE.out _).mono ?_
        rintro e x ⟨rfl, hx⟩
        go_wp2_with fail
        go_ret
        exact ⟨rfl, below_then (((Below.refl w.heap.size w).alloc (Nat.le_refl _) _).alloc (by simp) _) hx⟩
      | false =>
        have hr : r = 4 := by rw [← HC.out]; exact code_p1 HP.out hcl hph hle
        subst hr
        have HLE := Lib.hid hle
        clear hph hle
        go_enter Try.func58, Try.ntmps58
        go_wp2_with fail
        refine (rless_no HLE.out _).mono ?_
        rintro e x ⟨rfl, hx⟩
        go_wp2_with fail
        go_ret
        exact ⟨rfl, below_then (((Below.refl w.heap.size w).alloc (Nat.le_refl _) _).alloc (by simp) _) hx⟩
  have hd1 : decide (own.cls ≤ 127) = false := by simp; omega
  by_cases hneg : m < 0
  · have hg : decide (m < 0) = true := by simpa using hneg
    have hr : r = 2 := by rw [← HC.out]; exact code_m2 hcl (.inl hneg)
    subst hr
    go_enter Try.func58, Try.ntmps58
    go_wp2_with fail
    generalize hW : (w.alloc _).alloc _ = W
    have HW := Lib.hid (show Below w.heap.size w W by rw [← hW]; exact ((Below.refl w.heap.size w).alloc (Nat.le_refl _) _).alloc (by simp) _)
    clear hW
    refine wp_region_calm (by kernel_rfl) (by kernel_rfl) ?_
    repeat (go_big_quiet_step (fail))
    refine wpQuiet_nil ?_
    rintro _ ⟨u, rfl⟩
    go_wp2_with fail
    go_ret
    exact ⟨rfl, below_then HW.out u.below⟩
  have hg : decide (m < 0) = false := by simpa using hneg
  obtain ⟨t, rfl⟩ : ∃ t : Nat, m = t := ⟨m.toNat, by omega⟩
  have ht : t < n := by omega
  have ht0 : (0 : Int) ≤ (t : Int) := by omega
  have ht1 : (t : Int) < (n : Int) := by omega
  obtain ⟨q, hq⟩ : ∃ q, l.getD t .zero = q := ⟨_, rfl⟩
  have hB := HRR.out t (by rw [HN.out]; exact ht)
  rw [hq] at hB
  have hq' : l.getD ((t : Int)).toNat .zero = q := by rw [Int.toNat_natCast]; exact hq
  have hqs : -9223372036854775808 ≤ q.set.steps := HST.out q (by rw [← hq, List.getD_eq_getElem?_getD, List.getElem?_eq_getElem (by rw [HN.out]; exact ht)]; simp)
  have HQ := Lib.hid hq'
  have HQB := Lib.hid hB
  clear hq hB hq'
  cases hlo : lessB own q.set with
  | true =>
    have hr : r = 2 := by rw [← HC.out]; exact code_m2 hcl (.inr (by rw [HQ.out]; exact hlo))
    subst hr
    have HLO := Lib.hid hlo
    clear hlo
    go_enter Try.func58, Try.ntmps58
    go_wp2_with fail
    generalize hW : (w.alloc _).alloc _ = W
    have hw : Below w.heap.size w W := by rw [← hW]; exact ((Below.refl w.heap.size w).alloc (Nat.le_refl _) _).alloc (by simp) _
    have kO : BoxAt W w.heap.size own := by rw [← hW]; exact BoxAt.of (heap_alloc_old (heap_alloc_new w _) _)
    obtain ⟨o0, o1, o2, o3, o4, o5, o6, o7, o8, o9, o10⟩ := kO.aft
    obtain ⟨b0, b1, b2, b3, b4, b5, b6, b7, b8, b9, b10⟩ := (HQB.out.below hw).2.aft
    have HW := Lib.hid hw
    clear hW hw kO
    refine wp_region_calm (by kernel_rfl) (by kernel_rfl) ?_
    repeat (go_big_quiet_step ((go_at_call 19; exact calm_of (rless_yes HLO.out _))))
    refine wpQuiet_nil ?_
    rintro _ ⟨u, rfl⟩
    go_wp2_with fail
    go_ret
    exact ⟨rfl, below_then HW.out u.below⟩
  | false =>
    have HLO := Lib.hid hlo
    by_cases hkt : k = t
    · have hr : r = 6 := by rw [← HC.out]; exact code_s1 hcl hneg (by rw [HQ.out]; exact hlo) (by omega)
      subst hr
      subst hkt
      clear hlo
      go_enter Try.func58, Try.ntmps58
      go_wp2_with fail
      generalize hW : (w.alloc _).alloc _ = W
      have hw : Below w.heap.size w W := by rw [← hW]; exact ((Below.refl w.heap.size w).alloc (Nat.le_refl _) _).alloc (by simp) _
      have kO : BoxAt W w.heap.size own := by rw [← hW]; exact BoxAt.of (heap_alloc_old (heap_alloc_new w _) _)
      obtain ⟨o0, o1, o2, o3, o4, o5, o6, o7, o8, o9, o10⟩ := kO.aft
      obtain ⟨b0, b1, b2, b3, b4, b5, b6, b7, b8, b9, b10⟩ := (HQB.out.below hw).2.aft
      have HW := Lib.hid hw
      clear hW hw kO
      refine wp_region_calm (by kernel_rfl) (by kernel_rfl) ?_
      repeat (go_big_quiet_step ((go_at_call 19; exact calm_of (rless_no HLO.out _))))
      refine wpQuiet_nil ?_
      rintro _ ⟨u, rfl⟩
      go_wp2_with fail
      go_ret
      exact ⟨rfl, below_then HW.out u.below⟩
    · have hkt' : ¬ (k : Int) = (t : Int) := by omega
      have bkt : ((k : Int) == (t : Int)) = false := by simp; omega
      cases hph : p.has with
      | false =>
        have hr : r = 3 := by rw [← HC.out]; exact code_m3 HP.out hcl hneg (by rw [HQ.out]; exact hlo) hkt' (.inl hph)
        subst hr
        clear hlo
        go_enter Try.func58, Try.ntmps58
        go_wp2_with fail
        generalize hW : (w.alloc _).alloc _ = W
        have hw : Below w.heap.size w W := by rw [← hW]; exact ((Below.refl w.heap.size w).alloc (Nat.le_refl _) _).alloc (by simp) _
        have kO : BoxAt W w.heap.size own := by rw [← hW]; exact BoxAt.of (heap_alloc_old (heap_alloc_new w _) _)
        have kP : PBAt W (w.heap.size + 1) 0 p := by rw [← hW]; exact PBAt.of (by rw [hph]; exact heap_at (by simp))
        obtain ⟨o0, o1, o2, o3, o4, o5, o6, o7, o8, o9, o10⟩ := kO.aft
        obtain ⟨b0, b1, b2, b3, b4, b5, b6, b7, b8, b9, b10⟩ := (HQB.out.below hw).2.aft
        have ph := kP.has_aft
        rw [hph] at ph
        have HW := Lib.hid hw
        clear hW hw kO kP hph
        refine wp_region_calm (by kernel_rfl) (by kernel_rfl) ?_
        repeat (go_big_quiet_step ((go_at_call 19; exact calm_of (rless_no HLO.out _))))
        refine wpQuiet_nil ?_
        rintro _ ⟨u, rfl⟩
        go_wp2_with fail
        refine wp_region_calm_at (u := u) (by kernel_rfl) (by kernel_rfl) ?_
        repeat (go_big_quiet_step (fail))
        refine wpQuiet_nil ?_
        rintro _ ⟨u2, rfl⟩
        go_wp2_with fail
        go_ret
        exact ⟨rfl, below_then HW.out u2.below⟩
      | true =>
        have hk63 : (k : Int) + 1 ≤ 9 := by omega
        obtain ⟨f, hf⟩ : ∃ f, furtherF q.set own p.set ((k : Int) + 1) = f := ⟨_, rfl⟩
        have hr3 : lessB f p.set = true → r = 3 := fun h => by rw [← HC.out]; exact code_m3 HP.out hcl hneg (by rw [HQ.out]; exact hlo) hkt' (.inr (by rw [HQ.out, hf]; exact h))
        have hr5 : lessB f p.set = false → r = 5 := fun h => by rw [← HC.out]; exact code_p2 HP.out hcl hneg (by rw [HQ.out]; exact hlo) hkt' hph (by rw [HQ.out, hf]; exact h)
        have FU := Lib.hid (fun w => by have := rfurther_any q.set own p.set ((k : Int) + 1) hqs w; rwa [hf] at this)
        clear hlo hf hqs
        go_enter Try.func58, Try.ntmps58
        go_wp2_with fail
        generalize hW : (w.alloc _).alloc _ = W
        have hw : Below w.heap.size w W := by rw [← hW]; exact ((Below.refl w.heap.size w).alloc (Nat.le_refl _) _).alloc (by simp) _
        have kO : BoxAt W w.heap.size own := by rw [← hW]; exact BoxAt.of (heap_alloc_old (heap_alloc_new w _) _)
        have kP : PBAt W (w.heap.size + 1) 0 p := by rw [← hW]; exact PBAt.of (by rw [hph]; exact heap_at (by simp))
        obtain ⟨o0, o1, o2, o3, o4, o5, o6, o7, o8, o9, o10⟩ := kO.aft
        obtain ⟨b0, b1, b2, b3, b4, b5, b6, b7, b8, b9, b10⟩ := (HQB.out.below hw).2.aft
        obtain ⟨p0, p1, p2, p3, p4, p5, p6, p7, p8, p9, p10⟩ := kP.2.aft
        have ph := kP.has_aft
        rw [hph] at ph
        have HW := Lib.hid hw
        clear hW hw kO kP hph
        refine wp_region_calm (by kernel_rfl) (by kernel_rfl) ?_
        repeat (go_big_quiet_step ((go_at_call 19; exact calm_of (rless_no HLO.out _))))
        refine wpQuiet_nil ?_
        rintro _ ⟨u, rfl⟩
        go_wp2_with fail
        cases hlf : lessB f p.set with
        | true =>
          obtain rfl := hr3 hlf
          have HLF := Lib.hid hlf
          clear hlf hr3 hr5
          refine wp_region_calm_at (u := u) (by kernel_rfl) (by kernel_rfl) ?_
          repeat (go_big_quiet_step (first | (go_at_call 59; exact calm_of (FU.out _)) | (go_at_call 19; exact calm_of (rless_yes HLF.out _))))
          refine wpQuiet_nil ?_
          rintro _ ⟨u2, rfl⟩
          go_wp2_with fail
          go_ret
          exact ⟨rfl, below_then HW.out u2.below⟩
        | false =>
          obtain rfl := hr5 hlf
          have HLF := Lib.hid hlf
          clear hlf hr3 hr5
          refine wp_region_calm_at (u := u) (by kernel_rfl) (by kernel_rfl) ?_
          repeat (go_big_quiet_step (first | (go_at_call 59; exact calm_of (FU.out _)) | (go_at_call 19; exact calm_of (rless_no HLF.out _))))
          refine wpQuiet_nil ?_
          rintro _ ⟨u2, rfl⟩
          go_wp2_with fail
          go_ret
          exact ⟨rfl, below_then HW.out u2.below⟩
theorem rpbest_nil (A : Option Addr) (c : Nat) (w : World) : Calls Try.prog 57 #[.slice A 0 c] w fun e w' => e = .returned (.int .i64 (pbest [])) ∧ Below w.heap.size w w' := by
  go_enter Try.func57, Try.ntmps57
  go_wp2
  refine wp_loop_rounds 1 ?_
  rw [rounds_succ]
  go_wp2
  go_ret
  exact ⟨rfl, Below.refl _ _⟩
end Go.Proofs.Ythehhcaohhlccaa
