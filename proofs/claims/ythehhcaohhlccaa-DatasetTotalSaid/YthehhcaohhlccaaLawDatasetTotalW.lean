/- The walk of DatasetTotal. -/
import Derived.WalkKit
import Derived.LoopTactic
import Derived.Outline
import Derived.Lib.Hide
import Derived.Test.YthehhcaohhlccaaDs10
import Derived.Test.YthehhcaohhlccaaDsPlain2
namespace Go.Proofs.Ythehhcaohhlccaa
open Go.RowKit
set_option linter.unusedVariables false
set_option linter.unusedSimpArgs false

/-- slices.Index at the first place where an element is. -/
theorem index_at (l : List DS) (x : DS) (b c : Nat) (m : Nat) (hm : m < l.length) (hx : l.getD m .zero = x) (hbefore : ∀ j, j < m → l.getD j .zero ≠ x) (hl : l.length ≤ 1000) (w : World) (hr : DSRow w b 0 l) :
    Calls Try.prog 22 #[.slice (some ⟨b, 0, none⟩) l.length c, x.v] w fun e w' => e = .returned (.int .i64 m) ∧ Below w.heap.size w w' := by
  have HR := Lib.hid hr
  have HX := Lib.hid hx
  have HF := Lib.hid hbefore
  clear hr hx hbefore
  go_enter Try.func22, Try.ntmps22
  go_wp2
  go_loopw [8] (fun i wr => ∃ k : Nat, k ≤ m ∧ i = .int .i64 k ∧ Below w.heap.size w wr ∧ BoxAt wr w.heap.size x ∧ DSRow wr b 0 l) (fun i _ => l.length - (intOf i).toNat)
  case atStart => exact ⟨0, Nat.zero_le _, rfl, (Below.refl _ _).alloc (Nat.le_refl _) _, BoxAt.of (heap_alloc_new w _), HR.out.below ((Below.refl _ _).alloc (Nat.le_refl _) _)⟩
  case round =>
    obtain ⟨k, hk, rfl, hb, hB, hR⟩ := hrel
    have HB := Lib.hid hb
    have HBX := Lib.hid hB
    have HRR := Lib.hid hR
    have hlt : k < l.length := by omega
    have hk0 : (0 : Int) ≤ (k : Int) := by omega
    have hk1 : (k : Int) < (l.length : Int) := by omega
    obtain ⟨y, hy⟩ : ∃ y, l.getD k .zero = y := ⟨_, rfl⟩
    have hY := hR k hlt
    rw [hy] at hY
    simp only [Nat.zero_add] at hY
    have HY := Lib.hid hy
    obtain ⟨a0, a1, a2, a3, a4, a5, a6, a7, a8, a9, a10⟩ := hB
    obtain ⟨b0, b1, b2, b3, b4, b5, b6, b7, b8, b9, b10⟩ := hY
    have he := eql_ds x y
    clear hb hR hy
    by_cases hkm : k = m
    · have hd : decide (x = y) = true := by
        have h1 := HY.out; rw [hkm, HX.out] at h1; simp [h1]
      have HKM := Lib.hid hkm
      clear hkm
      go_wp2
      go_quiet (fail)
      go_wp2
      go_ret
      exact ⟨ret_int (by rw [HKM.out]), below_drewN HB.out _⟩
    · have hd : decide (x = y) = false := by
        have h1 := HF.out k (by omega)
        rw [HY.out] at h1
        simp only [decide_eq_false_iff_not]
        exact fun e => h1 e.symm
      have hkm2 : k < m := by omega
      clear hkm
      go_wp2
      go_quiet (fail)
      go_wp2
      go_roundw
      case rel => exact ⟨k + 1, by omega, by go_num, below_drewN HB.out _, HBX.out, HRR.out⟩
      case measure => simp [intOf]; omega
abbrev lessC (x y : DS) (t : Bool) : Prop := ∀ w, Calls Try.prog 18 #[x.v, y.v] w fun e w' => e = .returned (.bool t) ∧ Below w.heap.size w w'
theorem lessC_of {x y : DS} {t : Bool} (h : lessB x y = t) : lessC x y t := fun w => by
  have := less_any x y w; rwa [h] at this
set_option maxHeartbeats 4000000 in
theorem DatasetTotal_walk (a b c : DS) (w : World) : Calls Try.prog 7 #[a.v, b.v, c.v] w fun e w' => e = .returned (.bool true) ∧ Below w.heap.size w w' := by
  obtain ⟨ab, hab⟩ : ∃ t, lessB a b = t := ⟨_, rfl⟩
  obtain ⟨ba, hba⟩ : ∃ t, lessB b a = t := ⟨_, rfl⟩
  obtain ⟨bc, hbc⟩ : ∃ t, lessB b c = t := ⟨_, rfl⟩
  obtain ⟨ac, hac⟩ : ∃ t, lessB a c = t := ⟨_, rfl⟩
  obtain ⟨eq, heq⟩ : ∃ t, decide (a = b) = t := ⟨_, rfl⟩
  have hcase : (ab = true ∧ ba = false ∧ eq = false ∧ bc = true ∧ ac = true) ∨ (ab = true ∧ ba = false ∧ eq = false ∧ bc = false) ∨ (ab = false ∧ ba = true ∧ eq = false) ∨ (ab = false ∧ ba = false ∧ eq = true) := by
    by_cases e : a = b
    · subst e
      rw [less_irrefl] at hab hba
      exact .inr (.inr (.inr ⟨hab.symm, hba.symm, by rw [← heq]; simp⟩))
    · have h1 : eq = false := by rw [← heq]; simpa using e
      rcases less_total e with h | h
      · have h2 := less_asymm h
        cases bc with
        | true => exact .inl ⟨by rw [← hab]; exact h, by rw [← hba]; exact h2, h1, rfl, by rw [← hac]; exact less_trans h hbc⟩
        | false => exact .inr (.inl ⟨by rw [← hab]; exact h, by rw [← hba]; exact h2, h1, rfl⟩)
      · exact .inr (.inr (.inl ⟨by rw [← hab]; exact less_asymm h, by rw [← hba]; exact h, h1⟩))
  have hm : ∃ m : Nat, bestF [a, b, c] = m ∧ m < 3 := by
    have := bestTo_range [a, b, c] 3
    have e : bestF [a, b, c] = bestTo [a, b, c] 3 := rfl
    rw [e]
    exact ⟨(bestTo [a, b, c] 3).toNat, by omega, by omega⟩
  obtain ⟨m, hm, hm3⟩ := hm
  have hm' : bestTo [a, b, c] 3 = m := hm
  obtain ⟨y, hy⟩ : ∃ y, [a, b, c].getD m .zero = y := ⟨_, rfl⟩
  have hle := bestTo_le [a, b, c] 3 (by simp)
  have hfirst := bestTo_first [a, b, c] 3 (by simp)
  rw [hm', Int.toNat_natCast, hy] at hle hfirst
  have CAA := Lib.hid (lessC_of (less_irrefl a))
  have CAB := Lib.hid (lessC_of hab)
  have CBA := Lib.hid (lessC_of hba)
  have CBC := Lib.hid (lessC_of hbc)
  have CAC := Lib.hid (lessC_of hac)
  have CAY := Lib.hid (lessC_of (show lessB a y = false from hle 0 (by omega)))
  have CBY := Lib.hid (lessC_of (show lessB b y = false from hle 1 (by omega)))
  have CCY := Lib.hid (lessC_of (show lessB c y = false from hle 2 (by omega)))
  have hidx : ∀ (g cp : Nat) (w : World), DSRow w g 0 [a, b, c] → Calls Try.prog 22 #[.slice (some ⟨g, 0, none⟩) 3 cp, y.v] w fun e w' => e = .returned (.int .i64 m) ∧ Below w.heap.size w w' := fun g cp w hr => index_at [a, b, c] y g cp m hm3 hy (fun j hj e => by
    have h1 := hfirst j (by omega)
    rw [e, less_irrefl] at h1; cases h1) (by simp) w hr
  have CI := Lib.hid hidx
  have hbst : ∀ (g cp : Nat) (w : World), DSRow w g 0 [a, b, c] → Calls Try.prog 20 #[.slice (some ⟨g, 0, none⟩) 3 cp] w fun e w' => e = .returned (.int .i64 m) ∧ Below w.heap.size w w' := fun g cp w hr => by
    have := best_any [a, b, c] g 0 cp w (by simp) hr; rwa [hm] at this
  have CB := Lib.hid hbst
  have HYL := Lib.hid hy
  have HE := Lib.hid heq
  clear hab hba hbc hac heq hm hm' hy hle hfirst hidx hbst
  have hn := neq_ds a b
  go_enter Try.func7, Try.ntmps7
  go_wp2_with fail
  generalize hW : ((w.alloc _).alloc _).alloc _ = W
  have hw : Below w.heap.size w W := by rw [← hW]; exact (((Below.refl _ _).alloc (Nat.le_refl _) _).alloc (by simp) _).alloc (by simp; omega) _
  have kA : BoxAt W w.heap.size a := by rw [← hW]; exact BoxAt.of (heap_alloc_old (heap_alloc_old (heap_alloc_new w _) _) _)
  have kB : BoxAt W (w.heap.size + 1) b := by rw [← hW]; exact BoxAt.of (heap_alloc_old (heap_at (by simp)) _)
  have kC : BoxAt W (w.heap.size + 1 + 1) c := by rw [← hW]; exact BoxAt.of (heap_at (by simp))
  have HW := Lib.hid hw
  clear hW hw
  obtain ⟨a0, a1, a2, a3, a4, a5, a6, a7, a8, a9, a10⟩ := kA.aft
  obtain ⟨b0, b1, b2, b3, b4, b5, b6, b7, b8, b9, b10⟩ := kB.aft
  obtain ⟨c0, c1, c2, c3, c4, c5, c6, c7, c8, c9, c10⟩ := kC.aft
  refine wp_region_calm (by kernel_rfl) (by kernel_rfl) ?_
  rcases hcase with ⟨rfl, rfl, rfl, rfl, rfl⟩ | ⟨rfl, rfl, rfl, rfl⟩ | ⟨rfl, rfl, rfl⟩ | ⟨rfl, rfl, rfl⟩
  all_goals have hd := HE.out
  all_goals repeat (go_big_quiet_step (first | (go_at_call 18; with_reducible exact calm_of (CAA.out _)) | (go_at_call 18; with_reducible exact calm_of (CAB.out _)) | (go_at_call 18; with_reducible exact calm_of (CBA.out _))))
  all_goals refine wpQuiet_nil ?_
  all_goals rintro _ ⟨u, rfl⟩
  all_goals clear hd hn
  all_goals go_wp2_with (first | (go_at_call 18; (with_reducible refine (calm_of (CAB.out _)).mono ?_); rintro e _ ⟨rfl, u1, rfl⟩) | (go_at_call 18; (with_reducible refine (calm_of (CBC.out _)).mono ?_); rintro e _ ⟨rfl, u1, rfl⟩) | (go_at_call 18; (with_reducible refine (calm_of (CAC.out _)).mono ?_); rintro e _ ⟨rfl, u1, rfl⟩))
  all_goals clear a0 a1 a2 a3 a4 a5 a6 a7 a8 a9 a10 b0 b1 b2 b3 b4 b5 b6 b7 b8 b9 b10 c0 c1 c2 c3 c4 c5 c6 c7 c8 c9 c10
  all_goals (generalize hV : World.alloc _ _ = V)
  all_goals (rename Aft W => u)
  all_goals have hbV : Below W.heap.size W V := by rw [← hV]; exact below_then u.below ((Below.refl _ _).alloc (Nat.le_refl _) _)
  all_goals have kR : DSRow V u.now.heap.size 0 [a, b, c] := by rw [← hV]; exact DSRow.of (heap_alloc_new _ _) _ rfl
  all_goals have kA := kA.below hbV
  all_goals have kB := kB.below hbV
  all_goals have kC := kC.below hbV
  all_goals have HV := Lib.hid (below_then HW.out hbV)
  all_goals clear hV hbV HW
  all_goals generalize u.now.heap.size = g at *
  all_goals refine (calm_next (w := V) (Below.refl _ _) (CB.out _ _ _ kR)).mono ?_
  all_goals rintro e _ ⟨rfl, u2, rfl⟩
  all_goals have kY : DSAt V g (m * 11) y := by have := kR m (by simpa using hm3); rwa [HYL.out, Nat.zero_add] at this
  all_goals obtain ⟨y0, y1, y2, y3, y4, y5, y6, y7, y8, y9, y10⟩ := kY.aft
  all_goals have hm0 : (0 : Int) ≤ (m : Int) := by omega
  all_goals have hm4 : (m : Int) < 3 := by omega
  all_goals have e2 : decide ((2 : Int) < (m : Int)) = false := by simp; omega
  all_goals have en : decide ((m : Int) < 0) = false := by simp
  all_goals go_wp2_with fail
  all_goals refine (calm_of (CI.out _ _ _ (kR.below u2.below))).mono ?_
  all_goals rintro e _ ⟨rfl, u3, rfl⟩
  all_goals go_wp2_with fail
  all_goals obtain ⟨a0, a1, a2, a3, a4, a5, a6, a7, a8, a9, a10⟩ := kA.aft
  all_goals obtain ⟨b0, b1, b2, b3, b4, b5, b6, b7, b8, b9, b10⟩ := kB.aft
  all_goals obtain ⟨c0, c1, c2, c3, c4, c5, c6, c7, c8, c9, c10⟩ := kC.aft
  all_goals refine wp_region_calm_at (by kernel_rfl) (by kernel_rfl) ?_
  all_goals repeat (go_big_quiet_step (first | (go_at_call 18; with_reducible exact calm_of (CAY.out _)) | (go_at_call 18; with_reducible exact calm_of (CBY.out _)) | (go_at_call 18; with_reducible exact calm_of (CCY.out _)) | (go_at_call 17; exact calm_of (awake34 _))))
  all_goals refine wpQuiet_nil ?_
  all_goals rintro _ ⟨u4, rfl⟩
  all_goals go_wp2
  all_goals go_ret
  all_goals exact ⟨rfl, below_then HV.out u4.below⟩
end Go.Proofs.Ythehhcaohhlccaa
