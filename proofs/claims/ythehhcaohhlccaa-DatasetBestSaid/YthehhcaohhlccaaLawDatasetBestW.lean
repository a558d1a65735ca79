/- The walk of DatasetBest. -/
import Derived.WalkKit
import Derived.LoopTactic
import Derived.Outline
import Derived.Lib.Hide
import Derived.WalkSpells
import Derived.WalkLawsBesides
import Derived.Test.YthehhcaohhlccaaDs10
import Derived.Test.YthehhcaohhlccaaDsArg
import Derived.Test.YthehhcaohhlccaaDsPlain2
namespace Go.Proofs.Ythehhcaohhlccaa
open Go.RowKit
set_option linter.unusedVariables false
set_option linter.unusedSimpArgs false

abbrev bestC (f : FuncId) (w0 : World) (A : Option Addr) (n cap : Nat) (m : Int) : Prop := ∀ u : Aft w0, Calls Try.prog f #[.slice A n cap] u.now fun e w' => e = .returned (.int .i64 m) ∧ Below u.now.heap.size u.now w'
set_option maxHeartbeats 800000 in
theorem DatasetBest_walk0 (a b : DS) (A : Option Addr) (n cap : Nat) (m : Int) (hA : A = none → n = 0 ∧ cap = 0) (hc : n ≤ cap) (hm : cap ≤ 9223372036854775807) (w : World)
    (c1 : n ≤ 200 → bestC 20 w A n cap m) (c2 : n ≤ 200 → bestC 21 w A n cap m) (d1 : 200 ≤ n → bestC 20 w A 200 cap m) (d2 : 200 ≤ n → bestC 21 w A 200 cap m) :
    Calls Try.prog 4 #[.slice A n cap, a.v, b.v] w fun e w' => e = .returned (.bool true) ∧ Below w.heap.size w w' := by
  obtain ⟨t, ht⟩ : ∃ t, lessB a b = t := ⟨_, rfl⟩
  have CL := Lib.hid (show ∀ w, Calls Try.prog 18 #[a.v, b.v] w fun e w' => e = .returned (.bool t) ∧ Below w.heap.size w w' from fun w => by have := less_any a b w; rwa [ht] at this)
  have CR := Lib.hid (show ∀ w, Calls Try.prog 19 #[a.v, b.v] w fun e w' => e = .returned (.bool t) ∧ Below w.heap.size w w' from fun w => by have := rless_any a b w; rwa [ht] at this)
  have C1 := Lib.hid c1
  have C2 := Lib.hid c2
  have D1 := Lib.hid d1
  have D2 := Lib.hid d2
  clear ht c1 c2 d1 d2
  cases A with
  | none =>
    obtain ⟨rfl, rfl⟩ := hA rfl
    clear hA
    go_enter Try.func4, Try.ntmps4
    go_wp2_with fail
    all_goals (generalize hW : (w.alloc _).alloc _ = W)
    all_goals have hw : Below w.heap.size w W := by rw [← hW]; exact ((Below.refl _ _).alloc (Nat.le_refl _) _).alloc (by simp) _
    all_goals have kA : BoxAt W w.heap.size a := by rw [← hW]; exact BoxAt.of (heap_alloc_old (heap_alloc_new w _) _)
    all_goals have kB : BoxAt W (w.heap.size + 1) b := by rw [← hW]; exact BoxAt.of (heap_at (by simp))
    all_goals have HW := Lib.hid hw
    all_goals clear hW hw
    all_goals obtain ⟨a0, a1, a2, a3, a4, a5, a6, a7, a8, a9, a10⟩ := kA.aft
    all_goals obtain ⟨b0, b1, b2, b3, b4, b5, b6, b7, b8, b9, b10⟩ := kB.aft
    all_goals refine wp_region_calm (by kernel_rfl) (by kernel_rfl) ?_
    all_goals repeat (go_big_quiet_step (first | (go_at_call 18; exact calm_of (CL.out _)) | (go_at_call 19; exact calm_of (CR.out _)) | (go_at_call 20; exact calm_of (best_nil _ _ _)) | (go_at_call 21; exact calm_of (rbest_nil _ _ _)) | (go_at_call 17; exact calm_of (awake34 _))))
    all_goals refine wpQuiet_nil ?_
    all_goals rintro _ ⟨u, rfl⟩
    all_goals go_wp2
    all_goals go_ret
    all_goals exact ⟨rfl, below_then HW.out u.below⟩
  | some x =>
    clear hA
    by_cases hn : n ≤ 200
    · have c1 := C1.out hn
      have c2 := C2.out hn
      have hn' : ((n : Nat) : Int) ≤ 200 := by omega
      have K1 := Lib.hid c1
      have K2 := Lib.hid c2
      clear c1 c2
      go_enter Try.func4, Try.ntmps4
      go_wp2_with fail
      generalize hW : (w.alloc _).alloc _ = W
      have hw : Below w.heap.size w W := by rw [← hW]; exact ((Below.refl _ _).alloc (Nat.le_refl _) _).alloc (by simp) _
      have kA : BoxAt W w.heap.size a := by rw [← hW]; exact BoxAt.of (heap_alloc_old (heap_alloc_new w _) _)
      have kB : BoxAt W (w.heap.size + 1) b := by rw [← hW]; exact BoxAt.of (heap_at (by simp))
      have HW := Lib.hid hw
      clear hW hw
      obtain ⟨a0, a1, a2, a3, a4, a5, a6, a7, a8, a9, a10⟩ := kA.aft
      obtain ⟨b0, b1, b2, b3, b4, b5, b6, b7, b8, b9, b10⟩ := kB.aft
      refine wp_region_calm (by kernel_rfl) (by kernel_rfl) ?_
      repeat (go_big_quiet_step (first | (go_at_call 18; exact calm_of (CL.out _)) | (go_at_call 19; exact calm_of (CR.out _)) | (go_at_call 20; exact calm_of (K1.out ⟨_, below_then HW.out (Aft.below _)⟩)) | (go_at_call 21; exact calm_of (K2.out ⟨_, below_then HW.out (Aft.below _)⟩)) | (go_at_call 17; exact calm_of (awake34 _))))
      refine wpQuiet_nil ?_
      rintro _ ⟨u, rfl⟩
      go_wp2
      go_ret
      exact ⟨rfl, below_then HW.out u.below⟩
    · have K1 := Lib.hid (D1.out (by omega))
      have K2 := Lib.hid (D2.out (by omega))
      have hn' : (200 : Int) < ((n : Nat) : Int) := by omega
      go_enter Try.func4, Try.ntmps4
      go_wp2_with fail
      generalize hW : (w.alloc _).alloc _ = W
      have hw : Below w.heap.size w W := by rw [← hW]; exact ((Below.refl _ _).alloc (Nat.le_refl _) _).alloc (by simp) _
      have kA : BoxAt W w.heap.size a := by rw [← hW]; exact BoxAt.of (heap_alloc_old (heap_alloc_new w _) _)
      have kB : BoxAt W (w.heap.size + 1) b := by rw [← hW]; exact BoxAt.of (heap_at (by simp))
      have HW := Lib.hid hw
      clear hW hw
      obtain ⟨a0, a1, a2, a3, a4, a5, a6, a7, a8, a9, a10⟩ := kA.aft
      obtain ⟨b0, b1, b2, b3, b4, b5, b6, b7, b8, b9, b10⟩ := kB.aft
      refine wp_region_calm (by kernel_rfl) (by kernel_rfl) ?_
      repeat (go_big_quiet_step (first | (go_at_call 18; exact calm_of (CL.out _)) | (go_at_call 19; exact calm_of (CR.out _)) | (go_at_call 20; exact calm_of (K1.out ⟨_, below_then HW.out (Aft.below _)⟩)) | (go_at_call 21; exact calm_of (K2.out ⟨_, below_then HW.out (Aft.below _)⟩)) | (go_at_call 17; exact calm_of (awake34 _))))
      refine wpQuiet_nil ?_
      rintro _ ⟨u, rfl⟩
      go_wp2
      go_ret
      exact ⟨rfl, below_then HW.out u.below⟩
theorem DatasetBest_walk (A : Option Addr) (n cap : Nat) (l : List DS) (a b : DS) (w : World) (ok : DSArg w A n cap l) : Calls Try.prog 4 #[.slice A n cap, a.v, b.v] w fun e w' => e = .returned (.bool true) ∧ Below w.heap.size w w' := by
  rcases Nat.eq_zero_or_pos n with h0 | h0
  · subst h0
    exact DatasetBest_walk0 a b A 0 cap (-1) ok.none_ (Nat.zero_le _) ok.most w (fun _ u => best_nil _ _ _) (fun _ u => rbest_nil _ _ _) (fun h => by omega) (fun h => by omega)
  · obtain ⟨g, off, rfl, hr⟩ := ok.at_ h0
    have hl := ok.len_eq
    by_cases hn : n ≤ 200
    · refine DatasetBest_walk0 a b _ n cap (bestF l) ok.none_ ok.le ok.most w (fun _ u => ?_) (fun _ u => ?_) (fun h u => ?_) (fun h u => ?_)
      · have := best_any l g off cap u.now (by omega) (hr.below u.below); rwa [hl] at this
      · have := rbest_any l g off cap u.now (by omega) (hr.below u.below); rwa [hl] at this
      · obtain rfl : n = 200 := by omega
        have := best_any l g off cap u.now (by omega) (hr.below u.below); rwa [hl] at this
      · obtain rfl : n = 200 := by omega
        have := rbest_any l g off cap u.now (by omega) (hr.below u.below); rwa [hl] at this
    · have hl2 : (l.take 200).length = 200 := by simp; omega
      refine DatasetBest_walk0 a b _ n cap (bestF (l.take 200)) ok.none_ ok.le ok.most w (fun h u => by omega) (fun h u => by omega) (fun h u => ?_) (fun h u => ?_)
      · have := best_any (l.take 200) g off cap u.now (by omega) ((hr.take 200).below u.below); rwa [hl2] at this
      · have := rbest_any (l.take 200) g off cap u.now (by omega) ((hr.take 200).below u.below); rwa [hl2] at this
end Go.Proofs.Ythehhcaohhlccaa
