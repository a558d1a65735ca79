/- The walk of DecideMasters. -/
import Derived.WalkKit
import Derived.LoopTactic
import Derived.Outline
import Derived.Lib.Hide
import Derived.WalkSpells
import Derived.WalkLawsBesides
import Derived.Test.YthehhcaohhlccaaDe10
namespace Go.Proofs.Ythehhcaohhlccaa
open Go.RowKit
set_option linter.unusedVariables false
set_option linter.unusedSimpArgs false

set_option maxRecDepth 100000 in
set_option maxHeartbeats 2000000 in
theorem DecideMasters_walk0 (own m : DS) {A : Option Addr} {n cap : Nat} (c : Int) (w : World) (hn : n ≤ 20) (hmo : n ≤ cap) (hcp : cap ≤ 9223372036854775807)
    (h1 : ∀ u, Below w.heap.size w u → Calls Try.prog 28 #[own.v, .slice A n cap] u fun e w' => e = .returned m.v ∧ Below u.heap.size u w')
    (h2 : ∀ u, Below w.heap.size w u → Calls Try.prog 34 #[own.v, .slice A n cap] u fun e w' => e = .returned m.v ∧ Below u.heap.size u w') :
    Calls Try.prog 11 #[own.v, .slice A n cap, .int .i64 c] w fun e w' => e = .returned (.bool true) ∧ Below w.heap.size w w' := by
  have H1 := Lib.hid h1
  have H2 := Lib.hid h2
  clear h1 h2
  have hg : decide (20 < (n : Int)) = false := by simp; omega
  have ee := eql_ds m m
  have dd : decide (m = m) = true := by simp
  cases han : annB c
  all_goals have A1 := Lib.hid (fun w => by have := ann_any c w; rwa [han] at this)
  all_goals have A2 := Lib.hid (fun w => by have := rann_any c w; rwa [han] at this)
  all_goals clear han
  all_goals go_enter Try.func11, Try.ntmps11
  all_goals go_wp2_with fail
  all_goals (generalize hW : w.alloc _ = W)
  all_goals have hw : Below w.heap.size w W := by rw [← hW]; exact (Below.refl _ _).alloc (Nat.le_refl _) _
  all_goals have kO : BoxAt W w.heap.size own := by rw [← hW]; exact BoxAt.of (heap_alloc_new w _)
  all_goals have HW := Lib.hid hw
  all_goals obtain ⟨o0, o1, o2, o3, o4, o5, o6, o7, o8, o9, o10⟩ := kO.aft
  all_goals clear hW hw kO
  all_goals refine wp_region_calm (by kernel_rfl) (by kernel_rfl) ?_
  all_goals repeat (go_big_quiet_step (first | (go_at_call 28; exact calm_of (H1.out _ (below_then HW.out (Aft.below _)))) | (go_at_call 34; exact calm_of (H2.out _ (below_then HW.out (Aft.below _)))) | (go_at_call 31; with_reducible exact calm_same (A1.out _)) | (go_at_call 35; with_reducible exact calm_same (A2.out _)) | (go_at_call 36; with_reducible exact calm_of (awake36 _))))
  all_goals refine wpQuiet_nil ?_
  all_goals rintro _ ⟨u, rfl⟩
  all_goals go_wp2
  all_goals go_ret
  all_goals exact ⟨rfl, below_then HW.out u.below⟩
theorem DecideMasters_walk (own : DS) {A : Option Addr} {n cap : Nat} {l : List PB} (c : Int) (w : World) (ok : PBArg w A n cap l) :
    Calls Try.prog 11 #[own.v, .slice A n cap, .int .i64 c] w fun e w' => e = .returned (.bool true) ∧ Below w.heap.size w w' := by
  by_cases h20 : 20 < n
  · have hg : decide (20 < (n : Int)) = true := by simp; omega
    have hmo := ok.most
    have hcp := ok.le
    go_enter Try.func11, Try.ntmps11
    go_wp2_with fail
    generalize hW : w.alloc _ = W
    have HW := Lib.hid (show Below w.heap.size w W by rw [← hW]; exact (Below.refl _ _).alloc (Nat.le_refl _) _)
    clear hW
    refine wp_region_calm (by kernel_rfl) (by kernel_rfl) ?_
    repeat (go_big_quiet_step (fail))
    refine wpQuiet_nil ?_
    rintro _ ⟨u, rfl⟩
    go_wp2
    go_ret
    exact ⟨rfl, below_then HW.out u.below⟩
  · by_cases h8 : 8 < n
    · exact DecideMasters_walk0 own .zero c w (by omega) ok.le ok.most (fun u _ => master_long own h8 u) (fun u _ => rmaster_long own h8 u)
    · exact DecideMasters_walk0 own (masterF own l) c w (by omega) ok.le ok.most (fun u hb => master_any own (ok.below hb) (by omega)) (fun u hb => rmaster_any own (ok.below hb) (by omega))
end Go.Proofs.Ythehhcaohhlccaa
