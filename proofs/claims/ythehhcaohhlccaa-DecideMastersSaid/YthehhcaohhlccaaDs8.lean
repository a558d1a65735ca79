/- The walks of the reference of layer 34: Best. -/
import Derived.WalkKit
import Derived.LoopTactic
import Derived.Outline
import Derived.Lib.Hide
import Derived.Deep.QuietTactic
import Derived.BigQuiet
import Derived.StillTailTactics
import Derived.Test.YthehhcaohhlccaaDs7
namespace Go.Proofs.Ythehhcaohhlccaa
open Go.RowKit
set_option linter.unusedVariables false
set_option linter.unusedSimpArgs false

theorem rless_true {a b : DS} (h : lessB a b = true) (w : World) : Calls Try.prog 19 #[a.v, b.v] w fun e w' => e = .returned (.bool true) ∧ Below w.heap.size w w' := by
  have := rless_any a b w; rwa [h] at this
theorem rless_false {a b : DS} (h : lessB a b = false) (w : World) : Calls Try.prog 19 #[a.v, b.v] w fun e w' => e = .returned (.bool false) ∧ Below w.heap.size w w' := by
  have := rless_any a b w; rwa [h] at this

theorem rbest_any (l : List DS) (b off c : Nat) (w : World) (hl : l.length ≤ 1000) (hr : DSRow w b off l) : Calls Try.prog 21 #[.slice (some ⟨b, off, none⟩) l.length c] w fun e w' => e = .returned (.int .i64 (bestF l)) ∧ Below w.heap.size w w' := by
  have HR := Lib.hid hr
  clear hr
  go_enter Try.func21, Try.ntmps21
  go_wp2
  go_loopw [3, 4] (fun u i wr => ∃ (k : Nat) (m : Int), k ≤ l.length ∧ i = .int .i64 k ∧ u = .int .i64 m ∧ bestTo l k = m ∧ Below w.heap.size w wr) (fun _ i _ => l.length - (intOf i).toNat)
  case atStart => exact ⟨0, -1, Nat.zero_le _, rfl, rfl, rfl, Below.refl _ _⟩
  case round =>
    obtain ⟨k, m, hk, rfl, rfl, hm, hb⟩ := hrel
    have hR := HR.out.below hb
    have hrg := bestTo_range l k
    rw [hm] at hrg
    have HB := Lib.hid hb
    have HM := Lib.hid hm
    clear hb hm
    by_cases hlt : k < l.length
    · obtain ⟨d, hd⟩ : ∃ d, l.getD k .zero = d := ⟨_, rfl⟩
      have hA := hR k hlt
      rw [hd] at hA
      have HD := Lib.hid hd
      clear hd
      by_cases hneg : m < 0
      · have hg : decide (m < 0) = true := by simpa using hneg
        have HRR := Lib.hid hR
        clear hR
        go_wp2
        go_quiet (fail)
        go_wp2
        go_roundw
        case rel => exact ⟨k + 1, k, by omega, by go_num, rfl, bestTo_neg (by rw [HM.out]; exact hneg), below_drewN HB.out _⟩
        case measure => simp [intOf]; omega
      · have hg : decide (m < 0) = false := by simpa using hneg
        obtain ⟨n, rfl⟩ : ∃ n : Nat, m = n := ⟨m.toNat, by omega⟩
        have hn : n < l.length := by omega
        have hn0 : (0 : Int) ≤ (n : Int) := by omega
        have hn1 : (n : Int) < (l.length : Int) := by omega
        obtain ⟨e, he⟩ : ∃ e, l.getD n .zero = e := ⟨_, rfl⟩
        have hB := hR n hn
        rw [he] at hB
        have HE := Lib.hid he
        have HRR := Lib.hid hR
        clear hR he
        go_wp2
        have hk0 : (0 : Int) ≤ (k : Int) := by omega
        have hk1 : (k : Int) < (l.length : Int) := by omega
        obtain ⟨a0, a1, a2, a3, a4, a5, a6, a7, a8, a9, a10⟩ := DSAt.aft hA
        obtain ⟨b0, b1, b2, b3, b4, b5, b6, b7, b8, b9, b10⟩ := DSAt.aft hB
        cases hless : lessB d e with
        | true =>
          have HL := Lib.hid hless
          clear hless
          refine wp_region_calm (by kernel_rfl) (by kernel_rfl) ?_
          repeat (go_big_quiet_step ((go_at_call 19; exact calm_of (rless_true HL.out _))))
          refine wpQuiet_nil ?_
          rintro _ ⟨u, rfl⟩
          go_wp2
          go_roundw
          case rel => exact ⟨k + 1, k, by omega, by go_num, rfl, bestTo_less (by rw [HM.out, HD.out, Int.toNat_natCast, HE.out]; exact HL.out), below_then HB.out u.below⟩
          case measure => simp [intOf]; omega
        | false =>
          have HL := Lib.hid hless
          clear hless
          refine wp_region_calm (by kernel_rfl) (by kernel_rfl) ?_
          repeat (go_big_quiet_step ((go_at_call 19; exact calm_of (rless_false HL.out _))))
          refine wpQuiet_nil ?_
          rintro _ ⟨u, rfl⟩
          go_wp2
          go_roundw
          case rel => exact ⟨k + 1, n, by omega, by go_num, rfl, (bestTo_stay (by rw [HM.out]; omega) (by rw [HM.out, HD.out, Int.toNat_natCast, HE.out]; exact HL.out)).trans HM.out, below_then HB.out u.below⟩
          case measure => simp [intOf]; omega
    · obtain rfl : k = l.length := by omega
      have HRR := Lib.hid hR
      clear hR
      go_wp2
      go_ret
      exact ⟨ret_int HM.out.symm, HB.out⟩
theorem rbest_nil (A : Option Addr) (c : Nat) (w : World) : Calls Try.prog 21 #[.slice A 0 c] w fun e w' => e = .returned (.int .i64 (-1)) ∧ Below w.heap.size w w' := by
  go_enter Try.func21, Try.ntmps21
  go_wp2
  refine wp_loop_rounds 1 ?_
  rw [rounds_succ]
  go_wp2
  go_ret
  exact ⟨rfl, Below.refl _ _⟩
end Go.Proofs.Ythehhcaohhlccaa
