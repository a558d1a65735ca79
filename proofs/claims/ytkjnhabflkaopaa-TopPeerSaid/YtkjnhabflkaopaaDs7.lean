/- The walks of package dataset: Best. -/
import Derived.WalkKit
import Derived.LoopTactic
import Derived.Outline
import Derived.Lib.Hide
import Derived.Deep.QuietTactic
import Derived.BigQuiet
import Derived.StillTailTactics
import Derived.Test.YtkjnhabflkaopaaDs6
namespace Go.Proofs.Ytkjnhabflkaopaa
open Go.RowKit
set_option linter.unusedVariables false
set_option linter.unusedSimpArgs false

/-- A data set lies at a place of a block. -/
def DSAt (w : World) (b o : Nat) (d : DS) : Prop :=
  w.cell? ⟨b, o, none⟩ = some (.int .i64 d.p1) ∧ w.cell? ⟨b, o + 1, none⟩ = some (.int .i64 d.cls) ∧ w.cell? ⟨b, o + 2, none⟩ = some (.int .i64 d.acc) ∧ w.cell? ⟨b, o + 3, none⟩ = some (.int .i64 d.var) ∧ w.cell? ⟨b, o + 4, none⟩ = some (.int .i64 d.p2) ∧ w.cell? ⟨b, o + 5, none⟩ = some (.int .u64 d.gm) ∧ w.cell? ⟨b, o + 6, none⟩ = some (.int .i64 d.steps) ∧ w.cell? ⟨b, o + 7, none⟩ = some (.int .u64 d.sender) ∧ w.cell? ⟨b, o + 8, none⟩ = some (.int .i64 d.sport) ∧ w.cell? ⟨b, o + 9, none⟩ = some (.int .u64 d.recv) ∧ w.cell? ⟨b, o + 10, none⟩ = some (.int .i64 d.rport)
theorem DSAt.below {w w1 : World} {b o : Nat} {d : DS} (h : DSAt w b o d) (hb : Below w.heap.size w w1) : DSAt w1 b o d := by
  obtain ⟨h0, h1, h2, h3, h4, h5, h6, h7, h8, h9, h10⟩ := h
  exact ⟨cell_below hb h0, cell_below hb h1, cell_below hb h2, cell_below hb h3, cell_below hb h4, cell_below hb h5, cell_below hb h6, cell_below hb h7, cell_below hb h8, cell_below hb h9, cell_below hb h10⟩
def DSRow (w : World) (b off : Nat) (l : List DS) : Prop := ∀ i, i < l.length → DSAt w b (off + i * 11) (l.getD i .zero)
theorem DSRow.below {w w1 : World} {b off : Nat} {l : List DS} (h : DSRow w b off l) (hb : Below w.heap.size w w1) : DSRow w1 b off l := fun i hi => (h i hi).below hb

theorem DSAt.aft {w : World} {b o : Nat} {d : DS} (h : DSAt w b o d) :
  (∀ u : Aft w, u.now.cell? ⟨b, o, none⟩ = some (.int .i64 d.p1)) ∧ (∀ u : Aft w, u.now.cell? ⟨b, o + 1, none⟩ = some (.int .i64 d.cls)) ∧ (∀ u : Aft w, u.now.cell? ⟨b, o + 2, none⟩ = some (.int .i64 d.acc)) ∧ (∀ u : Aft w, u.now.cell? ⟨b, o + 3, none⟩ = some (.int .i64 d.var)) ∧ (∀ u : Aft w, u.now.cell? ⟨b, o + 4, none⟩ = some (.int .i64 d.p2)) ∧ (∀ u : Aft w, u.now.cell? ⟨b, o + 5, none⟩ = some (.int .u64 d.gm)) ∧ (∀ u : Aft w, u.now.cell? ⟨b, o + 6, none⟩ = some (.int .i64 d.steps)) ∧ (∀ u : Aft w, u.now.cell? ⟨b, o + 7, none⟩ = some (.int .u64 d.sender)) ∧ (∀ u : Aft w, u.now.cell? ⟨b, o + 8, none⟩ = some (.int .i64 d.sport)) ∧ (∀ u : Aft w, u.now.cell? ⟨b, o + 9, none⟩ = some (.int .u64 d.recv)) ∧ (∀ u : Aft w, u.now.cell? ⟨b, o + 10, none⟩ = some (.int .i64 d.rport)) := by
  obtain ⟨h0, h1, h2, h3, h4, h5, h6, h7, h8, h9, h10⟩ := h
  exact ⟨fun u => u.cell h0, fun u => u.cell h1, fun u => u.cell h2, fun u => u.cell h3, fun u => u.cell h4, fun u => u.cell h5, fun u => u.cell h6, fun u => u.cell h7, fun u => u.cell h8, fun u => u.cell h9, fun u => u.cell h10⟩
theorem less_true {a b : DS} (h : lessB a b = true) (w : World) : Calls Try.prog 44 #[a.v, b.v] w fun e w' => e = .returned (.bool true) ∧ Below w.heap.size w w' := by
  have := less_any a b w; rwa [h] at this
theorem less_false {a b : DS} (h : lessB a b = false) (w : World) : Calls Try.prog 44 #[a.v, b.v] w fun e w' => e = .returned (.bool false) ∧ Below w.heap.size w w' := by
  have := less_any a b w; rwa [h] at this

theorem best_any (l : List DS) (b off c : Nat) (w : World) (hl : l.length ≤ 1000) (hr : DSRow w b off l) : Calls Try.prog 45 #[.slice (some ⟨b, off, none⟩) l.length c] w fun e w' => e = .returned (.int .i64 (bestF l)) ∧ Below w.heap.size w w' := by
  have HR := Lib.hid hr
  clear hr
  go_enter Try.func45, Try.ntmps45
  go_wp2
  go_loopw [3, 8] (fun u i wr => ∃ (k : Nat) (m : Int), k ≤ l.length ∧ i = .int .i64 k ∧ u = .int .i64 m ∧ bestTo l k = m ∧ Below w.heap.size w wr) (fun _ i _ => l.length - (intOf i).toNat)
  case atStart => exact ⟨0, -1, Nat.zero_le _, rfl, rfl, rfl, Below.refl _ _⟩
  case round =>
    obtain ⟨k, m, hk, rfl, rfl, hm, hb⟩ := hrel
    have hR := HR.out.below hb
    have hrg := bestTo_range l k
    rw [hm] at hrg
    have HB := Lib.hid hb
    have HM := Lib.hid hm
    clear hb hm
    by_cases hlt : k < l.length
    · obtain ⟨d, hd⟩ : ∃ d, l.getD k .zero = d := ⟨_, rfl⟩
      have hA := hR k hlt
      rw [hd] at hA
      obtain ⟨a0, a1, a2, a3, a4, a5, a6, a7, a8, a9, a10⟩ := hA
      have HD := Lib.hid hd
      clear hd
      by_cases hneg : m < 0
      · have hg : decide (m < 0) = true := by simpa using hneg
        have HRR := Lib.hid hR
        clear hR
        go_wp2
        go_quiet (fail)
        go_wp2
        go_roundw
        case rel => exact ⟨k + 1, k, by omega, by go_num, rfl, bestTo_neg (by rw [HM.out]; exact hneg), below_drewN (HB.out.alloc HB.out.size _) _⟩
        case measure => simp [intOf]; omega
      · have hg : decide (m < 0) = false := by simpa using hneg
        obtain ⟨n, rfl⟩ : ∃ n : Nat, m = n := ⟨m.toNat, by omega⟩
        have hn : n < l.length := by omega
        have hn0 : (0 : Int) ≤ (n : Int) := by omega
        have hn1 : (n : Int) < (l.length : Int) := by omega
        obtain ⟨e, he⟩ : ∃ e, l.getD n .zero = e := ⟨_, rfl⟩
        have hB := hR n hn
        rw [he] at hB
        have HE := Lib.hid he
        have HRR := Lib.hid hR
        clear hR he
        go_wp2
        generalize hW : wr.alloc _ = W
        have hbW : Below wr.heap.size wr W := by rw [← hW]; exact (Below.refl _ _).alloc (Nat.le_refl _) _
        have hA' : DSAt W wr.heap.size 0 d := by rw [← hW]; exact BoxAt.of (heap_alloc_new wr _)
        have hB' : DSAt W b (off + n * 11) e := hB.below hbW
        have HW := Lib.hid hbW
        clear hW hbW hB a0 a1 a2 a3 a4 a5 a6 a7 a8 a9 a10
        obtain ⟨a0, a1, a2, a3, a4, a5, a6, a7, a8, a9, a10⟩ := DSAt.aft hA'
        obtain ⟨b0, b1, b2, b3, b4, b5, b6, b7, b8, b9, b10⟩ := DSAt.aft hB'
        cases hless : lessB d e with
        | true =>
          have HL := Lib.hid hless
          clear hless
          refine wp_region_calm (by kernel_rfl) (by kernel_rfl) ?_
          repeat (go_big_quiet_step ((go_at_call 44; exact calm_of (less_true HL.out _))))
          refine wpQuiet_nil ?_
          rintro _ ⟨u, rfl⟩
          go_wp2
          go_roundw
          case rel => exact ⟨k + 1, k, by omega, by go_num, rfl, bestTo_less (by rw [HM.out, HD.out, Int.toNat_natCast, HE.out]; exact HL.out), below_then HB.out (below_then HW.out u.below)⟩
          case measure => simp [intOf]; omega
        | false =>
          have HL := Lib.hid hless
          clear hless
          refine wp_region_calm (by kernel_rfl) (by kernel_rfl) ?_
          repeat (go_big_quiet_step ((go_at_call 44; exact calm_of (less_false HL.out _))))
          refine wpQuiet_nil ?_
          rintro _ ⟨u, rfl⟩
          go_wp2
          go_roundw
          case rel => exact ⟨k + 1, n, by omega, by go_num, rfl, (bestTo_stay (by rw [HM.out]; omega) (by rw [HM.out, HD.out, Int.toNat_natCast, HE.out]; exact HL.out)).trans HM.out, below_then HB.out (below_then HW.out u.below)⟩
          case measure => simp [intOf]; omega
    · obtain rfl : k = l.length := by omega
      have HRR := Lib.hid hR
      clear hR
      go_wp2
      go_ret
      exact ⟨ret_int HM.out.symm, HB.out⟩
theorem best_nil (A : Option Addr) (c : Nat) (w : World) : Calls Try.prog 45 #[.slice A 0 c] w fun e w' => e = .returned (.int .i64 (-1)) ∧ Below w.heap.size w w' := by
  go_enter Try.func45, Try.ntmps45
  go_wp2
  refine wp_loop_rounds 1 ?_
  rw [rounds_succ]
  go_wp2
  go_ret
  exact ⟨rfl, Below.refl _ _⟩
end Go.Proofs.Ytkjnhabflkaopaa
