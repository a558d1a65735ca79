/- Several texts in one: De1, De2. -/
import Derived.WalkKit
import Derived.LoopTactic
import Derived.Outline
import Derived.Lib.Hide
import Derived.BigRegion
import Derived.Test.YtfbmlpdomfchpaaJDb
import Derived.Test.YtfbmlpdomfchpaaJPl
/- The walks of package decide: best, the closure, further, Announces. -/
namespace Go.Proofs.Ytfbmlpdomfchpaa
open Go.RowKit
set_option linter.unusedVariables false
set_option linter.unusedSimpArgs false

/-- What a port has heard lies at a place of a block. -/
def PBAt (w : World) (b o : Nat) (p : PB) : Prop := w.cell? ⟨b, o, none⟩ = some (.bool p.has) ∧ DSAt w b (o + 1) p.set
theorem PBAt.below {w w1 : World} {b o : Nat} {p : PB} (h : PBAt w b o p) (hb : Below w.heap.size w w1) : PBAt w1 b o p := ⟨cell_below hb h.1, h.2.below hb⟩
def PBRow (w : World) (b off : Nat) (l : List PB) : Prop := ∀ i, i < l.length → PBAt w b (off + i * 12) (l.getD i .zero)
theorem PBRow.below {w w1 : World} {b off : Nat} {l : List PB} (h : PBRow w b off l) (hb : Below w.heap.size w w1) : PBRow w1 b off l := fun i hi => (h i hi).below hb

theorem PBAt.of {w : World} {g : Nat} {p : PB} {t : TypeId} (h : w.heap[g]? = some (.cells #[.bool p.has, .int .i64 p.set.p1, .int .i64 p.set.cls, .int .i64 p.set.acc, .int .i64 p.set.var, .int .i64 p.set.p2, .int .u64 p.set.gm, .int .i64 p.set.steps, .int .u64 p.set.sender, .int .i64 p.set.sport, .int .u64 p.set.recv, .int .i64 p.set.rport] t (0, 0))) : PBAt w g 0 p := by
  refine ⟨?_, ?_, ?_, ?_, ?_, ?_, ?_, ?_, ?_, ?_, ?_, ?_⟩ <;> (rw [cell_of_row w g _ _ t (0, 0) h]; rfl)
theorem PBAt.has_aft {w : World} {b o : Nat} {p : PB} (h : PBAt w b o p) : ∀ u : Aft w, u.now.cell? ⟨b, o, none⟩ = some (.bool p.has) := fun u => u.cell h.1

theorem pbest_any (l : List PB) (b off c : Nat) (w : World) (hl : l.length ≤ 1000) (hr : PBRow w b off l) : Calls Try.prog 56 #[.slice (some ⟨b, off, none⟩) l.length c] w fun e w' => e = .returned (.int .i64 (pbest l)) ∧ Below w.heap.size w w' := by
  have HR := Lib.hid hr
  clear hr
  go_enter Try.func56, Try.ntmps56
  go_wp2
  go_loopw [3, 8] (fun u i wr => ∃ (k : Nat) (m : Int), k ≤ l.length ∧ i = .int .i64 k ∧ u = .int .i64 m ∧ pbTo l k = m ∧ Below w.heap.size w wr) (fun _ i _ => l.length - (intOf i).toNat)
  case atStart => exact ⟨0, -1, Nat.zero_le _, rfl, rfl, rfl, Below.refl _ _⟩
  case round =>
    obtain ⟨k, m, hk, rfl, rfl, hm, hb⟩ := hrel
    have hR := HR.out.below hb
    have hrg := pbTo_range l k
    rw [hm] at hrg
    have HB := Lib.hid hb
    have HM := Lib.hid hm
    clear hb hm
    by_cases hlt : k < l.length
    · obtain ⟨p, hp⟩ : ∃ p, l.getD k .zero = p := ⟨_, rfl⟩
      have hA := hR k hlt
      rw [hp] at hA
      obtain ⟨hh, a0, a1, a2, a3, a4, a5, a6, a7, a8, a9, a10⟩ := hA
      have HP := Lib.hid hp
      clear hp
      have HRR := Lib.hid hR
      clear hR
      cases hph : p.has with
      | false =>
        rw [hph] at hh
        have HPH := Lib.hid hph
        clear hph
        go_wp2
        generalize hW : wr.alloc _ = W
        have hbW : Below wr.heap.size wr W := by rw [← hW]; exact (Below.refl _ _).alloc (Nat.le_refl _) _
        have h0 : ∀ u : Aft W, u.now.cell? ⟨wr.heap.size, 0, none⟩ = some (.bool false) := fun u => u.cell (by rw [← hW]; exact (cell_of_row _ _ 0 _ _ (0, 0) (heap_alloc_new wr _)).trans rfl)
        have HW := Lib.hid hbW
        clear hW hbW hh a0 a1 a2 a3 a4 a5 a6 a7 a8 a9 a10
        refine wp_region_calm (by kernel_rfl) (by kernel_rfl) ?_
        repeat (go_big_quiet_step (fail))
        refine wpQuiet_nil ?_
        rintro _ ⟨u, rfl⟩
        go_wp2
        go_roundw
        case rel => exact ⟨k + 1, m, by omega, by go_num, rfl, (pbTo_not (by rw [HP.out]; exact HPH.out)).trans HM.out, below_then HB.out (below_then HW.out u.below)⟩
        case measure => simp [intOf]; omega
      | true =>
        by_cases hneg : m < 0
        · have hg : decide (m < 0) = true := by simpa using hneg
          rw [hph] at hh
          have HPH := Lib.hid hph
          clear hph
          go_wp2
          generalize hW : wr.alloc _ = W
          have hbW : Below wr.heap.size wr W := by rw [← hW]; exact (Below.refl _ _).alloc (Nat.le_refl _) _
          have h0 : ∀ u : Aft W, u.now.cell? ⟨wr.heap.size, 0, none⟩ = some (.bool true) := fun u => u.cell (by rw [← hW]; exact (cell_of_row _ _ 0 _ _ (0, 0) (heap_alloc_new wr _)).trans rfl)
          have HW := Lib.hid hbW
          clear hW hbW hh a0 a1 a2 a3 a4 a5 a6 a7 a8 a9 a10
          refine wp_region_calm (by kernel_rfl) (by kernel_rfl) ?_
          repeat (go_big_quiet_step (fail))
          refine wpQuiet_nil ?_
          rintro _ ⟨u, rfl⟩
          go_wp2
          go_roundw
          case rel => exact ⟨k + 1, k, by omega, by go_num, rfl, pbTo_first (by rw [HP.out]; exact HPH.out) (by rw [HM.out]; exact hneg), below_then HB.out (below_then HW.out u.below)⟩
          case measure => simp [intOf]; omega
        · have hg : decide (m < 0) = false := by simpa using hneg
          obtain ⟨n, rfl⟩ : ∃ n : Nat, m = n := ⟨m.toNat, by omega⟩
          have hn : n < l.length := by omega
          have hn0 : (0 : Int) ≤ (n : Int) := by omega
          have hn1 : (n : Int) < (l.length : Int) := by omega
          obtain ⟨e, he⟩ : ∃ e, l.getD n .zero = e := ⟨_, rfl⟩
          have hB := HRR.out n hn
          rw [he] at hB
          have HE := Lib.hid he
          rw [hph] at hh
          have HPH := Lib.hid hph
          clear hph he
          go_wp2
          generalize hW : wr.alloc _ = W
          have hbW : Below wr.heap.size wr W := by rw [← hW]; exact (Below.refl _ _).alloc (Nat.le_refl _) _
          have hA' : PBAt W wr.heap.size 0 p := by rw [← hW]; exact PBAt.of (by rw [HPH.out]; exact heap_alloc_new wr _)
          have hB' := hB.below hbW
          have HW := Lib.hid hbW
          clear hW hbW hB hh a0 a1 a2 a3 a4 a5 a6 a7 a8 a9 a10
          have h0 := hA'.has_aft
          rw [HPH.out] at h0
          obtain ⟨a0, a1, a2, a3, a4, a5, a6, a7, a8, a9, a10⟩ := hA'.2.aft
          obtain ⟨b0, b1, b2, b3, b4, b5, b6, b7, b8, b9, b10⟩ := hB'.2.aft
          clear hA' hB'
          refine wp_region_calm (by kernel_rfl) (by kernel_rfl) ?_
          cases hless : lessB p.set e.set with
          | true =>
            have HL := Lib.hid hless
            clear hless
            repeat (go_big_quiet_step ((go_at_call 14; exact calm_of (less_true HL.out _))))
            refine wpQuiet_nil ?_
            rintro _ ⟨u, rfl⟩
            go_wp2
            go_roundw
            case rel => exact ⟨k + 1, k, by omega, by go_num, rfl, pbTo_less (by rw [HP.out]; exact HPH.out) (by rw [HM.out, HP.out, Int.toNat_natCast, HE.out]; exact HL.out), below_then HB.out (below_then HW.out u.below)⟩
            case measure => simp [intOf]; omega
          | false =>
            have HL := Lib.hid hless
            clear hless
            repeat (go_big_quiet_step ((go_at_call 14; exact calm_of (less_false HL.out _))))
            refine wpQuiet_nil ?_
            rintro _ ⟨u, rfl⟩
            go_wp2
            go_roundw
            case rel => exact ⟨k + 1, n, by omega, by go_num, rfl, (pbTo_stay (by rw [HM.out]; omega) (by rw [HM.out, HP.out, Int.toNat_natCast, HE.out]; exact HL.out)).trans HM.out, below_then HB.out (below_then HW.out u.below)⟩
            case measure => simp [intOf]; omega
    · obtain rfl : k = l.length := by omega
      have HRR := Lib.hid hR
      clear hR
      go_wp2
      go_ret
      exact ⟨ret_int HM.out.symm, HB.out⟩
theorem pbest_nil (A : Option Addr) (c : Nat) (w : World) : Calls Try.prog 56 #[.slice A 0 c] w fun e w' => e = .returned (.int .i64 (-1)) ∧ Below w.heap.size w w' := by
  go_enter Try.func56, Try.ntmps56
  go_wp2
  refine wp_loop_rounds 1 ?_
  rw [rounds_succ]
  go_wp2
  go_ret
  exact ⟨rfl, Below.refl _ _⟩
theorem isbest_any (i at_ : Int) (g : Nat) (w : World) (hc : w.cell? ⟨g, 0, none⟩ = some (.int .i64 at_)) : Calls Try.prog 57 #[.int .i64 i, .pointer (some ⟨g, 0, none⟩)] w fun e w' => e = .returned (.bool (i == at_)) ∧ w = w' := by
  go_enter Try.func57, Try.ntmps57
  go_wp2
  go_ret
  exact ⟨rfl, rfl⟩
end Go.Proofs.Ytfbmlpdomfchpaa
/- The walks of further (both) and Announces (both). -/
namespace Go.Proofs.Ytfbmlpdomfchpaa
open Go.RowKit
set_option linter.unusedVariables false
set_option linter.unusedSimpArgs false

set_option maxHeartbeats 400000 in
theorem further_any (d own e : DS) (port : Int) (hd : -9223372036854775808 ≤ d.steps) (w : World) : Calls Try.prog 58 #[d.v, own.v, e.v, .int .i64 port] w fun e' w' => e' = .returned (furtherF d own e port).v ∧ Below w.heap.size w w' := by
  by_cases h : d.steps < 4611686018427387904
  · have e1 : furtherF d own e port = ⟨d.p1, d.cls, d.acc, d.var, d.p2, d.gm, d.steps + 1, own.sender, port, e.recv, port⟩ := by simp [furtherF, h]
    rw [e1]
    clear e1
    go_enter Try.func58, Try.ntmps58
    go_wp2
    go_region
    all_goals go_wp2
    all_goals refine bodyPost_ret (v := DS.v ⟨d.p1, d.cls, d.acc, d.var, d.p2, d.gm, d.steps + 1, own.sender, port, e.recv, port⟩) (by simp [results, Try.results58, go_sem]) rfl ⟨rfl, ?_⟩
    all_goals exact (((((Below.refl _ _).alloc (Nat.le_refl _) _).alloc (by simp) _).alloc (by simp; omega) _).alloc (by simp; omega) _).drew
  · have e1 : furtherF d own e port = ⟨d.p1, d.cls, d.acc, d.var, d.p2, d.gm, d.steps, own.sender, port, e.recv, port⟩ := by simp [furtherF, h]
    rw [e1]
    clear e1
    go_enter Try.func58, Try.ntmps58
    go_wp2
    go_region
    all_goals go_wp2
    all_goals refine bodyPost_ret (v := DS.v ⟨d.p1, d.cls, d.acc, d.var, d.p2, d.gm, d.steps, own.sender, port, e.recv, port⟩) (by simp [results, Try.results58, go_sem]) rfl ⟨rfl, ?_⟩
    all_goals exact (((((Below.refl _ _).alloc (Nat.le_refl _) _).alloc (by simp) _).alloc (by simp; omega) _).alloc (by simp; omega) _).drew
def annB (c : Int) : Bool := decide (c = 1 ∨ c = 2 ∨ c = 3)
end Go.Proofs.Ytfbmlpdomfchpaa
