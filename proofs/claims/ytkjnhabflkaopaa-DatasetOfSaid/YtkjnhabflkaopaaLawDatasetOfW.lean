/- The walk of DatasetOf. -/
import Derived.WalkKit
import Derived.LoopTactic
import Derived.Outline
import Derived.Lib.Hide
import Derived.Test.YtkjnhabflkaopaaDs10
import Derived.Test.YtkjnhabflkaopaaPm6
namespace Go.Proofs.Ytkjnhabflkaopaa
open Go.RowKit
set_option linter.unusedVariables false
set_option linter.unusedSimpArgs false

theorem PtpBox.alloc {w : World} {g : Nat} {p : Ptp} (h : PtpBox w g p) (hg : g < w.heap.size) (o : Obj) : PtpBox (w.alloc o) g p := h.below hg ((Below.refl _ _).alloc (Nat.le_refl _) o)
set_option maxHeartbeats 2000000 in
theorem DatasetOf_walk (p : Ptp) (recv rport : Int) (wf : (Lit.int .i64 p.kind).wf = true) (w : World) : Calls Try.prog 4 #[p.v, .int .u64 recv, .int .i64 rport] w fun e w' => e = .returned (.bool true) ∧ Below w.heap.size w w' := by
  obtain ⟨x, hx⟩ : ∃ x, ofF p recv rport = x := ⟨_, rfl⟩
  obtain ⟨n, hn⟩ : ∃ n, ofE p = n := ⟨_, rfl⟩
  have c1 : ∀ w, Calls Try.prog 18 #[p.v, .int .u64 recv, .int .i64 rport] w fun e w' => e = .returned (.tuple #[x.v, .int .i64 n]) ∧ Below w.heap.size w w' := fun w => by
    have := of_any p wf recv rport w; rwa [hx, hn] at this
  have c2 : ∀ w, Calls Try.prog 19 #[p.v, .int .u64 recv, .int .i64 rport] w fun e w' => e = .returned (.tuple #[x.v, .int .i64 n]) ∧ Below w.heap.size w w' := fun w => by
    have := rof_any p wf recv rport w; rwa [hx, hn] at this
  have C1 := Lib.hid c1
  have C2 := Lib.hid c2
  clear wf hx hn c1 c2
  go_enter Try.func4, Try.ntmps4
  refine seq_opaque ?_
  intro T HT
  go_wp2_with fail
  generalize hW : w.alloc _ = W
  have hw : Below w.heap.size w W := by rw [← hW]; exact (Below.refl _ _).alloc (Nat.le_refl _) _
  have hp : PtpBox W w.heap.size p := by rw [← hW]; exact PtpBox.of (heap_alloc_new w _)
  have hs : w.heap.size < W.heap.size := by rw [← hW]; simp
  rw [HT.out]
  have HP := Lib.hid hp
  clear hW HT
  go_wp2_with (refine load_ptp HP.out _ rfl rfl rfl ?_)
  refine (C1.out _).mono ?_
  rintro e w1 ⟨rfl, hb1⟩
  have hs1 : w.heap.size < w1.heap.size := by have := hb1.size; omega
  have HP1 := Lib.hid (hp.below hs hb1)
  have HB1 := Lib.hid (below_then hw hb1)
  have HS1 := Lib.hid hs1
  clear hw hp hb1 hs
  go_wp2_with (refine load_ptp (HP1.out.alloc HS1.out _) _ rfl rfl rfl ?_)
  generalize hV : w1.alloc _ = V
  have hv : Below w.heap.size w V := by rw [← hV]; exact HB1.out.alloc (by omega) _
  have kX : BoxAt V w1.heap.size x := by rw [← hV]; exact BoxAt.of (heap_alloc_new _ _)
  have hs2 : w.heap.size < V.heap.size := by rw [← hV]; simp; omega
  have HV := Lib.hid hv
  clear hV hv
  generalize w1.heap.size = g1 at *
  refine (C2.out _).mono ?_
  rintro e w2 ⟨rfl, hb2⟩
  have kX2 := kX.below hb2
  have hs3 : w.heap.size < w2.heap.size := by have := hb2.size; omega
  have HB2 := Lib.hid (below_then HV.out hb2)
  have hg1 : g1 < w2.heap.size := World.block_lt_of_cell? w2 _ kX2.1
  obtain ⟨d0, d1, d2, d3, d4, d5, d6, d7, d8, d9, d10⟩ := kX2
  have he := eql_ds x x
  have hd : decide (x = x) = true := by simp
  clear kX hb2
  go_wp2_with (go_at_call 20; refine (awake34 _).mono ?_; rintro e w3 ⟨rfl, hb3⟩)
  go_ret
  refine ⟨rfl, below_then ?_ (by assumption)⟩
  exact HB2.out.alloc (by omega) _
end Go.Proofs.Ytkjnhabflkaopaa
