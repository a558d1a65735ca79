/- Several texts in one: Pm4, Pm5. -/
import Derived.WalkKit
import Derived.LoopTactic
import Derived.Outline
import Derived.Lib.Hide
import Derived.Test.YtfbmlpdomfchpaaMem
import Derived.Test.YtfbmlpdomfchpaaEq
/- ptpmsg.Check. -/
namespace Go.Proofs.Ytfbmlpdomfchpaa
open Go.RowKit
set_option linter.unusedVariables false
set_option linter.unusedSimpArgs false

theorem ann_eq_fields (a b : Ann) : decide (a = b) = (a.utc == b.utc && (a.p1 == b.p1 && (a.cls == b.cls && (a.acc == b.acc && (a.var == b.var && (a.p2 == b.p2 && (a.gm == b.gm && (a.steps == b.steps && (a.source == b.source))))))))) := by
  obtain ⟨a0, a1, a2, a3, a4, a5, a6, a7, a8⟩ := a
  obtain ⟨b0, b1, b2, b3, b4, b5, b6, b7, b8⟩ := b
  rw [Bool.eq_iff_iff]
  simp
theorem eqIn_ann (d : Nat) (w : World) (a b : Ann) : (Op.equalIn (d + 2) 40 a.v b.v).run Try.prog w = .ok (decide (a = b)) w := by
  rw [ann_eq_fields]
  refine eq_struct Try.underlying40 (by kernel_rfl) ?_
  refine eqf_more (by rfl) (by go_simp; rfl) (by go_simp; rfl) (by go_simp) ?_
  refine eqf_more (by rfl) (by go_simp; rfl) (by go_simp; rfl) (by go_simp) ?_
  refine eqf_more (by rfl) (by go_simp; rfl) (by go_simp; rfl) (by go_simp) ?_
  refine eqf_more (by rfl) (by go_simp; rfl) (by go_simp; rfl) (by go_simp) ?_
  refine eqf_more (by rfl) (by go_simp; rfl) (by go_simp; rfl) (by go_simp) ?_
  refine eqf_more (by rfl) (by go_simp; rfl) (by go_simp; rfl) (by go_simp) ?_
  refine eqf_more (by rfl) (by go_simp; rfl) (by go_simp; rfl) (by go_simp) ?_
  refine eqf_more (by rfl) (by go_simp; rfl) (by go_simp; rfl) (by go_simp) ?_
  exact eqf_one (by rfl) (by go_simp; rfl) (by go_simp; rfl) (by go_simp)
theorem neq_ann (a b : Ann) (w : World) : (binOp .neq 40 a.v b.v).run Try.prog w = .ok (.bool (!decide (a = b))) w := by
  simp only [binOp]
  simp [Op.equal, Op.maxDepth, eqIn_ann 9998 w a b]
theorem neq_ann0 (a : Ann) (w : World) : (binOp .neq 40 a.v (.agg #[.int .i64 0, .int .i64 0, .int .i64 0, .int .i64 0, .int .i64 0, .int .i64 0, .int .u64 0, .int .i64 0, .int .i64 0])).run Try.prog w = .ok (.bool (!decide (a = .zero))) w := neq_ann a .zero w
def formB (p : Ptp) : Bool := (!reqB p.kind && (p.reqClock != 0 || p.reqPort != 0)) || (p.kind != 11 && !decide (p.ann = .zero))
def checkF (p : Ptp) : Int := if sizeF p.kind = 0 then 8 else if inB p = false then 3 else if formB p = true then 7 else 0
set_option maxRecDepth 100000 in
set_option maxHeartbeats 2000000 in
theorem check_any (p : Ptp) (wf : (Lit.int .i64 p.kind).wf = true) (w : World) : Calls Try.prog 17 #[p.v] w fun e w' => e = .returned (.int .i64 (checkF p)) ∧ Below w.heap.size w w' := by
  obtain ⟨r, hr⟩ : ∃ r, checkF p = r := ⟨_, rfl⟩
  rw [hr]
  have HR := Lib.hid hr
  have SZ := Lib.hid (size_any p.kind wf)
  have ne := neq_ann0 p.ann
  clear hr wf
  go_enter Try.func17, Try.ntmps17
  go_wp2_with fail
  generalize hW : w.alloc _ = W
  have hw : Below w.heap.size w W := by rw [← hW]; exact (Below.refl _ _).alloc (Nat.le_refl _) _
  have hp : PtpBox W w.heap.size p := by rw [← hW]; exact PtpBox.of (heap_alloc_new w _)
  have hs : w.heap.size < W.heap.size := by rw [← hW]; simp
  clear hW
  refine (SZ.out W).mono ?_
  rintro e w1 ⟨rfl, hb1⟩
  have HB1 := Lib.hid (below_then hw hb1)
  have hp1 := hp.below hs hb1
  have hs1 : w.heap.size < w1.heap.size := by have := hb1.size; omega
  clear hw hp hb1
  obtain ⟨sz, hsz⟩ : ∃ sz, sizeF p.kind = sz := ⟨_, rfl⟩
  rw [hsz]
  by_cases h0 : sz = 0
  · have hr : r = 8 := by rw [← HR.out]; simp [checkF, hsz, h0]
    subst hr
    subst h0
    clear hsz hp1
    go_wp2_with fail
    go_ret
    exact ⟨rfl, HB1.out⟩
  have b0 : (sz == 0) = false := by simpa using h0
  have HSZ := Lib.hid hsz
  have HS0 := Lib.hid h0
  have HP1 := Lib.hid hp1
  have c0 : w1.cell? ⟨w.heap.size, 0, none⟩ = some (.int .i64 p.kind) := hp1 0 (by decide)
  clear hsz h0 hp1
  go_wp2_with (refine load_ptp HP1.out _ rfl rfl rfl ?_)
  refine (inRange_any p _).mono ?_
  rintro e w2 ⟨rfl, hb2⟩
  have HB2 := Lib.hid (below_then HB1.out hb2)
  have hp2 := HP1.out.below hs1 hb2
  have d0 : w2.cell? ⟨w.heap.size, 0, none⟩ = some (.int .i64 p.kind) := hp2 0 (by decide)
  have d10 : w2.cell? ⟨w.heap.size, 10, none⟩ = some (.int .u64 p.reqClock) := hp2 10 (by decide)
  have d11 : w2.cell? ⟨w.heap.size, 11, none⟩ = some (.int .i64 p.reqPort) := hp2 11 (by decide)
  have d12 : w2.cell? ⟨w.heap.size, 12, none⟩ = some (.int .i64 p.ann.utc) := hp2 12 (by decide)
  have d13 : w2.cell? ⟨w.heap.size, 13, none⟩ = some (.int .i64 p.ann.p1) := hp2 13 (by decide)
  have d14 : w2.cell? ⟨w.heap.size, 14, none⟩ = some (.int .i64 p.ann.cls) := hp2 14 (by decide)
  have d15 : w2.cell? ⟨w.heap.size, 15, none⟩ = some (.int .i64 p.ann.acc) := hp2 15 (by decide)
  have d16 : w2.cell? ⟨w.heap.size, 16, none⟩ = some (.int .i64 p.ann.var) := hp2 16 (by decide)
  have d17 : w2.cell? ⟨w.heap.size, 17, none⟩ = some (.int .i64 p.ann.p2) := hp2 17 (by decide)
  have d18 : w2.cell? ⟨w.heap.size, 18, none⟩ = some (.int .u64 p.ann.gm) := hp2 18 (by decide)
  have d19 : w2.cell? ⟨w.heap.size, 19, none⟩ = some (.int .i64 p.ann.steps) := hp2 19 (by decide)
  have d20 : w2.cell? ⟨w.heap.size, 20, none⟩ = some (.int .i64 p.ann.source) := hp2 20 (by decide)
  clear hb2 hp2 c0
  cases hin : inB p with
  | false =>
    have hr : r = 3 := by rw [← HR.out]; simp [checkF, HSZ.out, HS0.out, hin]
    subst hr
    clear hin
    go_wp2_with fail
    go_ret
    exact ⟨rfl, HB2.out⟩
  | true =>
    have HIN := Lib.hid hin
    clear hin
    go_wp2_with fail
    refine (req_any p.kind _).mono ?_
    rintro e _ ⟨rfl, rfl⟩
    have hk : (p.kind == 11) = false ∨ p.kind = 11 := by by_cases h : p.kind = 11 <;> simp [h]
    have key : r = if formB p = true then 7 else 0 := by rw [← HR.out]; simp [checkF, HSZ.out, HS0.out, HIN.out]
    have KEY := Lib.hid key
    clear key
    cases hq : reqB p.kind
    all_goals cases hc : (p.reqClock != 0)
    all_goals cases hq2 : (p.reqPort != 0)
    all_goals cases hk11 : (p.kind != 11)
    all_goals cases han : decide (p.ann = .zero)
    all_goals simp only [han, Bool.not_true, Bool.not_false] at ne
    all_goals have HF := Lib.hid (show formB p = _ by unfold formB; rw [hq, hc, hq2, hk11, han])
    all_goals clear hk
    all_goals go_wp2_with fail
    all_goals go_ret
    all_goals exact ⟨ret_int (by rw [KEY.out, HF.out]; rfl), HB2.out⟩
end Go.Proofs.Ytfbmlpdomfchpaa
/- The reference's Check of a message (written by gen_rcheck.py). -/
namespace Go.Proofs.Ytfbmlpdomfchpaa
open Go.RowKit
set_option linter.unusedVariables false
set_option linter.unusedSimpArgs false

end Go.Proofs.Ytfbmlpdomfchpaa
