/- e2e: FollowUp (written by gen_e5.py). -/
import Derived.WalkKit
import Derived.LoopTactic
import Derived.Outline
import Derived.Lib.Hide
import Derived.Deep.QuietTactic
import Derived.BigQuiet
import Derived.BigRegion
import Derived.Deep.RegionHeld3
import Derived.Test.YtfbmlpdomfchpaaE4
namespace Go.Proofs.Ytfbmlpdomfchpaa
open Go.RowKit
set_option linter.unusedVariables false
set_option linter.unusedSimpArgs false

theorem quiet_same {P : Program} {f : FuncId} {args : Array Value} {w : World} {n : Nat} {v : Value}
    (h : Calls P f args (w.drewN n) fun e w' => e = .returned v ∧ w.drewN n = w') : Calls P f args (w.drewN n) fun e w'' => e = .returned v ∧ ∃ m, w'' = w.drewN m := Calls.quiet_of_same (h.mono fun _ _ ⟨a, b⟩ => ⟨a, b.symm⟩)
theorem cell_set_drew {W : World} {b i j : Nat} {v : Value} {c : Option Value} (h : i ≠ j) (k : W.cell? ⟨b, j, none⟩ = c) : ((W.setCell ⟨b, i, none⟩ v).drew).cell? ⟨b, j, none⟩ = c :=
  (show (W.setCell ⟨b, i, none⟩ v).cell? ⟨b, j, none⟩ = _ from World.cell?_setCell_other W _ _ _ (fun e => h (congrArg Addr.off e))).trans k
def noneB (x : Ex) (p : Ptp) : Bool := !x.waits || (x.sync.clock != p.clock || (x.sync.port != p.port || x.sync.seq != p.seq))
def followE (x : Ex) (p : Ptp) : Int := if refuseF x p 8 ≠ 0 then refuseF x p 8 else if noneB x p = true then 11 else if atB p.sec p.nano = false then 3 else 0
def followX (x : Ex) (p : Ptp) : Ex := if refuseF x p 8 ≠ 0 then x else if noneB x p = true then x else if atB p.sec p.nano = false then x else { x with waits := false, complete := true, gap := wrap64 (wrap64 (x.came - atF p.sec p.nano) - nanoF (sumF x.sync.corr p.corr)) }
theorem follow_nil (p : Ptp) (w : World) : Calls Try.prog 45 #[.pointer none, p.v] w fun e w' => e = .returned (.int .i64 1) ∧ Below w.heap.size w w' := by
  have hmf := makeFunc_run
  go_enter Try.func45, Try.ntmps45
  refine seq_opaque ?_
  intro T HT
  go_wp2_with fail
  generalize hW : w.alloc _ = W
  have hw : Below w.heap.size w W := by rw [← hW]; exact (Below.refl _ _).alloc (Nat.le_refl _) _
  have hp : PtpBox W w.heap.size p := by rw [← hW]; exact PtpBox.of (heap_alloc_new w _)
  rw [HT.out]
  have HP := Lib.hid hp
  clear hW HT hp
  go_wp2_with (refine load_ptp HP.out _ rfl rfl rfl ?_)
  refine (refuse_nil p 8 _).mono ?_
  rintro e w1 ⟨rfl, hb1⟩
  have HB1 := Lib.hid (below_then hw hb1)
  clear hw hb1
  go_wp2_with fail
  go_ret
  exact ⟨rfl, HB1.out⟩
set_option maxRecDepth 100000 in
set_option maxHeartbeats 4000000 in
theorem follow_any (x : Ex) (b : Nat) (p : Ptp) (wf : (Lit.int .i64 p.kind).wf = true) (w : World) (hx : ExAt w b x) : Calls Try.prog 45 #[.pointer (some ⟨b, 0, none⟩), p.v] w fun e w' => e = .returned (.int .i64 (followE x p)) ∧ ExAt w' b (followX x p) ∧ Touch b w w' := by
  have hmf := makeFunc_run
  obtain ⟨r, hr⟩ : ∃ r, followE x p = r := ⟨_, rfl⟩
  obtain ⟨y, hy⟩ : ∃ y, followX x p = y := ⟨_, rfl⟩
  obtain ⟨c, hc⟩ : ∃ c, refuseF x p 8 = c := ⟨_, rfl⟩
  have ck : ∀ w, ExAt w b x → Calls Try.prog 66 #[.pointer (some ⟨b, 0, none⟩), p.v, .int .i64 8] w fun e w' => e = .returned (.int .i64 c) ∧ Below w.heap.size w w' := fun w h => by have := refuse_any x b p wf 8 w h; rwa [hc] at this
  rw [hr, hy]
  simp only [followE, followX, hc] at hr hy
  have CK := Lib.hid ck
  have HR := Lib.hid hr
  have HY := Lib.hid hy
  have HX := Lib.hid hx
  have hbl := hx.lt
  clear ck hr hy hc wf hx
  go_enter Try.func45, Try.ntmps45
  refine seq_opaque ?_
  intro T HT
  go_wp2_with fail
  generalize hW : w.alloc _ = W
  have hw : Below w.heap.size w W := by rw [← hW]; exact (Below.refl _ _).alloc (Nat.le_refl _) _
  have hp : PtpBox W w.heap.size p := by rw [← hW]; exact PtpBox.of (heap_alloc_new w _)
  have hs : w.heap.size < W.heap.size := by rw [← hW]; simp
  rw [HT.out]
  have HP := Lib.hid hp
  clear hW HT
  go_wp2_with (refine load_ptp HP.out _ rfl rfl rfl ?_)
  refine (CK.out W (HX.out.below hw)).mono ?_
  rintro e w1 ⟨rfl, hb1⟩
  have hB := below_then hw hb1
  have HX1 := Lib.hid (HX.out.below hB)
  have HP1 := Lib.hid (hp.below hs hb1)
  have HB1 := Lib.hid hB
  have hs1 : w.heap.size < w1.heap.size := by have := hb1.size; omega
  clear hw hp hs hb1 HP hB
  by_cases hc : c = 0
  rotate_left
  · have hcb : (c != 0) = true := by simpa using hc
    have e1 : r = c := by rw [← HR.out]; simp [hc]
    have e2 : y = x := by rw [← HY.out]; simp [hc]
    subst e1 e2
    clear hc
    go_wp2_with fail
    go_ret
    exact ⟨rfl, HX1.out, .of HB1.out⟩
  subst hc
  have x1 : w1.cell? ⟨b, 1, none⟩ = some (.bool x.waits) := HX1.out.cell 1
  have x6 : w1.cell? ⟨b, 6, none⟩ = some (.int .u64 x.sync.clock) := HX1.out.cell 6
  have x7 : w1.cell? ⟨b, 7, none⟩ = some (.int .i64 x.sync.port) := HX1.out.cell 7
  have x8 : w1.cell? ⟨b, 8, none⟩ = some (.int .i64 x.sync.seq) := HX1.out.cell 8
  have c4 : w1.cell? ⟨w.heap.size, 4, none⟩ = some (.int .u64 p.clock) := HP1.out 4 (by decide)
  have c5 : w1.cell? ⟨w.heap.size, 5, none⟩ = some (.int .i64 p.port) := HP1.out 5 (by decide)
  have c6 : w1.cell? ⟨w.heap.size, 6, none⟩ = some (.int .i64 p.seq) := HP1.out 6 (by decide)
  have hnb : noneB x p = (!x.waits || (x.sync.clock != p.clock || (x.sync.port != p.port || x.sync.seq != p.seq))) := rfl
  cases g0 : x.waits
  · rw [g0] at x1
    have HNB := Lib.hid (show noneB x p = true by rw [hnb, g0]; rfl)
    clear hnb
    have e1 : r = 11 := by rw [← HR.out]; simp [HNB.out]
    have e2 : y = x := by rw [← HY.out]; simp [HNB.out]
    subst e1 e2
    go_wp2_with fail
    go_quiet (fail)
    go_wp2_with fail
    go_ret
    exact ⟨rfl, HX1.out, .of (below_drewN HB1.out _)⟩
  cases g1 : x.sync.clock != p.clock
  rotate_left
  · skip
    have HNB := Lib.hid (show noneB x p = true by rw [hnb, g0, g1]; rfl)
    clear hnb
    have e1 : r = 11 := by rw [← HR.out]; simp [HNB.out]
    have e2 : y = x := by rw [← HY.out]; simp [HNB.out]
    subst e1 e2
    go_wp2_with fail
    go_quiet (fail)
    go_wp2_with fail
    go_ret
    exact ⟨rfl, HX1.out, .of (below_drewN HB1.out _)⟩
  cases g2 : x.sync.port != p.port
  rotate_left
  · skip
    have HNB := Lib.hid (show noneB x p = true by rw [hnb, g0, g1, g2]; rfl)
    clear hnb
    have e1 : r = 11 := by rw [← HR.out]; simp [HNB.out]
    have e2 : y = x := by rw [← HY.out]; simp [HNB.out]
    subst e1 e2
    go_wp2_with fail
    go_quiet (fail)
    go_wp2_with fail
    go_ret
    exact ⟨rfl, HX1.out, .of (below_drewN HB1.out _)⟩
  cases g3 : x.sync.seq != p.seq
  rotate_left
  · skip
    have HNB := Lib.hid (show noneB x p = true by rw [hnb, g0, g1, g2, g3]; rfl)
    clear hnb
    have e1 : r = 11 := by rw [← HR.out]; simp [HNB.out]
    have e2 : y = x := by rw [← HY.out]; simp [HNB.out]
    subst e1 e2
    go_wp2_with fail
    go_quiet (fail)
    go_wp2_with fail
    go_ret
    exact ⟨rfl, HX1.out, .of (below_drewN HB1.out _)⟩
  rw [g0] at x1
  have HNB := Lib.hid (show noneB x p = false by rw [hnb, g0, g1, g2, g3]; rfl)
  clear hnb
  go_wp2_with fail
  go_quiet (fail)
  generalize hw2 : w1.drewN _ = w2
  have HB2 : Below w.heap.size w w2 := by rw [← hw2]; exact below_drewN HB1.out _
  have HX2 : ExAt w2 b x := by rw [← hw2]; exact HX1.out
  have HP2 : PtpBox w2 w.heap.size p := by rw [← hw2]; exact HP1.out
  have hs2 : w.heap.size < w2.heap.size := by rw [← hw2]; exact hs1
  clear hw2 x1 x6 x7 x8 c4 c5 c6 HB1 HX1 HP1 hs1
  have d8 : w2.cell? ⟨w.heap.size, 8, none⟩ = some (.int .i64 p.sec) := HP2 8 (by decide)
  have d9 : w2.cell? ⟨w.heap.size, 9, none⟩ = some (.int .i64 p.nano) := HP2 9 (by decide)
  have HB2' := Lib.hid HB2
  have HX2' := Lib.hid HX2
  have HP2' := Lib.hid HP2
  have hat := at_any p.sec p.nano
  obtain ⟨v, hv⟩ : ∃ v, atF p.sec p.nano = v := ⟨_, rfl⟩
  rw [hv] at hat
  have hne : w.heap.size ≠ b := by omega
  have hne' : b ≠ w.heap.size := by omega
  clear HB2 HX2 HP2
  cases hab : atB p.sec p.nano
  all_goals rw [hab] at hat
  all_goals have HAT := Lib.hid hat
  all_goals have HAB := Lib.hid hab
  all_goals have HV := Lib.hid hv
  all_goals clear hat hab hv
  · have e1 : r = 3 := by rw [← HR.out]; simp [HNB.out, HAB.out]
    have e2 : y = x := by rw [← HY.out]; simp [HNB.out, HAB.out]
    subst e1 e2
    go_wp2_with fail
    refine (HAT.out _).mono ?_
    rintro e w3 ⟨rfl, hb3⟩
    have HB3 := Lib.hid (below_then HB2'.out hb3)
    have HX3 := Lib.hid (HX2'.out.below hb3)
    clear hb3
    go_wp2_with fail
    go_ret
    exact ⟨rfl, HX3.out, .of HB3.out⟩
  · have e1 : r = 0 := by rw [← HR.out]; simp [HNB.out, HAB.out]
    have e2 : y = { x with waits := false, complete := true, gap := wrap64 (wrap64 (x.came - v) - nanoF (sumF x.sync.corr p.corr)) } := by rw [← HY.out]; simp [HNB.out, HAB.out, HV.out]
    subst e1 e2
    go_wp2_with fail
    refine (HAT.out _).mono ?_
    rintro e w3 ⟨rfl, hb3⟩
    have HB3 := Lib.hid (below_then HB2'.out hb3)
    have hx3 := HX2'.out.below hb3
    have hp3 := HP2'.out.below hs2 hb3
    have k5 : w3.cell? ⟨b, 5, none⟩ = some (.int .i64 x.sync.corr) := hx3.cell 5
    have k1 : w3.cell? ⟨b, 1, none⟩ = some (.bool x.waits) := hx3.cell 1
    have k3 : w3.cell? ⟨w.heap.size, 3, none⟩ = some (.int .i64 p.corr) := hp3 3 (by decide)
    have f1 := hx3.free 1
    have HX3 := Lib.hid hx3
    clear hb3 hx3 hp3 d8 d9
    go_wp2_with fail
    go_quiet ((go_at_call 68; exact quiet_same (addc_any _ _ _)))
    go_wp2_with fail
    generalize hw4 : World.setCell _ _ _ = w4
    have hx4 : ExAt w4 b { x with waits := false } := by rw [← hw4]; exact heap_set HX3.out 1 _
    have ht4 : Touch b w w4 := by rw [← hw4]; exact ((Touch.of HB3.out).drewN _).set _ _
    have k23 : w4.cell? ⟨b, 23, none⟩ = some (.int .i64 x.came) := hx4.cell 23
    have k24 : w4.cell? ⟨b, 24, none⟩ = some (.bool x.complete) := hx4.cell 24
    have k25 : w4.cell? ⟨b, 25, none⟩ = some (.int .i64 x.gap) := hx4.cell 25
    have f24 := hx4.free 24
    have f25 := hx4.free 25
    have HX4 := Lib.hid hx4
    have HT4 := Lib.hid ht4
    clear hw4 hx4 ht4 HX3 HB3
    go_region_held3 (fun w' => w'.cell? ⟨b, 23, none⟩ = some (.int .i64 x.came)) (first | exact cell_set_drew (by decide) (by assumption) | go_keep) (first | (go_at_call 69; refine (nano_any _ _).mono ?_; rintro e _ ⟨rfl, rfl⟩))
    go_wp2_with fail
    go_ret
    simp only [IntWalk.i64_left]
    exact ⟨rfl, heap_set (heap_set HX4.out 24 _) 25 _, ((HT4.out.set _ _).set _ _).drewN 1⟩
end Go.Proofs.Ytfbmlpdomfchpaa
