/- e2e: Response (written by gen_e5.py). -/
import Derived.WalkKit
import Derived.LoopTactic
import Derived.Outline
import Derived.Lib.Hide
import Derived.Deep.QuietTactic
import Derived.BigQuiet
import Derived.BigRegion
import Derived.Deep.RegionHeld3
import Derived.Test.YtfbmlpdomfchpaaE5
namespace Go.Proofs.Ytfbmlpdomfchpaa
open Go.RowKit
set_option linter.unusedVariables false
set_option linter.unusedSimpArgs false

def nopeB (x : Ex) (p : Ptp) (cl po : Int) : Bool := !x.pending || (x.seq != p.seq || (p.reqClock != cl || p.reqPort != po))
def respE (x : Ex) (p : Ptp) (cl po : Int) : Int := if refuseF x p 9 ≠ 0 then refuseF x p 9 else if nopeB x p cl po = true then 11 else if atB p.sec p.nano = false then 3 else 0
def meanF (x : Ex) (t c : Int) : Int := wrap64 (wrap64 (wrap64 (x.gap + t) - x.t3) - nanoF c) / 2
def respX (x : Ex) (p : Ptp) (cl po : Int) : Ex := if refuseF x p 9 ≠ 0 then x else if nopeB x p cl po = true then x else if atB p.sec p.nano = false then x else if x.complete = true then { x with pending := false, known := true, delay := max 0 (meanF x (atF p.sec p.nano) p.corr) } else { x with pending := false }
theorem resp_nil (p : Ptp) (cl po : Int) (w : World) : Calls Try.prog 47 #[.pointer none, p.v, .int .u64 cl, .int .i64 po] w fun e w' => e = .returned (.int .i64 1) ∧ Below w.heap.size w w' := by
  have hmf := makeFunc_run
  go_enter Try.func47, Try.ntmps47
  refine seq_opaque ?_
  intro T HT
  go_wp2_with fail
  generalize hW : w.alloc _ = W
  have hw : Below w.heap.size w W := by rw [← hW]; exact (Below.refl _ _).alloc (Nat.le_refl _) _
  have hp : PtpBox W w.heap.size p := by rw [← hW]; exact PtpBox.of (heap_alloc_new w _)
  rw [HT.out]
  have HP := Lib.hid hp
  clear hW HT hp
  go_wp2_with (refine load_ptp HP.out _ rfl rfl rfl ?_)
  refine (refuse_nil p 9 _).mono ?_
  rintro e w1 ⟨rfl, hb1⟩
  have HB1 := Lib.hid (below_then hw hb1)
  clear hw hb1
  go_wp2_with fail
  go_ret
  exact ⟨rfl, HB1.out⟩
set_option maxRecDepth 100000 in
set_option maxHeartbeats 4000000 in
theorem resp_any (x : Ex) (b : Nat) (p : Ptp) (wf : (Lit.int .i64 p.kind).wf = true) (cl po : Int) (w : World) (hx : ExAt w b x) : Calls Try.prog 47 #[.pointer (some ⟨b, 0, none⟩), p.v, .int .u64 cl, .int .i64 po] w fun e w' => e = .returned (.int .i64 (respE x p cl po)) ∧ ExAt w' b (respX x p cl po) ∧ Touch b w w' := by
  have hmf := makeFunc_run
  obtain ⟨r, hr⟩ : ∃ r, respE x p cl po = r := ⟨_, rfl⟩
  obtain ⟨y, hy⟩ : ∃ y, respX x p cl po = y := ⟨_, rfl⟩
  obtain ⟨c, hc⟩ : ∃ c, refuseF x p 9 = c := ⟨_, rfl⟩
  have ck : ∀ w, ExAt w b x → Calls Try.prog 66 #[.pointer (some ⟨b, 0, none⟩), p.v, .int .i64 9] w fun e w' => e = .returned (.int .i64 c) ∧ Below w.heap.size w w' := fun w h => by have := refuse_any x b p wf 9 w h; rwa [hc] at this
  rw [hr, hy]
  simp only [respE, respX, hc] at hr hy
  have CK := Lib.hid ck
  have HR := Lib.hid hr
  have HY := Lib.hid hy
  have HX := Lib.hid hx
  have hbl := hx.lt
  clear ck hr hy hc wf hx
  go_enter Try.func47, Try.ntmps47
  refine seq_opaque ?_
  intro T HT
  go_wp2_with fail
  generalize hW : w.alloc _ = W
  have hw : Below w.heap.size w W := by rw [← hW]; exact (Below.refl _ _).alloc (Nat.le_refl _) _
  have hp : PtpBox W w.heap.size p := by rw [← hW]; exact PtpBox.of (heap_alloc_new w _)
  have hs : w.heap.size < W.heap.size := by rw [← hW]; simp
  rw [HT.out]
  have HP := Lib.hid hp
  clear hW HT
  go_wp2_with (refine load_ptp HP.out _ rfl rfl rfl ?_)
  refine (CK.out W (HX.out.below hw)).mono ?_
  rintro e w1 ⟨rfl, hb1⟩
  have hB := below_then hw hb1
  have HX1 := Lib.hid (HX.out.below hB)
  have HP1 := Lib.hid (hp.below hs hb1)
  have HB1 := Lib.hid hB
  have hs1 : w.heap.size < w1.heap.size := by have := hb1.size; omega
  clear hw hp hs hb1 HP hB
  by_cases hc : c = 0
  rotate_left
  · have hcb : (c != 0) = true := by simpa using hc
    have e1 : r = c := by rw [← HR.out]; simp [hc]
    have e2 : y = x := by rw [← HY.out]; simp [hc]
    subst e1 e2
    clear hc
    go_wp2_with fail
    go_ret
    exact ⟨rfl, HX1.out, .of HB1.out⟩
  subst hc
  have x1 : w1.cell? ⟨b, 26, none⟩ = some (.bool x.pending) := HX1.out.cell 26
  have x8 : w1.cell? ⟨b, 27, none⟩ = some (.int .i64 x.seq) := HX1.out.cell 27
  have c6 : w1.cell? ⟨w.heap.size, 6, none⟩ = some (.int .i64 p.seq) := HP1.out 6 (by decide)
  have c10 : w1.cell? ⟨w.heap.size, 10, none⟩ = some (.int .u64 p.reqClock) := HP1.out 10 (by decide)
  have c11 : w1.cell? ⟨w.heap.size, 11, none⟩ = some (.int .i64 p.reqPort) := HP1.out 11 (by decide)
  have hnb : nopeB x p cl po = (!x.pending || (x.seq != p.seq || (p.reqClock != cl || p.reqPort != po))) := rfl
  cases g0 : x.pending
  · rw [g0] at x1
    have HNB := Lib.hid (show nopeB x p cl po = true by rw [hnb, g0]; rfl)
    clear hnb
    have e1 : r = 11 := by rw [← HR.out]; simp [HNB.out]
    have e2 : y = x := by rw [← HY.out]; simp [HNB.out]
    subst e1 e2
    go_wp2_with fail
    go_quiet (fail)
    go_wp2_with fail
    go_ret
    exact ⟨rfl, HX1.out, .of (below_drewN HB1.out _)⟩
  cases g1 : x.seq != p.seq
  rotate_left
  · skip
    have HNB := Lib.hid (show nopeB x p cl po = true by rw [hnb, g0, g1]; rfl)
    clear hnb
    have e1 : r = 11 := by rw [← HR.out]; simp [HNB.out]
    have e2 : y = x := by rw [← HY.out]; simp [HNB.out]
    subst e1 e2
    go_wp2_with fail
    go_quiet (fail)
    go_wp2_with fail
    go_ret
    exact ⟨rfl, HX1.out, .of (below_drewN HB1.out _)⟩
  cases g2 : p.reqClock != cl
  rotate_left
  · skip
    have HNB := Lib.hid (show nopeB x p cl po = true by rw [hnb, g0, g1, g2]; rfl)
    clear hnb
    have e1 : r = 11 := by rw [← HR.out]; simp [HNB.out]
    have e2 : y = x := by rw [← HY.out]; simp [HNB.out]
    subst e1 e2
    go_wp2_with fail
    go_quiet (fail)
    go_wp2_with fail
    go_ret
    exact ⟨rfl, HX1.out, .of (below_drewN HB1.out _)⟩
  cases g3 : p.reqPort != po
  rotate_left
  · skip
    have HNB := Lib.hid (show nopeB x p cl po = true by rw [hnb, g0, g1, g2, g3]; rfl)
    clear hnb
    have e1 : r = 11 := by rw [← HR.out]; simp [HNB.out]
    have e2 : y = x := by rw [← HY.out]; simp [HNB.out]
    subst e1 e2
    go_wp2_with fail
    go_quiet (fail)
    go_wp2_with fail
    go_ret
    exact ⟨rfl, HX1.out, .of (below_drewN HB1.out _)⟩
  rw [g0] at x1
  have HNB := Lib.hid (show nopeB x p cl po = false by rw [hnb, g0, g1, g2, g3]; rfl)
  clear hnb
  go_wp2_with fail
  go_quiet (fail)
  generalize hw2 : w1.drewN _ = w2
  have HB2 : Below w.heap.size w w2 := by rw [← hw2]; exact below_drewN HB1.out _
  have HX2 : ExAt w2 b x := by rw [← hw2]; exact HX1.out
  have HP2 : PtpBox w2 w.heap.size p := by rw [← hw2]; exact HP1.out
  have hs2 : w.heap.size < w2.heap.size := by rw [← hw2]; exact hs1
  clear hw2 x1 x8 c6 c10 c11 HB1 HX1 HP1 hs1
  have d8 : w2.cell? ⟨w.heap.size, 8, none⟩ = some (.int .i64 p.sec) := HP2 8 (by decide)
  have d9 : w2.cell? ⟨w.heap.size, 9, none⟩ = some (.int .i64 p.nano) := HP2 9 (by decide)
  have HB2' := Lib.hid HB2
  have HX2' := Lib.hid HX2
  have HP2' := Lib.hid HP2
  have hat := at_any p.sec p.nano
  obtain ⟨v, hv⟩ : ∃ v, atF p.sec p.nano = v := ⟨_, rfl⟩
  rw [hv] at hat
  have hne : w.heap.size ≠ b := by omega
  have hne' : b ≠ w.heap.size := by omega
  clear HB2 HX2 HP2
  cases hab : atB p.sec p.nano
  all_goals rw [hab] at hat
  all_goals have HAT := Lib.hid hat
  all_goals have HAB := Lib.hid hab
  all_goals have HV := Lib.hid hv
  all_goals clear hat hab hv
  · have e1 : r = 3 := by rw [← HR.out]; simp [HNB.out, HAB.out]
    have e2 : y = x := by rw [← HY.out]; simp [HNB.out, HAB.out]
    subst e1 e2
    go_wp2_with fail
    refine (HAT.out _).mono ?_
    rintro e w3 ⟨rfl, hb3⟩
    have HB3 := Lib.hid (below_then HB2'.out hb3)
    have HX3 := Lib.hid (HX2'.out.below hb3)
    clear hb3
    go_wp2_with fail
    go_ret
    exact ⟨rfl, HX3.out, .of HB3.out⟩
  · cases hcp : x.complete
    · have e1 : r = 0 := by rw [← HR.out]; simp [HNB.out, HAB.out]
      have e2 : y = { x with pending := false } := by rw [← HY.out]; simp [HNB.out, HAB.out, hcp]
      subst e1 e2
      go_wp2_with fail
      refine (HAT.out _).mono ?_
      rintro e w3 ⟨rfl, hb3⟩
      have HB3 := Lib.hid (below_then HB2'.out hb3)
      have hx3 := HX2'.out.below hb3
      have k24 : w3.cell? ⟨b, 24, none⟩ = some (.bool x.complete) := hx3.cell 24
      have k26 : w3.cell? ⟨b, 26, none⟩ = some (.bool x.pending) := hx3.cell 26
      rw [hcp] at k24
      have f26 := hx3.free 26
      have HX3 := Lib.hid hx3
      clear hb3 hx3 d8 d9 hcp
      go_wp2_with fail
      go_ret
      exact ⟨rfl, heap_set HX3.out 26 _, (Touch.of HB3.out).set _ _⟩
    · have e1 : r = 0 := by rw [← HR.out]; simp [HNB.out, HAB.out]
      have e2 : y = { x with pending := false, known := true, delay := max 0 (meanF x v p.corr) } := by rw [← HY.out]; simp [HNB.out, HAB.out, hcp, HV.out]
      subst e1 e2
      go_wp2_with fail
      refine (HAT.out _).mono ?_
      rintro e w3 ⟨rfl, hb3⟩
      have HB3 := Lib.hid (below_then HB2'.out hb3)
      have hx3 := HX2'.out.below hb3
      have hp3 := HP2'.out.below hs2 hb3
      have k24 : w3.cell? ⟨b, 24, none⟩ = some (.bool x.complete) := hx3.cell 24
      have k26 : w3.cell? ⟨b, 26, none⟩ = some (.bool x.pending) := hx3.cell 26
      have k29 : w3.cell? ⟨b, 29, none⟩ = some (.bool x.known) := hx3.cell 29
      have k3 : w3.cell? ⟨w.heap.size, 3, none⟩ = some (.int .i64 p.corr) := hp3 3 (by decide)
      rw [hcp] at k24
      have f26 := hx3.free 26
      have f29 := hx3.free 29
      have HX3 := Lib.hid hx3
      clear hb3 hx3 hp3 d8 d9 hcp
      go_wp2_with fail
      generalize hw4 : World.setCell _ _ _ = w4
      have hx4 : ExAt w4 b { x with pending := false, known := true } := by rw [← hw4]; exact heap_set (heap_set HX3.out 26 _) 29 _
      have ht4 : Touch b w w4 := by rw [← hw4]; exact ((Touch.of HB3.out).set _ _).set _ _
      have k25 : w4.cell? ⟨b, 25, none⟩ = some (.int .i64 x.gap) := hx4.cell 25
      have k28 : w4.cell? ⟨b, 28, none⟩ = some (.int .i64 x.t3) := hx4.cell 28
      have k30 : w4.cell? ⟨b, 30, none⟩ = some (.int .i64 x.delay) := hx4.cell 30
      have k3' : w4.cell? ⟨w.heap.size, 3, none⟩ = some (.int .i64 p.corr) := (show Touch b w3 w4 by rw [← hw4]; exact ((Touch.refl b w3).set _ _).set _ _).cell' k3 hne
      have f30 := hx4.free 30
      have HX4 := Lib.hid hx4
      have HT4 := Lib.hid ht4
      clear hw4 hx4 ht4 HX3 HB3 k24 k3
      go_region_held3 (fun w' => w'.cell? ⟨b, 25, none⟩ = some (.int .i64 x.gap) ∧ w'.cell? ⟨b, 28, none⟩ = some (.int .i64 x.t3) ∧ w'.cell? ⟨w.heap.size, 3, none⟩ = some (.int .i64 p.corr)) (first | (refine ⟨cell_set_drew (by decide) ?_, cell_set_drew (by decide) ?_, ?_⟩ <;> simp [*, World.cell?_setCell_far]) | go_keep) (first | (go_at_call 69; refine (nano_any _ _).mono ?_; rintro e _ ⟨rfl, rfl⟩))
      go_wp2_with fail
      all_goals go_ret
      all_goals simp only [IntWalk.i64_left] at *
      all_goals first
        | (have e : max 0 (meanF x v p.corr) = 0 := by unfold meanF; omega
           rw [e]
           exact ⟨rfl, heap_set HX4.out 30 _, (HT4.out.set _ _).drewN 1⟩)
        | (have e : max 0 (meanF x v p.corr) = meanF x v p.corr := by unfold meanF; omega
           rw [e]
           exact ⟨rfl, heap_set HX4.out 30 _, (HT4.out.set _ _).drewN 1⟩)
end Go.Proofs.Ytfbmlpdomfchpaa
