/- e2e: Sync. -/
import Derived.WalkKit
import Derived.LoopTactic
import Derived.Outline
import Derived.Lib.Hide
import Derived.Deep.QuietTactic
import Derived.BigQuiet
import Derived.BigRegion
import Derived.Deep.RegionHeld3
import Derived.Test.YtfbmlpdomfchpaaE3
namespace Go.Proofs.Ytfbmlpdomfchpaa
open Go.RowKit
set_option linter.unusedVariables false
set_option linter.unusedSimpArgs false

def setList (cs : Array Value) : Nat → List Value → Array Value
  | _, [] => cs
  | o, v :: r => setList (cs.setIfInBounds o v) (o + 1) r
theorem heap_sets {b : Nat} {t : TypeId} : ∀ (vs : List Value) (o : Nat) (w : World) (cs : Array Value), w.heap[b]? = some (.cells cs t (0, 0)) → (w.setCells b o vs).heap[b]? = some (.cells (setList cs o vs) t (0, 0))
  | [], _, _, _, h => h
  | v :: r, o, w, cs, h => heap_sets r (o + 1) _ _ (heap_set h o v)
theorem Touch.sets {b : Nat} {u : World} : ∀ (vs : List Value) (o : Nat) (w : World), Touch b u w → Touch b u (w.setCells b o vs)
  | [], _, _, h => h
  | v :: r, o, w, h => Touch.sets r (o + 1) _ (h.set o v)
theorem set_sync (x : Ex) (p : Ptp) : setList (x.cells.setIfInBounds 1 (.bool true)) 2 p.cells = ({ x with waits := true, sync := p } : Ex).cells := by
  simp [setList, Ptp.cells, Ex.cells]
def twoB (f : Int) : Bool := bits .and .i64 f 512 != 0
def syncE (x : Ex) (p : Ptp) (t : Int) : Int := if refuseF x p 0 ≠ 0 then refuseF x p 0 else if instB t = false then 3 else if twoB p.flags = true then 0 else if atB p.sec p.nano = false then 3 else 0
def syncX (x : Ex) (p : Ptp) (t : Int) : Ex := if refuseF x p 0 ≠ 0 then x else if instB t = false then x else if twoB p.flags = true then { x with waits := true, sync := p, came := t } else if atB p.sec p.nano = false then x else { x with waits := false, complete := true, gap := wrap64 (wrap64 (t - atF p.sec p.nano) - nanoF p.corr) }
theorem makeFunc_run (fn : Fn) (first cap : Array Value) (w : World) : (Instr.makeFunc fn first cap).run Try.prog w = .ok (.func fn first cap) w := rfl
theorem sync_nil (p : Ptp) (t : Int) (w : World) : Calls Try.prog 65 #[.pointer none, p.v, .int .i64 t] w fun e w' => e = .returned (.int .i64 1) ∧ Below w.heap.size w w' := by
  have hmf := makeFunc_run
  go_enter Try.func65, Try.ntmps65
  refine seq_opaque ?_
  intro T HT
  go_wp2_with fail
  generalize hW : w.alloc _ = W
  have hw : Below w.heap.size w W := by rw [← hW]; exact (Below.refl _ _).alloc (Nat.le_refl _) _
  have hp : PtpBox W w.heap.size p := by rw [← hW]; exact PtpBox.of (heap_alloc_new w _)
  rw [HT.out]
  have HP := Lib.hid hp
  clear hW HT hp
  go_wp2_with (refine load_ptp HP.out _ rfl rfl rfl ?_)
  refine (refuse_nil p 0 _).mono ?_
  rintro e w1 ⟨rfl, hb1⟩
  have HB1 := Lib.hid (below_then hw hb1)
  clear hw hb1
  go_wp2_with fail
  go_ret
  exact ⟨rfl, HB1.out⟩
set_option maxRecDepth 100000 in
set_option maxHeartbeats 4000000 in
theorem sync_any (x : Ex) (b : Nat) (p : Ptp) (wf : (Lit.int .i64 p.kind).wf = true) (t : Int) (w : World) (hx : ExAt w b x) : Calls Try.prog 65 #[.pointer (some ⟨b, 0, none⟩), p.v, .int .i64 t] w fun e w' => e = .returned (.int .i64 (syncE x p t)) ∧ ExAt w' b (syncX x p t) ∧ Touch b w w' := by
  have hmf := makeFunc_run
  obtain ⟨r, hr⟩ : ∃ r, syncE x p t = r := ⟨_, rfl⟩
  obtain ⟨y, hy⟩ : ∃ y, syncX x p t = y := ⟨_, rfl⟩
  obtain ⟨c, hc⟩ : ∃ c, refuseF x p 0 = c := ⟨_, rfl⟩
  have hi := inst_any t
  have ck : ∀ w, ExAt w b x → Calls Try.prog 66 #[.pointer (some ⟨b, 0, none⟩), p.v, .int .i64 0] w fun e w' => e = .returned (.int .i64 c) ∧ Below w.heap.size w w' := fun w h => by have := refuse_any x b p wf 0 w h; rwa [hc] at this
  rw [hr, hy]
  simp only [syncE, syncX, hc] at hr hy
  have CK := Lib.hid ck
  have HR := Lib.hid hr
  have HY := Lib.hid hy
  have HX := Lib.hid hx
  have HI := Lib.hid hi
  have hbl := hx.lt
  clear ck hr hy hc wf hx hi
  go_enter Try.func65, Try.ntmps65
  refine seq_opaque ?_
  intro T HT
  go_wp2_with fail
  generalize hW : w.alloc _ = W
  have hw : Below w.heap.size w W := by rw [← hW]; exact (Below.refl _ _).alloc (Nat.le_refl _) _
  have hp : PtpBox W w.heap.size p := by rw [← hW]; exact PtpBox.of (heap_alloc_new w _)
  have hs : w.heap.size < W.heap.size := by rw [← hW]; simp
  rw [HT.out]
  have HP := Lib.hid hp
  clear hW HT
  go_wp2_with (refine load_ptp HP.out _ rfl rfl rfl ?_)
  refine (CK.out W (HX.out.below hw)).mono ?_
  rintro e w1 ⟨rfl, hb1⟩
  have hB := below_then hw hb1
  have HX1 := Lib.hid (HX.out.below hB)
  have HP1 := Lib.hid (hp.below hs hb1)
  have HB1 := Lib.hid hB
  have hs1 : w.heap.size < w1.heap.size := by have := hb1.size; omega
  clear hw hp hs hb1 HP hB
  by_cases hc : c = 0
  rotate_left
  · have hcb : (c != 0) = true := by simpa using hc
    have e1 : r = c := by rw [← HR.out]; simp [hc]
    have e2 : y = x := by rw [← HY.out]; simp [hc]
    subst e1 e2
    clear hc
    go_wp2_with fail
    go_ret
    exact ⟨rfl, HX1.out, .of HB1.out⟩
  subst hc
  cases hit : instB t
  · have e1 : r = 3 := by rw [← HR.out]; simp [hit]
    have e2 : y = x := by rw [← HY.out]; simp [hit]
    subst e1 e2
    rw [hit] at HI
    clear hit
    go_wp2_with (go_at_call 60; refine (HI.out _).mono ?_; rintro e _ ⟨rfl, rfl⟩)
    go_ret
    exact ⟨rfl, HX1.out, .of HB1.out⟩
  have c2 : w1.cell? ⟨w.heap.size, 2, none⟩ = some (.int .i64 p.flags) := HP1.out 2 (by decide)
  have x1 : w1.cell? ⟨b, 1, none⟩ = some (.bool x.waits) := HX1.out.cell 1
  have x24 : w1.cell? ⟨b, 24, none⟩ = some (.bool x.complete) := HX1.out.cell 24
  have x25 : w1.cell? ⟨b, 25, none⟩ = some (.int .i64 x.gap) := HX1.out.cell 25
  have f1 := HX1.out.free 1
  have f24 := HX1.out.free 24
  have f25 := HX1.out.free 25
  cases htw : twoB p.flags
  rotate_left
  · have e1 : r = 0 := by rw [← HR.out]; simp [hit, htw]
    have e2 : y = { x with waits := true, sync := p, came := t } := by rw [← HY.out]; simp [hit, htw]
    subst e1 e2
    rw [hit] at HI
    unfold twoB at htw
    have ho : ∀ v ∈ p.cells, v.oneCell' = true := by intro v hv; simp [Ptp.cells] at hv; rcases hv with h | h | h | h | h | h | h | h | h | h | h | h | h | h | h | h | h | h | h | h | h <;> (subst h; rfl)
    have hne : w.heap.size ≠ b := by omega
    have hne' : b ≠ w.heap.size := by omega
    clear x24 x25 f24 f25 hit
    go_wp2_with (go_at_call 60; refine (HI.out _).mono ?_; rintro e _ ⟨rfl, rfl⟩)
    refine wp_region_held_drew (S := fun w' => w'.rangeAt w.heap.size 0 p.cells) (by kernel_rfl) HP1.out.range (fun hHeld => ?_)
    have HX2 : ExAt w1.drew b x := HX1.out
    have HB2 : Below w.heap.size w w1.drew := below_drewN HB1.out 1
    generalize w1.drew = w2 at *
    have th : w2.there b 2 21 := fun j hj => ⟨by rw [HX2.cell]; rcases j with _ | _ | _ | _ | _ | _ | _ | _ | _ | _ | _ | _ | _ | _ | _ | _ | _ | _ | _ | _ | _ | j <;> first | rfl | omega, HX2.free _⟩
    have x1 : w2.cell? ⟨b, 1, none⟩ = some (.bool x.waits) := HX2.cell 1
    have f1 := HX2.free 1
    have TH := Lib.hid th
    have HXX := Lib.hid HX2
    have HBB := Lib.hid HB2
    clear th HX2 HB2
    refine wpAnyH_take (i := 0) (oi := _) (v := ?_) rfl (by kernel_rfl) (by kernel_rfl) (by kernel_rfl) (fun _ _ _ h => h) (Or.inl ⟨by rfl, ?_⟩) hHeld ?_
    rotate_left
    · intro w hSw
      go_simp
      with_reducible rfl
    simp only [Act.put, List.setIfInBounds_toArray, List.set_cons_zero, List.set_cons_succ]
    refine wpAnyH_take (i := 1) (oi := _) (v := ?_) rfl (by kernel_rfl) (by kernel_rfl) (by kernel_rfl) (fun _ _ _ h => h) (Or.inl ⟨by rfl, ?_⟩) hHeld ?_
    rotate_left
    · intro w hSw
      go_simp
      with_reducible rfl
    simp only [Act.put, List.setIfInBounds_toArray, List.set_cons_zero, List.set_cons_succ]
    refine wpAnyH_take (i := 2) (oi := _) (v := ?_) rfl (by kernel_rfl) (by kernel_rfl) (by kernel_rfl) (fun _ _ _ h => h) (Or.inl ⟨by rfl, ?_⟩) hHeld ?_
    rotate_left
    · intro w hSw
      go_simp
      with_reducible rfl
    simp only [Act.put, List.setIfInBounds_toArray, List.set_cons_zero, List.set_cons_succ]
    refine' wpAnyH_take (i := 3) (oi := _) (v := _) rfl (by kernel_rfl) (by kernel_rfl) (by kernel_rfl) (fun _ _ _ h => h) (yieldsIf_load_mid (by rfl) _ _ rfl _ _ rfl p.cells _ (fun w h => h) Try.underlying42 rfl infoPtp) hHeld ?_
    simp only [Act.put, List.setIfInBounds_toArray, List.set_cons_zero, List.set_cons_succ]
    refine wpAnyH_take (i := 4) (oi := _) (v := ?_) rfl (by kernel_rfl) (by kernel_rfl) (by kernel_rfl) (fun _ _ _ h => h) (Or.inl ⟨by rfl, ?_⟩) hHeld ?_
    rotate_left
    · intro w hSw
      go_simp
      with_reducible rfl
    simp only [Act.put, List.setIfInBounds_toArray, List.set_cons_zero, List.set_cons_succ]
    refine wpAnyH_take (i := 5) (oi := _) (v := ?_) rfl (by kernel_rfl) (by kernel_rfl) (by kernel_rfl) (fun _ _ _ h => h) (Or.inl ⟨by rfl, ?_⟩) hHeld ?_
    rotate_left
    · intro w hSw
      go_simp
      with_reducible rfl
    simp only [Act.put, List.setIfInBounds_toArray, List.set_cons_zero, List.set_cons_succ]
    refine wpAnyH_take (i := 6) (oi := _) (v := ?_) rfl (by kernel_rfl) (by kernel_rfl) (by kernel_rfl) (fun _ _ _ h => h) (Or.inl ⟨by rfl, ?_⟩) hHeld ?_
    rotate_left
    · intro w hSw
      go_simp
      with_reducible rfl
    simp only [Act.put, List.setIfInBounds_toArray, List.set_cons_zero, List.set_cons_succ]
    refine wpAnyH_ready (rs := [7]) (by kernel_rfl) (by simp) ?_
    refine AllReadyH.cons rfl (fun K hK => ?_) AllReadyH.nil
    go_simp
    refine hK.out _ _ (World.rangeAt_setCells_apart hHeld b 1 [.bool true] (Or.inl hne)) (fun hHeld => ?_)
    clear hK K
    have TH2 := Lib.hid (show (w2.setCell ⟨b, 1, none⟩ (.bool true)).there b 2 21 from fun j hj => ⟨World.isSome_setCells b [.bool true] 1 w2 _ (TH.out j hj).1, by rw [World.frozen?_setCell]; exact (TH.out j hj).2⟩)
    refine wpAnyH_take (i := 8) (oi := _) (v := ?_) rfl (by kernel_rfl) (by kernel_rfl) (by kernel_rfl) (fun _ _ _ h => h) (Or.inl ⟨by rfl, ?_⟩) hHeld ?_
    rotate_left
    · intro w hSw
      go_simp
      with_reducible rfl
    simp only [Act.put, List.setIfInBounds_toArray, List.set_cons_zero, List.set_cons_succ]
    refine wpAnyH_take (i := 9) (oi := _) (v := ?_) rfl (by kernel_rfl) (by kernel_rfl) (by kernel_rfl) (fun _ _ _ h => h) (Or.inl ⟨by rfl, ?_⟩) hHeld ?_
    rotate_left
    · intro w hSw
      go_simp
      with_reducible rfl
    simp only [Act.put, List.setIfInBounds_toArray, List.set_cons_zero, List.set_cons_succ]
    refine wpAnyH_ready (rs := [10]) (by kernel_rfl) (by simp) ?_
    refine AllReadyH.cons rfl (fun K hK => ?_) AllReadyH.nil
    rw [if_pos (by rfl)]
    refine wp_store_mid _ _ _ rfl b 2 p.cells.toArray rfl rfl TH2.out infoPtp (all_oneCell_toArray ho) ?_
    refine hK.out _ _ (World.rangeAt_setCells_apart hHeld b 2 p.cells (Or.inl hne)) (fun hHeld => ?_)
    clear hK K
    simp only [Act.put, List.setIfInBounds_toArray, List.set_cons_zero, List.set_cons_succ, List.toList_toArray]
    have hx3 := heap_sets p.cells 2 _ _ (heap_set HXX.out 1 (.bool true))
    rw [set_sync] at hx3
    have HX3 := Lib.hid (show ExAt _ b _ from hx3)
    clear hx3
    have HT3 := Lib.hid (Touch.sets p.cells 2 _ ((Touch.of HBB.out).set (b := b) 1 (.bool true)))
    generalize (w2.setCell ⟨b, 1, none⟩ (.bool true)).setCells b 2 p.cells = w3 at *
    have x23 : w3.cell? ⟨b, 23, none⟩ = some (.int .i64 x.came) := HX3.out.cell 23
    have f23 := HX3.out.free 23
    refine wpAnyH_take (i := 11) (oi := _) (v := ?_) rfl (by kernel_rfl) (by kernel_rfl) (by kernel_rfl) (fun _ _ _ h => h) (Or.inl ⟨by rfl, ?_⟩) hHeld ?_
    rotate_left
    · intro w hSw
      go_simp
      with_reducible rfl
    simp only [Act.put, List.setIfInBounds_toArray, List.set_cons_zero, List.set_cons_succ]
    refine wpAnyH_take (i := 12) (oi := _) (v := ?_) rfl (by kernel_rfl) (by kernel_rfl) (by kernel_rfl) (fun _ _ _ h => h) (Or.inl ⟨by rfl, ?_⟩) hHeld ?_
    rotate_left
    · intro w hSw
      go_simp
      with_reducible rfl
    simp only [Act.put, List.setIfInBounds_toArray, List.set_cons_zero, List.set_cons_succ]
    refine wpAnyH_ready (rs := [13]) (by kernel_rfl) (by simp) ?_
    refine AllReadyH.cons rfl (fun K hK => ?_) AllReadyH.nil
    go_simp
    refine hK.out _ _ (World.rangeAt_setCells_apart hHeld b 23 [.int .i64 t] (Or.inl hne)) (fun hHeld => ?_)
    clear hK K
    refine wpAnyH_done (by kernel_rfl) ?_ _
    clear hHeld
    go_wp2_with fail
    go_ret
    exact ⟨rfl, heap_set HX3.out 23 _, HT3.out.set _ _⟩
  · rw [hit] at HI
    have hat := at_any p.sec p.nano
    obtain ⟨v, hv⟩ : ∃ v, atF p.sec p.nano = v := ⟨_, rfl⟩
    have HTW := Lib.hid htw
    have HIT := Lib.hid hit
    have c3 : w1.cell? ⟨w.heap.size, 3, none⟩ = some (.int .i64 p.corr) := HP1.out 3 (by decide)
    have c8 : w1.cell? ⟨w.heap.size, 8, none⟩ = some (.int .i64 p.sec) := HP1.out 8 (by decide)
    have c9 : w1.cell? ⟨w.heap.size, 9, none⟩ = some (.int .i64 p.nano) := HP1.out 9 (by decide)
    unfold twoB at htw
    rw [hv] at hat
    cases hab : atB p.sec p.nano
    all_goals rw [hab] at hat
    all_goals have HAT := Lib.hid hat
    all_goals have HAB := Lib.hid hab
    all_goals have HV := Lib.hid hv
    all_goals clear hat hab hv hit
    · have e1 : r = 3 := by rw [← HR.out]; simp [HIT.out, HTW.out, HAB.out]
      have e2 : y = x := by rw [← HY.out]; simp [HIT.out, HTW.out, HAB.out]
      subst e1 e2
      clear x1 x24 x25
      go_wp2_with (go_at_call 60; refine (HI.out _).mono ?_; rintro e _ ⟨rfl, rfl⟩)
      refine (HAT.out _).mono ?_
      rintro e w2 ⟨rfl, hb2⟩
      have HB2 := Lib.hid (below_then HB1.out hb2)
      have HX2 := Lib.hid (HX1.out.below hb2)
      clear hb2
      go_wp2_with fail
      go_ret
      exact ⟨rfl, HX2.out, .of HB2.out⟩
    · have e1 : r = 0 := by rw [← HR.out]; simp [HIT.out, HTW.out, HAB.out]
      have e2 : y = { x with waits := false, complete := true, gap := wrap64 (wrap64 (t - v) - nanoF p.corr) } := by rw [← HY.out]; simp [HIT.out, HTW.out, HAB.out, HV.out]
      subst e1 e2
      go_wp2_with (go_at_call 60; refine (HI.out _).mono ?_; rintro e _ ⟨rfl, rfl⟩)
      refine (HAT.out _).mono ?_
      rintro e w2 ⟨rfl, hb2⟩
      have y1 : w2.cell? ⟨b, 1, none⟩ = some (.bool x.waits) := cell_below hb2 x1
      have y24 : w2.cell? ⟨b, 24, none⟩ = some (.bool x.complete) := cell_below hb2 x24
      have y25 : w2.cell? ⟨b, 25, none⟩ = some (.int .i64 x.gap) := cell_below hb2 x25
      have hx2 := HX1.out.below hb2
      have g1 := hx2.free 1
      have g24 := hx2.free 24
      have g25 := hx2.free 25
      have d3 : w2.cell? ⟨w.heap.size, 3, none⟩ = some (.int .i64 p.corr) := cell_below hb2 c3
      have hne : w.heap.size ≠ b := by omega
      have hne' : b ≠ w.heap.size := by omega
      have HB2 := Lib.hid (below_then HB1.out hb2)
      have HX2 := Lib.hid hx2
      clear x1 x24 x25 c2 c3 c8 c9 hb2 hx2 f1 f24 f25
      go_wp2_with (go_at_call 69; refine (nano_any _ _).mono ?_; rintro e _ ⟨rfl, rfl⟩)
      go_ret
      exact ⟨rfl, heap_set (heap_set (heap_set HX2.out 1 _) 24 _) 25 _, (((Touch.of HB2.out).set _ _).set _ _).set _ _⟩
end Go.Proofs.Ytfbmlpdomfchpaa
