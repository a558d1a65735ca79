/- Announce. -/
import Derived.WalkKit
import Derived.LoopTactic
import Derived.Outline
import Derived.Lib.Hide
import Derived.StillTailTactics
import Derived.Deep.QuietTactic
import Derived.BigQuiet
import Derived.Deep.DeepCutAuto
import Derived.Deep.RegionHeld3
import Derived.Test.YtfbmlpdomfchpaaJBd
import Derived.Test.YtfbmlpdomfchpaaPm6
namespace Go.Proofs.Ytfbmlpdomfchpaa
open Go.RowKit
set_option linter.unusedVariables false
set_option linter.unusedSimpArgs false

def portAt (k : Ck) (n : Int) : Option Pst := if 1 ≤ n then k.ports[n.toNat - 1]? else none
def annD (k : Ck) (n : Int) (p : Ptp) : DS := ofF p k.c.id n
def annE (k : Ck) (n : Int) (p : Ptp) (t : Int) : Int := match portAt k n with
  | none => 3
  | some q => if whenF k t ≠ 0 then whenF k t else if ofE p ≠ 0 then ofE p else if p.domain ≠ k.c.domain then 9 else
    if (annD k n p).gm = k.c.id ∨ (annD k n p).sender = k.c.id then 18 else if q.now = 1 ∨ q.now = 2 ∨ q.now = 3 then 15 else hearE q.recs (annD k n p) t
def annK (k : Ck) (n : Int) (p : Ptp) (t : Int) : Ck := match portAt k n with
  | none => k
  | some q => if annE k n p t = 0 then { k with ports := k.ports.set (n.toNat - 1) { q with recs := hearF q.recs (annD k n p) t, mark := t }, at_ := t } else k
theorem port_none {k : Ck} {sps : List Nat} {n : Int} (hl : sps.length = k.ports.length) (h : portAt k n = none) : ptrAt sps n = none := by
  unfold portAt at h
  unfold ptrAt
  by_cases h1 : 1 ≤ n
  · rw [if_pos h1] at h ⊢
    rw [List.getElem?_eq_none (by rw [hl]; exact List.getElem?_eq_none_iff.1 h)]
    rfl
  · rw [if_neg h1]
theorem port_some {k : Ck} {sps : List Nat} {n : Int} {q : Pst} (hl : sps.length = k.ports.length) (h : portAt k n = some q) : ∃ sp, 1 ≤ n ∧ k.ports[n.toNat - 1]? = some q ∧ sps[n.toNat - 1]? = some sp ∧ ptrAt sps n = some ⟨sp, 0, none⟩ := by
  unfold portAt at h
  by_cases h1 : 1 ≤ n
  · rw [if_pos h1] at h
    have hlt : n.toNat - 1 < sps.length := by rw [hl]; exact (List.getElem?_eq_some_iff.1 h).1
    exact ⟨sps[n.toNat - 1], h1, h, List.getElem?_eq_getElem hlt, by rw [ptrAt, if_pos h1, List.getElem?_eq_getElem hlt]; rfl⟩
  · rw [if_neg h1] at h
    cases h
set_option maxRecDepth 100000 in
set_option maxHeartbeats 4000000 in
theorem announce_any {w : World} {base kb : Nat} {S : List Nat} {k : Ck} (h : CkE w base kb S k) (inv : k.Inv) (n : Int) (p : Ptp) (wf : (Lit.int .i64 p.kind).wf = true) (t : Int) :
    Calls Try.prog 21 #[.pointer (some ⟨kb, 0, none⟩), .int .i64 n, p.v, .int .i64 t] w fun e w' => e = .returned (.int .i64 (annE k n p t)) ∧ CkE w' base kb S (annK k n p t) ∧ Stay base S w w' := by
  obtain ⟨r, hr⟩ : ∃ r, annE k n p t = r := ⟨_, rfl⟩
  obtain ⟨k', hk'⟩ : ∃ r, annK k n p t = r := ⟨_, rfl⟩
  rw [hr, hk']
  have HR := Lib.hid hr
  have HKK := Lib.hid hk'
  have HE := Lib.hid h
  have HI := Lib.hid inv
  have HOF := Lib.hid (of_any p wf k.c.id n)
  clear hr hk' h inv wf
  go_enter Try.func21, Try.ntmps21
  refine seq_opaque ?_
  intro T HT
  go_wp2_with fail
  generalize hW : w.alloc _ = w1
  have hb1 : Below w.heap.size w w1 := by rw [← hW]; exact (Below.refl _ _).alloc (Nat.le_refl _) _
  have hp1 : PtpBox w1 w.heap.size p := by rw [← hW]; exact PtpBox.of (heap_alloc_new w _)
  rw [HT.out]
  have HP1 := Lib.hid hp1
  have HB1 := Lib.hid hb1
  have hE1 := HE.out.below hb1
  have HE1 := Lib.hid hE1
  obtain ⟨mb, sps, ft, hC, hS⟩ := hE1
  have HC := Lib.hid hC
  have HS := Lib.hid hS
  have c11 : w1.cell? ⟨kb, 11, none⟩ = some (.map (some mb)) := hC.cell 11
  have hlk := look_run hC.map n
  have HWH := Lib.hid (when_any HE1.out t)
  have hkb := hC.lt kb (.inl rfl)
  clear hW HT hp1 hb1 hC hS
  rcases hpo : portAt k n with _ | q
  · rw [port_none HC.out.len hpo] at hlk
    have er : r = 3 := by rw [← HR.out, annE, hpo]
    have ek : k' = k := by rw [← HKK.out, annK, hpo]
    subst er ek
    clear hpo
    go_wp2_with fail
    go_ret
    exact ⟨rfl, HE1.out, HE.out.stay HB1.out⟩
  obtain ⟨sp, hn1, hq, hsp, hptr⟩ := port_some HC.out.len hpo
  rw [hptr] at hlk
  have HPO := Lib.hid hpo
  have HQ := Lib.hid hq
  have HSP := Lib.hid hsp
  clear hpo hq hsp hptr
  go_wp2_with fail
  refine HWH.out.mono ?_
  rintro e _ ⟨rfl, rfl⟩
  obtain ⟨z, hz⟩ : ∃ z, whenF k t = z := ⟨_, rfl⟩
  rw [hz]
  by_cases hz0 : z = 0
  rotate_left
  · have hzb : (z != 0) = true := by simpa using hz0
    have er : r = z := by rw [← HR.out, annE, HPO.out]; simp [hz, hz0]
    have ek : k' = k := by rw [← HKK.out, annK, HPO.out]; simp only []; rw [if_neg (by rw [HR.out, er]; exact hz0)]
    subst er ek
    clear hz0 hz
    go_wp2_with fail
    go_ret
    exact ⟨rfl, HE1.out, HE.out.stay HB1.out⟩
  subst hz0
  have HZ := Lib.hid hz
  obtain ⟨qp, hqp⟩ : ∃ q, w.heap.size = q := ⟨_, rfl⟩
  have hqp1 : qp < w1.heap.size := by rw [← hqp]; exact World.block_lt_of_cell? w1 _ (HP1.out 0 (by decide))
  rw [hqp] at HP1 ⊢
  have i0 : w1.cell? ⟨kb, 0, none⟩ = some (.int .u64 k.c.id) := HC.out.cell 0
  clear hz hqp c11 hlk HWH
  go_upto_region 9 with fail
  go_cut [11, 12] (fun v11 v12 wx => ∃ qd, v11 = .pointer (some ⟨qd, 0, none⟩) ∧ v12 = .int .i64 (ofE p) ∧ DSBox wx qd (annD k n p) ∧ Below w1.heap.size w1 wx ∧ w1.heap.size ≤ qd)
  case first =>
    refine wp_region_held_drew (S := fun X => X.rangeAt qp 0 p.cells ∧ X.cell? ⟨kb, 0, none⟩ = some (.int .u64 k.c.id)) (by kernel_rfl) ⟨HP1.out.range, i0⟩ (fun hHeld => ?_)
    have HD := Lib.hid (show Below w1.heap.size w1 w1.drew from below_drewN (Below.refl _ _) 1)
    have HSX := Lib.hid (show ∀ X : World, Below w1.heap.size w1 X → (X.rangeAt qp 0 p.cells ∧ X.cell? ⟨kb, 0, none⟩ = some (.int .u64 k.c.id)) from fun X hb => ⟨rangeAt_below HP1.out.range hb, cell_below hb i0⟩)
    clear i0
    generalize w1.drew = w2 at *
    refine' wpAnyH_take (i := 0) (oi := _) (v := _) rfl (by kernel_rfl) (by kernel_rfl) (by kernel_rfl) (fun _ _ _ h => h) (yieldsIf_load_mid (by rfl) _ _ rfl _ _ rfl p.cells _ (fun w h => h.1) Try.underlying42 rfl infoPtp) hHeld ?_
    try simp only [List.getElem_toArray, List.getElem_cons_succ, List.getElem_cons_zero, Act.put, List.setIfInBounds_toArray, List.set_cons_zero, List.set_cons_succ]
    refine wpAnyH_take (i := 1) (oi := _) (v := ?_) rfl (by kernel_rfl) (by kernel_rfl) (by kernel_rfl) (fun _ _ _ h => h) (Or.inl ⟨by rfl, ?_⟩) hHeld ?_
    rotate_left
    · intro w hSw
      (try dsimp only at hSw)
      (try obtain ⟨hS1, hS2⟩ := hSw)
      go_simp
      (try with_reducible rfl)
    try simp only [List.getElem_toArray, List.getElem_cons_succ, List.getElem_cons_zero, Act.put, List.setIfInBounds_toArray, List.set_cons_zero, List.set_cons_succ]
    refine wpAnyH_take (i := 2) (oi := _) (v := ?_) rfl (by kernel_rfl) (by kernel_rfl) (by kernel_rfl) (fun _ _ _ h => h) (Or.inl ⟨by rfl, ?_⟩) hHeld ?_
    rotate_left
    · intro w hSw
      (try dsimp only at hSw)
      (try obtain ⟨hS1, hS2⟩ := hSw)
      go_simp
      (try with_reducible rfl)
    try simp only [List.getElem_toArray, List.getElem_cons_succ, List.getElem_cons_zero, Act.put, List.setIfInBounds_toArray, List.set_cons_zero, List.set_cons_succ]
    refine wpAnyH_take (i := 3) (oi := _) (v := ?_) rfl (by kernel_rfl) (by kernel_rfl) (by kernel_rfl) (fun _ _ _ h => h) (Or.inl ⟨by rfl, ?_⟩) hHeld ?_
    rotate_left
    · intro w hSw
      (try dsimp only at hSw)
      (try obtain ⟨hS1, hS2⟩ := hSw)
      go_simp
      (try with_reducible rfl)
    try simp only [List.getElem_toArray, List.getElem_cons_succ, List.getElem_cons_zero, Act.put, List.setIfInBounds_toArray, List.set_cons_zero, List.set_cons_succ]
    refine wpAnyH_take (i := 4) (oi := _) (v := ?_) rfl (by kernel_rfl) (by kernel_rfl) (by kernel_rfl) (fun _ _ _ h => h) (Or.inl ⟨by rfl, ?_⟩) hHeld ?_
    rotate_left
    · intro w hSw
      (try dsimp only at hSw)
      (try obtain ⟨hS1, hS2⟩ := hSw)
      go_simp
      (try with_reducible rfl)
    try simp only [List.getElem_toArray, List.getElem_cons_succ, List.getElem_cons_zero, Act.put, List.setIfInBounds_toArray, List.set_cons_zero, List.set_cons_succ]
    refine wpAnyH_take (i := 5) (oi := _) (v := ?_) rfl (by kernel_rfl) (by kernel_rfl) (by kernel_rfl) (fun _ _ _ h => h) (Or.inl ⟨by rfl, ?_⟩) hHeld ?_
    rotate_left
    · intro w hSw
      (try dsimp only at hSw)
      (try obtain ⟨hS1, hS2⟩ := hSw)
      go_simp
      (try with_reducible rfl)
    try simp only [List.getElem_toArray, List.getElem_cons_succ, List.getElem_cons_zero, Act.put, List.setIfInBounds_toArray, List.set_cons_zero, List.set_cons_succ]
    refine wpAnyH_take (i := 6) (oi := _) (v := ?_) rfl (by kernel_rfl) (by kernel_rfl) (by kernel_rfl) (fun _ _ _ h => h) (Or.inl ⟨by rfl, ?_⟩) hHeld ?_
    rotate_left
    · intro w hSw
      (try dsimp only at hSw)
      (try obtain ⟨hS1, hS2⟩ := hSw)
      go_simp
      (try with_reducible rfl)
    try simp only [List.getElem_toArray, List.getElem_cons_succ, List.getElem_cons_zero, Act.put, List.setIfInBounds_toArray, List.set_cons_zero, List.set_cons_succ]
    refine wpAnyH_ready (rs := [7, 11]) (by kernel_rfl) (by simp) ?_
    refine AllReadyH.cons rfl (fun K hK => ?_) (AllReadyH.cons rfl (fun K hK => ?_) AllReadyH.nil)
    · go_simp
      go_at_call 16
      refine (HOF.out _).mono ?_
      rintro e w3 ⟨rfl, hb3⟩
      have HA := Lib.hid (below_then HD.out hb3)
      clear hb3
      go_wp2_with fail
      refine hK.out _ _ (HSX.out _ HA.out) (fun hHeld => ?_)
      clear hK K
      try simp only [List.getElem_toArray, List.getElem_cons_succ, List.getElem_cons_zero, Act.put, List.setIfInBounds_toArray, List.set_cons_zero, List.set_cons_succ]
      refine wpAnyH_take (i := 8) (oi := _) (v := ?_) rfl (by kernel_rfl) (by kernel_rfl) (by kernel_rfl) (fun _ _ _ h => h) (Or.inl ⟨by rfl, ?_⟩) hHeld ?_
      rotate_left
      · intro w hSw
        (try dsimp only at hSw)
        (try obtain ⟨hS1, hS2⟩ := hSw)
        go_simp
        (try with_reducible rfl)
      try simp only [List.getElem_toArray, List.getElem_cons_succ, List.getElem_cons_zero, Act.put, List.setIfInBounds_toArray, List.set_cons_zero, List.set_cons_succ]
      refine wpAnyH_take (i := 9) (oi := _) (v := ?_) rfl (by kernel_rfl) (by kernel_rfl) (by kernel_rfl) (fun _ _ _ h => h) (Or.inl ⟨by rfl, ?_⟩) hHeld ?_
      rotate_left
      · intro w hSw
        (try dsimp only at hSw)
        (try obtain ⟨hS1, hS2⟩ := hSw)
        go_simp
        (try with_reducible rfl)
      try simp only [List.getElem_toArray, List.getElem_cons_succ, List.getElem_cons_zero, Act.put, List.setIfInBounds_toArray, List.set_cons_zero, List.set_cons_succ]
      refine wpAnyH_take (i := 10) (oi := _) (v := ?_) rfl (by kernel_rfl) (by kernel_rfl) (by kernel_rfl) (fun _ _ _ h => h) (Or.inl ⟨by rfl, ?_⟩) hHeld ?_
      rotate_left
      · intro w hSw
        (try dsimp only at hSw)
        (try obtain ⟨hS1, hS2⟩ := hSw)
        go_simp
        (try with_reducible rfl)
      try simp only [List.getElem_toArray, List.getElem_cons_succ, List.getElem_cons_zero, Act.put, List.setIfInBounds_toArray, List.set_cons_zero, List.set_cons_succ]
      refine wpAnyH_ready (rs := [11]) (by kernel_rfl) (by simp) ?_
      refine AllReadyH.cons rfl (fun K hK => ?_) AllReadyH.nil
      go_simp
      have HA4 := Lib.hid (Below.alloc HA.out HA.out.size (Obj.cells #[.int .i64 0, .int .i64 0, .int .i64 0, .int .i64 0, .int .i64 0, .int .u64 0, .int .i64 0, .int .u64 0, .int .i64 0, .int .u64 0, .int .i64 0] 35))
      have hz : DSBox (w3.alloc (.cells #[.int .i64 0, .int .i64 0, .int .i64 0, .int .i64 0, .int .i64 0, .int .u64 0, .int .i64 0, .int .u64 0, .int .i64 0, .int .u64 0, .int .i64 0] 35)) w3.heap.size .zero := heap_alloc_new w3 _
      refine hK.out _ _ (HSX.out _ HA4.out) (fun hHeld => ?_)
      clear hK K
      try simp only [List.getElem_toArray, List.getElem_cons_succ, List.getElem_cons_zero, Act.put, List.setIfInBounds_toArray, List.set_cons_zero, List.set_cons_succ]
      generalize w3.alloc _ = w4 at *
      have HZB := Lib.hid hz
      clear hz
      refine wpAnyH_ready (rs := [12]) (by kernel_rfl) (by simp) ?_
      refine AllReadyH.cons rfl (fun K hK => ?_) AllReadyH.nil
      rw [if_pos (by rfl)]
      refine wp_store_mid _ _ _ rfl w3.heap.size 0 (annD k n p).cells.toArray rfl rfl HZB.out.there infoDS11 (by simp [DS.cells, Value.oneCell']) ?_
      have hz5 := HZB.out.sets (annD k n p)
      have ht5 : Touch w3.heap.size w4 (w4.setCells w3.heap.size 0 (annD k n p).cells) := Touch.setsD (Touch.refl _ _) _
      have HB5 := Lib.hid (Touch.below HA4.out ht5 HA.out.size (Nat.le_refl _))
      refine hK.out _ _ (HSX.out _ HB5.out) (fun hHeld => ?_)
      clear hK K
      simp only [List.getElem_toArray, List.getElem_cons_succ, List.getElem_cons_zero, Act.put, List.setIfInBounds_toArray, List.set_cons_zero, List.set_cons_succ, List.toList_toArray]
      have HZ5 := Lib.hid hz5
      clear hz5 ht5
      generalize w4.setCells w3.heap.size 0 (annD k n p).cells = w5 at *
      refine wpAnyH_take (i := 13) (oi := _) (v := ?_) rfl (by kernel_rfl) (by kernel_rfl) (by kernel_rfl) (fun _ _ _ h => h) (Or.inl ⟨by rfl, ?_⟩) hHeld ?_
      rotate_left
      · intro w hSw
        (try dsimp only at hSw)
        (try obtain ⟨hS1, hS2⟩ := hSw)
        go_simp
        (try with_reducible rfl)
      try simp only [List.getElem_toArray, List.getElem_cons_succ, List.getElem_cons_zero, Act.put, List.setIfInBounds_toArray, List.set_cons_zero, List.set_cons_succ]
      refine wpAnyH_done (by kernel_rfl) ?_ _
      clear hHeld
      go_wp2_with fail
      go_meet
      case rel => exact ⟨_, rfl, rfl, HZ5.out, HB5.out, HA.out.size⟩
    · go_simp
      have HA3 := Lib.hid (Below.alloc HD.out HD.out.size (Obj.cells #[.int .i64 0, .int .i64 0, .int .i64 0, .int .i64 0, .int .i64 0, .int .u64 0, .int .i64 0, .int .u64 0, .int .i64 0, .int .u64 0, .int .i64 0] 35))
      have hz : DSBox (w2.alloc (.cells #[.int .i64 0, .int .i64 0, .int .i64 0, .int .i64 0, .int .i64 0, .int .u64 0, .int .i64 0, .int .u64 0, .int .i64 0, .int .u64 0, .int .i64 0] 35)) w2.heap.size .zero := heap_alloc_new w2 _
      refine hK.out _ _ (HSX.out _ HA3.out) (fun hHeld => ?_)
      clear hK K
      try simp only [List.getElem_toArray, List.getElem_cons_succ, List.getElem_cons_zero, Act.put, List.setIfInBounds_toArray, List.set_cons_zero, List.set_cons_succ]
      generalize w2.alloc _ = w3 at *
      have HZ3 := Lib.hid hz
      clear hz
      refine wpAnyH_ready (rs := [7]) (by kernel_rfl) (by simp) ?_
      refine AllReadyH.cons rfl (fun K hK => ?_) AllReadyH.nil
      go_simp
      go_at_call 16
      refine (HOF.out _).mono ?_
      rintro e w4 ⟨rfl, hb4⟩
      have HA := Lib.hid (below_then HA3.out hb4)
      have HZB := Lib.hid (HZ3.out.below hb4)
      clear hb4
      go_wp2_with fail
      refine hK.out _ _ (HSX.out _ HA.out) (fun hHeld => ?_)
      clear hK K
      try simp only [List.getElem_toArray, List.getElem_cons_succ, List.getElem_cons_zero, Act.put, List.setIfInBounds_toArray, List.set_cons_zero, List.set_cons_succ]
      refine wpAnyH_take (i := 8) (oi := _) (v := ?_) rfl (by kernel_rfl) (by kernel_rfl) (by kernel_rfl) (fun _ _ _ h => h) (Or.inl ⟨by rfl, ?_⟩) hHeld ?_
      rotate_left
      · intro w hSw
        (try dsimp only at hSw)
        (try obtain ⟨hS1, hS2⟩ := hSw)
        go_simp
        (try with_reducible rfl)
      try simp only [List.getElem_toArray, List.getElem_cons_succ, List.getElem_cons_zero, Act.put, List.setIfInBounds_toArray, List.set_cons_zero, List.set_cons_succ]
      refine wpAnyH_take (i := 9) (oi := _) (v := ?_) rfl (by kernel_rfl) (by kernel_rfl) (by kernel_rfl) (fun _ _ _ h => h) (Or.inl ⟨by rfl, ?_⟩) hHeld ?_
      rotate_left
      · intro w hSw
        (try dsimp only at hSw)
        (try obtain ⟨hS1, hS2⟩ := hSw)
        go_simp
        (try with_reducible rfl)
      try simp only [List.getElem_toArray, List.getElem_cons_succ, List.getElem_cons_zero, Act.put, List.setIfInBounds_toArray, List.set_cons_zero, List.set_cons_succ]
      refine wpAnyH_take (i := 10) (oi := _) (v := ?_) rfl (by kernel_rfl) (by kernel_rfl) (by kernel_rfl) (fun _ _ _ h => h) (Or.inl ⟨by rfl, ?_⟩) hHeld ?_
      rotate_left
      · intro w hSw
        (try dsimp only at hSw)
        (try obtain ⟨hS1, hS2⟩ := hSw)
        go_simp
        (try with_reducible rfl)
      try simp only [List.getElem_toArray, List.getElem_cons_succ, List.getElem_cons_zero, Act.put, List.setIfInBounds_toArray, List.set_cons_zero, List.set_cons_succ]
      refine wpAnyH_ready (rs := [12]) (by kernel_rfl) (by simp) ?_
      refine AllReadyH.cons rfl (fun K hK => ?_) AllReadyH.nil
      rw [if_pos (by rfl)]
      refine wp_store_mid _ _ _ rfl w2.heap.size 0 (annD k n p).cells.toArray rfl rfl HZB.out.there infoDS11 (by simp [DS.cells, Value.oneCell']) ?_
      have hz5 := HZB.out.sets (annD k n p)
      have ht5 : Touch w2.heap.size w4 (w4.setCells w2.heap.size 0 (annD k n p).cells) := Touch.setsD (Touch.refl _ _) _
      have HB5 := Lib.hid (Touch.below HA.out ht5 HD.out.size (Nat.le_refl _))
      refine hK.out _ _ (HSX.out _ HB5.out) (fun hHeld => ?_)
      clear hK K
      try simp only [List.getElem_toArray, List.getElem_cons_succ, List.getElem_cons_zero, Act.put, List.setIfInBounds_toArray, List.set_cons_zero, List.set_cons_succ]
      try simp only [List.toList_toArray]
      have HZ5 := Lib.hid hz5
      clear hz5 ht5
      generalize w4.setCells w2.heap.size 0 (annD k n p).cells = w5 at *
      refine wpAnyH_take (i := 13) (oi := _) (v := ?_) rfl (by kernel_rfl) (by kernel_rfl) (by kernel_rfl) (fun _ _ _ h => h) (Or.inl ⟨by rfl, ?_⟩) hHeld ?_
      rotate_left
      · intro w hSw
        (try dsimp only at hSw)
        (try obtain ⟨hS1, hS2⟩ := hSw)
        go_simp
        (try with_reducible rfl)
      try simp only [List.getElem_toArray, List.getElem_cons_succ, List.getElem_cons_zero, Act.put, List.setIfInBounds_toArray, List.set_cons_zero, List.set_cons_succ]
      refine wpAnyH_done (by kernel_rfl) ?_ _
      clear hHeld
      go_wp2_with fail
      go_meet
      case rel => exact ⟨_, rfl, rfl, HZ5.out, HB5.out, HD.out.size⟩
  case rest =>
    obtain ⟨qd, rfl, rfl, hqd, hbc, hqs⟩ := hcut
    have HBC := Lib.hid (below_then HB1.out hbc)
    have HEC := Lib.hid (HE1.out.below hbc)
    have HCC := Lib.hid (HC.out.below hbc)
    have hSC : ∀ q ∈ S, q < wc.heap.size ∧ ¬ ckFoot kb mb k.ports.length ft q := fun q hq => ⟨Nat.lt_of_lt_of_le (HS.out q hq).1 hbc.size, (HS.out q hq).2⟩
    have HSC := Lib.hid hSC
    have HPC := Lib.hid (HP1.out.below hqp1 hbc)
    have HQD := Lib.hid hqd
    have HQS := Lib.hid hqs
    clear hbc hSC hqd hqs HP1 HC HE1 HS i0
    obtain ⟨ed, hed⟩ : ∃ z, ofE p = z := ⟨_, rfl⟩
    rw [hed]
    by_cases hz : ed = 0
    rotate_left
    · have hzb : (ed != 0) = true := by simpa using hz
      have er : r = ed := by rw [← HR.out, annE, HPO.out]; simp [HZ.out, hed, hz]
      have ek : k' = k := by rw [← HKK.out, annK, HPO.out]; simp only []; rw [if_neg (by rw [HR.out, er]; exact hz)]
      subst er ek
      clear hz hed
      go_wp2_with fail
      go_ret
      exact ⟨rfl, HEC.out, HE.out.stay HBC.out⟩
    subst hz
    have HED := Lib.hid hed
    clear hed
    have p1 : wc.cell? ⟨qp, 1, none⟩ = some (.int .i64 p.domain) := HPC.out 1 (by decide)
    have i6 : wc.cell? ⟨kb, 6, none⟩ = some (.int .i64 k.c.domain) := HCC.out.cell 6
    by_cases hdo : p.domain = k.c.domain
    rotate_left
    · have hzb : (p.domain != k.c.domain) = true := by simpa using hdo
      have er : r = 9 := by rw [← HR.out, annE, HPO.out]; simp [HZ.out, HED.out, hdo]
      have ek : k' = k := by rw [← HKK.out, annK, HPO.out]; simp only []; rw [if_neg (by rw [HR.out, er]; decide)]
      subst er ek
      clear hdo
      go_wp2_with fail
      go_quiet (fail)
      go_wp2_with fail
      go_ret
      exact ⟨rfl, HEC.out.below (below_drewN (Below.refl _ _) _), HE.out.stay (below_drewN HBC.out _)⟩
    have hzb : (p.domain != k.c.domain) = false := by simpa using hdo
    have HDO := Lib.hid hdo
    clear hdo
    go_wp2_with fail
    go_quiet (fail)
    generalize hw2 : wc.drewN _ = w3
    have hd3 : Below wc.heap.size wc w3 := by rw [← hw2]; exact below_drewN (Below.refl _ _) _
    have HB3 := Lib.hid (below_then HBC.out hd3)
    have HE3 := Lib.hid (HEC.out.below hd3)
    have HC3 := Lib.hid (HCC.out.below hd3)
    have HS3 := Lib.hid (show ∀ q ∈ S, q < w3.heap.size ∧ ¬ ckFoot kb mb k.ports.length ft q from fun q hq => ⟨Nat.lt_of_lt_of_le (HSC.out q hq).1 hd3.size, (HSC.out q hq).2⟩)
    have HQ3 := Lib.hid (HQD.out.below hd3)
    clear hw2 hd3 HBC HEC HCC HSC HPC HQD hzb p1 i6
    obtain ⟨d, hd⟩ : ∃ d, annD k n p = d := ⟨_, rfl⟩
    rw [hd] at HQ3
    have HDD := Lib.hid hd
    clear hd
    have q5 : w3.cell? ⟨qd, 5, none⟩ = some (.int .u64 d.gm) := HQ3.out.cell 5
    have q7 : w3.cell? ⟨qd, 7, none⟩ = some (.int .u64 d.sender) := HQ3.out.cell 7
    have i0 : w3.cell? ⟨kb, 0, none⟩ = some (.int .u64 k.c.id) := HC3.out.cell 0
    by_cases hg : d.gm = k.c.id
    · have hgb : (d.gm == k.c.id) = true := by simpa using hg
      have er : r = 18 := by rw [← HR.out, annE, HPO.out]; simp [HZ.out, HED.out, HDO.out, HDD.out, hg]
      have ek : k' = k := by rw [← HKK.out, annK, HPO.out]; simp only []; rw [if_neg (by rw [HR.out, er]; decide)]
      subst er ek
      clear hg
      go_wp2_with fail
      go_quiet (fail)
      go_wp2_with fail
      go_ret
      exact ⟨rfl, HE3.out.below (below_drewN (Below.refl _ _) _), HE.out.stay (below_drewN HB3.out _)⟩
    have hgb : (d.gm == k.c.id) = false := by simpa using hg
    by_cases hs : d.sender = k.c.id
    · have hsb : (d.sender == k.c.id) = true := by simpa using hs
      have er : r = 18 := by rw [← HR.out, annE, HPO.out]; simp [HZ.out, HED.out, HDO.out, HDD.out, hs]
      have ek : k' = k := by rw [← HKK.out, annK, HPO.out]; simp only []; rw [if_neg (by rw [HR.out, er]; decide)]
      subst er ek
      clear hg hs
      go_wp2_with fail
      go_quiet (fail)
      go_wp2_with fail
      go_ret
      exact ⟨rfl, HE3.out.below (below_drewN (Below.refl _ _) _), HE.out.stay (below_drewN HB3.out _)⟩
    have hsb : (d.sender == k.c.id) = false := by simpa using hs
    have HG := Lib.hid (And.intro hg hs)
    clear hg hs
    go_wp2_with fail
    go_quiet (fail)
    generalize hw2 : w3.drewN _ = w4
    have hd4 : Below w3.heap.size w3 w4 := by rw [← hw2]; exact below_drewN (Below.refl _ _) _
    have HB4 := Lib.hid (below_then HB3.out hd4)
    have HE4 := Lib.hid (HE3.out.below hd4)
    have HC4 := Lib.hid (HC3.out.below hd4)
    have HS4 := Lib.hid (show ∀ q ∈ S, q < w4.heap.size ∧ ¬ ckFoot kb mb k.ports.length ft q from fun q hq => ⟨Nat.lt_of_lt_of_le (HS3.out q hq).1 hd4.size, (HS3.out q hq).2⟩)
    have HQ4 := Lib.hid (HQ3.out.below hd4)
    clear hw2 hd4 HB3 HE3 HC3 HS3 HQ3 q5 q7 i0 hgb hsb
    obtain ⟨rb, xb, lv, hs, hP, hf⟩ := (Run.start HC4.out).port HQ.out HSP.out
    have x0 : w4.cell? ⟨sp, 0, none⟩ = some (.int .i64 q.now) := hP.cell 0
    have HP := Lib.hid hP
    have HF := Lib.hid hf
    clear hP hf
    by_cases hn : q.now = 1 ∨ q.now = 2 ∨ q.now = 3
    · have er : r = 15 := by rw [← HR.out, annE, HPO.out]; simp [HZ.out, HED.out, HDO.out, HDD.out, HG.out, hn]
      have ek : k' = k := by rw [← HKK.out, annK, HPO.out]; simp only []; rw [if_neg (by rw [HR.out, er]; decide)]
      subst er ek
      have HXX := HP
      clear HXX
      rcases hn with hn | hn | hn
      all_goals rw [hn] at x0
      all_goals clear hn
      all_goals go_wp2_with fail
      all_goals go_ret
      all_goals exact ⟨rfl, HE4.out, HE.out.stay HB4.out⟩
    have n1 : (q.now == 1) = false := by simp; omega
    have n2 : (q.now == 2) = false := by simp; omega
    have n3 : (q.now == 3) = false := by simp; omega
    have HN := Lib.hid hn
    clear hn
    go_upto_region 18 with fail
    have x4 : w4.cell? ⟨sp, 4, none⟩ = some (.pointer (some ⟨rb, 0, none⟩)) := HP.out.cell 4
    have z0 : w4.cell? ⟨qd, 0, none⟩ = some (.int .i64 d.p1) := HQ4.out.cell 0
    have z1 : w4.cell? ⟨qd, 1, none⟩ = some (.int .i64 d.cls) := HQ4.out.cell 1
    have z2 : w4.cell? ⟨qd, 2, none⟩ = some (.int .i64 d.acc) := HQ4.out.cell 2
    have z3 : w4.cell? ⟨qd, 3, none⟩ = some (.int .i64 d.var) := HQ4.out.cell 3
    have z4 : w4.cell? ⟨qd, 4, none⟩ = some (.int .i64 d.p2) := HQ4.out.cell 4
    have z5 : w4.cell? ⟨qd, 5, none⟩ = some (.int .u64 d.gm) := HQ4.out.cell 5
    have z6 : w4.cell? ⟨qd, 6, none⟩ = some (.int .i64 d.steps) := HQ4.out.cell 6
    have z7 : w4.cell? ⟨qd, 7, none⟩ = some (.int .u64 d.sender) := HQ4.out.cell 7
    have z8 : w4.cell? ⟨qd, 8, none⟩ = some (.int .i64 d.sport) := HQ4.out.cell 8
    have z9 : w4.cell? ⟨qd, 9, none⟩ = some (.int .u64 d.recv) := HQ4.out.cell 9
    have z10 : w4.cell? ⟨qd, 10, none⟩ = some (.int .i64 d.rport) := HQ4.out.cell 10
    go_still_tail 6, (by kernel_rfl)
    change wpList _ _ _ _ _ (World.drew w4)
    have hd5 : Below w4.heap.size w4 w4.drew := below_drewN (Below.refl _ _) 1
    generalize w4.drew = w5 at hd5 ⊢
    have HB5 := Lib.hid (below_then HB4.out hd5)
    have HE5 := Lib.hid (HE4.out.below hd5)
    have HD5 := Lib.hid hd5
    have HP5 := Lib.hid (HP.out.below hd5)
    clear hd5 x0 x4 z0 z1 z2 z3 z4 z5 z6 z7 z8 z9 z10 n1 n2 n3
    have hq5 := HI.out.ports q (List.mem_of_getElem? HQ.out)
    have HQI := Lib.hid hq5
    clear hq5
    obtain ⟨eh, heh⟩ : ∃ z, hearE q.recs d t = z := ⟨_, rfl⟩
    have ere : r = eh := by rw [← HR.out, annE, HPO.out]; simp [HZ.out, HED.out, HDO.out, HDD.out, HG.out, HN.out, heh]
    by_cases hez : eh = 0
    rotate_left
    · have hebn : hearE q.recs d t ≠ 0 := by rw [heh]; exact hez
      have HBAD := Lib.hid (hear_bad HP5.out.recs d t hebn)
      rw [heh] at HBAD
      have hzb : (eh != 0) = true := by simpa using hez
      have ek : k' = k := by rw [← HKK.out, annK, HPO.out]; simp only []; rw [if_neg (by rw [HR.out, ere]; exact hez)]
      subst ere ek
      clear hez heh hebn
      go_wp2_with fail
      refine HBAD.out.mono ?_
      rintro e w6 ⟨rfl, hb6⟩
      have HB6 := Lib.hid hb6
      clear hb6
      go_wp2_with fail
      go_ret
      exact ⟨rfl, HE5.out.below HB6.out, HE.out.stay (below_then HB5.out HB6.out)⟩
    subst hez
    have ek : k' = { k with ports := k.ports.set (n.toNat - 1) { q with recs := hearF q.recs d t, mark := t }, at_ := t } := by rw [← HKK.out, annK, HPO.out]; simp only []; rw [if_pos (by rw [HR.out, ere]), HDD.out]
    have HGOOD := Lib.hid (hear_any HP5.out.recs (by have := HQI.out.recs.five; omega) (fun r hr => HQI.out.recs.eight r hr) d t heh)
    subst ere
    have HKE := Lib.hid ek
    clear ek heh
    go_wp2_with fail
    refine HGOOD.out.mono ?_
    rintro e w6 ⟨rfl, lv', hs', hF6, hk6, hm6⟩
    have hk46 : Keep (mine rb lv hs) w4 w6 := (Keep.of (M := mine rb lv hs) HD5.out).trans hk6 (fun g hg => .inl hg)
    have hr6 := HF.out w6 { q with recs := hearF q.recs d t } rb xb lv' hs' _ hk46 (fun g hg => .inr (.inr hg)) (HP5.out.records hF6 hk6 (fun g hg => hg) hm6) (fun g hg => by
      rcases hg with h | h | h
      · exact .inl (.inl h)
      · exact .inl (.inr (.inl h))
      · rcases hm6 g h with h | h
        · exact .inl (.inr (.inr h))
        · exact .inr (Nat.le_trans HD5.out.size h))
    have y12 := hr6.cell 12
    have g12 := hr6.free 12
    have y12 : w6.cell? ⟨kb, 12, none⟩ = some (.int .i64 k.at_) := y12
    have HR6 := Lib.hid hr6
    have hset : (k.ports.set (n.toNat - 1) { q with recs := hearF q.recs d t })[n.toNat - 1]? = some { q with recs := hearF q.recs d t } := List.getElem?_set_self (List.getElem?_eq_some_iff.1 HQ.out).1
    have HSET := Lib.hid hset
    clear hF6 hk6 hm6 hk46 hr6 hset HGOOD HP5 HF
    go_upto_region 22 with fail
    generalize hw7 : w6.setCell _ _ = w7
    have ht7 : Touch kb w6 w7 := by rw [← hw7]; exact (Touch.refl kb w6).set 12 _
    have hr7 : Run w4 base kb mb sps ft k.ports.length w7 { k with ports := k.ports.set (n.toNat - 1) { q with recs := hearF q.recs d t }, at_ := t } := HR6.out.head ht7 (by rw [← hw7, heap_set HR6.out.row]; rfl) rfl
    obtain ⟨rb2, xb2, lv2, hs2, hP7, hf7⟩ := hr7.port HSET.out HSP.out
    have f1 := hP7.free 1
    have v1 : w7.cell? ⟨sp, 1, none⟩ = some (.int .i64 q.mark) := hP7.cell 1
    have HP7 := Lib.hid hP7
    have HF7 := Lib.hid hf7
    clear hw7 ht7 hr7 hP7 hf7 y12 g12
    go_wp2_with fail
    go_ret
    have ht8 : Touch sp w7 (w7.setCell ⟨sp, 1, none⟩ (.int .i64 t)) := (Touch.refl sp w7).set 1 _
    have hP8 : PortIs (w7.setCell ⟨sp, 1, none⟩ (.int .i64 t)) base sp { q with recs := hearF q.recs d t, mark := t } rb2 xb2 lv2 hs2 := HP7.out.write ht8 (by rw [heap_set HP7.out.row]; rfl) rfl rfl
    have hr8 := HF7.out _ { q with recs := hearF q.recs d t, mark := t } rb2 xb2 lv2 hs2 (fun g => g = sp) (Keep.touch ht8 rfl) (fun g hg => .inl hg) hP8 (fun g hg => .inl hg)
    simp only [List.set_set] at hr8
    obtain ⟨h1, h2⟩ := hr8.done HC4.out rfl HS4.out
    refine ⟨rfl, ?_, (HE.out.stay HB4.out).trans h2⟩
    rw [HKE.out]
    exact h1
end Go.Proofs.Ytfbmlpdomfchpaa
