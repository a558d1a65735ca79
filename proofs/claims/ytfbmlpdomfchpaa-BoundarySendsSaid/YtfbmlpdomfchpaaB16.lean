/- Send. -/
import Derived.WalkKit
import Derived.LoopTactic
import Derived.Outline
import Derived.Lib.Hide
import Derived.OwnWalk
import Derived.Deep.QuietTactic
import Derived.BigQuiet
import Derived.Deep.DeepCutAuto
import Derived.Deep.CutBlock
import Derived.Deep.RegionHeld3
import Derived.Test.YtfbmlpdomfchpaaJBd
namespace Go.Proofs.Ytfbmlpdomfchpaa
open Go.RowKit
set_option linter.unusedVariables false
set_option linter.unusedSimpArgs false

theorem set_self {α : Type} {l : List α} {j : Nat} {x : α} (h : l[j]? = some x) : l.set j x = l := by
  apply List.ext_getElem?
  intro i
  rw [List.getElem?_set]
  by_cases e : j = i
  · subst e
    rw [if_pos rfl, if_pos (List.getElem?_eq_some_iff.1 h).1, h]
  · rw [if_neg e]
set_option maxRecDepth 100000 in
set_option maxHeartbeats 4000000 in
theorem bsend_any {w : World} {base kb : Nat} {S : List Nat} {k : Ck} (h : CkE w base kb S k) (inv : k.Inv) (hs0 : 0 ≤ k.fol.steps) (hs1 : k.fol.steps ≤ 1000) :
    Calls Try.prog 15 #[.pointer (some ⟨kb, 0, none⟩)] w fun e w' => ∃ A c, e = .returned (.slice A (sendL k).length c) ∧ PMArg w' A (sendL k).length c (sendL k) ∧ CkE w' base kb (blkL A ++ S) (sendK k) ∧ Stay base S w w' := by
  obtain ⟨f, hf⟩ : ∃ f, k.fol = f := ⟨_, rfl⟩
  obtain ⟨st, hst⟩ : ∃ f, stepsF k = f := ⟨_, rfl⟩
  obtain ⟨L, hL⟩ : ∃ L, sendL k = L := ⟨_, rfl⟩
  obtain ⟨K', hK'⟩ : ∃ L, sendK k = L := ⟨_, rfl⟩
  rw [hL, hK']
  rw [hf] at hs0 hs1
  obtain ⟨mb, sps, ft, hC, hS⟩ := h
  have hfr := hC.fol_range
  rw [hf] at hfr
  have HFR := Lib.hid hfr
  have HF := Lib.hid hf
  have HST := Lib.hid hst
  have HL := Lib.hid hL
  have HK := Lib.hid hK'
  have HI := Lib.hid inv
  have HC := Lib.hid hC
  have HS := Lib.hid hS
  clear hf hst hL hK' inv hC hS hfr
  go_enter Try.func15, Try.ntmps15
  have hz1 : DSBox (w.alloc (.cells #[.int .i64 0, .int .i64 0, .int .i64 0, .int .i64 0, .int .i64 0, .int .u64 0, .int .i64 0, .int .u64 0, .int .i64 0, .int .u64 0, .int .i64 0] 35)) w.heap.size .zero := heap_alloc_new w _
  have hl1 : Below w.heap.size w (w.alloc (.cells #[.int .i64 0, .int .i64 0, .int .i64 0, .int .i64 0, .int .i64 0, .int .u64 0, .int .i64 0, .int .u64 0, .int .i64 0, .int .u64 0, .int .i64 0] 35)) := (Below.refl _ _).alloc (Nat.le_refl _) _
  have HZ1 := Lib.hid hz1
  have HL1 := Lib.hid hl1
  clear hz1 hl1
  go_upto_region 5 with (first | (refine load_ds HFR.out _ (by rfl) rfl rfl ?_) | (refine store_ds_k (d := f) HZ1.out _ _ (by rfl) rfl rfl rfl ?_; intro w1 h1))
  try simp only [Act.put, List.setIfInBounds_toArray, List.set_cons_succ, List.set_cons_zero]
  obtain ⟨qd, hqd⟩ : ∃ q, w.heap.size = q := ⟨_, rfl⟩
  have HB1 := Lib.hid (Touch.below HL1.out h1.out.2 (Nat.le_refl _) (Nat.le_refl _))
  have HQ1 := Lib.hid h1.out.1
  rw [hqd] at HQ1 ⊢
  have HQL := Lib.hid hqd
  have HE1 := Lib.hid (show CkE w1 base kb (qd :: S) k from CkE.add ⟨mb, sps, ft, HC.out, HS.out⟩ HB1.out (Nat.le_of_eq hqd) (DSBox.lt HQ1.out))
  clear hqd h1 HZ1 HL1 HFR
  go_cut [17] (fun v17 wx => v17 = .bool (!decide (f = k.c.own)) ∧ Below w1.heap.size w1 wx)
  case first =>
    have hne := neq_ds f k.c.own
    have z0 : ∀ u : Aft w1, u.now.cell? ⟨qd, 0, none⟩ = some (.int .i64 f.p1) := fun u => u.cell (HQ1.out.cell 0)
    have z1 : ∀ u : Aft w1, u.now.cell? ⟨qd, 1, none⟩ = some (.int .i64 f.cls) := fun u => u.cell (HQ1.out.cell 1)
    have z2 : ∀ u : Aft w1, u.now.cell? ⟨qd, 2, none⟩ = some (.int .i64 f.acc) := fun u => u.cell (HQ1.out.cell 2)
    have z3 : ∀ u : Aft w1, u.now.cell? ⟨qd, 3, none⟩ = some (.int .i64 f.var) := fun u => u.cell (HQ1.out.cell 3)
    have z4 : ∀ u : Aft w1, u.now.cell? ⟨qd, 4, none⟩ = some (.int .i64 f.p2) := fun u => u.cell (HQ1.out.cell 4)
    have z5 : ∀ u : Aft w1, u.now.cell? ⟨qd, 5, none⟩ = some (.int .u64 f.gm) := fun u => u.cell (HQ1.out.cell 5)
    have z6 : ∀ u : Aft w1, u.now.cell? ⟨qd, 6, none⟩ = some (.int .i64 f.steps) := fun u => u.cell (HQ1.out.cell 6)
    have z7 : ∀ u : Aft w1, u.now.cell? ⟨qd, 7, none⟩ = some (.int .u64 f.sender) := fun u => u.cell (HQ1.out.cell 7)
    have z8 : ∀ u : Aft w1, u.now.cell? ⟨qd, 8, none⟩ = some (.int .i64 f.sport) := fun u => u.cell (HQ1.out.cell 8)
    have z9 : ∀ u : Aft w1, u.now.cell? ⟨qd, 9, none⟩ = some (.int .u64 f.recv) := fun u => u.cell (HQ1.out.cell 9)
    have z10 : ∀ u : Aft w1, u.now.cell? ⟨qd, 10, none⟩ = some (.int .i64 f.rport) := fun u => u.cell (HQ1.out.cell 10)
    refine wp_region_calm (by kernel_rfl) (by kernel_rfl) ?_
    repeat (go_big_quiet_step ((go_at_call 31; exact calm_of (own_ck (HE1.out.below (Aft.below _))))))
    refine wpQuiet_nil ?_
    rintro _ ⟨u, rfl⟩
    clear z0 z1 z2 z3 z4 z5 z6 z7 z8 z9 z10
    go_wp2_with fail
    go_meet
    case rel => exact ⟨rfl, u.below⟩
  case rest =>
    obtain ⟨rfl, hb2⟩ := hcut
    obtain ⟨w2, rfl⟩ : ∃ x : World, x = wc := ⟨_, rfl⟩
    have HB2 := Lib.hid (below_then HB1.out hb2)
    have HQ2 := Lib.hid (HQ1.out.below hb2)
    have HE2 := Lib.hid (HE1.out.below hb2)
    have q6 : w2.cell? ⟨qd, 6, none⟩ = some (.int .i64 f.steps) := HQ2.out.cell 6
    clear hb2 HQ1 HE1
    obtain ⟨nb, hnb⟩ : ∃ b, (!decide (f = k.c.own)) = b := ⟨_, rfl⟩
    rw [hnb]
    have HNB := Lib.hid hnb
    clear hnb
    go_upto_if 17 with fail
    go_cut [4] (fun v4 wx => v4 = .int .i64 st ∧ wx = w2)
    case first =>
      cases nb
      · have hfo : f = k.c.own := by simpa using HNB.out
        have HX := Lib.hid (show st = 0 by rw [← HST.out, stepsF, if_pos (by rw [HF.out]; exact hfo)])
        clear hfo
        go_wp2_with fail
        go_meet
        case rel => exact ⟨by rw [HX.out], rfl⟩
      · have hfo : ¬ f = k.c.own := by simpa using HNB.out
        have HX := Lib.hid (show st = f.steps + 1 by rw [← HST.out, stepsF, if_neg (by rw [HF.out]; exact hfo), HF.out])
        clear hfo
        go_wp2_with fail
        go_meet
        case rel => exact ⟨by rw [HX.out], rfl⟩
    case rest =>
      obtain ⟨rfl, rfl⟩ := hcut
      obtain ⟨w2, rfl⟩ : ∃ x : World, x = wc := ⟨_, rfl⟩
      clear q6
      have hst0 : 0 ≤ st ∧ st ≤ 1001 := by
        rw [← HST.out, stepsF]
        split
        · omega
        · rw [HF.out]; omega
      obtain ⟨hst0, hst1⟩ := hst0
      by_cases hlong : 32 ≤ st
      · have hd : decide (32 ≤ st) = true := by simpa using hlong
        have HX := Lib.hid (show L = [] ∧ K' = k from ⟨by rw [← HL.out, sendL, if_pos (by rw [HST.out]; exact hlong)], by rw [← HK.out, sendK, if_pos (by rw [HST.out]; exact hlong)]⟩)
        clear hlong
        go_wp2_with fail
        go_ret
        refine ⟨none, 0, by rw [HX.out.1]; rfl, ⟨rfl, by rw [HX.out.1]; exact Nat.le_refl _, by omega, fun _ => ⟨by rw [HX.out.1]; rfl, rfl⟩, fun h0 => by rw [HX.out.1] at h0; simp at h0⟩, ?_, ?_⟩
        · rw [HX.out.2]
          exact HE2.out.less (fun q hq => by simpa [blkL] using .inr hq)
        · exact CkE.stay ⟨mb, sps, ft, HC.out, HS.out⟩ HB2.out
      have hd : decide (32 ≤ st) = false := by simpa using hlong
      have HX := Lib.hid (show L = sendTo k k.ports.length ∧ K' = { k with ports := turnI sendI k.ports k.ports.length } from ⟨by rw [← HL.out, sendL, if_neg (by rw [HST.out]; exact hlong)], by rw [← HK.out, sendK, if_neg (by rw [HST.out]; exact hlong)]⟩)
      have HSL := Lib.hid hlong
      clear hlong
      have HST0 := Lib.hid (show Stay base S w w2 from CkE.stay ⟨mb, sps, ft, HC.out, HS.out⟩ HB2.out)
      obtain ⟨mb, sps, ft, hC2, hS2⟩ := HE2.out
      obtain ⟨n, hn⟩ : ∃ n, k.ports.length = n := ⟨_, rfl⟩
      have hn0 : 0 < n := by have := (insB_spec HI.out.conf.ports).1; have := HI.out.num; omega
      have hn8 : n ≤ 8 := by have := (insB_spec HI.out.conf.ports).2; have := HI.out.num; omega
      have hnc : k.c.ports = (n : Int) := by have := HI.out.num; omega
      have HNC := Lib.hid hnc
      have hr2 := Run0.start hC2
      rw [hn] at hr2 hS2
      have HC2 := Lib.hid hC2
      have HS2 := Lib.hid hS2
      have HR2 := Lib.hid hr2
      have HN := Lib.hid hn
      obtain ⟨i0, hi0, hz0, hz1, hz2⟩ := info_parts infoPM
      clear hnc hr2 hC2 hS2 hn HC HS HE2
      go_wp2_with fail
      go_loopw [5, 6] (fun vl vi wr => ∃ j : Nat, j ≤ n ∧ vi = .int .i64 ((j : Int) + 1) ∧ wr.ownsRow w2.heap.size 53 22 vl (sendTo k j).length ((sendTo k j).flatMap PM.cells) ∧ Run0 w2 base kb mb sps ft n wr { k with ports := turnI sendI k.ports j }) (fun _ vi _ => n + 1 - (intOf vi).toNat)
      case atStart => exact ⟨0, Nat.zero_le _, rfl, World.ownsRow_nil _ _ _ _, HR2.out⟩
      case round =>
        obtain ⟨j, hj, rfl, hown, hr⟩ := hrel
        have HOWN := Lib.hid hown
        have HR := Lib.hid hr
        have c7 : wr.cell? ⟨kb, 7, none⟩ = some (.int .i64 (n : Int)) := by rw [← HNC.out]; exact hr.run.cell 7
        clear hown hr
        by_cases hlt : j < n
        · have hle : decide ((j : Int) + 1 ≤ (n : Int)) = true := by simp; omega
          obtain ⟨p, hp⟩ : ∃ p, k.ports[j]? = some p := ⟨_, List.getElem?_eq_getElem (by rw [HN.out]; exact hlt)⟩
          have hpt : ({ k with ports := turnI sendI k.ports j } : Ck).ports[j]? = some p := turnI_at _ hp
          have hsl : sps.length = n := by have := HC2.out.len; rw [this]; exact HN.out
          obtain ⟨sp, hsp⟩ : ∃ sp, sps[j]? = some sp := ⟨_, List.getElem?_eq_getElem (by rw [hsl]; exact hlt)⟩
          obtain ⟨rb, xb, lv, hs, hP, hspl, hturn⟩ := HR.out.port HC2.out HN.out hpt hsp
          have hne := HR.out.run.port_ne hpt hsp
          have c11 : wr.cell? ⟨kb, 11, none⟩ = some (.map (some mb)) := HR.out.run.cell 11
          have hlk := look_run HR.out.run.map ((j : Int) + 1)
          rw [ptr_of hsp] at hlk
          have x0 : wr.cell? ⟨sp, 0, none⟩ = some (.int .i64 p.now) := hP.cell 0
          have hpi := HI.out.ports p (List.mem_of_getElem? hp)
          have ha0 := hpi.ann0
          have ha1 := hpi.ann1
          have HP := Lib.hid hP
          have HTU := Lib.hid hturn
          have HPP := Lib.hid hp
          have HT2 := Lib.hid hsp
          clear hp hpt hsl hsp hP hturn hpi
          by_cases h6 : p.now = 6
          · have h6b : (p.now == 6) = true := by simpa using h6
            have HLT := Lib.hid (show sendTo k (j + 1) = sendTo k j ++ [sendM k j p] by rw [sendTo, HPP.out]; simp only []; rw [if_pos h6])
            have HPT := Lib.hid (show (turnI sendI k.ports j).set j { p with ann := (p.ann + 1) % 65536 } = turnI sendI k.ports (j + 1) by rw [← turnI_set sendI HPP.out, sendI, if_pos h6])
            clear h6
            go_upto_region 15 with (go_at_call 32; refine (sends_any _ _).mono ?_; rintro e w' ⟨rfl, rfl⟩)
            have HMX := Lib.hid (show sendM k j p = sendX k.c.domain k.c.id f st j p.ann by rw [sendM, HF.out, HST.out])
            have hkq : ¬ ckFoot kb mb n ft qd := (HS2.out qd (by simp)).2
            have hkr := HR.out.keep
            have s0 : wr.cell? ⟨kb, 6, none⟩ = some (.int .i64 k.c.domain) := HR.out.run.cell 6
            have s1 : wr.cell? ⟨kb, 0, none⟩ = some (.int .u64 k.c.id) := HR.out.run.cell 0
            have s2 : wr.cell? ⟨sp, 2, none⟩ = some (.int .i64 p.ann) := HP.out.cell 2
            have s3 : wr.cell? ⟨qd, 0, none⟩ = some (.int .i64 f.p1) := hkr.cell (HQ2.out.cell 0) hkq
            have s4 : wr.cell? ⟨qd, 1, none⟩ = some (.int .i64 f.cls) := hkr.cell (HQ2.out.cell 1) hkq
            have s5 : wr.cell? ⟨qd, 2, none⟩ = some (.int .i64 f.acc) := hkr.cell (HQ2.out.cell 2) hkq
            have s6 : wr.cell? ⟨qd, 3, none⟩ = some (.int .i64 f.var) := hkr.cell (HQ2.out.cell 3) hkq
            have s7 : wr.cell? ⟨qd, 4, none⟩ = some (.int .i64 f.p2) := hkr.cell (HQ2.out.cell 4) hkq
            have s8 : wr.cell? ⟨qd, 5, none⟩ = some (.int .u64 f.gm) := hkr.cell (HQ2.out.cell 5) hkq
            have hkl : kb < w2.heap.size := (HC2.out.lt kb (.inl rfl)).2
            have hql : qd < w2.heap.size := HQ2.out.lt
            have hob : ∀ q, q < w2.heap.size → ¬ (u5.ownBlock = some q) := fun q hq e => by have := (HOWN.out.lt q e).1; omega
            have hsx : ∀ X : World, Keep (fun g => u5.ownBlock = some g) wr X → (X.cell? ⟨kb, 6, none⟩ = some (.int .i64 k.c.domain) ∧ X.cell? ⟨kb, 0, none⟩ = some (.int .u64 k.c.id) ∧ X.cell? ⟨sp, 2, none⟩ = some (.int .i64 p.ann) ∧ X.cell? ⟨qd, 0, none⟩ = some (.int .i64 f.p1) ∧ X.cell? ⟨qd, 1, none⟩ = some (.int .i64 f.cls) ∧ X.cell? ⟨qd, 2, none⟩ = some (.int .i64 f.acc) ∧ X.cell? ⟨qd, 3, none⟩ = some (.int .i64 f.var) ∧ X.cell? ⟨qd, 4, none⟩ = some (.int .i64 f.p2) ∧ X.cell? ⟨qd, 5, none⟩ = some (.int .u64 f.gm)) := fun X hb => ⟨hb.cell s0 (hob _ hkl), hb.cell s1 (hob _ hkl), hb.cell s2 (hob _ hspl), hb.cell s3 (hob _ hql), hb.cell s4 (hob _ hql), hb.cell s5 (hob _ hql), hb.cell s6 (hob _ hql), hb.cell s7 (hob _ hql), hb.cell s8 (hob _ hql)⟩
            have HSX := Lib.hid hsx
            have hwl : w2.heap.size ≤ wr.heap.size := hkr.size
            have hll := sendTo_len k j
            have HOB := Lib.hid hob
            clear hob hsx s0 s1 s2 s3 s4 s5 s6 s7 s8 hkr c7 c11 hlk x0
            go_region_held3 (fun X => X.cell? ⟨kb, 6, none⟩ = some (.int .i64 k.c.domain) ∧ X.cell? ⟨kb, 0, none⟩ = some (.int .u64 k.c.id) ∧ X.cell? ⟨sp, 2, none⟩ = some (.int .i64 p.ann) ∧ X.cell? ⟨qd, 0, none⟩ = some (.int .i64 f.p1) ∧ X.cell? ⟨qd, 1, none⟩ = some (.int .i64 f.cls) ∧ X.cell? ⟨qd, 2, none⟩ = some (.int .i64 f.acc) ∧ X.cell? ⟨qd, 3, none⟩ = some (.int .i64 f.var) ∧ X.cell? ⟨qd, 4, none⟩ = some (.int .i64 f.p2) ∧ X.cell? ⟨qd, 5, none⟩ = some (.int .u64 f.gm))
              (first | with_reducible exact HSW.out | with_reducible exact HSX.out _ (Keep.of (below_drewN (Below.refl _ _) 1)) | with_reducible exact HSX.out _ (Keep.of (below_drewN ((Below.refl _ _).alloc (Nat.le_refl _) _) 1)) | with_reducible exact HSX.out _ (Keep.of ((below_drewN (Below.refl _ _) 1).alloc (Nat.le_refl _) _)) | go_keep)
              ((refine step_append_own2 rfl (.tmp 44) (.tmp 77) 50 (by rfl) w2.heap.size 53 i0 PM.zero.v 22 176 Try.underlying50 hi0 hz0 hz1 hz2 rfl (by decide) u5 (sendTo k j).length _ (by rfl) (World.ownsRow.drew (World.ownsRow.alloc HOWN.out _)) ⟨wr.heap.size, 0, none⟩ 1 1 (sendX k.c.domain k.c.id f st j p.ann).cells (by rfl) rfl (fun q u hu => by rw [Addr.add_mid, Nat.zero_add, cell_of_row _ _ q _ _ (0, 0) (show (wr.alloc _).drew.heap[wr.heap.size]? = _ from heap_alloc_new wr _), ← hu]; simp [sendX, PM.cells, Ptp.cells]) (PM.one _) (by unfold maxLen; omega) (by omega) (Nat.le_trans hwl (show wr.heap.size ≤ (wr.alloc _).heap.size from by simp)) ?_; intro v' w' hown hgrow hfr; have HKW := Lib.hid ((Keep.of (M := fun g => u5.ownBlock = some g) (below_drewN ((Below.refl _ _).alloc (Nat.le_refl _) _) 1)).trans (keep_grown hgrow) (fun g hg => .inl hg)); have HSW := Lib.hid (HSX.out _ HKW.out); have HOW := Lib.hid hown; clear hown hgrow hfr))
            have hwr2 := HR.out.other HC2.out HN.out HKW.out (fun g hg => (HOWN.out.lt g hg).1)
            obtain ⟨rb2, xb2, lv2, hs2, hP2, hspl2, hturn2⟩ := hwr2.port HC2.out HN.out (turnI_at sendI HPP.out) HT2.out
            have x2 : w'.cell? ⟨sp, 2, none⟩ = some (.int .i64 p.ann) := hP2.cell 2
            have f2 := hP2.free 2
            have HP2 := Lib.hid hP2
            have HTU2 := Lib.hid hturn2
            clear hwr2 hP2 hturn2 hkq
            go_wp2_with fail
            have ht : Touch sp w' (w'.setCell ⟨sp, 2, none⟩ (.int .i64 ((p.ann + 1) % 65536))) := (Touch.refl sp w').set 2 _
            have hr3 := HTU2.out _ { p with ann := (p.ann + 1) % 65536 } ht (HP2.out.write ht (by rw [heap_set HP2.out.row]; rfl) rfl rfl)
            have ho3 : (w'.setCell ⟨sp, 2, none⟩ (.int .i64 ((p.ann + 1) % 65536))).ownsRow w2.heap.size 53 22 v' (sendTo k (j + 1)).length ((sendTo k (j + 1)).flatMap PM.cells) := by
              rw [HLT.out, HMX.out, List.length_append, List.flatMap_append]
              have h := ownsRow_keep HOW.out (Keep.touch (M := fun g => g = sp) ht rfl) (fun g hg hm => by have := (HOW.out.lt g hg).1; have e : g = sp := hm; omega)
              simpa using h
            have HR3 := Lib.hid hr3
            have HO3 := Lib.hid ho3
            clear ht hr3 ho3
            go_roundw
            case rel => exact ⟨j + 1, by omega, by go_num, HO3.out, by rw [← HPT.out]; exact HR3.out⟩
            case measure => simp [intOf]; omega
          · have h6b : (p.now == 6) = false := by simpa using h6
            have HLT := Lib.hid (show sendTo k (j + 1) = sendTo k j by rw [sendTo, HPP.out]; simp only []; rw [if_neg h6])
            have HPT := Lib.hid (show turnI sendI k.ports (j + 1) = turnI sendI k.ports j by rw [← turnI_set sendI HPP.out, sendI, if_neg h6]; exact set_self (turnI_at _ HPP.out))
            clear h6
            go_wp2_with (go_at_call 32; refine (sends_any _ _).mono ?_; rintro e w' ⟨rfl, rfl⟩)
            go_roundw
            case rel => exact ⟨j + 1, by omega, by go_num, by rw [HLT.out]; exact HOWN.out, by rw [HPT.out]; exact HR.out⟩
            case measure => simp [intOf]; omega
        · obtain rfl : j = n := by omega
          have hle : decide ((j : Int) + 1 ≤ (j : Int)) = false := by simp <;> omega
          go_wp2_with fail
          go_ret
          obtain ⟨A, c, e, harg, hblk⟩ := pm_arg HOWN.out rfl
          have hL : L = sendTo k j := by rw [HX.out.1, HN.out]
          have hK : K' = { k with ports := turnI sendI k.ports j } := by rw [HX.out.2, HN.out]
          subst e
          obtain ⟨_, hst⟩ := HR.out.run.done HC2.out HN.out (S := S) (fun q hq => by rw [HN.out]; exact HS2.out q (List.mem_cons_of_mem _ hq))
          refine ⟨A, c, by rw [hL]; rfl, by rw [hL]; exact harg, ?_, HST0.out.trans hst⟩
          rw [hK]
          obtain ⟨ft', hC', hf'⟩ := HR.out.ex
          have hfo : ∀ g, ckFoot kb mb ({ k with ports := turnI sendI k.ports j } : Ck).ports.length ft' g → ckFoot kb mb j ft g := fun g hg => by
            rcases hg with e | e | ⟨i, hi, e⟩
            · exact .inl e
            · exact .inr (.inl e)
            · exact .inr (.inr ⟨i, by rw [HR.out.num] at hi; exact hi, hf' i g e⟩)
          refine ⟨mb, sps, ft', hC', fun q hq => ?_⟩
          rcases List.mem_append.1 hq with hq | hq
          · refine ⟨(hblk q hq).2, fun hm => ?_⟩
            have := (HC2.out.lt q (by rw [HN.out]; exact hfo q hm)).2
            have := (hblk q hq).1
            omega
          · have h2 := HS2.out q (List.mem_cons_of_mem _ hq)
            exact ⟨Nat.lt_of_lt_of_le h2.1 HR.out.keep.size, fun hm => h2.2 (hfo q hm)⟩
end Go.Proofs.Ytfbmlpdomfchpaa
