/- Decide. -/
import Derived.WalkKit
import Derived.LoopTactic
import Derived.Outline
import Derived.Lib.Hide
import Derived.StillTailTactics
import Derived.Deep.QuietTactic
import Derived.BigQuiet
import Derived.Deep.DeepCutAuto
import Derived.Deep.CutBlock
import Derived.Test.YtfbmlpdomfchpaaJBd
namespace Go.Proofs.Ytfbmlpdomfchpaa
open Go.RowKit
set_option linter.unusedVariables false
set_option linter.unusedSimpArgs false

set_option maxRecDepth 100000 in
set_option maxHeartbeats 4000000 in
theorem bdec_any {w : World} {base kb : Nat} {S : List Nat} {k : Ck} (h : CkE w base kb S k) (inv : k.Inv) (t : Int) :
    Calls Try.prog 18 #[.pointer (some ⟨kb, 0, none⟩), .int .i64 t] w fun e w' => ∃ v, e = .returned (.tuple #[v, .int .i64 (whenF k t)]) ∧ CkE w' base kb S (decK k t) ∧ Stay base S w w' := by
  obtain ⟨k', hk'⟩ : ∃ r, decK k t = r := ⟨_, rfl⟩
  obtain ⟨z, hz⟩ : ∃ z, whenF k t = z := ⟨_, rfl⟩
  rw [hk', hz]
  have HKK := Lib.hid hk'
  have HI := Lib.hid inv
  have HE := Lib.hid h
  have hwh := when_any h t
  rw [hz] at hwh
  have HWH := Lib.hid hwh
  have HZ := Lib.hid hz
  have hkb := h.base_lt
  clear hk' h inv hwh hz
  go_enter Try.func18, Try.ntmps18
  go_wp2_with fail
  refine HWH.out.mono ?_
  rintro e _ ⟨rfl, rfl⟩
  by_cases hz0 : z = 0
  rotate_left
  · have hzb : (z != 0) = true := by simpa using hz0
    have ek : k' = k := by rw [← HKK.out, decK, if_pos (by rw [HZ.out]; exact hz0)]
    subst ek
    clear hz0 HWH
    go_wp2_with fail
    go_ret2
    exact ⟨_, rfl, HE.out, HE.out.stay (Below.refl _ _)⟩
  subst hz0
  have ht0 : 0 ≤ t ∧ t ≤ 1125899906842624 := by
    have hz := HZ.out
    unfold whenF at hz
    split at hz
    · omega
    · omega
  obtain ⟨ht0, ht1⟩ := ht0
  have ek : k' = { k with ports := turnI (decI k t) (k.ports.map (forgetP t)) k.ports.length, at_ := t, fol := decN k t } := by rw [← HKK.out, decK, if_neg (by rw [HZ.out]; simp)]
  have HKE := Lib.hid ek
  clear ek HKK HWH
  obtain ⟨mb, sps, ft, hC, hS⟩ := HE.out
  have y12 : w.cell? ⟨kb, 12, none⟩ = some (.int .i64 k.at_) := hC.cell 12
  have g12 := hC.free 12
  have HC := Lib.hid hC
  have HS := Lib.hid hS
  clear hC hS
  go_upto_region 7 with fail
  generalize hw1 : w.setCell _ _ = w1
  have ht1' : Touch kb w w1 := by rw [← hw1]; exact (Touch.refl kb w).set 12 _
  have hr1 : Run w base kb mb sps ft k.ports.length w1 { k with at_ := t } := (Run.start HC.out).head ht1' (by rw [← hw1, heap_set HC.out.head]; rfl) rfl
  obtain ⟨hE1, hst1⟩ := hr1.done HC.out rfl HS.out
  have HE1 := Lib.hid hE1
  have HST1 := Lib.hid hst1
  have hi1 : ({ k with at_ := t } : Ck).Inv := ⟨HI.out.conf, HI.out.num, HI.out.ports, ht0, ht1⟩
  have HBE := Lib.hid (bests_any hE1 hi1 t (by omega))
  clear hw1 ht1' hr1 hE1 hst1 hi1 y12 g12
  go_wp2_with fail
  refine HBE.out.mono ?_
  rintro e w2 ⟨A, c, rfl, hA, hE2, hst2⟩
  obtain ⟨n, hn⟩ : ∃ n, k.ports.length = n := ⟨_, rfl⟩
  have hn0 : 0 < n := by have := (insB_spec HI.out.conf.ports).1; have := HI.out.num; omega
  have hn8 : n ≤ 8 := by have := (insB_spec HI.out.conf.ports).2; have := HI.out.num; omega
  rw [show ({ k with at_ := t } : Ck).ports.length = n from hn] at hA ⊢
  obtain ⟨b, off, rfl, hrow⟩ := hA.at_ hn0
  have HA := Lib.hid hA
  have HROW := Lib.hid (show PBRow w2 b off (decL k t) from hrow)
  have HLL := Lib.hid (show (decL k t).length = n by rw [decL, List.length_map, hn])
  have HST := Lib.hid (show ∀ p ∈ decL k t, -9223372036854775808 ≤ p.set.steps from hA.steps)
  have HE2 := Lib.hid hE2
  have HST2 := Lib.hid (HST1.out.trans hst2)
  have HY2 := Lib.hid (show ∀ X : World, Below w2.heap.size w2 X → Stay base S w2 X from fun X hb => (hE2.stay hb).less (fun q hq => List.mem_append.2 (.inr hq)))
  have HN := Lib.hid hn
  clear hA hrow hE2 hst2 HBE hn HE1 HST1
  go_wp2_with fail
  refine (own_ck HE2.out).mono ?_
  rintro e w3 ⟨rfl, hb3⟩
  have HB3 := Lib.hid hb3
  have HE3 := Lib.hid (HE2.out.below hb3)
  have HROW3 := Lib.hid (HROW.out.below hb3)
  clear hb3 HE2 HROW
  go_wp2_with fail
  have hdec := decide_some k.c.own (decL k t) b off c (by rw [HLL.out]; exact hn0) (by rw [HLL.out]; exact hn8) HST.out w3 HROW3.out
  rw [HLL.out] at hdec
  refine hdec.mono ?_
  rintro e w4 ⟨g, rfl, hb4, hg4, hrow4⟩
  have hgl : g < w4.heap.size := World.block_lt_of_cell? w4 _ (hrow4 0 (by rw [codes_len, HLL.out]; exact hn0))
  have hcd : codesF k.c.own (decL k t) = (codesF k.c.own (decL k t)) := rfl
  have HE4 := Lib.hid (HE3.out.add hb4 hg4 hgl)
  have HROW4 := Lib.hid (HROW3.out.below hb4)
  have HCO4 := Lib.hid hrow4
  have HB4 := Lib.hid hb4
  clear hb4 hg4 hgl hrow4 hcd hdec HE3 HROW3
  go_wp2_with fail
  refine (own_ck HE4.out).mono ?_
  rintro e w5 ⟨rfl, hb5⟩
  have HE5 := Lib.hid (HE4.out.below hb5)
  have HROW5 := Lib.hid (HROW4.out.below hb5)
  have HCO5 := Lib.hid (HCO4.out.below hb5)
  have HB5 := Lib.hid hb5
  have hA5 := (((HA.out.below HB3.out).below HB4.out).below hb5)
  have hma := master_any k.c.own hA5 hn8
  obtain ⟨d, hd⟩ : ∃ d, decN k t = d := ⟨_, rfl⟩
  rw [show masterF k.c.own (List.map (bestP t) ({ k with at_ := t } : Ck).ports) = d from hd] at hma
  have HMA := Lib.hid hma
  have HD := Lib.hid hd
  clear hb5 HE4 HROW4 HCO4 hA5 hma hd
  go_wp2_with fail
  refine HMA.out.mono ?_
  rintro e w6 ⟨rfl, hb6⟩
  have HE6 := Lib.hid (HE5.out.below hb6)
  have HROW6 := Lib.hid (HROW5.out.below hb6)
  have HCO6 := Lib.hid (HCO5.out.below hb6)
  have HB6 := Lib.hid hb6
  have HST6 := Lib.hid (HST2.out.trans (HY2.out _ (below_then (below_then (below_then HB3.out HB4.out) HB5.out) HB6.out)))
  clear hb6 HE5 HROW5 HCO5 HMA HB3 HB4 HB5 HA HY2 HST2
  have hz7 : DSBox (w6.alloc (.cells #[.int .i64 0, .int .i64 0, .int .i64 0, .int .i64 0, .int .i64 0, .int .u64 0, .int .i64 0, .int .u64 0, .int .i64 0, .int .u64 0, .int .i64 0] 35)) w6.heap.size .zero := heap_alloc_new w6 _
  have hl7 : Below w6.heap.size w6 (w6.alloc (.cells #[.int .i64 0, .int .i64 0, .int .i64 0, .int .i64 0, .int .i64 0, .int .u64 0, .int .i64 0, .int .u64 0, .int .i64 0, .int .u64 0, .int .i64 0] 35)) := (Below.refl _ _).alloc (Nat.le_refl _) _
  have HZ7 := Lib.hid hz7
  have HL7 := Lib.hid hl7
  clear hz7 hl7
  go_upto_region 12 with (refine store_ds_k (d := d) HZ7.out _ _ (by rfl) rfl rfl rfl ?_; intro w7 h7)
  simp only [Act.put, List.setIfInBounds_toArray, List.set_cons_succ, List.set_cons_zero]
  obtain ⟨qd, hqd⟩ : ∃ q, w6.heap.size = q := ⟨_, rfl⟩
  have HB7 := Lib.hid (Touch.below HL7.out h7.out.2 (Nat.le_refl _) (Nat.le_refl _))
  have HQ7 := Lib.hid h7.out.1
  have HE7 := Lib.hid (HE6.out.below HB7.out)
  have HST7 := Lib.hid (HST6.out.trans ((HE6.out.stay HB7.out).less (T := S) (fun q hq => List.mem_cons_of_mem _ (List.mem_append.2 (.inr hq)))))
  have HROW7 := Lib.hid (HROW6.out.below HB7.out)
  have HCO7 := Lib.hid (HCO6.out.below HB7.out)
  rw [hqd] at HQ7 ⊢
  have HQL := Lib.hid hqd
  clear hqd h7 HZ7 HL7 HE6 HROW6 HCO6
  obtain ⟨mb2, sps2, ft2, hC7, hS7⟩ := HE7.out
  have hfl : ({ k with at_ := t, ports := k.ports.map (forgetP t) } : Ck).fol = k.fol := rfl
  obtain ⟨f, hf⟩ : ∃ f, k.fol = f := ⟨_, rfl⟩
  have q5 : w7.cell? ⟨qd, 5, none⟩ = some (.int .u64 d.gm) := HQ7.out.cell 5
  have q7 : w7.cell? ⟨qd, 7, none⟩ = some (.int .u64 d.sender) := HQ7.out.cell 7
  have q8 : w7.cell? ⟨qd, 8, none⟩ = some (.int .i64 d.sport) := HQ7.out.cell 8
  have k18 : w7.cell? ⟨kb, 18, none⟩ = some (.int .u64 f.gm) := by rw [← hf]; exact hC7.cell 18
  have k20 : w7.cell? ⟨kb, 20, none⟩ = some (.int .u64 f.sender) := by rw [← hf]; exact hC7.cell 20
  have k21 : w7.cell? ⟨kb, 21, none⟩ = some (.int .i64 f.sport) := by rw [← hf]; exact hC7.cell 21
  have HF := Lib.hid hf
  have HC7 := Lib.hid hC7
  have HS7 := Lib.hid hS7
  clear hfl hf hC7 hS7
  go_cut [11] (fun v11 wx => v11 = .bool (sameB d f) ∧ Below w7.heap.size w7 wx)
  case first =>
    cases g1 : d.gm == f.gm
    · have e : sameB d f = false := by simp [sameB, g1]
      have HX := Lib.hid e
      clear e
      go_quiet (fail)
      go_wp2_with fail
      go_meet
      case rel => exact ⟨by rw [HX.out], below_drewN (Below.refl _ _) _⟩
    cases g2 : d.sender == f.sender
    · have e : sameB d f = false := by simp [sameB, g1, g2]
      have HX := Lib.hid e
      clear e
      go_quiet (fail)
      go_wp2_with fail
      go_meet
      case rel => exact ⟨by rw [HX.out], below_drewN (Below.refl _ _) _⟩
    have e : sameB d f = (d.sport == f.sport) := by simp [sameB, g1, g2]
    have HX := Lib.hid e
    clear e
    go_quiet (fail)
    go_wp2_with fail
    go_meet
    case rel => exact ⟨by rw [HX.out], below_drewN (Below.refl _ _) _⟩
  case rest =>
    obtain ⟨rfl, hb8⟩ := hcut
    obtain ⟨w8, rfl⟩ : ∃ x : World, x = wc := ⟨_, rfl⟩
    clear q5 q7 q8 k18 k20 k21
    obtain ⟨sm, hsm⟩ : ∃ s, sameB d f = s := ⟨_, rfl⟩
    rw [hsm]
    have HSM := Lib.hid hsm
    have HE8 := Lib.hid (HE7.out.below hb8)
    have HROW8 := Lib.hid (HROW7.out.below hb8)
    have HCO8 := Lib.hid (HCO7.out.below hb8)
    have HQ8 := Lib.hid (HQ7.out.below hb8)
    have HST8 := Lib.hid (HST7.out.trans ((HE7.out.stay hb8).less (T := S) (fun q hq => List.mem_cons_of_mem _ (List.mem_append.2 (.inr hq)))))
    obtain ⟨mb, sps, ft, hC8, hS8⟩ := HE8.out
    have hr8 := Run.start hC8
    rw [show ({ k with at_ := t, ports := k.ports.map (forgetP t) } : Ck).ports.length = n from by simpa using HN.out] at hr8 hS8
    have HR8 := Lib.hid hr8
    have HC8 := Lib.hid hC8
    have HS8 := Lib.hid hS8
    clear hb8 hsm hC8 hS8 hr8 HE8 HE7 HROW7 HCO7 HQ7 HC7 HS7
    go_upto_region 14 with (first | (refine load_ds HQ8.out.range _ (by rfl) rfl rfl ?_) | (refine store_fol HR8.out _ _ (by rfl) rfl rfl rfl ?_; intro w9 h9))
    simp only [Act.put, List.setIfInBounds_toArray, List.set_cons_succ, List.set_cons_zero]
    obtain ⟨hr9, _⟩ := h9.out
    have HGB := Lib.hid (HS8.out g (by simp)).2
    have HBB := Lib.hid (HS8.out b (by simp [blkL])).2
    have HR9 := Lib.hid hr9
    clear h9 hr9
    go_wp2_with fail
    go_loopw [79] (fun v79 wr => ∃ j : Nat, j ≤ n ∧ v79 = .int .i64 (j : Int) ∧ Run w8 base kb mb sps ft n wr { k with ports := turnI (decI k t) (k.ports.map (forgetP t)) j, at_ := t, fol := d }) (fun v79 _ => n - (intOf v79).toNat)
    case atStart => exact ⟨0, Nat.zero_le _, rfl, HR9.out⟩
    case round =>
      obtain ⟨j, hj, rfl, hr⟩ := hrel
      have HR := Lib.hid hr
      clear hr
      by_cases hlt : j < n
      · have hlj : decide ((j : Int) < (n : Int)) = true := by simp; omega
        have hk := HR.out.keep
        obtain ⟨p0, hp0⟩ : ∃ p, k.ports[j]? = some p := ⟨_, List.getElem?_eq_getElem (by rw [HN.out]; exact hlt)⟩
        obtain ⟨p, hpd⟩ : ∃ p, forgetP t p0 = p := ⟨_, rfl⟩
        have hpm : (k.ports.map (forgetP t))[j]? = some p := by rw [List.getElem?_map, hp0, ← hpd]; rfl
        have hpt : ({ k with ports := turnI (decI k t) (k.ports.map (forgetP t)) j, at_ := t, fol := d } : Ck).ports[j]? = some p := turnI_at _ hpm
        have hsl : sps.length = n := by have := HC8.out.len; rw [this]; simpa using HN.out
        obtain ⟨sp, hsp⟩ : ∃ sp, sps[j]? = some sp := ⟨_, List.getElem?_eq_getElem (by rw [hsl]; exact hlt)⟩
        obtain ⟨rb, xb, lv, hs, hP, hturn⟩ := HR.out.port hpt hsp
        have hne := HR.out.port_ne hpt hsp
        obtain ⟨cd, hcd⟩ : ∃ c, (codesF k.c.own (decL k t)).getD j 0 = c := ⟨_, rfl⟩
        obtain ⟨hb, hhb⟩ : ∃ c, ((decL k t).getD j .zero).has = c := ⟨_, rfl⟩
        have hcr : 1 ≤ cd ∧ cd ≤ 6 := by rw [← hcd, codes_at _ _ _ (by rw [HLL.out]; exact hlt)]; exact code_range _ _ _ _
        obtain ⟨hcr1, hcr6⟩ := hcr
        have cg : wr.cell? ⟨g, j, none⟩ = some (.int .i64 cd) := by rw [← hcd]; exact HCO8.out.keep hk HGB.out j (by rw [codes_len, HLL.out]; exact hlt)
        have cb : wr.cell? ⟨b, off + j * 12, none⟩ = some (.bool hb) := by rw [← hhb]; exact (HROW8.out.keep hk HBB.out j (by rw [HLL.out]; exact hlt)).1
        have c11 : wr.cell? ⟨kb, 11, none⟩ = some (.map (some mb)) := HR.out.cell 11
        have hlk := look_run HR.out.map ((j : Int) + 1)
        rw [ptr_of hsp] at hlk
        have x0 : wr.cell? ⟨sp, 0, none⟩ = some (.int .i64 p.now) := hP.cell 0
        have hpi : forgetF p0.recs t = p.recs ∧ p0.now = p.now ∧ p0.mark = p.mark := by rw [← hpd]; exact ⟨rfl, rfl, rfl⟩
        have hp1 : 1 ≤ p.now := by rw [← hpi.2.1]; exact (HI.out.ports p0 (List.mem_of_getElem? hp0)).now1
        have hp9 : p.now ≤ 9 := by rw [← hpi.2.1]; exact (HI.out.ports p0 (List.mem_of_getElem? hp0)).now9
        have HP := Lib.hid hP
        have HTU := Lib.hid hturn
        have HPM := Lib.hid hpm
        have HCD := Lib.hid hcd
        have HHB := Lib.hid hhb
        clear hk hpd hpm hpt hsl hsp hP hturn hcd hhb hpi hp0
        have x1 : wr.cell? ⟨sp, 1, none⟩ = some (.int .i64 p.mark) := HP.out.cell 1
        have c10 : wr.cell? ⟨kb, 10, none⟩ = some (.int .i64 k.c.timeout) := HR.out.cell 10
        go_upto_block 2 with fail
        go_cut [95] (fun _ wx => PortIs wx base sp { p with now := dec1 k t cd hb sm p } rb xb lv hs ∧ Touch sp wr wx)
        case first =>
          have hone : (hb || p.now != 4) = true → dec1 k t cd hb sm p = nextF p.now (20 + cd) sm := fun h => by rw [dec1, if_pos h]
          have HONE := Lib.hid hone
          clear hone cg hlk c11
          cases hb
          · cases hn4 : p.now != 4
            · have HN4 := Lib.hid hn4
              cases hL : lateB k t p
              all_goals have HL := Lib.hid hL
              all_goals rw [lateB] at hL
              · go_upto_region 21 with fail
                go_quiet (fail)
                go_wp2_with fail
                go_meet
                case rel =>
                  have e : dec1 k t cd false sm p = p.now := by rw [dec1, HN4.out, HL.out]; simp
                  rw [e]
                  exact ⟨HP.out.below (below_drewN (Below.refl _ _) _), .of (below_drewN (Below.refl _ _) _)⟩
              · go_upto_region 21 with fail
                go_quiet (fail)
                generalize hw1 : wr.drewN _ = w1
                have hd1 : Below wr.heap.size wr w1 := by rw [← hw1]; exact below_drewN (Below.refl _ _) _
                have HP1 := Lib.hid (HP.out.below hd1)
                have HD1 := Lib.hid hd1
                clear hw1 hd1 x0 x1 c10 hL hn4
                go_wp2_with fail
                refine (event_any HP1.out sm hp1 hp9 (.inl ⟨by omega, by omega⟩)).mono ?_
                rintro e w2 ⟨rfl, hP2, ht2⟩
                have HP2 := Lib.hid hP2
                have HT2 := Lib.hid ht2
                clear hP2 ht2
                go_wp2_with fail
                go_meet
                case rel =>
                  have e : dec1 k t cd false sm p = nextF p.now 7 sm := by rw [dec1, HN4.out, HL.out]; simp
                  rw [e]
                  exact ⟨HP2.out, (Touch.of HD1.out).trans HT2.out⟩
            · have HN4 := Lib.hid hn4
              go_wp2_with fail
              refine (event_any HP.out sm hp1 hp9 (.inr ⟨by omega, by omega⟩)).mono ?_
              rintro e w2 ⟨rfl, hP2, ht2⟩
              have HP2 := Lib.hid hP2
              have HT2 := Lib.hid ht2
              clear hP2 ht2
              go_wp2_with fail
              go_meet
              case rel =>
                rw [HONE.out (by rw [HN4.out]; rfl)]
                exact ⟨HP2.out, HT2.out⟩
          · go_wp2_with fail
            refine (event_any HP.out sm hp1 hp9 (.inr ⟨by omega, by omega⟩)).mono ?_
            rintro e w2 ⟨rfl, hP2, ht2⟩
            have HP2 := Lib.hid hP2
            have HT2 := Lib.hid ht2
            clear hP2 ht2
            go_wp2_with fail
            go_meet
            case rel =>
              rw [HONE.out rfl]
              exact ⟨HP2.out, HT2.out⟩
        case rest =>
          obtain ⟨hP1, ht1'⟩ := hcut
          obtain ⟨w9, rfl⟩ : ∃ x : World, x = wc := ⟨_, rfl⟩
          obtain ⟨s1, hs1⟩ : ∃ x, dec1 k t cd hb sm p = x := ⟨_, rfl⟩
          rw [hs1] at hP1
          have hr1 : 1 ≤ s1 ∧ s1 ≤ 9 := by
            rw [← hs1]
            unfold dec1
            split
            · exact next_range hp1 hp9 _ _
            · split
              · exact next_range hp1 hp9 _ _
              · exact ⟨hp1, hp9⟩
          obtain ⟨hr11, hr19⟩ := hr1
          have HP1 := Lib.hid hP1
          have HT1 := Lib.hid ht1'
          have HS1 := Lib.hid hs1
          have y0 : w9.cell? ⟨sp, 0, none⟩ = some (.int .i64 s1) := hP1.cell 0
          clear x0 x1 c10 cg cb c11 hlk hP1 ht1' hs1
          go_upto_if 130 with fail
          go_cut [130] (fun _ wx => PortIs wx base sp { p with now := dec2 s1 sm } rb xb lv hs ∧ Touch sp wr wx)
          case first =>
            by_cases h5 : s1 = 5
            · have h5b : (s1 == 5) = true := by simpa using h5
              have e : dec2 s1 sm = nextF s1 8 sm := by rw [dec2, if_pos h5]
              have HX := Lib.hid e
              clear h5 e y0
              go_wp2_with fail
              refine (event_any HP1.out sm hr11 hr19 (.inl ⟨by omega, by omega⟩)).mono ?_
              rintro e w2 ⟨rfl, hP2, ht2⟩
              have HP2 := Lib.hid hP2
              have HT2 := Lib.hid ht2
              clear hP2 ht2
              go_wp2_with fail
              go_meet
              case rel =>
                rw [HX.out]
                exact ⟨HP2.out, HT1.out.trans HT2.out⟩
            · have h5b : (s1 == 5) = false := by simpa using h5
              have e : dec2 s1 sm = s1 := by rw [dec2, if_neg h5]
              have HX := Lib.hid e
              clear h5 e y0
              go_wp2_with fail
              go_meet
              case rel =>
                rw [HX.out]
                exact ⟨HP1.out, HT1.out⟩
          case rest =>
            obtain ⟨hP2, ht2⟩ := hcut
            obtain ⟨w10, rfl⟩ : ∃ x : World, x = wc := ⟨_, rfl⟩
            obtain ⟨s2, hs2⟩ : ∃ x, dec2 s1 sm = x := ⟨_, rfl⟩
            rw [hs2] at hP2
            have HS2 := Lib.hid hs2
            have HP2 := Lib.hid hP2
            have HT2 := Lib.hid ht2
            have y0 : w10.cell? ⟨sp, 0, none⟩ = some (.int .i64 s2) := hP2.cell 0
            have y1 : w10.cell? ⟨sp, 1, none⟩ = some (.int .i64 p.mark) := hP2.cell 1
            have f1 := hP2.free 1
            clear hP2 ht2 hs2 HP1 HT1
            go_upto_if 139 with fail
            go_cut [139] (fun _ wx => PortIs wx base sp { p with now := s2, mark := if s2 = p.now then p.mark else t } rb xb lv hs ∧ Touch sp wr wx)
            case first =>
              by_cases h5 : s2 = p.now
              · have h5b : (s2 != p.now) = false := by simpa using h5
                have HX := Lib.hid (show (if s2 = p.now then p.mark else t) = p.mark from if_pos h5)
                clear h5
                go_wp2_with fail
                go_meet
                case rel =>
                  rw [HX.out]
                  exact ⟨HP2.out, HT2.out⟩
              · have h5b : (s2 != p.now) = true := by simpa using h5
                have HX := Lib.hid (show (if s2 = p.now then p.mark else t) = t from if_neg h5)
                clear h5
                go_wp2_with fail
                go_meet
                case rel =>
                  rw [HX.out]
                  have ht3 : Touch sp w10 (w10.setCell ⟨sp, 1, none⟩ (.int .i64 t)) := (Touch.refl sp w10).set 1 _
                  exact ⟨HP2.out.write ht3 (by rw [heap_set HP2.out.row]; rfl) rfl rfl, HT2.out.trans ht3⟩
            case rest =>
              obtain ⟨hP3, ht3⟩ := hcut
              obtain ⟨w11, rfl⟩ : ∃ x : World, x = wc := ⟨_, rfl⟩
              have hme : ∀ x, (if sm = true then p.ex else .new k.c.domain) = x → decI k t j p = { p with now := s2, mark := if s2 = p.now then p.mark else t, ex := x } := fun x hx => by
                unfold decI decP
                rw [HCD.out, HHB.out, HD.out, HF.out, HSM.out, HS1.out, HS2.out, hx]
              have hend : ∀ (wx : World) (xb' : Nat) (x : Ex), Keep (fun g => g = sp) wr wx → (if sm = true then p.ex else .new k.c.domain) = x → PortIs wx base sp { p with now := s2, mark := if s2 = p.now then p.mark else t, ex := x } rb xb' lv hs → (xb' = xb ∨ wr.heap.size ≤ xb') → Run w8 base kb mb sps ft n wx { k with ports := turnI (decI k t) (k.ports.map (forgetP t)) (j + 1), at_ := t, fol := d } := fun wx xb' x hk hx hP hxb => by
                have h1 := HTU.out wx _ rb xb' lv hs (fun g => g = sp) hk (fun g hg => .inl hg) hP (fun g hg => by
                  rcases hg with e | e | e
                  · exact .inl (.inl e)
                  · rcases hxb with e2 | e2
                    · exact .inl (.inr (.inl (e.trans e2)))
                    · exact .inr (by rw [e]; exact e2)
                  · exact .inl (.inr (.inr e)))
                rw [← hme x hx] at h1
                have h2 : (turnI (decI k t) (k.ports.map (forgetP t)) j).set j (decI k t j p) = turnI (decI k t) (k.ports.map (forgetP t)) (j + 1) := turnI_set _ HPM.out
                rw [← h2]
                exact h1
              have HEND := Lib.hid hend
              have HP3 := Lib.hid hP3
              have HT3 := Lib.hid ht3
              have f5 := hP3.free 5
              have y5 : w11.cell? ⟨sp, 5, none⟩ = some (.pointer (some ⟨xb, 0, none⟩)) := hP3.cell 5
              have hk3 : Keep (fun g => g = sp) wr w11 := Keep.touch ht3 rfl
              have c6 : w11.cell? ⟨kb, 6, none⟩ = some (.int .i64 k.c.domain) := hk3.cell (HR.out.cell 6) (fun e => hne e)
              clear hP3 ht3 hk3 hme hend y0 y1 f1 HP2 HT2
              cases sm
              · have HNEW := Lib.hid (new_ok k.c.domain (insB_spec HI.out.conf.domain).1 (insB_spec HI.out.conf.domain).2 w11)
                go_wp2_with fail
                refine HNEW.out.mono ?_
                rintro e w12 ⟨rfl, hX, hb12, hs12⟩
                obtain ⟨hP4, ht4⟩ := HP3.out.fresh hX hb12 (Nat.le_refl _)
                have g5 := (HP3.out.below hb12).free 5
                have y5 : w12.cell? ⟨sp, 5, none⟩ = some (.pointer (some ⟨xb, 0, none⟩)) := (HP3.out.below hb12).cell 5
                have HP4 := Lib.hid hP4
                have HT4 := Lib.hid ht4
                have HS12 := Lib.hid (Nat.le_trans HT3.out.size (Nat.le_refl _))
                clear hX hb12 hs12 hP4 ht4 c6 f5
                go_wp2_with fail
                go_roundw
                case rel => exact ⟨j + 1, by omega, by go_num, HEND.out _ _ (.new k.c.domain) (Keep.touch (HT3.out.trans HT4.out) rfl) rfl HP4.out (.inr HS12.out)⟩
                case measure => simp [intOf]; omega
              · go_wp2_with fail
                go_roundw
                case rel => exact ⟨j + 1, by omega, by go_num, HEND.out _ xb p.ex (Keep.touch HT3.out rfl) rfl HP3.out (.inl rfl)⟩
                case measure => simp [intOf]; omega
      · obtain rfl : j = n := by omega
        have hle : decide ((j : Int) < (j : Int)) = false := by simp <;> omega
        go_wp2_with fail
        go_ret2
        have hrj := HR.out
        rw [show turnI (decI k t) (k.ports.map (forgetP t)) j = turnI (decI k t) (k.ports.map (forgetP t)) k.ports.length from by rw [HN.out]] at hrj
        obtain ⟨h1, h2⟩ := hrj.done HC8.out (by simpa using HN.out) (S := S) (fun q hq => by
          have := HS8.out q (List.mem_cons_of_mem _ (List.mem_append.2 (.inr hq)))
          rw [show ({ k with ports := k.ports.map (forgetP t), at_ := t } : Ck).ports.length = j from by simpa using HN.out]
          exact this)
        refine ⟨_, rfl, ?_, HST8.out.trans h2⟩
        rw [HKE.out, HD.out]
        exact h1
end Go.Proofs.Ytfbmlpdomfchpaa
