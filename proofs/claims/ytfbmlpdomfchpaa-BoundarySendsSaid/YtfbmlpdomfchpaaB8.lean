/- The best data set of each port: the walk. -/
import Derived.WalkKit
import Derived.LoopTactic
import Derived.Outline
import Derived.Lib.Hide
import Derived.OwnWalk
import Derived.Test.YtfbmlpdomfchpaaJBc
namespace Go.Proofs.Ytfbmlpdomfchpaa
open Go.RowKit
set_option linter.unusedVariables false
set_option linter.unusedSimpArgs false

/-- The block of an address. -/
def blkL : Option Addr → List Nat
  | some a => [a.block]
  | none => []
theorem ptr_of {sps : List Nat} {j sp : Nat} (h : sps[j]? = some sp) : ptrAt sps ((j : Int) + 1) = some ⟨sp, 0, none⟩ := by
  rw [ptrAt, if_pos (by omega), show ((j : Int) + 1).toNat - 1 = j from by omega, h]
  rfl
/-- A port's records are turned. -/
theorem PortIs.records {w w' : World} {base sp : Nat} {p : Pst} {rb xb : Nat} {lv lv' : Value} {hs hs' : List Value} {f' : Fr} {M : Nat → Prop} (h : PortIs w base sp p rb xb lv hs) (hF : FrAt w' base rb f' lv' hs') (hk : Keep M w w') (hM : ∀ g, M g → mine rb lv hs g) (hm : ∀ g, mine rb lv' hs' g → mine rb lv hs g ∨ w.heap.size ≤ g) : PortIs w' base sp { p with recs := f' } rb xb lv' hs' := by
  have hsp := (Array.getElem?_eq_some_iff.1 h.row).1
  refine ⟨(hk.block sp hsp (fun e => h.nsp (hM sp e))).trans h.row, hF, (hk.block xb h.ex.lt (fun e => h.nxb (hM xb e))).trans h.ex, h.sge, h.xge, h.ne, fun e => ?_, fun e => ?_⟩
  · rcases hm sp e with h1 | h1
    · exact h.nsp h1
    · omega
  · have := h.ex.lt
    rcases hm xb e with h1 | h1
    · exact h.nxb h1
    · omega
set_option maxRecDepth 100000 in
set_option maxHeartbeats 4000000 in
theorem bests_any {w : World} {base kb : Nat} {S : List Nat} {k : Ck} (h : CkE w base kb S k) (inv : k.Inv) (t : Int) (ht : t ≤ 9223372036854775807) :
    Calls Try.prog 37 #[.pointer (some ⟨kb, 0, none⟩), .int .i64 t] w fun e w' => ∃ A c, e = .returned (.slice A k.ports.length c) ∧ PBArg w' A k.ports.length c (k.ports.map (bestP t)) ∧ CkE w' base kb (blkL A ++ S) { k with ports := k.ports.map (forgetP t) } ∧ Stay base S w w' := by
  obtain ⟨mb, sps, ft, hC, hS⟩ := h
  obtain ⟨n, hn⟩ : ∃ n, k.ports.length = n := ⟨_, rfl⟩
  have hn8 : n ≤ 8 := by have := inv.num; have := (insB_spec inv.conf.ports).2; omega
  have hnc : k.c.ports = (n : Int) := by have := inv.num; omega
  have hkb := hC.lt kb (.inl rfl)
  have HS := Lib.hid hS
  have HC := Lib.hid hC
  have HI := Lib.hid inv
  have HN := Lib.hid hn
  have HNC := Lib.hid hnc
  obtain ⟨i0, hi0, hz0, hz1, hz2⟩ := info_parts infoPB
  rw [hn]
  clear hC hS inv hn hnc
  go_enter Try.func37, Try.ntmps37
  go_wp2_with fail
  go_loopw [5, 6] (fun vl vi wr => ∃ j : Nat, j ≤ n ∧ vi = .int .i64 ((j : Int) + 1) ∧ wr.ownsRow w.heap.size 92 12 vl j (((k.ports.take j).map (bestP t)).flatMap PB.cells) ∧ w.heap.size ≤ wr.heap.size ∧ ∃ ft', CkIs wr base kb { k with ports := turnTo (forgetP t) k.ports j } mb sps ft' ∧ (∀ i g, ft' i g → ft i g) ∧ Keep (ckFoot kb mb n ft) w wr) (fun _ vi _ => n + 1 - (intOf vi).toNat)
  case atStart => exact ⟨0, Nat.zero_le _, rfl, World.ownsRow_nil _ _ _ _, Nat.le_refl _, ft, by rw [turn_zero]; exact HC.out, fun i g h => h, .refl _ _⟩
  case round =>
    obtain ⟨j, hj, rfl, hown, hsz, ft', hCr, hft, hkr⟩ := hrel
    have c7 : wr.cell? ⟨kb, 7, none⟩ = some (.int .i64 (n : Int)) := by rw [← HNC.out]; exact hCr.cell 7
    have HCR := Lib.hid hCr
    have HOWN := Lib.hid hown
    have HFT := Lib.hid hft
    have HKR := Lib.hid hkr
    by_cases hlt : j < n
    · have hle : decide ((j : Int) + 1 ≤ (n : Int)) = true := by simp; omega
      have hjk : j < k.ports.length := by rw [HN.out]; exact hlt
      obtain ⟨p, hp⟩ : ∃ p, k.ports[j]? = some p := ⟨_, List.getElem?_eq_getElem hjk⟩
      obtain ⟨sp, hsp⟩ : ∃ sp, sps[j]? = some sp := ⟨_, List.getElem?_eq_getElem (by rw [HC.out.len]; exact hjk)⟩
      have hpt : (turnTo (forgetP t) k.ports j)[j]? = some p := turn_at _ hp
      obtain ⟨rb, xb, lv, hs, hP, hf⟩ := hCr.ports j p sp hpt hsp
      have c11 : wr.cell? ⟨kb, 11, none⟩ = some (.map (some mb)) := hCr.cell 11
      have hlk := look_run hCr.map ((j : Int) + 1)
      rw [ptr_of hsp] at hlk
      have x4 : wr.cell? ⟨sp, 4, none⟩ = some (.pointer (some ⟨rb, 0, none⟩)) := hP.cell 4
      have hpi := HI.out.ports p (List.mem_of_getElem? hp)
      have HFO := Lib.hid (fforget_any hP.recs hpi.recs.ok (by have := hpi.recs.five; omega) t ht)
      have HP := Lib.hid hP
      have HPT := Lib.hid hpt
      have HSP := Lib.hid hsp
      have HPP := Lib.hid hp
      have HF := Lib.hid hf
      have HPI := Lib.hid hpi
      clear hCr hown hft hkr hp hsp hpt hP hf hpi
      go_wp2_with fail
      refine HFO.out.mono ?_
      rintro e w2 ⟨rfl, lv', hs', hF2, hk2, hm2⟩
      have hk2' : Keep (mine rb lv hs) wr w2 := hk2.wide (fun g hg => hg.elim .inl (fun e => .inr (.inl e)))
      have hP2 := HP.out.records hF2 hk2' (fun g hg => hg) (fun g hg => .inl (hm2 g hg))
      have y4 : w2.cell? ⟨sp, 4, none⟩ = some (.pointer (some ⟨rb, 0, none⟩)) := hP2.cell 4
      have hin : (forgetF p.recs t).Inv := HPI.out.recs.forget t
      have HBE := Lib.hid (fbest_of (P_ := .pointer (some ⟨rb, 0, none⟩)) (at_ := t) (l := qualF (forgetF p.recs t) t) (w := w2) (by have := qual_len (forgetF p.recs t) t; have := hin.five; omega) (fun w' hb => fqual_any (hF2.below hb) hin.ok (by have := hin.five; omega) t ht))
      have HK2 := Lib.hid hk2'
      have HP2 := Lib.hid hP2
      have HM2 := Lib.hid hm2
      clear hF2 hk2 hk2' hm2 hP2 x4 hlk c11 c7 HFO
      go_wp2_with fail
      refine HBE.out.mono ?_
      rintro e w3 ⟨rfl, hb3⟩
      obtain ⟨b, hb⟩ : ∃ b, bestP t p = b := ⟨_, rfl⟩
      have e1 : bestR (qualF (forgetF p.recs t) t) = b.set := by rw [← hb]; rfl
      have e2 : (!(qualF (forgetF p.recs t) t).isEmpty) = b.has := by rw [← hb]; rfl
      rw [e1, e2]
      have HB3 := Lib.hid hb3
      have HBP := Lib.hid hb
      clear hb3 e1 e2 y4 HBE hb
      have hlow : ∀ g, mine rb lv hs g → ft j g := fun g hg => HFT.out j g ((HF.out g).2 (.inr (.inr hg)))
      have hlowS : ∀ g, mine rb lv hs g → g < w.heap.size := fun g hg => (HC.out.lt g (.inr (.inr ⟨j, hjk, hlow g hg⟩))).2
      have hown3 : w3.ownsRow w.heap.size 92 12 u5 j (((k.ports.take j).map (bestP t)).flatMap PB.cells) :=
        ownsRow_below (ownsRow_keep HOWN.out HK2.out (fun g hg hm => by have := (HOWN.out.lt g hg).1; have := hlowS g hm; omega)) HB3.out
      have hsz3 : w.heap.size ≤ w3.heap.size := Nat.le_trans hsz (Nat.le_trans HK2.out.size HB3.out.size)
      have HOWN3 := Lib.hid hown3
      have HLOW := Lib.hid hlow
      clear hlow hlowS hown3
      go_upto_region 8 with fail
      generalize hW : w3.alloc _ = w4
      have hb4 : Below w3.heap.size w3 w4 := by rw [← hW]; exact (Below.refl _ _).alloc (Nat.le_refl _) _
      have hx4 : w4.rangeAt w3.heap.size 0 b.set.cells := by
        rw [← hW]
        intro q v hv
        rw [Nat.zero_add, cell_of_row _ _ q _ _ (0, 0) (heap_alloc_new w3 _), ← hv]
        simp [DS.cells]
      have HB4 := Lib.hid (below_then HB3.out hb4)
      have HX4 := Lib.hid hx4
      have HOWN4 := Lib.hid (ownsRow_below HOWN3.out hb4)
      have hsz4 : w.heap.size ≤ w4.heap.size := Nat.le_trans hsz3 hb4.size
      obtain ⟨qx, hqx⟩ : ∃ q, w3.heap.size = q := ⟨_, rfl⟩
      rw [hqx] at HX4 ⊢
      clear hW hb4 hx4 hqx HOWN3 HB3 hsz3
      go_wp2_with (first | (refine load_ds HX4.out _ (by rfl) rfl rfl ?_) | (at_builtin; refine wpList_append_own _ rfl _ _ 87 rfl w.heap.size 92 i0 (.agg #[.bool false, .int .i64 0, .int .i64 0, .int .i64 0, .int .i64 0, .int .i64 0, .int .u64 0, .int .i64 0, .int .u64 0, .int .i64 0, .int .u64 0, .int .i64 0]) 12 96 Try.underlying87 hi0 hz0 hz1 hz2 rfl (by decide) _ _ _ rfl (World.ownsRow.alloc HOWN4.out _) ⟨w4.heap.size, 0, none⟩ 1 1 (PB.cells b) rfl rfl (fun q u hu => by rw [Addr.add_mid, Nat.zero_add, cell_of_row _ _ q _ _ (0, 0) (heap_alloc_new w4 _), ← hu]; simp [PB.cells, DS.cells]) (by simp [PB.cells, DS.cells, Value.oneCell']) (by unfold maxLen; omega) (by omega) (by simp; omega) ?_))
      intro v' w5 hown5 hgrow5 _
      have hk5 : Keep (fun g => u5.ownBlock = some g) w2 w5 := (Keep.of (HB4.out)).trans (((Keep.of ((Below.refl _ _).alloc (Nat.le_refl _) _)) : Keep (fun g => u5.ownBlock = some g) w4 (w4.alloc _)).trans (keep_grown hgrow5) (fun g hg => .inl hg)) (fun g hg => .inl hg)
      have hugh : ∀ g, u5.ownBlock = some g → w.heap.size ≤ g := fun g hg => (HOWN.out.lt g hg).1
      have hcl : (turnTo (forgetP t) k.ports j).length = n := by rw [turn_len, HN.out]
      have hturn := HCR.out.turn (i := j) (sp := sp) (p' := forgetP t p) (f' := footOf sp rb xb lv' hs') (by show j < (turnTo (forgetP t) k.ports j).length; omega) HSP.out HK2.out (fun g hg => (HF.out g).2 (.inr (.inr hg))) ⟨rb, xb, lv', hs', HP2.out, fun g => Iff.rfl⟩ (fun g hg => .inl ((HF.out g).2 (by
        rcases hg with h | h | h
        · exact .inl h
        · exact .inr (.inl h)
        · exact .inr (.inr (HM2.out g h)))))
      have hfeet : ∀ i g, (if i = j then footOf sp rb xb lv' hs' else ft' i) g → ft i g := fun i g hg => by
        by_cases e : i = j
        · subst e
          rw [if_pos rfl] at hg
          refine HFT.out i g ((HF.out g).2 ?_)
          rcases hg with h | h | h
          · exact .inl h
          · exact .inr (.inl h)
          · exact .inr (.inr (HM2.out g h))
        · rw [if_neg e] at hg
          exact HFT.out i g hg
      have hset : (turnTo (forgetP t) k.ports j).set j (forgetP t p) = turnTo (forgetP t) k.ports (j + 1) := turn_set _ HPP.out
      have hC5 : CkIs w5 base kb { k with ports := turnTo (forgetP t) k.ports (j + 1) } mb sps (fun i => if i = j then footOf sp rb xb lv' hs' else ft' i) := by
        have h1 := hturn.keep hk5 (fun g hg hm => by
          have h2 := hugh g hg
          have h3 : ckFoot kb mb k.ports.length ft g := by
            rcases hm with e | e | ⟨i, hi, e⟩
            · exact .inl e
            · exact .inr (.inl e)
            · exact .inr (.inr ⟨i, by have hi : i < ((turnTo (forgetP t) k.ports j).set j (forgetP t p)).length := hi; rw [List.length_set, hcl] at hi; rw [HN.out]; exact hi, hfeet i g e⟩)
          have := (HC.out.lt g h3).2
          omega)
        rw [← hset]
        exact h1
      have hkk : Keep (ckFoot kb mb n ft) w w5 := (HKR.out.trans HK2.out (fun g hg => .inl (.inr (.inr ⟨j, hlt, HLOW.out g hg⟩)))).trans hk5 (fun g hg => .inr (hugh g hg))
      have hrow : w5.ownsRow w.heap.size 92 12 v' (j + 1) (((k.ports.take (j + 1)).map (bestP t)).flatMap PB.cells) := by
        rw [List.take_add_one, HPP.out]
        simp only [Option.toList_some, List.map_append, List.map_cons, List.map_nil, List.flatMap_append, HBP.out]
        simpa using hown5
      have HEND := Lib.hid (And.intro hrow (And.intro (Nat.le_trans hsz (Nat.le_trans HK2.out.size hk5.size)) (And.intro hC5 (And.intro hfeet hkk))))
      clear hown5 hgrow5 hk5 hugh hcl hturn hfeet hset hC5 hkk hrow
      go_wp2_with fail
      go_roundw
      case rel => exact ⟨j + 1, by omega, by go_num, HEND.out.1, HEND.out.2.1, _, HEND.out.2.2.1, HEND.out.2.2.2.1, HEND.out.2.2.2.2⟩
      case measure => simp [intOf]; omega
    · obtain rfl : j = n := by omega
      have hle : decide ((j : Int) + 1 ≤ (j : Int)) = false := by simp <;> omega
      clear hCr hown hft hkr
      go_wp2_with fail
      go_ret
      have htk : k.ports.take j = k.ports := List.take_of_length_le (by rw [HN.out]; exact Nat.le_refl _)
      have hown := HOWN.out
      rw [htk] at hown
      obtain ⟨A, c, e, harg, hblk⟩ := pb_arg hown (by simp [HN.out]) (fun q hq => by
        obtain ⟨p, hp, rfl⟩ := List.mem_map.1 hq
        have := best_steps (f := forgetF p.recs t) (fun r hr => (HI.out.ports p hp).steps r (List.mem_filter.1 hr).1) t
        have h0 : 0 ≤ (bestP t p).set.steps := this
        omega)
      have hall : turnTo (forgetP t) k.ports j = k.ports.map (forgetP t) := by rw [← HN.out]; exact turn_all _ _
      have hC2 := HCR.out
      rw [hall] at hC2
      have hfo : ∀ g, ckFoot kb mb (k.ports.map (forgetP t)).length ft' g → ckFoot kb mb k.ports.length ft g := fun g hg => by
        rcases hg with e | e | ⟨i, hi, e⟩
        · exact .inl e
        · exact .inr (.inl e)
        · exact .inr (.inr ⟨i, by simpa using hi, HFT.out i g e⟩)
      obtain ⟨h1, h2⟩ := CkE.step HC.out HS.out HKR.out (fun g hg => by rw [HN.out]; exact hg) hC2 (fun g hg => .inl (hfo g hg))
      subst e
      refine ⟨A, c, rfl, harg, ⟨mb, sps, ft', hC2, fun q hq => ?_⟩, h2⟩
      rcases List.mem_append.1 hq with hq | hq
      · cases A with
        | none => simp [blkL] at hq
        | some a =>
          simp [blkL] at hq
          subst hq
          have hob : (Value.slice (some a) j c).ownBlock = some a.block := rfl
          have := hblk _ hob
          exact ⟨this.2, fun hm => by have := (HC.out.lt _ (hfo _ hm)).2; omega⟩
      · exact ⟨Nat.lt_of_lt_of_le (HS.out q hq).1 HKR.out.size, fun hm => (HS.out q hq).2 (hfo q hm)⟩
end Go.Proofs.Ytfbmlpdomfchpaa
