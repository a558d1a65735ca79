/- short and play; what they leave of a clock. -/
import Derived.WalkKit
import Derived.LoopTactic
import Derived.Outline
import Derived.Lib.Hide
import Derived.Test.YtfbmlpdomfchpaaB14
import Derived.Test.YtfbmlpdomfchpaaB16
import Derived.Test.YtfbmlpdomfchpaaB17
import Derived.Test.YtfbmlpdomfchpaaB21
import Derived.Test.YtfbmlpdomfchpaaB22
import Derived.Test.YtfbmlpdomfchpaaActs
namespace Go.Proofs.Ytfbmlpdomfchpaa
open Go.RowKit
set_option linter.unusedVariables false
set_option linter.unusedSimpArgs false

theorem uses_nine_eq {s : Int} (h1 : 1 ≤ s) (h9 : s ≤ 9) : usesB (nextF s 9 true) = usesB s := by
  have := uses_synced ⟨(s - 1).toNat, by omega⟩
  rw [show (((⟨(s - 1).toNat, by omega⟩ : Fin 9).val : Int) + 1) = s from by show ((s - 1).toNat : Int) + 1 = s; omega] at this
  exact this
theorem synced_inv {p : Pst} (h : p.Inv) : (syncedP p).Inv ∧ (syncedP p).recs = p.recs ∧ usesB (syncedP p).now = usesB p.now := by
  unfold syncedP
  split
  · have hr := next_range h.now1 h.now9 9 true
    exact ⟨⟨hr.1, hr.2, h.recs, h.steps, h.ann0, h.ann1, h.req0, h.req1⟩, rfl, uses_nine_eq h.now1 h.now9⟩
  · exact ⟨h, rfl, rfl⟩
theorem ex_inv {q : Pst} (h : q.Inv) (x : Ex) : ({ q with ex := x } : Pst).Inv := ⟨h.now1, h.now9, h.recs, h.steps, h.ann0, h.ann1, h.req0, h.req1⟩
theorem exP_inv {q : Pst} (h : q.Inv) (x : Ex) (e : Int) : (exP q x e).Inv ∧ (exP q x e).recs = q.recs ∧ usesB (exP q x e).now = usesB q.now := by
  unfold exP
  split
  · exact synced_inv (ex_inv h x)
  · exact ⟨ex_inv h x, rfl, rfl⟩
theorem portAt_get {k : Ck} {n : Int} {q : Pst} (h : portAt k n = some q) : k.ports[n.toNat - 1]? = some q := by
  unfold portAt at h
  split at h
  · exact h
  · cases h
theorem good_turn {k : Ck} (h : k.Good) {n : Int} {q p' : Pst} (hq : portAt k n = some q) (hp : p'.Inv ∧ p'.recs = q.recs ∧ usesB p'.now = usesB q.now) : ({ k with ports := k.ports.set (n.toNat - 1) p' } : Ck).Good :=
  good_port h (portAt_get hq) hp.1 (fun r hr => by rw [hp.2.1] at hr; exact h.sets q (List.mem_of_getElem? (portAt_get hq)) r hr) (fun hu => by rw [← hp.2.2]; exact hu)
theorem good_resp {k : Ck} (h : k.Good) (n : Int) (p : Ptp) : (respK k n p).Good := by
  unfold respK
  cases hq : portAt k n with
  | none => exact h
  | some q =>
    simp only []
    split
    · exact good_turn h hq (exP_inv (h.inv.ports q (List.mem_of_getElem? (portAt_get hq))) _ _)
    · exact h
theorem good_syn {k : Ck} (h : k.Good) (n : Int) (p : Ptp) (t : Int) : (synK k n p t).Good := by
  unfold synK
  cases hq : portAt k n with
  | none => exact h
  | some q =>
    simp only []
    have hqi := h.inv.ports q (List.mem_of_getElem? (portAt_get hq))
    refine good_turn h hq ?_
    unfold syncP
    split
    · exact ⟨hqi, rfl, rfl⟩
    split
    · split
      · exact ⟨hqi, rfl, rfl⟩
      split
      · exact ⟨hqi, rfl, rfl⟩
      · exact exP_inv hqi _ _
    split
    · split
      · exact ⟨hqi, rfl, rfl⟩
      split
      · exact ⟨hqi, rfl, rfl⟩
      · exact exP_inv hqi _ _
    · exact ⟨hqi, rfl, rfl⟩
theorem good_req {k : Ck} (h : k.Good) (n t : Int) : (reqK k n t).Good := by
  unfold reqK
  cases hq : portAt k n with
  | none => exact h
  | some q =>
    simp only []
    split
    · have hqi := h.inv.ports q (List.mem_of_getElem? (portAt_get hq))
      refine good_turn h hq ?_
      unfold reqP
      split
      · exact ⟨⟨hqi.now1, hqi.now9, hqi.recs, hqi.steps, hqi.ann0, hqi.ann1, by show 0 ≤ (q.req + 1) % 65536; omega, by show (q.req + 1) % 65536 ≤ 65535; omega⟩, rfl, rfl⟩
      · exact ⟨ex_inv hqi _, rfl, rfl⟩
    · exact h
def playK (k : Ck) (a : Bact) (t : Int) : Ck := if a.kind = 0 then annK k a.port a.msg t else if a.kind = 1 then decK k t else if a.kind = 2 then synK k a.port a.msg a.at_ else if a.kind = 3 then reqK k a.port a.at_ else if a.kind = 4 then respK k a.port a.msg else sendK k
theorem good_play {k : Ck} (h : k.Good) (a : Bact) (t : Int) : (playK k a t).Good := by
  unfold playK
  split
  · exact good_ann h _ _ _
  split
  · exact good_dec h _
  split
  · exact good_syn h _ _ _
  split
  · exact good_req h _ _
  split
  · exact good_resp h _ _
  · exact good_send h
theorem play_conf (k : Ck) (a : Bact) (t : Int) : (playK k a t).c = k.c := by
  unfold playK
  split
  · unfold annK
    split
    · rfl
    · split <;> rfl
  split
  · unfold decK
    split <;> rfl
  split
  · unfold synK
    split <;> rfl
  split
  · unfold reqK
    split
    · rfl
    · split <;> rfl
  split
  · unfold respK
    split
    · rfl
    · split <;> rfl
  · unfold sendK
    split <;> rfl
/-- A call that returns a test and only makes memory. -/
def SomeBool (w : World) (e : Ending) (w' : World) : Prop := ∃ b : Bool, e = .returned (.bool b) ∧ Below w.heap.size w w'
set_option maxRecDepth 100000 in
set_option maxHeartbeats 4000000 in
theorem short_any {A : Option Addr} {n cap : Nat} {l : List Bact} {w : World} (ok : BactArg w A n cap l) : Calls Try.prog 6 #[.slice A n cap] w (SomeBool w) := by
  have hlen := ok.len_eq
  have hmost := ok.most
  have hle := ok.le
  have hn0 : (0 : Int) ≤ (n : Int) := by omega
  have OK := Lib.hid ok
  have HL := Lib.hid hlen
  clear ok hlen
  by_cases hn : 80 < n
  · have hnb : (80 : Int) < (n : Int) := by omega
    go_enter Try.func6, Try.ntmps6
    go_wp2_with fail
    go_ret
    exact ⟨_, rfl, Below.refl _ _⟩
  have hnb : (n : Int) ≤ 80 := by omega
  go_enter Try.func6, Try.ntmps6
  go_wp2_with fail
  go_loopw [10] (fun i wr => ∃ j : Nat, j ≤ n ∧ i = .int .i64 (j : Int) ∧ Below w.heap.size w wr) (fun i _ => n - (intOf i).toNat)
  case atStart => exact ⟨0, Nat.zero_le _, rfl, Below.refl _ _⟩
  case round =>
    obtain ⟨j, hj, rfl, hb⟩ := hrel
    have HB := Lib.hid hb
    clear hb
    by_cases hlt : j < n
    · have hlj : decide ((j : Int) < (n : Int)) = true := by simp; omega
      have hk0 : (0 : Int) ≤ (j : Int) := by omega
      have hk1 : (j : Int) < (n : Int) := by omega
      obtain ⟨b, off, rfl, hbl, hrow⟩ := (OK.out.below HB.out).at_ (by omega)
      obtain ⟨a, ha⟩ : ∃ a, l.getD j .zero = a := ⟨_, rfl⟩
      have hra := hrow j (by rw [HL.out]; exact hlt)
      rw [ha] at hra
      have HRA := Lib.hid hra
      clear hrow hra ha hbl
      go_upto_region 6 with (first | (refine load_act HRA.out _ (by rfl) rfl rfl ?_) | (refine store_act_new (o := a) rfl rfl _ _ (by rfl) rfl rfl rfl ?_; intro w2 h2))
      try simp only [Act.put, List.setIfInBounds_toArray, List.set_cons_succ, List.set_cons_zero]
      have HB2 := Lib.hid (below_then HB.out h2.out.2.1)
      have a2 : w2.cell? ⟨wr.heap.size, 2, none⟩ = some (.int .i64 a.at_) := h2.out.1 2 _ rfl
      clear h2 HRA
      by_cases g1 : a.at_ < -1000
      · have g1b : decide (a.at_ < -1000) = true := by simpa using g1
        clear g1
        go_wp2_with fail
        go_ret
        exact ⟨_, rfl, HB2.out⟩
      have g1b : decide (a.at_ < -1000) = false := by simpa using g1
      by_cases g2 : 1125899906842624 < a.at_
      · have g2b : decide (1125899906842624 < a.at_) = true := by simpa using g2
        clear g1 g2
        go_wp2_with fail
        go_ret
        exact ⟨_, rfl, HB2.out⟩
      have g2b : decide (1125899906842624 < a.at_) = false := by simpa using g2
      clear g1 g2
      go_wp2_with fail
      go_roundw
      case rel => exact ⟨j + 1, by omega, by go_num, HB2.out⟩
      case measure => simp [intOf]; omega
    · obtain rfl : j = n := by omega
      have hle : decide ((j : Int) < (j : Int)) = false := by simp <;> omega
      go_wp2_with fail
      go_ret
      exact ⟨_, rfl, HB.out⟩
set_option maxRecDepth 100000 in
set_option maxHeartbeats 4000000 in
theorem play_any {w : World} {base kb : Nat} {S : List Nat} {k : Ck} (h : CkE w base kb S k) (good : k.Good) (a : Bact) (wf : (Lit.int .i64 a.msg.kind).wf = true) (t : Int) :
    Calls Try.prog 11 #[.pointer (some ⟨kb, 0, none⟩), a.v, .int .i64 t] w fun e w' => e = .returned (.tuple #[]) ∧ CkE w' base kb S (playK k a t) ∧ Stay base S w w' := by
  obtain ⟨k', hk'⟩ : ∃ r, playK k a t = r := ⟨_, rfl⟩
  rw [hk']
  have HKK := Lib.hid (show k' = if a.kind = 0 then annK k a.port a.msg t else if a.kind = 1 then decK k t else if a.kind = 2 then synK k a.port a.msg a.at_ else if a.kind = 3 then reqK k a.port a.at_ else if a.kind = 4 then respK k a.port a.msg else sendK k by rw [← hk', playK])
  have HE := Lib.hid h
  have HG := Lib.hid good
  have WF := Lib.hid wf
  clear hk' h good wf
  go_enter Try.func11, Try.ntmps11
  refine seq_opaque ?_
  intro T HT
  go_wp2_with fail
  generalize hW : w.alloc _ = w1
  have hb1 : Below w.heap.size w w1 := by rw [← hW]; exact (Below.refl _ _).alloc (Nat.le_refl _) _
  have hp1 : w1.rangeAt w.heap.size 0 a.cells := by
    rw [← hW]
    intro j v hv
    rw [Nat.zero_add, cell_of_row _ _ j _ _ (0, 0) (heap_alloc_new w _), ← hv]
    simp [Bact.cells]
  rw [HT.out]
  have HM1 := Lib.hid (show w1.rangeAt w.heap.size 3 a.msg.cells from by have := Bact.msg_range hp1; simpa using this)
  have HE1 := Lib.hid (HE.out.below hb1)
  have HST := Lib.hid (HE.out.stay hb1)
  have c0 : w1.cell? ⟨w.heap.size, 0, none⟩ = some (.int .i64 a.kind) := hp1 0 _ rfl
  have c1 : w1.cell? ⟨w.heap.size, 1, none⟩ = some (.int .i64 a.port) := hp1 1 _ rfl
  have c2 : w1.cell? ⟨w.heap.size, 2, none⟩ = some (.int .i64 a.at_) := hp1 2 _ rfl
  clear hW HT hb1 hp1 HE
  by_cases h0 : a.kind = 0
  · have HX := Lib.hid (show k' = annK k a.port a.msg t by rw [HKK.out, if_pos h0])
    rw [h0] at c0
    clear h0
    go_wp2_with (refine load_ptp_at HM1.out _ (by rfl) rfl rfl ?_)
    refine (announce_any HE1.out HG.out.inv a.port a.msg WF.out t).mono ?_
    rintro e w2 ⟨rfl, h1, h2⟩
    have HR := Lib.hid (And.intro h1 (HST.out.trans h2))
    clear h1 h2
    go_wp2_with fail
    go_end0
    exact ⟨rfl, by rw [HX.out]; exact HR.out.1, HR.out.2⟩
  have e0 : (a.kind == 0) = false := by simpa using h0
  by_cases h1 : a.kind = 1
  · have HX := Lib.hid (show k' = decK k t by rw [HKK.out, if_neg h0, if_pos h1])
    rw [h1] at c0
    clear h0 h1 e0
    go_wp2_with fail
    refine (bdec_any HE1.out HG.out.inv t).mono ?_
    rintro e w2 ⟨v, rfl, h1, h2⟩
    have HR := Lib.hid (And.intro h1 (HST.out.trans h2))
    clear h1 h2
    go_wp2_with fail
    go_end0
    exact ⟨rfl, by rw [HX.out]; exact HR.out.1, HR.out.2⟩
  have e1 : (a.kind == 1) = false := by simpa using h1
  by_cases h2 : a.kind = 2
  · have HX := Lib.hid (show k' = synK k a.port a.msg a.at_ by rw [HKK.out, if_neg h0, if_neg h1, if_pos h2])
    rw [h2] at c0
    clear h0 h1 h2 e0 e1
    go_wp2_with (refine load_ptp_at HM1.out _ (by rfl) rfl rfl ?_)
    refine (bsync_any HE1.out HG.out.inv a.port a.msg WF.out a.at_).mono ?_
    rintro e w2 ⟨v, rfl, h1, h2⟩
    have HR := Lib.hid (And.intro h1 (HST.out.trans h2))
    clear h1 h2
    go_wp2_with fail
    go_end0
    exact ⟨rfl, by rw [HX.out]; exact HR.out.1, HR.out.2⟩
  have e2 : (a.kind == 2) = false := by simpa using h2
  by_cases h3 : a.kind = 3
  · have HX := Lib.hid (show k' = reqK k a.port a.at_ by rw [HKK.out, if_neg h0, if_neg h1, if_neg h2, if_pos h3])
    rw [h3] at c0
    clear h0 h1 h2 h3 e0 e1 e2
    go_wp2_with fail
    refine (brequest_any HE1.out HG.out.inv a.port a.at_).mono ?_
    rintro e w2 ⟨v, rfl, h1, h2⟩
    have HR := Lib.hid (And.intro h1 (HST.out.trans h2))
    clear h1 h2
    go_wp2_with fail
    go_end0
    exact ⟨rfl, by rw [HX.out]; exact HR.out.1, HR.out.2⟩
  have e3 : (a.kind == 3) = false := by simpa using h3
  by_cases h4 : a.kind = 4
  · have HX := Lib.hid (show k' = respK k a.port a.msg by rw [HKK.out, if_neg h0, if_neg h1, if_neg h2, if_neg h3, if_pos h4])
    rw [h4] at c0
    clear h0 h1 h2 h3 h4 e0 e1 e2 e3
    go_wp2_with (refine load_ptp_at HM1.out _ (by rfl) rfl rfl ?_)
    refine (bresponse_any HE1.out HG.out.inv a.port a.msg WF.out).mono ?_
    rintro e w2 ⟨v, rfl, h1, h2⟩
    have HR := Lib.hid (And.intro h1 (HST.out.trans h2))
    clear h1 h2
    go_wp2_with fail
    go_end0
    exact ⟨rfl, by rw [HX.out]; exact HR.out.1, HR.out.2⟩
  have e4 : (a.kind == 4) = false := by simpa using h4
  have HX := Lib.hid (show k' = sendK k by rw [HKK.out, if_neg h0, if_neg h1, if_neg h2, if_neg h3, if_neg h4])
  have hfit := good_fit HG.out
  have hs0 := hfit.stepsa
  have hs1 := hfit.stepsb
  clear h0 h1 h2 h3 h4 hfit
  go_wp2_with fail
  refine (bsend_any HE1.out HG.out.inv hs0 (by omega)).mono ?_
  rintro e w2 ⟨A, c, rfl, _, h1, h2⟩
  have HR := Lib.hid (And.intro (h1.less (T := S) (fun q hq => List.mem_append.2 (.inr hq))) (HST.out.trans h2))
  clear h1 h2
  go_wp2_with fail
  go_end0
  exact ⟨rfl, by rw [HX.out]; exact HR.out.1, HR.out.2⟩
end Go.Proofs.Ytfbmlpdomfchpaa
