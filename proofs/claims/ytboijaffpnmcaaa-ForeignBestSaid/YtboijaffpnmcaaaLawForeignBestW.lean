/- The walk of ForeignBest (written by gen_foreign.py). -/
import Derived.WalkKit
import Derived.LoopTactic
import Derived.Outline
import Derived.Lib.Hide
import Derived.StillTailTactics
import Derived.Deep.QuietTactic
import Derived.Test.YtboijaffpnmcaaaF18
import Derived.Test.YtboijaffpnmcaaaF21
namespace Go.Proofs.Ytboijaffpnmcaaa
open Go.RowKit
set_option linter.unusedVariables false
set_option linter.unusedSimpArgs false

set_option maxRecDepth 100000 in
set_option maxHeartbeats 4000000 in
theorem ForeignBest_walk (c : Cf) (at_ : Int) {A : Option Addr} {len cap : Nat} {l : List Op35} (w : World) (h : OpArg w A len cap l) (hat : at_ ≤ 9223372036854775807) : Calls Try.prog 4 #[c.v, .slice A len cap, .int .i64 at_] w fun e w' => e = .returned (.bool true) ∧ Below w.heap.size w w' := by
  have HA := Lib.hid h
  clear h
  go_enter Try.func4, Try.ntmps4
  go_wp2_with fail
  generalize hW : w.alloc _ = w1
  have hb : Below w.heap.size w w1 := by rw [← hW]; exact (Below.refl _ _).alloc (Nat.le_refl _) _
  have hr : w1.rangeAt w.heap.size 0 [.int .i64 c.window, .int .i64 c.need] := by
    rw [← hW]
    intro j v hv
    rw [Nat.zero_add, cell_of_row _ _ j _ _ (0, 0) (heap_alloc_new w _), ← hv]
    simp
  have hs : w.heap.size < w1.heap.size := by rw [← hW]; simp
  have HB1 := Lib.hid hb
  have HR1 := Lib.hid hr
  clear hW hb hr
  by_cases hbad : c.window < 1 ∨ 1125899906842624 < c.window ∨ c.need < 1 ∨ 8 < c.need
  · refine (fnew_bad c.window c.need hbad w1).mono ?_
    rintro e _ ⟨rfl, rfl⟩
    clear hbad
    go_wp2_with fail
    refine (awake35 w1).mono ?_
    rintro e w3 ⟨rfl, hb⟩
    have HB3 := Lib.hid (below_then HB1.out hb)
    clear hb
    go_wp2_with fail
    go_ret
    exact ⟨rfl, HB3.out⟩
  have hc1 : 1 ≤ c.window := by omega
  have hc2 : c.window ≤ 1125899906842624 := by omega
  have hc3 : 1 ≤ c.need := by omega
  refine (aw_new c.window c.need hc1 hc2 hc3 (by omega) w1).mono ?_
  rintro e w2 ⟨rfl, hA2, hb2, hs2⟩
  obtain ⟨B, hB⟩ : ∃ B, w1.heap.size = B := ⟨_, rfl⟩
  obtain ⟨qx, hqx⟩ : ∃ q, w.heap.size = q := ⟨_, rfl⟩
  rw [hB] at hA2 hs2 hb2 hs ⊢
  rw [hqx] at hs HR1 ⊢
  have HA2 := Lib.hid hA2
  have HB2 := Lib.hid hb2
  have HQX := Lib.hid hqx
  have HBE := Lib.hid hB
  clear hA2 hb2 hB hqx hbad
  by_cases hlong : 60 < len
  · have d0 : decide (60 < (len : Int)) = true := by simp; omega
    go_wp2_with fail
    refine (awake35 w2).mono ?_
    rintro e w3 ⟨rfl, hb⟩
    have HB3 := Lib.hid (show Below w.heap.size w w3 from HB1.out.trans (by rw [HQX.out]; exact (HB2.out.mono (Nat.le_of_lt hs)).trans (hb.mono (by omega))))
    clear hb
    go_wp2_with fail
    go_ret
    exact ⟨rfl, HB3.out⟩
  have d0 : decide (60 < (len : Int)) = false := by simp; omega
  go_wp2_with fail
  go_loopw [8] (fun vi wr => ∃ k : Nat, k ≤ len ∧ vi = .int .i64 k ∧ AwE wr B [] (runS (newF c.window c.need) (l.take k)) ∧ Below B w2 wr) (fun vi _ => len - (intOf vi).toNat)
  case atStart => exact ⟨0, Nat.zero_le _, rfl, HA2.out, Below.refl _ _⟩
  case round =>
    obtain ⟨k, hk, rfl, hA, hbr⟩ := hrel
    by_cases hlt : k < len
    · have hk0 : (0 : Int) ≤ (k : Int) := by omega
      have hk1 : (k : Int) < (len : Int) := by omega
      have hle := HA.out.le
      have hmo := HA.out.most
      obtain ⟨b, off, rfl, hbl, hat⟩ := HA.out.at_ (by omega)
      obtain ⟨o, ho⟩ : ∃ o, l[k]? = some o := ⟨_, List.getElem?_eq_getElem (by rw [HA.out.len_eq]; exact hlt)⟩
      have hop : wr.rangeAt b (off + k * 13) o.cells := fun j v hv => by
        have h1 := cell_below HB1.out (hat k o ho j v hv)
        have hb1 : b < B := by rw [HQX.out] at hbl; omega
        exact (hbr.cell hb1).trans ((HB2.out.cell hb1).trans h1)
      have HO := Lib.hid hop
      have HNX := Lib.hid (runS_next (f := newF c.window c.need) ho)
      have HAW := Lib.hid hA
      have HBR := Lib.hid hbr
      clear hat ho hop hA hbr
      have t0 : wr.cell? ⟨b, off + k * 13 + 1, none⟩ = some (.int .i64 o.at_) := HO.out 1 _ rfl
      have s0 : wr.cell? ⟨b, off + k * 13 + 2, none⟩ = some (.int .i64 o.set.p1) := HO.out 2 _ rfl
      have s1 : wr.cell? ⟨b, off + k * 13 + 3, none⟩ = some (.int .i64 o.set.cls) := HO.out 3 _ rfl
      have s2 : wr.cell? ⟨b, off + k * 13 + 4, none⟩ = some (.int .i64 o.set.acc) := HO.out 4 _ rfl
      have s3 : wr.cell? ⟨b, off + k * 13 + 5, none⟩ = some (.int .i64 o.set.var) := HO.out 5 _ rfl
      have s4 : wr.cell? ⟨b, off + k * 13 + 6, none⟩ = some (.int .i64 o.set.p2) := HO.out 6 _ rfl
      have s5 : wr.cell? ⟨b, off + k * 13 + 7, none⟩ = some (.int .u64 o.set.gm) := HO.out 7 _ rfl
      have s6 : wr.cell? ⟨b, off + k * 13 + 8, none⟩ = some (.int .i64 o.set.steps) := HO.out 8 _ rfl
      have s7 : wr.cell? ⟨b, off + k * 13 + 9, none⟩ = some (.int .u64 o.set.sender) := HO.out 9 _ rfl
      have s8 : wr.cell? ⟨b, off + k * 13 + 10, none⟩ = some (.int .i64 o.set.sport) := HO.out 10 _ rfl
      have s9 : wr.cell? ⟨b, off + k * 13 + 11, none⟩ = some (.int .u64 o.set.recv) := HO.out 11 _ rfl
      have s10 : wr.cell? ⟨b, off + k * 13 + 12, none⟩ = some (.int .i64 o.set.rport) := HO.out 12 _ rfl
      go_upto_region 7 with fail
      go_still_tail 11, (by kernel_rfl)
      change wpList _ _ _ _ _ (World.drew wr)
      have HW3 := Lib.hid (show AwE wr.drew B [] (runS (newF c.window c.need) (l.take k)) ∧ Below B w2 wr.drew from ⟨HAW.out.below (below_drewN (Below.refl _ _) 1), below_drewN HBR.out 1⟩)
      have HO3 := Lib.hid (show wr.drew.rangeAt b (off + k * 13) o.cells from HO.out)
      have hbB : b < B := by rw [HQX.out] at hbl; omega
      obtain ⟨F, hF⟩ : ∃ F, runS (newF c.window c.need) (l.take k) = F := ⟨_, rfl⟩
      rw [hF] at HNX HW3 
      generalize wr.drew = w3 at *
      clear t0 s0 s1 s2 s3 s4 s5 s6 s7 s8 s9 s10 HAW HBR HO hF
      go_wp2_with fail
      refine (aw_hear HW3.out.1 o.set o.at_).mono ?_
      rintro e w4 ⟨rfl, hA4, hS4⟩
      have t1 : w4.cell? ⟨b, off + k * 13 + 1, none⟩ = some (.int .i64 o.at_) := hS4.cell (HO3.out 1 _ rfl) (.inl hbB)
      have HN4 := Lib.hid (show AwE w4 B [] (runS (newF c.window c.need) (l.take (k + 1))) ∧ Below B w2 w4 from ⟨by rw [HNX.out]; exact hA4, HW3.out.2.trans hS4.below⟩)
      obtain ⟨z, hz⟩ : ∃ z, hearE F o.set o.at_ = z := ⟨_, rfl⟩
      have hlast := hearS_last F o.set o.at_
      rw [hz] at hlast ⊢
      have HL := Lib.hid hlast
      clear hA4 hS4 hz HW3 HO3 hlast
      go_wp2_with fail
      go_roundw
      case rel => exact ⟨k + 1, by omega, by go_num, HN4.out.1, HN4.out.2⟩
      case measure => simp [intOf]; omega
    · obtain rfl : k = len := by omega
      have el : l.take k = l := List.take_of_length_le (by rw [HA.out.len_eq]; exact Nat.le_refl _)
      have hpast := runS_past (l.take k) (newF c.window c.need) (newF_past _ _)
      have hwin := runS_window (l.take k) (newF c.window c.need)
      obtain ⟨F, hF⟩ : ∃ F, runS (newF c.window c.need) (l.take k) = F := ⟨_, rfl⟩
      rw [hF] at hA hpast hwin 
      have HAW := Lib.hid hA
      have hqB : qx < B := hs
      have HBR := Lib.hid (show Below w.heap.size w wr from HB1.out.trans (by rw [HQX.out]; exact (HB2.out.trans hbr).mono (Nat.le_of_lt hs)))
      have HX := Lib.hid (show wr.rangeAt qx 0 [.int .i64 c.window, .int .i64 c.need] from fun j v hv => ((HB2.out.trans hbr).cell hqB).trans (HR1.out j v hv))
      have HP := Lib.hid hpast
      have HWI := Lib.hid hwin
      clear hA hbr hF el HA2 HB1 HR1 HB2 hpast hwin
      skip
      go_wp2_with fail
      refine (aw_qualS HAW.out at_ hat rfl).mono ?_
      rintro e w3 ⟨A1, c1, rfl, hA3, hS3, hb3, ho3⟩
      have HA3 := Lib.hid hA3
      have HB3 := Lib.hid (below_then HBR.out hb3)
      have HO3 := Lib.hid ho3
      have HQ5 := Lib.hid (qual_five HAW.out at_)
      clear hA3 hS3 hb3 ho3 HAW HBR
      go_wp2_with fail
      refine (aw_best HA3.out at_ hat).mono ?_
      rintro e w4 ⟨rfl, hb4⟩
      have HB4 := Lib.hid (below_then HB3.out hb4)
      have HO4 := Lib.hid (ownsRow_below HO3.out hb4)
      clear hb4 HA3 HB3 HO3
      obtain ⟨qs, hqs⟩ : ∃ q, qualF F at_ = q := ⟨_, rfl⟩
      rw [hqs] at HO4 HQ5 ⊢
      clear hqs
      obtain ⟨x, hx⟩ : ∃ x, bestR qs = x := ⟨_, rfl⟩
      obtain ⟨ok, hok⟩ : ∃ b, (!qs.isEmpty) = b := ⟨_, rfl⟩
      rw [hx, hok]
      have HX := Lib.hid hx
      have HOK := Lib.hid hok
      clear hx hok
      go_upto_region 10 with fail
      generalize hW : w4.alloc _ = w5
      have hb5 : Below w4.heap.size w4 w5 := by rw [← hW]; exact (Below.refl _ _).alloc (Nat.le_refl _) _
      have hrx : w5.rangeAt w4.heap.size 0 x.cells := by
        rw [← hW]
        intro j v hv
        rw [Nat.zero_add, cell_of_row _ _ j _ _ (0, 0) (heap_alloc_new w4 _), ← hv]
        simp [DS.cells]
      have HB5 := Lib.hid (below_then HB4.out hb5)
      have HO5 := Lib.hid (ownsRow_below HO4.out hb5)
      have HRX := Lib.hid hrx
      obtain ⟨qz, hqz⟩ : ∃ q, w4.heap.size = q := ⟨_, rfl⟩
      rw [hqz] at HRX ⊢
      clear hW hb5 hrx hqz HB4 HO4
      obtain ⟨n, hn⟩ : ∃ n, qs.length = n := ⟨_, rfl⟩
      have HN := Lib.hid hn
      have hn5 := HQ5.out
      rw [hn] at hn5 ⊢
      clear hn HQ5
      go_wp2_with fail
      go_loopw [12, 13] (fun vf vi wr => ∃ k : Nat, k ≤ n ∧ vi = .int .i64 k ∧ vf = .bool (foundTo qs x k) ∧ Below w5.heap.size w5 wr) (fun _ vi _ => n - (intOf vi).toNat)
      case atStart => exact ⟨0, Nat.zero_le _, rfl, rfl, Below.refl _ _⟩
      case round =>
        obtain ⟨k, hk, rfl, rfl, hbr⟩ := hrel
        have HBR := Lib.hid hbr
        by_cases hlt : k < n
        · have hk0 : (0 : Int) ≤ (k : Int) := by omega
          have hk1 : (k : Int) < (n : Int) := by omega
          obtain ⟨d, hd⟩ : ∃ d, qs[k]? = some d := ⟨_, List.getElem?_eq_getElem (by rw [HN.out]; exact hlt)⟩
          rcases owns_ds HO5.out rfl with ⟨_, e⟩ | ⟨g, cap1, e, hbg, hg, hle, hcm, hrg⟩
          · rw [e] at hd; simp at hd
          have e1 : A1 = some ⟨g, 0, none⟩ := by injection e
          have e2 : c1 = cap1 := by injection e
          subst e1 e2
          rw [HN.out] at hle
          unfold maxLen at hcm
          have ha := rangeAt_below (hrg k d hd) hbr
          have hc := rangeAt_below HRX.out hbr
          have HNX := Lib.hid (found_next (x := x) hd)
          have hless : lessB d x = false := by rw [← HX.out]; exact best_least (List.mem_of_getElem? hd)
          have HLS := Lib.hid hless
          have he := eql_ds d x
          have a0 : wr.cell? ⟨g, k * 11, none⟩ = some (.int .i64 d.p1) := ha 0 _ rfl
          have a1 : wr.cell? ⟨g, k * 11 + 1, none⟩ = some (.int .i64 d.cls) := ha 1 _ rfl
          have a2 : wr.cell? ⟨g, k * 11 + 2, none⟩ = some (.int .i64 d.acc) := ha 2 _ rfl
          have a3 : wr.cell? ⟨g, k * 11 + 3, none⟩ = some (.int .i64 d.var) := ha 3 _ rfl
          have a4 : wr.cell? ⟨g, k * 11 + 4, none⟩ = some (.int .i64 d.p2) := ha 4 _ rfl
          have a5 : wr.cell? ⟨g, k * 11 + 5, none⟩ = some (.int .u64 d.gm) := ha 5 _ rfl
          have a6 : wr.cell? ⟨g, k * 11 + 6, none⟩ = some (.int .i64 d.steps) := ha 6 _ rfl
          have a7 : wr.cell? ⟨g, k * 11 + 7, none⟩ = some (.int .u64 d.sender) := ha 7 _ rfl
          have a8 : wr.cell? ⟨g, k * 11 + 8, none⟩ = some (.int .i64 d.sport) := ha 8 _ rfl
          have a9 : wr.cell? ⟨g, k * 11 + 9, none⟩ = some (.int .u64 d.recv) := ha 9 _ rfl
          have a10 : wr.cell? ⟨g, k * 11 + 10, none⟩ = some (.int .i64 d.rport) := ha 10 _ rfl
          have c0 : wr.cell? ⟨qz, 0, none⟩ = some (.int .i64 x.p1) := hc 0 _ rfl
          have c1 : wr.cell? ⟨qz, 1, none⟩ = some (.int .i64 x.cls) := hc 1 _ rfl
          have c2 : wr.cell? ⟨qz, 2, none⟩ = some (.int .i64 x.acc) := hc 2 _ rfl
          have c3 : wr.cell? ⟨qz, 3, none⟩ = some (.int .i64 x.var) := hc 3 _ rfl
          have c4 : wr.cell? ⟨qz, 4, none⟩ = some (.int .i64 x.p2) := hc 4 _ rfl
          have c5 : wr.cell? ⟨qz, 5, none⟩ = some (.int .u64 x.gm) := hc 5 _ rfl
          have c6 : wr.cell? ⟨qz, 6, none⟩ = some (.int .i64 x.steps) := hc 6 _ rfl
          have c7 : wr.cell? ⟨qz, 7, none⟩ = some (.int .u64 x.sender) := hc 7 _ rfl
          have c8 : wr.cell? ⟨qz, 8, none⟩ = some (.int .i64 x.sport) := hc 8 _ rfl
          have c9 : wr.cell? ⟨qz, 9, none⟩ = some (.int .u64 x.recv) := hc 9 _ rfl
          have c10 : wr.cell? ⟨qz, 10, none⟩ = some (.int .i64 x.rport) := hc 10 _ rfl
          have HRA := Lib.hid ha
          have HRC := Lib.hid hc
          clear ha hc hd hrg e hless hbr
          cases hf : foundTo qs x k
          all_goals cases hdx : decide (d = x)
          all_goals rw [hf, hdx] at HNX
          all_goals go_wp2_with fail
          all_goals go_quiet (fail)
          all_goals go_upto_region 15 with fail
          all_goals have hb6 : Below wr.heap.size wr (wr.drewN nq) := below_drewN (Below.refl _ _) nq
          all_goals generalize wr.drewN nq = w5b at hb6 ⊢
          all_goals clear a0 a1 a2 a3 a4 a5 a6 a7 a8 a9 a10 c0 c1 c2 c3 c4 c5 c6 c7 c8 c9 c10 he hf hdx
          all_goals have hp := rangeAt_below HRA.out hb6
          all_goals have hq := rangeAt_below HRC.out hb6
          all_goals have p0 : w5b.cell? ⟨g, k * 11, none⟩ = some (.int .i64 d.p1) := hp 0 _ rfl
          all_goals have p1 : w5b.cell? ⟨g, k * 11 + 1, none⟩ = some (.int .i64 d.cls) := hp 1 _ rfl
          all_goals have p2 : w5b.cell? ⟨g, k * 11 + 2, none⟩ = some (.int .i64 d.acc) := hp 2 _ rfl
          all_goals have p3 : w5b.cell? ⟨g, k * 11 + 3, none⟩ = some (.int .i64 d.var) := hp 3 _ rfl
          all_goals have p4 : w5b.cell? ⟨g, k * 11 + 4, none⟩ = some (.int .i64 d.p2) := hp 4 _ rfl
          all_goals have p5 : w5b.cell? ⟨g, k * 11 + 5, none⟩ = some (.int .u64 d.gm) := hp 5 _ rfl
          all_goals have p6 : w5b.cell? ⟨g, k * 11 + 6, none⟩ = some (.int .i64 d.steps) := hp 6 _ rfl
          all_goals have p7 : w5b.cell? ⟨g, k * 11 + 7, none⟩ = some (.int .u64 d.sender) := hp 7 _ rfl
          all_goals have p8 : w5b.cell? ⟨g, k * 11 + 8, none⟩ = some (.int .i64 d.sport) := hp 8 _ rfl
          all_goals have p9 : w5b.cell? ⟨g, k * 11 + 9, none⟩ = some (.int .u64 d.recv) := hp 9 _ rfl
          all_goals have p10 : w5b.cell? ⟨g, k * 11 + 10, none⟩ = some (.int .i64 d.rport) := hp 10 _ rfl
          all_goals have q0 : w5b.cell? ⟨qz, 0, none⟩ = some (.int .i64 x.p1) := hq 0 _ rfl
          all_goals have q1 : w5b.cell? ⟨qz, 1, none⟩ = some (.int .i64 x.cls) := hq 1 _ rfl
          all_goals have q2 : w5b.cell? ⟨qz, 2, none⟩ = some (.int .i64 x.acc) := hq 2 _ rfl
          all_goals have q3 : w5b.cell? ⟨qz, 3, none⟩ = some (.int .i64 x.var) := hq 3 _ rfl
          all_goals have q4 : w5b.cell? ⟨qz, 4, none⟩ = some (.int .i64 x.p2) := hq 4 _ rfl
          all_goals have q5 : w5b.cell? ⟨qz, 5, none⟩ = some (.int .u64 x.gm) := hq 5 _ rfl
          all_goals have q6 : w5b.cell? ⟨qz, 6, none⟩ = some (.int .i64 x.steps) := hq 6 _ rfl
          all_goals have q7 : w5b.cell? ⟨qz, 7, none⟩ = some (.int .u64 x.sender) := hq 7 _ rfl
          all_goals have q8 : w5b.cell? ⟨qz, 8, none⟩ = some (.int .i64 x.sport) := hq 8 _ rfl
          all_goals have q9 : w5b.cell? ⟨qz, 9, none⟩ = some (.int .u64 x.recv) := hq 9 _ rfl
          all_goals have q10 : w5b.cell? ⟨qz, 10, none⟩ = some (.int .i64 x.rport) := hq 10 _ rfl
          all_goals have HB5b := Lib.hid (below_then HBR.out hb6)
          all_goals clear hb6 hp hq
          all_goals go_still_tail 5, (by kernel_rfl)
          all_goals change wpList _ _ _ _ _ (World.drew w5b)
          all_goals have HB6 := Lib.hid (show Below w5.heap.size w5 w5b.drew from below_drewN HB5b.out 1)
          all_goals generalize w5b.drew = w6 at HB6 ⊢
          all_goals clear p0 p1 p2 p3 p4 p5 p6 p7 p8 p9 p10 q0 q1 q2 q3 q4 q5 q6 q7 q8 q9 q10 HB5b
          all_goals go_wp2_with fail
          all_goals refine (less_any d x w6).mono ?_
          all_goals rintro e w7 ⟨rfl, hb7⟩
          all_goals rw [HLS.out]
          all_goals have HB7 := Lib.hid (below_then (show Below w5.heap.size w5 w6 from HB6.out) hb7)
          all_goals clear hb7 HB6
          all_goals go_wp2_with fail
          all_goals go_roundw
          all_goals first
            | (case rel => exact ⟨k + 1, by omega, by go_num, by rw [HNX.out]; rfl, HB7.out⟩)
            | skip
          all_goals simp [intOf]; omega
        · obtain rfl : k = n := by omega
          have hfa : foundTo qs x k = foundTo qs x qs.length := by rw [HN.out]
          have HBE2 := Lib.hid (below_then HB5.out hbr)
          have hc := rangeAt_below HRX.out hbr
          have c0 : wr.cell? ⟨qz, 0, none⟩ = some (.int .i64 x.p1) := hc 0 _ rfl
          have c1 : wr.cell? ⟨qz, 1, none⟩ = some (.int .i64 x.cls) := hc 1 _ rfl
          have c2 : wr.cell? ⟨qz, 2, none⟩ = some (.int .i64 x.acc) := hc 2 _ rfl
          have c3 : wr.cell? ⟨qz, 3, none⟩ = some (.int .i64 x.var) := hc 3 _ rfl
          have c4 : wr.cell? ⟨qz, 4, none⟩ = some (.int .i64 x.p2) := hc 4 _ rfl
          have c5 : wr.cell? ⟨qz, 5, none⟩ = some (.int .u64 x.gm) := hc 5 _ rfl
          have c6 : wr.cell? ⟨qz, 6, none⟩ = some (.int .i64 x.steps) := hc 6 _ rfl
          have c7 : wr.cell? ⟨qz, 7, none⟩ = some (.int .u64 x.sender) := hc 7 _ rfl
          have c8 : wr.cell? ⟨qz, 8, none⟩ = some (.int .i64 x.sport) := hc 8 _ rfl
          have c9 : wr.cell? ⟨qz, 9, none⟩ = some (.int .u64 x.recv) := hc 9 _ rfl
          have c10 : wr.cell? ⟨qz, 10, none⟩ = some (.int .i64 x.rport) := hc 10 _ rfl
          clear hc hbr
          have he := eql_ds x .zero
          by_cases hne : qs = []
          · have ex : x = .zero := by rw [← HX.out, hne]; rfl
            have eo : ok = false := by rw [← HOK.out, hne]; rfl
            have en : k = 0 := by rw [← HN.out, hne]; rfl
            subst ex eo en
            have hdz : decide (DS.zero = DS.zero) = true := by simp
            clear hfa hne
            go_wp2_with fail
            refine (awake35 wr).mono ?_
            rintro e w7 ⟨rfl, hb7⟩
            have HB7 := Lib.hid (below_then HBE2.out hb7)
            clear hb7
            go_wp2_with fail
            go_ret
            exact ⟨rfl, HB7.out⟩
          · have eo : ok = true := by rw [← HOK.out]; cases qs with | nil => exact absurd rfl hne | cons a t => rfl
            have en : 0 < k := by rw [← HN.out]; exact List.length_pos_iff.2 hne
            have hft : foundTo qs x k = true := by rw [hfa]; exact found_all (by rw [← HX.out]; exact best_mem hne)
            have hk0 : decide (0 < (k : Int)) = true := by simp; omega
            subst eo
            rw [hft]
            clear hfa hne hft
            go_wp2_with fail
            refine (awake35 wr).mono ?_
            rintro e w7 ⟨rfl, hb7⟩
            have HB7 := Lib.hid (below_then HBE2.out hb7)
            clear hb7
            go_wp2_with fail
            go_ret
            exact ⟨rfl, HB7.out⟩
end Go.Proofs.Ytboijaffpnmcaaa
