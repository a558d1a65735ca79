/- The walk of DecideAlone. -/
import Derived.WalkKit
import Derived.LoopTactic
import Derived.Outline
import Derived.Lib.Hide
import Derived.OwnWalk
import Derived.WalkSpells
import Derived.WalkLawsBesides
import Derived.Deep.DeepCutAuto
import Derived.Deep.CutBlock
import Derived.Deep.RegionHeld3
import Derived.Test.YthehhcaohhlccaaDe7
import Derived.Test.YthehhcaohhlccaaDsArg
namespace Go.Proofs.Ythehhcaohhlccaa
open Go.RowKit
set_option linter.unusedVariables false
set_option linter.unusedSimpArgs false

theorem infoPB : (Try.prog.info? 54).map (fun i => (i.zero, i.size, i.bytes)) = some (some (.agg #[.bool false, .int .i64 0, .int .i64 0, .int .i64 0, .int .i64 0, .int .i64 0, .int .u64 0, .int .i64 0, .int .u64 0, .int .i64 0, .int .u64 0, .int .i64 0]), 12, 96) := by kernel_rfl
def deafOf (l : List DS) : List PB := l.map fun d => ⟨false, d⟩
theorem deaf_len (l : List DS) : (deafOf l).length = l.length := by simp [deafOf]
theorem deaf_all (l : List DS) (i : Nat) : ((deafOf l).getD i .zero).has = false := by
  by_cases h : i < l.length
  · simp [deafOf, List.getD_eq_getElem?_getD, h]
  · simp [deafOf, List.getD_eq_getElem?_getD, h, PB.zero]
theorem deaf_best (l : List DS) : pbest (deafOf l) < 0 := by
  have h := pbTo_has (deafOf l) (deafOf l).length
  have e : pbTo (deafOf l) (deafOf l).length = pbest (deafOf l) := rfl
  rw [e] at h
  by_cases h0 : pbest (deafOf l) < 0
  · exact h0
  · have := h (by omega)
    rw [deaf_all] at this
    cases this
theorem deaf_code (own : DS) (l : List DS) (i : Nat) : codeF own (deafOf l) (pbest (deafOf l)) i = if own.cls ≤ 127 then 1 else 2 := by
  simp only [codeF, deaf_best l, true_or, if_true, deaf_all]
theorem deaf_master {own : DS} {l : List DS} (h : l.length ≤ 8) : masterF own (deafOf l) = own := by
  refine master_own (by rw [deaf_len]; exact h) fun j _ => ?_
  rw [deaf_code]; split <;> omega
theorem deaf_next {l : List DS} {k : Nat} (hk : k < l.length) : (deafOf (l.take (k + 1))).flatMap PB.cells = (deafOf (l.take k)).flatMap PB.cells ++ (⟨false, l.getD k .zero⟩ : PB).cells := by
  have e : l.take (k + 1) = l.take k ++ [l.getD k .zero] := by
    rw [List.take_add_one, List.getElem?_eq_getElem hk]
    simp [List.getD_eq_getElem?_getD, hk]
  rw [e]
  simp [deafOf]
theorem owns_arg {w : World} {base : Nat} {v : Value} {n : Nat} {l : List PB} (h : w.ownsRow base 54 12 v n (l.flatMap PB.cells)) (hl : l.length = n) (hs : ∀ p ∈ l, -9223372036854775808 ≤ p.set.steps) : ∃ A cap, v = .slice A n cap ∧ PBArg w A n cap l := by
  have h2 := h
  obtain ⟨hx, hor⟩ := h2
  rcases hor with ⟨rfl, rfl⟩ | ⟨g, cap, cur, rfl, _, hg, hc, hm, _, _⟩
  · exact ⟨none, 0, rfl, hl, Nat.le_refl _, by omega, fun _ => ⟨rfl, rfl⟩, fun h => by omega, hs⟩
  · refine ⟨_, cap, rfl, hl, hc, by unfold maxLen at hm; omega, (fun h => by cases h), fun h0 => ⟨g, 0, rfl, fun i hi => ?_⟩, hs⟩
    have hcell := h.cells (g := g) rfl
    have k : ∀ j, j < 12 → w.cell? ⟨g, 0 + i * 12 + j, none⟩ = (l.getD i .zero).cells[j]? := fun j hj => by
      have e := pflat_at l i j hi hj
      cases hq : (l.getD i .zero).cells[j]? with
      | none => simp [PB.cells, DS.cells] at hq; omega
      | some q => rw [Nat.zero_add]; exact (congrArg w.cell? (by simp [Addr.add])).trans (hcell (i * 12 + j) q (e.trans hq))
    exact ⟨k 0 (by omega), k 1 (by omega), k 2 (by omega), k 3 (by omega), k 4 (by omega), k 5 (by omega), k 6 (by omega), k 7 (by omega), k 8 (by omega), k 9 (by omega), k 10 (by omega), k 11 (by omega)⟩
set_option maxRecDepth 100000 in
set_option maxHeartbeats 4000000 in
theorem DecideAlone_walk (own : DS) {A : Option Addr} {n cap : Nat} {l : List DS} (w : World) (ok : DSArg w A n cap l) (hst : ∀ d ∈ l, -9223372036854775808 ≤ d.steps) :
    Calls Try.prog 13 #[own.v, .slice A n cap] w fun e w' => e = .returned (.bool true) ∧ Below w.heap.size w w' := by
  have hmk : ∀ w, (Instr.makeSlice 46 (.int .i64 9) (.int .i64 9)).run Try.prog w = .ok (.slice (some ⟨w.heap.size, 0, none⟩) 9 9) (w.alloc (.cells (madeCells #[.bool false, .int .i64 0, .int .i64 0, .int .i64 0, .int .i64 0, .int .i64 0, .int .u64 0, .int .i64 0, .int .u64 0, .int .i64 0, .int .u64 0, .int .i64 0] 108) 54)) := fun _ => by kernel_rfl
  have hl := ok.len_eq
  have hmo := ok.most
  have hcp := ok.le
  have HL := Lib.hid hl
  have OK := Lib.hid ok
  have ST := Lib.hid hst
  clear hl ok hst
  by_cases hn0 : 8 < n
  · have hg : decide (8 < (n : Int)) = true := by simp; omega
    go_enter Try.func13, Try.ntmps13
    go_wp2_with fail
    generalize hW : w.alloc _ = W
    have hb0 : Below w.heap.size w W := by rw [← hW]; exact (Below.refl _ _).alloc (Nat.le_refl _) _
    have hO0 : BoxAt W w.heap.size own := by rw [← hW]; exact BoxAt.of (heap_alloc_new w _)
    have hs0 : w.heap.size < W.heap.size := by rw [← hW]; simp
    have HB := Lib.hid hb0
    have K1 := Lib.hid hO0
    clear hW hb0
    obtain ⟨q0, q1, q2, q3, q4, q5, q6, q7, q8, q9, q10⟩ := hO0
    go_region_held3 (fun w' => w'.cell? ⟨w.heap.size, 0, none⟩ = some (.int .i64 own.p1) ∧ w'.cell? ⟨w.heap.size, 1, none⟩ = some (.int .i64 own.cls) ∧ w'.cell? ⟨w.heap.size, 2, none⟩ = some (.int .i64 own.acc) ∧ w'.cell? ⟨w.heap.size, 3, none⟩ = some (.int .i64 own.var) ∧ w'.cell? ⟨w.heap.size, 4, none⟩ = some (.int .i64 own.p2) ∧ w'.cell? ⟨w.heap.size, 5, none⟩ = some (.int .u64 own.gm) ∧ w'.cell? ⟨w.heap.size, 6, none⟩ = some (.int .i64 own.steps) ∧ w'.cell? ⟨w.heap.size, 7, none⟩ = some (.int .u64 own.sender) ∧ w'.cell? ⟨w.heap.size, 8, none⟩ = some (.int .i64 own.sport) ∧ w'.cell? ⟨w.heap.size, 9, none⟩ = some (.int .u64 own.recv) ∧ w'.cell? ⟨w.heap.size, 10, none⟩ = some (.int .i64 own.rport)) (first | go_keep | exact K1.out.below (below_then (((Below.refl W.heap.size W).alloc (Nat.le_refl _) _).drew) hb2))
      ((go_at_call 27; refine (decide_long own _ _ _ (by omega) _).mono ?_; rintro e w2 ⟨rfl, hb2⟩))
    have HB2 := Lib.hid (below_then HB.out (below_then (((Below.refl W.heap.size W).alloc (Nat.le_refl _) _).drew) hb2))
    clear hb2
    go_wp2_with fail
    refine (awake36 _).mono ?_
    rintro e w3 ⟨rfl, hb3⟩
    go_wp2_with fail
    go_ret
    exact ⟨rfl, below_then HB2.out hb3⟩
  have hn : n ≤ 8 := by omega
  have hg : decide (8 < (n : Int)) = false := by simp; omega
  obtain ⟨i0, hi0, hz0, hz1, hz2⟩ := info_parts infoPB
  go_enter Try.func13, Try.ntmps13
  go_wp2_with fail
  generalize hW : w.alloc _ = W
  have hb0 : Below w.heap.size w W := by rw [← hW]; exact (Below.refl _ _).alloc (Nat.le_refl _) _
  have hO0 : BoxAt W w.heap.size own := by rw [← hW]; exact BoxAt.of (heap_alloc_new w _)
  have hs0 : w.heap.size < W.heap.size := by rw [← hW]; simp
  have HB := Lib.hid hb0
  have HO := Lib.hid hO0
  clear hW hb0 hO0
  go_loopw [30, 7] (fun i v wr => ∃ k : Nat, k ≤ n ∧ i = .int .i64 k ∧ wr.ownsRow W.heap.size 54 12 v k ((deafOf (l.take k)).flatMap PB.cells) ∧ Below W.heap.size W wr) (fun i _ _ => n - (intOf i).toNat)
  case atStart => exact ⟨0, Nat.zero_le _, rfl, World.ownsRow_nil _ _ _ _, Below.refl _ _⟩
  case round =>
    obtain ⟨k, hk, rfl, hown, hbr⟩ := hrel
    have HBR := Lib.hid hbr
    by_cases hlt : k < n
    · have hk0 : (0 : Int) ≤ (k : Int) := by omega
      have hk1 : (k : Int) < (n : Int) := by omega
      obtain ⟨b, off, rfl, hrow⟩ := OK.out.at_ (by omega)
      obtain ⟨q, hq⟩ : ∃ q, l.getD k .zero = q := ⟨_, rfl⟩
      have hA := ((hrow.below HB.out).below hbr) k (by rw [HL.out]; exact hlt)
      rw [hq] at hA
      obtain ⟨a0, a1, a2, a3, a4, a5, a6, a7, a8, a9, a10⟩ := hA
      have hsr : w.heap.size < wr.heap.size := by have := hbr.size; omega
      have hsW : W.heap.size ≤ wr.heap.size := hbr.size
      have HQ := Lib.hid hq
      clear hbr hq hrow
      go_wp2_with (at_builtin; refine wpList_append_own _ rfl _ _ 46 rfl W.heap.size 54 i0 (.agg #[.bool false, .int .i64 0, .int .i64 0, .int .i64 0, .int .i64 0, .int .i64 0, .int .u64 0, .int .i64 0, .int .u64 0, .int .i64 0, .int .u64 0, .int .i64 0]) 12 96 Try.underlying46 hi0 hz0 hz1 hz2 rfl (by decide) _ _ _ rfl ((hown.alloc _).alloc _) ⟨wr.heap.size + 1, 0, none⟩ 1 1 (⟨false, q⟩ : PB).cells rfl rfl ?c1 ?c2 ?c3 ?c4 ?c5 ?_)
      case c1 =>
        intro j u hj
        rw [show (Addr.add ⟨wr.heap.size + 1, 0, none⟩ j) = ⟨wr.heap.size + 1, j, none⟩ from by simp [Addr.add]; omega]
        refine (cell_of_row _ _ j _ _ (0, 0) (heap_at (by simp))).trans ?_
        rw [← hj]; simp [PB.cells, DS.cells]
      case c2 => simp [PB.cells, DS.cells, Value.oneCell']
      case c3 => unfold maxLen; omega
      case c4 => omega
      case c5 => simp; omega
      · intro v' w1 hown' hgrow _
        have HOW := Lib.hid hown'
        have HBN := Lib.hid (Below.grown ((HBR.out.alloc hsW _).alloc (by simp; omega) _) hgrow (by simp; omega) (fun j e => (hown.lt j e).1))
        clear hown' hgrow hown a0 a1 a2 a3 a4 a5 a6 a7 a8 a9 a10
        go_wp2_with fail
        go_roundw
        case rel => exact ⟨k + 1, by omega, by go_num, by rw [deaf_next (by rw [HL.out]; exact hlt), HQ.out]; exact HOW.out, HBN.out⟩
        case measure => simp [intOf]; omega
    · obtain rfl : k = n := by omega
      have hm : masterF own (deafOf l) = own := deaf_master (by rw [HL.out]; exact hn)
      rw [List.take_of_length_le (by rw [HL.out]; exact Nat.le_refl _)] at hown
      obtain ⟨A', cap', rfl, ok'⟩ := owns_arg hown (by rw [deaf_len]; exact HL.out) (fun p hp => by
        simp only [deafOf, List.mem_map] at hp
        obtain ⟨d, hd, rfl⟩ := hp
        exact ST.out d hd)
      have OK' := Lib.hid ok'
      have hmo' := ok'.most
      have hcp' := ok'.le
      have hsr : w.heap.size < wr.heap.size := by have := hbr.size; omega
      obtain ⟨e0, e1, e2, e3, e4, e5, e6, e7, e8, e9, e10⟩ := HO.out.below hbr
      have HM := Lib.hid hm
      clear hm hown ok' hbr
      go_wp2_with fail
      refine (decide_any own OK'.out hn).mono ?_
      rintro e w1 ⟨g, rfl, hb1, hrow⟩
      have HB1 := Lib.hid (below_then HBR.out hb1)
      have HO1 := Lib.hid (HO.out.below HB1.out)
      have ROW := Lib.hid hrow
      have OK1 := Lib.hid (OK'.out.below hb1)
      have hsr1 : w.heap.size < w1.heap.size := by have := hb1.size; omega
      clear e0 e1 e2 e3 e4 e5 e6 e7 e8 e9 e10 hb1 hrow
      have c1 := HO1.out.2.1
      go_wp2_with fail
      go_loop [57] (fun i => ∃ j : Nat, j ≤ k ∧ i = .int .i64 j) (fun i => k - (intOf i).toNat)
      case atStart => exact ⟨0, Nat.zero_le _, rfl⟩
      case round =>
        obtain ⟨j, hj, rfl⟩ := hrel
        by_cases hlt : j < k
        · have hk0 : (0 : Int) ≤ (j : Int) := by omega
          have hk1 : (j : Int) < (k : Int) := by omega
          have hc := ROW.out j (by rw [codes_len, deaf_len, HL.out]; exact hlt)
          rw [codes_at own (deafOf l) j (by rw [deaf_len, HL.out]; exact hlt), deaf_code] at hc
          by_cases hcl : own.cls ≤ 127
          · have hd1 : decide (own.cls ≤ 127) = true := by simp; omega
            rw [if_pos hcl] at hc
            have AN := Lib.hid (fun w => ann_any 1 w)
            go_wp2_with fail
            refine (AN.out _).mono ?_
            rintro e _ ⟨rfl, rfl⟩
            have ha : annB 1 = true := rfl
            go_wp2_with fail
            go_round
            case rel => exact ⟨j + 1, by omega, by go_num⟩
            case measure => simp [intOf]; omega
          · have hd1 : decide (own.cls ≤ 127) = false := by simp; omega
            rw [if_neg hcl] at hc
            have AN := Lib.hid (fun w => ann_any 2 w)
            go_wp2_with fail
            refine (AN.out _).mono ?_
            rintro e _ ⟨rfl, rfl⟩
            have ha : annB 2 = true := rfl
            go_wp2_with fail
            go_round
            case rel => exact ⟨j + 1, by omega, by go_num⟩
            case measure => simp [intOf]; omega
        · obtain rfl : j = k := by omega
          have MA := Lib.hid (fun (u : Aft w1) => by have := master_any own (OK1.out.below u.below) hn; rwa [HM.out] at this)
          obtain ⟨o0, o1, o2, o3, o4, o5, o6, o7, o8, o9, o10⟩ := HO1.out.aft
          have he := eql_ds own own
          have hd : decide (own = own) = true := by simp
          clear c1
          go_wp2_with fail
          refine wp_region_calm (by kernel_rfl) (by kernel_rfl) ?_
          repeat (go_big_quiet_step (first | (go_at_call 28; with_reducible exact calm_of (MA.out _)) | (go_at_call 36; with_reducible exact calm_of (awake36 _))))
          refine wpQuiet_nil ?_
          rintro _ ⟨u, rfl⟩
          go_wp2
          go_ret
          exact ⟨rfl, below_then HB.out (below_then HB1.out u.below)⟩
end Go.Proofs.Ythehhcaohhlccaa
