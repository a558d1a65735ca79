/- The walk of DecideFollows. -/
import Derived.WalkKit
import Derived.LoopTactic
import Derived.Outline
import Derived.Lib.Hide
import Derived.WalkSpells
import Derived.WalkLawsBesides
import Derived.Deep.DeepCutAuto
import Derived.Deep.CutBlock
import Derived.Test.YthehhcaohhlccaaDe7
namespace Go.Proofs.Ythehhcaohhlccaa
open Go.RowKit
set_option linter.unusedVariables false
set_option linter.unusedSimpArgs false

def BetterTo (own : DS) (l : List PB) (k : Nat) : Prop := ∃ i, i < k ∧ (l.getD i .zero).has = true ∧ lessB (l.getD i .zero).set own = true
set_option maxRecDepth 100000 in
set_option maxHeartbeats 4000000 in
theorem DecideFollows_walk (own : DS) {A : Option Addr} {n cap : Nat} {l : List PB} (w : World) (ok : PBArg w A n cap l) :
    Calls Try.prog 14 #[own.v, .slice A n cap] w fun e w' => e = .returned (.bool true) ∧ Below w.heap.size w w' := by
  have hl := ok.len_eq
  have hmo := ok.most
  have hcp := ok.le
  have HL := Lib.hid hl
  have OK := Lib.hid ok
  clear hl ok
  by_cases hn0 : 8 < n
  · have hg : decide (8 < (n : Int)) = true := by simp; omega
    go_enter Try.func14, Try.ntmps14
    go_wp2_with fail
    refine (awake36 _).mono ?_
    rintro e w1 ⟨rfl, hb1⟩
    go_wp2_with fail
    go_ret
    exact ⟨rfl, below_then ((Below.refl _ _).alloc (Nat.le_refl _) _) hb1⟩
  have hn : n ≤ 8 := by omega
  have hg : decide (8 < (n : Int)) = false := by simp; omega
  go_enter Try.func14, Try.ntmps14
  go_wp2_with fail
  generalize hW : w.alloc _ = W
  have hb0 : Below w.heap.size w W := by rw [← hW]; exact (Below.refl _ _).alloc (Nat.le_refl _) _
  have hO0 : BoxAt W w.heap.size own := by rw [← hW]; exact BoxAt.of (heap_alloc_new w _)
  have hs0 : w.heap.size < W.heap.size := by rw [← hW]; simp
  clear hW
  refine (decide_any own (OK.out.below hb0) hn).mono ?_
  rintro e w1 ⟨g, rfl, hb1, hrow⟩
  have hs1 : w.heap.size < w1.heap.size := by have := hb1.size; omega
  have HB := Lib.hid (below_then hb0 hb1)
  have HO := Lib.hid (hO0.below hb1)
  have ROW := Lib.hid hrow
  clear hb0 hO0 hb1 hrow hs0
  go_wp2_with fail
  go_loopw [33, 7] (fun i b wr => ∃ (k : Nat) (t : Bool), k ≤ n ∧ i = .int .i64 k ∧ b = .bool t ∧ (t = true ↔ BetterTo own l k) ∧ Below w1.heap.size w1 wr) (fun i _ _ => n - (intOf i).toNat)
  case atStart => exact ⟨0, false, Nat.zero_le _, rfl, rfl, ⟨fun h => (nomatch h), fun ⟨i, hi, _⟩ => by omega⟩, Below.refl _ _⟩
  case round =>
    obtain ⟨k, t, hk, rfl, rfl, hiff, hbr⟩ := hrel
    have HI := Lib.hid hiff
    have HBR := Lib.hid hbr
    by_cases hlt : k < n
    · have hk0 : (0 : Int) ≤ (k : Int) := by omega
      have hk1 : (k : Int) < (n : Int) := by omega
      obtain ⟨b, off, rfl, hrow⟩ := OK.out.at_ (by omega)
      obtain ⟨q, hq⟩ : ∃ q, l.getD k .zero = q := ⟨_, rfl⟩
      have hA := ((hrow.below HB.out).below hbr) k (by rw [HL.out]; exact hlt)
      rw [hq] at hA
      obtain ⟨e0, e1, e2, e3, e4, e5, e6, e7, e8, e9, e10⟩ := HO.out.below hbr
      obtain ⟨ah, a0, a1, a2, a3, a4, a5, a6, a7, a8, a9, a10⟩ := hA
      have hsr : w.heap.size < wr.heap.size := by have := hbr.size; omega
      have HQ := Lib.hid hq
      clear hbr hq hrow hiff
      cases t with
      | true =>
        go_wp2_with fail
        go_roundw
        case rel => exact ⟨k + 1, true, by omega, by go_num, rfl, ⟨fun _ => let ⟨i, hi, h1, h2⟩ := HI.out.1 (by simp); ⟨i, by omega, h1, h2⟩, fun _ => rfl⟩, below_then HBR.out ((Below.refl _ _).alloc (Nat.le_refl _) _)⟩
        case measure => simp [intOf]; omega
      | false =>
        cases hqh : q.has with
        | false =>
          rw [hqh] at ah
          have HH := Lib.hid hqh
          clear hqh
          go_wp2_with fail
          go_roundw
          case rel => exact ⟨k + 1, false, by omega, by go_num, rfl, ⟨fun h => (nomatch h), fun ⟨i, hi, h1, h2⟩ => by
            by_cases e : i = k
            · rw [e, HQ.out, HH.out] at h1; cases h1
            · exact HI.out.2 ⟨i, by omega, h1, h2⟩⟩, below_then HBR.out ((Below.refl _ _).alloc (Nat.le_refl _) _)⟩
          case measure => simp [intOf]; omega
        | true =>
          rw [hqh] at ah
          have HH := Lib.hid hqh
          clear hqh
          cases hlo : lessB q.set own with
          | true =>
            have HLO := Lib.hid hlo
            clear hlo
            go_wp2_with fail
            refine (less_true HLO.out _).mono ?_
            rintro e w4 ⟨rfl, hb4⟩
            have HB4 := Lib.hid (below_then HBR.out (below_then ((Below.refl _ _).alloc (Nat.le_refl _) _) hb4))
            clear hb4
            go_wp2_with fail
            go_roundw
            case rel => exact ⟨k + 1, true, by omega, by go_num, rfl, ⟨fun _ => ⟨k, by omega, by rw [HQ.out]; exact HH.out, by rw [HQ.out]; exact HLO.out⟩, fun _ => rfl⟩, HB4.out⟩
            case measure => simp [intOf]; omega
          | false =>
            have HLO := Lib.hid hlo
            clear hlo
            go_wp2_with fail
            refine (less_false HLO.out _).mono ?_
            rintro e w4 ⟨rfl, hb4⟩
            have HB4 := Lib.hid (below_then HBR.out (below_then ((Below.refl _ _).alloc (Nat.le_refl _) _) hb4))
            clear hb4
            go_wp2_with fail
            go_roundw
            case rel => exact ⟨k + 1, false, by omega, by go_num, rfl, ⟨fun h => (nomatch h), fun ⟨i, hi, h1, h2⟩ => by
              by_cases e : i = k
              · rw [e, HQ.out, HLO.out] at h2; cases h2
              · exact HI.out.2 ⟨i, by omega, h1, h2⟩⟩, HB4.out⟩
            case measure => simp [intOf]; omega
    · obtain rfl : k = n := by omega
      have hbet : t = true ↔ Better own l := by
        have h := HI.out
        rw [h]; unfold BetterTo Better; rw [HL.out]
      have BET := Lib.hid hbet
      have HOR := Lib.hid (HO.out.below hbr)
      have ROWR := Lib.hid (ROW.out.below hbr)
      have OKR := Lib.hid (OK.out.below (below_then HB.out hbr))
      have hsr : w.heap.size < wr.heap.size := by have := hbr.size; omega
      have c1 := HOR.out.2.1
      clear hbr hiff hbet
      go_wp2_with fail
      go_loop [51] (fun i => ∃ j : Nat, j ≤ k ∧ i = .int .i64 j) (fun i => k - (intOf i).toNat)
      case atStart => exact ⟨0, Nat.zero_le _, rfl⟩
      case round =>
        obtain ⟨j, hj, rfl⟩ := hrel
        by_cases hlt : j < k
        · have hk0 : (0 : Int) ≤ (j : Int) := by omega
          have hk1 : (j : Int) < (k : Int) := by omega
          obtain ⟨b, off, rfl, hrow⟩ := OKR.out.at_ (by omega)
          obtain ⟨q, hq⟩ : ∃ q, l.getD j .zero = q := ⟨_, rfl⟩
          have hA := hrow j (by rw [HL.out]; exact hlt)
          rw [hq] at hA
          have ah := hA.1
          obtain ⟨v, hv⟩ : ∃ v, codeF own l (pbest l) j = v := ⟨_, rfl⟩
          have hc : wr.cell? ⟨g, j, none⟩ = some (.int .i64 v) := by
            have := ROWR.out j (by rw [codes_len, HL.out]; exact hlt)
            rwa [codes_at own l j (by rw [HL.out]; exact hlt), hv] at this
          have hdeaf : q.has = false → annB v = true := fun h => by
            have := code_deaf (own := own) (i := j) (by rw [hq]; exact h)
            rw [hv] at this
            rcases this with rfl | rfl | rfl <;> rfl
          by_cases hcl : own.cls ≤ 127
          · have hd1 : decide (own.cls ≤ 127) = true := by simp; omega
            have hd2 : decide (127 < own.cls) = false := by simp; omega
            have hlow := code_low (l := l) (m := pbest l) (i := j) hcl
            rw [hv] at hlow
            clear hA hv hq hrow
            cases hqh : q.has with
            | true =>
              rw [hqh] at ah
              clear hdeaf hqh
              rcases hlow with rfl | rfl
              all_goals go_wp2_with fail
              all_goals go_round
              all_goals first | (case rel => exact ⟨j + 1, by omega, by go_num⟩) | skip
              all_goals (simp [intOf]; omega)
            | false =>
              have hdf := hdeaf hqh
              rw [hqh] at ah
              clear hdeaf hqh
              have AN := Lib.hid (fun w => by have := ann_any v w; rwa [hdf] at this)
              clear hdf
              rcases hlow with rfl | rfl
              all_goals go_wp2_with fail
              all_goals refine (AN.out _).mono ?_
              all_goals rintro e _ ⟨rfl, rfl⟩
              all_goals go_wp2_with fail
              all_goals go_round
              all_goals first | (case rel => exact ⟨j + 1, by omega, by go_num⟩) | skip
              all_goals (simp [intOf]; omega)
          · have hd1 : decide (own.cls ≤ 127) = false := by simp; omega
            have hd2 : decide (127 < own.cls) = true := by simp; omega
            have hbt : t = true → v = 3 ∨ v = 5 ∨ v = 6 := fun h => by
              have := code_better (i := j) (own := own) (by omega) (BET.out.1 h)
              rwa [hv] at this
            clear hA hv hq hrow
            cases t with
            | true =>
              have hbt := hbt (by simp)
              cases hqh : q.has with
              | true =>
                rw [hqh] at ah
                clear hdeaf hqh
                rcases hbt with rfl | rfl | rfl
                all_goals go_wp2_with fail
                all_goals go_round
                all_goals first | (case rel => exact ⟨j + 1, by omega, by go_num⟩) | skip
                all_goals (simp [intOf]; omega)
              | false =>
                have hdf := hdeaf hqh
                rw [hqh] at ah
                clear hdeaf hqh
                have AN := Lib.hid (fun w => by have := ann_any v w; rwa [hdf] at this)
                clear hdf
                rcases hbt with rfl | rfl | rfl
                all_goals go_wp2_with fail
                all_goals refine (AN.out _).mono ?_
                all_goals rintro e _ ⟨rfl, rfl⟩
                all_goals go_wp2_with fail
                all_goals go_round
                all_goals first | (case rel => exact ⟨j + 1, by omega, by go_num⟩) | skip
                all_goals (simp [intOf]; omega)
            | false =>
              clear hbt
              cases hqh : q.has with
              | true =>
                rw [hqh] at ah
                clear hdeaf hqh
                go_wp2_with fail
                go_round
                case rel => exact ⟨j + 1, by omega, by go_num⟩
                case measure => simp [intOf]; omega
              | false =>
                have hdf := hdeaf hqh
                rw [hqh] at ah
                clear hdeaf hqh
                have AN := Lib.hid (fun w => by have := ann_any v w; rwa [hdf] at this)
                clear hdf
                go_wp2_with fail
                refine (AN.out _).mono ?_
                rintro e _ ⟨rfl, rfl⟩
                go_wp2_with fail
                go_round
                case rel => exact ⟨j + 1, by omega, by go_num⟩
                case measure => simp [intOf]; omega
        · obtain rfl : j = k := by omega
          have c1' : ∀ u : Aft wr, u.now.cell? ⟨w.heap.size, 1, none⟩ = some (.int .i64 own.cls) := fun u => u.cell c1
          clear c1
          have HSIX := Lib.hid (fun (r : Bool) (hr : r = true ↔ ∃ i, i < l.length ∧ codeF own l (pbest l) i = 6) (u : Aft wr) => holds_int (c := j) (n := j) (r := r) 6 (by rw [codes_len, HL.out]) (by omega) u.now (ROWR.out.below u.below) (by
            rw [hr, HL.out]
            constructor
            · rintro ⟨i, hi, h⟩
              exact ⟨i, hi, by rw [codes_at own l i (by rw [HL.out]; exact hi)]; exact h⟩
            · rintro ⟨i, hi, h⟩
              exact ⟨i, hi, by rwa [codes_at own l i (by rw [HL.out]; exact hi)] at h⟩))
          by_cases hcl : own.cls ≤ 127
          · have hd1 : decide (own.cls ≤ 127) = true := by simp; omega
            have hd2 : decide (127 < own.cls) = false := by simp; omega
            have SIX := Lib.hid (HSIX.out false ⟨fun h => (nomatch h), fun ⟨i, hi, h⟩ => absurd h (six_low hcl i hi)⟩)
            clear HSIX
            go_wp2_with fail
            refine wp_region_calm (by kernel_rfl) (by kernel_rfl) ?_
            repeat (go_big_quiet_step (first | (go_at_call 37; with_reducible exact calm_same (SIX.out _)) | (go_at_call 36; with_reducible exact calm_of (awake36 _))))
            refine wpQuiet_nil ?_
            rintro _ ⟨u, rfl⟩
            go_wp2
            go_ret
            exact ⟨rfl, below_then HB.out (below_then HBR.out u.below)⟩
          · have hd1 : decide (own.cls ≤ 127) = false := by simp; omega
            have hd2 : decide (127 < own.cls) = true := by simp; omega
            cases t with
            | true =>
              have SIX := Lib.hid (HSIX.out true ⟨fun _ => six_better (by omega) (BET.out.1 (by simp)), fun _ => rfl⟩)
              clear HSIX
              go_wp2_with fail
              refine wp_region_calm (by kernel_rfl) (by kernel_rfl) ?_
              repeat (go_big_quiet_step (first | (go_at_call 37; with_reducible exact calm_same (SIX.out _)) | (go_at_call 36; with_reducible exact calm_of (awake36 _))))
              refine wpQuiet_nil ?_
              rintro _ ⟨u, rfl⟩
              go_wp2
              go_ret
              exact ⟨rfl, below_then HB.out (below_then HBR.out u.below)⟩
            | false =>
              have hnb : ¬ Better own l := fun h => by have := BET.out.2 h; simp at this
              obtain ⟨r, hr⟩ : ∃ r : Bool, r = true ↔ EqualTo own l l.length := by
                by_cases h : EqualTo own l l.length
                · exact ⟨true, ⟨fun _ => h, fun _ => rfl⟩⟩
                · exact ⟨false, ⟨fun h => (nomatch h), fun h' => absurd h' h⟩⟩
              have SIX := Lib.hid (HSIX.out r (hr.trans (six_equal (by omega)).symm))
              have EQ := Lib.hid (fun u : Aft wr => equal_any own u.now (OKR.out.below u.below) hn hnb hr)
              obtain ⟨o0, o1, o2, o3, o4, o5, o6, o7, o8, o9, o10⟩ := HOR.out.aft
              clear HSIX hr hnb c1'
              cases r
              all_goals go_wp2_with fail
              all_goals refine wp_region_calm (by kernel_rfl) (by kernel_rfl) ?_
              all_goals repeat (go_big_quiet_step (first | (go_at_call 37; with_reducible exact calm_same (SIX.out _)) | (go_at_call 38; with_reducible exact calm_of (EQ.out _)) | (go_at_call 36; with_reducible exact calm_of (awake36 _))))
              all_goals refine wpQuiet_nil ?_
              all_goals rintro _ ⟨u, rfl⟩
              all_goals go_wp2
              all_goals go_ret
              all_goals exact ⟨rfl, below_then HB.out (below_then HBR.out u.below)⟩
end Go.Proofs.Ythehhcaohhlccaa
