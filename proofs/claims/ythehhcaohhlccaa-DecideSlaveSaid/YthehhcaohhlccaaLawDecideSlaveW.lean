/- The walk of DecideSlave. -/
import Derived.WalkKit
import Derived.LoopTactic
import Derived.Outline
import Derived.Lib.Hide
import Derived.WalkSpells
import Derived.WalkLawsBesides
import Derived.Deep.DeepCutAuto
import Derived.Deep.CutBlock
import Derived.Test.YthehhcaohhlccaaDe6
namespace Go.Proofs.Ythehhcaohhlccaa
open Go.RowKit
set_option linter.unusedVariables false
set_option linter.unusedSimpArgs false

theorem code_range (own : DS) (l : List PB) (m : Int) (i : Nat) : 1 ≤ codeF own l m i ∧ codeF own l m i ≤ 6 := by
  simp only [codeF]
  repeat' split
  all_goals omega
set_option maxRecDepth 100000 in
set_option maxHeartbeats 2000000 in
theorem DecideSlave_walk (own : DS) {A : Option Addr} {n cap : Nat} {l : List PB} (w : World) (ok : PBArg w A n cap l) :
    Calls Try.prog 12 #[own.v, .slice A n cap] w fun e w' => e = .returned (.bool true) ∧ Below w.heap.size w w' := by
  have hl := ok.len_eq
  have hmo := ok.most
  have hcp := ok.le
  have HL := Lib.hid hl
  have OK := Lib.hid ok
  clear hl ok
  by_cases hn0 : 8 < n
  · have hg : decide (8 < (n : Int)) = true := by simp; omega
    go_enter Try.func12, Try.ntmps12
    go_wp2_with fail
    refine (awake36 _).mono ?_
    rintro e w1 ⟨rfl, hb1⟩
    go_wp2_with fail
    go_ret
    exact ⟨rfl, below_then ((Below.refl _ _).alloc (Nat.le_refl _) _) hb1⟩
  have hn : n ≤ 8 := by omega
  have hg : decide (8 < (n : Int)) = false := by simp; omega
  go_enter Try.func12, Try.ntmps12
  go_wp2_with fail
  generalize hW : w.alloc _ = W
  have hb0 : Below w.heap.size w W := by rw [← hW]; exact (Below.refl _ _).alloc (Nat.le_refl _) _
  have hO0 : BoxAt W w.heap.size own := by rw [← hW]; exact BoxAt.of (heap_alloc_new w _)
  clear hW
  refine (decide_any own (OK.out.below hb0) hn).mono ?_
  rintro e w1 ⟨g, rfl, hb1, hrow⟩
  have HB := Lib.hid (below_then hb0 hb1)
  have HO := Lib.hid (hO0.below hb1)
  have ROW := Lib.hid hrow
  clear hb0 hO0 hb1 hrow
  go_wp2_with fail
  go_loop [34, 7] (fun i s => ∃ (k : Nat) (m : Int), k ≤ n ∧ i = .int .i64 k ∧ s = .int .i64 m ∧ ((m = -1 ∧ ∀ j, j < k → codeF own l (pbest l) j ≠ 6) ∨ (∃ m' : Nat, m = m' ∧ m' < k ∧ codeF own l (pbest l) m' = 6))) (fun i _ => n - (intOf i).toNat)
  case atStart => exact ⟨0, -1, Nat.zero_le _, rfl, rfl, .inl ⟨rfl, fun j hj => by omega⟩⟩
  case round =>
    obtain ⟨k, m, hk, rfl, rfl, hno⟩ := hrel
    have HN := Lib.hid hno
    clear hno
    by_cases hlt : k < n
    · have hk0 : (0 : Int) ≤ (k : Int) := by omega
      have hk1 : (k : Int) < (n : Int) := by omega
      obtain ⟨v, hv⟩ : ∃ v, codeF own l (pbest l) k = v := ⟨_, rfl⟩
      have hc : w1.cell? ⟨g, k, none⟩ = some (.int .i64 v) := by
        have := ROW.out k (by rw [codes_len, HL.out]; exact hlt)
        rwa [codes_at own l k (by rw [HL.out]; exact hlt), hv] at this
      have hrg := code_range own l (pbest l) k
      rw [hv] at hrg
      have g1 : decide (v < 1) = false := by simp; omega
      have g2 : decide (6 < v) = false := by simp; omega
      by_cases h6 : v = 6
      · have h7 := (code_six (own := own) (i := k) (by rw [HL.out]; exact hlt)).1 (by rw [hv, h6])
        have hm : m = -1 := by
          rcases HN.out with h | ⟨m', _, h2, h3⟩
          · exact h.1
          · have := ((code_six (own := own) (i := m') (by rw [HL.out]; omega)).1 h3).2.1
            omega
        have hcls : decide (own.cls ≤ 127) = false := by simp; omega
        have b1 := HO.out.2.1
        have HV := Lib.hid (hv.trans h6)
        subst hm
        subst h6
        clear hv h7 hrg
        go_wp2_with fail
        go_round
        case rel => exact ⟨k + 1, k, by omega, by go_num, rfl, .inr ⟨k, rfl, by omega, HV.out⟩⟩
        case measure => simp [intOf]; omega
      · have hb6 : (v == 6) = false := by simp [h6]
        have HV := Lib.hid hv
        clear hv hrg
        go_wp2_with fail
        go_round
        case rel => exact ⟨k + 1, m, by omega, by go_num, rfl, by
          rcases HN.out with h | ⟨m', h1, h2, h3⟩
          · exact .inl ⟨h.1, fun j hj => by
              by_cases e : j = k
              · rw [e, HV.out]; exact h6
              · exact h.2 j (by omega)⟩
          · exact .inr ⟨m', h1, by omega, h3⟩⟩
        case measure => simp [intOf]; omega
    · obtain rfl : k = n := by omega
      rcases HN.out with ⟨rfl, h⟩ | ⟨m', rfl, h2, h3⟩
      · have hm : masterF own l = own := master_own (by rw [HL.out]; exact hn) (fun j hj => h j (by rw [HL.out] at hj; exact hj))
        have MA := Lib.hid (fun (u : Aft w1) => by have := master_any own (OK.out.below (below_then HB.out u.below)) hn; rwa [hm] at this)
        clear h hm
        obtain ⟨o0, o1, o2, o3, o4, o5, o6, o7, o8, o9, o10⟩ := HO.out.aft
        have he := eql_ds own own
        have hd : decide (own = own) = true := by simp
        go_wp2_with fail
        refine wp_region_calm (by kernel_rfl) (by kernel_rfl) ?_
        repeat (go_big_quiet_step (first | (go_at_call 28; with_reducible exact calm_of (MA.out _)) | (go_at_call 36; with_reducible exact calm_of (awake36 _))))
        refine wpQuiet_nil ?_
        rintro _ ⟨u, rfl⟩
        go_wp2
        go_ret
        exact ⟨rfl, below_then HB.out u.below⟩
      · have h4 := (code_six (own := own) (i := m') (by rw [HL.out]; exact h2)).1 h3
        have hm : masterF own l = (l.getD m' .zero).set := master_hit (by rw [HL.out]; exact hn) (by rw [HL.out]; exact h2) h3
        have hhas : (l.getD m' .zero).has = true := by
          have := pbTo_has l l.length (by have := h4.2.1; unfold pbest at this; omega)
          have e : pbTo l l.length = m' := h4.2.1
          rwa [e, Int.toNat_natCast] at this
        have hleast : ∀ i, i < k → (l.getD i .zero).has = true → lessB (l.getD i .zero).set (l.getD m' .zero).set = false := fun i hi hh => by
          have := (pbTo_least l l.length i (by rw [HL.out]; exact hi) hh).2
          have e : pbTo l l.length = m' := h4.2.1
          rwa [e, Int.toNat_natCast] at this
        have hless := h4.2.2
        obtain ⟨p, hp⟩ : ∃ p, l.getD m' .zero = p := ⟨_, rfl⟩
        rw [hp] at hm hhas hleast hless
        obtain ⟨b, off, rfl, hpr⟩ := OK.out.at_ (by omega)
        have hP := (hpr.below HB.out) m' (by rw [HL.out]; exact h2)
        rw [hp] at hP
        have MA := Lib.hid (fun (u : Aft w1) => by have := master_any own (OK.out.below (below_then HB.out u.below)) hn; rwa [hm] at this)
        have LEAST := Lib.hid hleast
        have LESS := Lib.hid hless
        have PR := Lib.hid (hpr.below HB.out)
        have HHAS := Lib.hid hhas
        have HP := Lib.hid hP
        clear h4 hm hhas hleast hless hpr hp h3
        have hm0 : (0 : Int) ≤ (m' : Int) := by omega
        have hm1 : (m' : Int) < (k : Int) := by omega
        have hkk0 : (0 : Int) < (k : Int) := by omega
        obtain ⟨hh, p0, p1, p2, p3, p4, p5, p6, p7, p8, p9, p10⟩ := hP
        go_wp2_with fail
        generalize hW2 : w1.alloc _ = W2
        have hb2 : Below w1.heap.size w1 W2 := by rw [← hW2]; exact (Below.refl _ _).alloc (Nat.le_refl _) _
        have hBest : BoxAt W2 w1.heap.size p.set := by rw [← hW2]; exact BoxAt.of (heap_alloc_new w1 _)
        have HB2 := Lib.hid (below_then HB.out hb2)
        have HB12 := Lib.hid hb2
        have BEST := Lib.hid hBest
        have PR2 := Lib.hid (PR.out.below hb2)
        have hs2 : w1.heap.size < W2.heap.size := by rw [← hW2]; simp
        clear hW2 hb2 hBest p0 p1 p2 p3 p4 p5 p6 p7 p8 p9 p10 hh
        go_loopw [79] (fun i wr => ∃ j : Nat, j ≤ k ∧ i = .int .i64 j ∧ Below W2.heap.size W2 wr) (fun i _ => k - (intOf i).toNat)
        case atStart => exact ⟨0, Nat.zero_le _, rfl, Below.refl _ _⟩
        case round =>
          obtain ⟨j, hj, rfl, hbr⟩ := hrel
          have HBR := Lib.hid hbr
          by_cases hjl : j < k
          · have hj0 : (0 : Int) ≤ (j : Int) := by omega
            have hj1 : (j : Int) < (k : Int) := by omega
            obtain ⟨q, hq⟩ : ∃ q, l.getD j .zero = q := ⟨_, rfl⟩
            have hA := (PR2.out.below hbr) j (by rw [HL.out]; exact hjl)
            rw [hq] at hA
            have hle := LEAST.out j hjl
            rw [hq] at hle
            obtain ⟨e0, e1, e2, e3, e4, e5, e6, e7, e8, e9, e10⟩ := BEST.out.below hbr
            obtain ⟨ah, a0, a1, a2, a3, a4, a5, a6, a7, a8, a9, a10⟩ := hA
            have hsr : w1.heap.size < wr.heap.size := by have := hbr.size; omega
            clear hbr hq
            cases hqh : q.has with
            | false =>
              rw [hqh] at ah
              clear hle hqh
              go_wp2_with fail
              go_roundw
              case rel => exact ⟨j + 1, by omega, by go_num, below_then HBR.out ((Below.refl _ _).alloc (Nat.le_refl _) _)⟩
              case measure => simp [intOf]; omega
            | true =>
              rw [hqh] at ah
              have HLE := Lib.hid (hle hqh)
              clear hle hqh
              go_wp2_with fail
              refine (less_false HLE.out _).mono ?_
              rintro e w3 ⟨rfl, hb3⟩
              have HB3 := Lib.hid (below_then HBR.out (below_then ((Below.refl _ _).alloc (Nat.le_refl _) _) hb3))
              clear hb3
              go_wp2_with fail
              go_roundw
              case rel => exact ⟨j + 1, by omega, by go_num, HB3.out⟩
              case measure => simp [intOf]; omega
          · obtain rfl : j = k := by omega
            have HBW := Lib.hid (below_then HB12.out hbr)
            obtain ⟨e0, e1, e2, e3, e4, e5, e6, e7, e8, e9, e10⟩ := (BEST.out.below hbr).aft
            obtain ⟨o0, o1, o2, o3, o4, o5, o6, o7, o8, o9, o10⟩ := (HO.out.below HBW.out).aft
            have h0 := (HP.out.below HBW.out).has_aft
            rw [HHAS.out] at h0
            have MW := Lib.hid (fun (u : Aft wr) => MA.out ⟨u.now, below_then HBW.out u.below⟩)
            have he := eql_ds p.set p.set
            have hd : decide (p.set = p.set) = true := by simp
            clear hbr
            go_wp2_with fail
            refine wp_region_calm (by kernel_rfl) (by kernel_rfl) ?_
            repeat (go_big_quiet_step (first | (go_at_call 28; with_reducible exact calm_of (MW.out _)) | (go_at_call 18; with_reducible exact calm_of (less_false LESS.out _)) | (go_at_call 36; with_reducible exact calm_of (awake36 _))))
            refine wpQuiet_nil ?_
            rintro _ ⟨u, rfl⟩
            go_wp2
            go_ret
            exact ⟨rfl, below_then HB.out (below_then HBW.out u.below)⟩
end Go.Proofs.Ythehhcaohhlccaa
