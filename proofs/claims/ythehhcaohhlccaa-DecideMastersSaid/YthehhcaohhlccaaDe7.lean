/- slices.Contains, the law's own 'equal', and what the law on followers needs of the codes. -/
import Derived.WalkKit
import Derived.LoopTactic
import Derived.Outline
import Derived.Lib.Hide
import Derived.Deep.DeepCutAuto
import Derived.Deep.CutBlock
import Derived.Test.YthehhcaohhlccaaDe6
namespace Go.Proofs.Ythehhcaohhlccaa
open Go.RowKit
set_option linter.unusedVariables false
set_option linter.unusedSimpArgs false

theorem code_range (own : DS) (l : List PB) (m : Int) (i : Nat) : 1 ≤ codeF own l m i ∧ codeF own l m i ≤ 6 := by
  simp only [codeF]
  repeat' split
  all_goals omega
theorem code_low {own : DS} {l : List PB} {m : Int} {i : Nat} (hc : own.cls ≤ 127) : codeF own l m i = 1 ∨ codeF own l m i = 4 := by
  simp only [codeF, hc, if_true]
  split <;> simp
theorem code_deaf {own : DS} {l : List PB} {i : Nat} (h : (l.getD i .zero).has = false) : codeF own l (pbest l) i = 1 ∨ codeF own l (pbest l) i = 2 ∨ codeF own l (pbest l) i = 3 := by
  by_cases h1 : own.cls ≤ 127
  · simp only [codeF, h1, if_true, h]; simp
  · by_cases h2 : pbest l < 0 ∨ lessB own (l.getD (pbest l).toNat .zero).set = true
    · simp only [codeF, h1, if_false, h2, if_true]; simp
    · by_cases h3 : (i : Int) = pbest l
      · exfalso
        have := pbTo_has l l.length (by have e : pbTo l l.length = pbest l := rfl; rw [e]; omega)
        have e : pbTo l l.length = pbest l := rfl
        rw [e, ← h3, Int.toNat_natCast, h] at this
        cases this
      · simp only [codeF, h1, if_false, h2, h3, h]; simp
/-- Some port has heard of one that is less than the clock itself. -/
def Better (own : DS) (l : List PB) : Prop := ∃ i, i < l.length ∧ (l.getD i .zero).has = true ∧ lessB (l.getD i .zero).set own = true
theorem better_best {own : DS} {l : List PB} (h : Better own l) : 0 ≤ pbest l ∧ lessB own (l.getD (pbest l).toNat .zero).set = false := by
  obtain ⟨i, hi, hh, hlt⟩ := h
  obtain ⟨h0, h1⟩ := pbTo_least l l.length i hi hh
  have e : pbTo l l.length = pbest l := rfl
  rw [e] at h0 h1
  refine ⟨h0, ?_⟩
  cases hx : lessB own (l.getD (pbest l).toNat .zero).set with
  | false => rfl
  | true => rw [less_trans hlt hx] at h1; cases h1
theorem code_better {own : DS} {l : List PB} {i : Nat} (hc : 127 < own.cls) (h : Better own l) : codeF own l (pbest l) i = 3 ∨ codeF own l (pbest l) i = 5 ∨ codeF own l (pbest l) i = 6 := by
  obtain ⟨h0, h1⟩ := better_best h
  have hc' : ¬ own.cls ≤ 127 := by omega
  have h2 : ¬ (pbest l < 0 ∨ lessB own (l.getD (pbest l).toNat .zero).set = true) := by rw [h1]; simp; omega
  simp only [codeF, hc', if_false, h2]
  split
  · simp
  · split <;> simp
def EqualTo (own : DS) (l : List PB) (k : Nat) : Prop := ∃ i, i < k ∧ (l.getD i .zero).has = true ∧ lessB own (l.getD i .zero).set = false
theorem six_low {own : DS} {l : List PB} (hc : own.cls ≤ 127) : ∀ i, i < l.length → codeF own l (pbest l) i ≠ 6 := fun i hi h => by
  have := ((code_six hi).1 h).1; omega
theorem six_better {own : DS} {l : List PB} (hc : 127 < own.cls) (h : Better own l) : ∃ i, i < l.length ∧ codeF own l (pbest l) i = 6 := by
  obtain ⟨h0, h1⟩ := better_best h
  have hr := pbTo_range l l.length
  have e : pbTo l l.length = pbest l := rfl
  rw [e] at hr
  have hi : (pbest l).toNat < l.length := by omega
  exact ⟨_, hi, (code_six hi).2 ⟨hc, by omega, h1⟩⟩
theorem six_equal {own : DS} {l : List PB} (hc : 127 < own.cls) : (∃ i, i < l.length ∧ codeF own l (pbest l) i = 6) ↔ EqualTo own l l.length := by
  have hr := pbTo_range l l.length
  have e : pbTo l l.length = pbest l := rfl
  rw [e] at hr
  constructor
  · rintro ⟨i, hi, h⟩
    obtain ⟨_, h2, h3⟩ := (code_six hi).1 h
    have := pbTo_has l l.length (by rw [e]; omega)
    rw [e, h2, Int.toNat_natCast] at this
    exact ⟨i, hi, this, h3⟩
  · rintro ⟨i, hi, hh, h1⟩
    obtain ⟨h0, h2⟩ := pbTo_least l l.length i hi hh
    rw [e] at h0 h2
    have hi' : (pbest l).toNat < l.length := by omega
    exact ⟨_, hi', (code_six hi').2 ⟨hc, by omega, not_less_trans h1 h2⟩⟩

theorem int_at {xs : List Int} {n g c : Nat} (x : Int) (hn : xs.length = n) (hl : n ≤ 1000) (w : World) (hx : RowAt w g xs) :
    Calls Try.prog 55 #[.slice (some ⟨g, 0, none⟩) n c, .int .i64 x] w fun e w' => (∃ r : Int, e = .returned (.int .i64 r) ∧ -1 ≤ r ∧ (0 ≤ r ↔ ∃ i, i < n ∧ xs.getD i 0 = x)) ∧ w = w' := by
  have HX := Lib.hid hx
  have HN := Lib.hid hn
  clear hx hn
  go_enter Try.func55, Try.ntmps55
  go_wp2_with fail
  go_loop [8] (fun i => ∃ k : Nat, k ≤ n ∧ i = .int .i64 k ∧ ∀ j, j < k → xs.getD j 0 ≠ x) (fun i => n - (intOf i).toNat)
  case atStart => exact ⟨0, Nat.zero_le _, rfl, fun j hj => by omega⟩
  case round =>
    obtain ⟨k, hk, rfl, hno⟩ := hrel
    have NO := Lib.hid hno
    clear hno
    by_cases hlt : k < n
    · have hk0 : (0 : Int) ≤ (k : Int) := by omega
      have hk1 : (k : Int) < (n : Int) := by omega
      have a0 := HX.out k (by rw [HN.out]; exact hlt)
      obtain ⟨v, hv⟩ : ∃ v, xs.getD k 0 = v := ⟨_, rfl⟩
      rw [hv] at a0
      have HV := Lib.hid hv
      clear hv
      by_cases hxv : x = v
      · subst hxv
        go_wp2_with fail
        go_ret
        exact ⟨⟨k, rfl, by omega, ⟨fun _ => ⟨k, hlt, HV.out⟩, fun _ => by omega⟩⟩, rfl⟩
      · have hb : (x == v) = false := by simpa using hxv
        go_wp2_with fail
        go_round
        case rel => exact ⟨k + 1, by omega, by go_num, fun j hj => by
          by_cases e : j = k
          · rw [e, HV.out]; exact fun h => hxv h.symm
          · exact NO.out j (by omega)⟩
        case measure => simp [intOf]; omega
    · obtain rfl : k = n := by omega
      go_wp2_with fail
      go_ret
      exact ⟨⟨-1, rfl, by omega, ⟨fun h => by omega, fun ⟨i, hi, h⟩ => absurd h (NO.out i hi)⟩⟩, rfl⟩
theorem holds_int {xs : List Int} {n g c : Nat} (x : Int) (hn : xs.length = n) (hl : n ≤ 1000) (w : World) (hx : RowAt w g xs) {r : Bool} (hr : r = true ↔ ∃ i, i < n ∧ xs.getD i 0 = x) :
    Calls Try.prog 37 #[.slice (some ⟨g, 0, none⟩) n c, .int .i64 x] w fun e w' => e = .returned (.bool r) ∧ w = w' := by
  have IA := Lib.hid (int_at (c := c) x hn hl w hx)
  clear hx hn
  go_enter Try.func37, Try.ntmps37
  go_wp2_with fail
  refine IA.out.mono ?_
  rintro e _ ⟨⟨m, rfl, hm, hiff⟩, rfl⟩
  have hd : decide (0 ≤ m) = r := by
    cases r with
    | true => simpa using hiff.2 (hr.1 rfl)
    | false =>
      simp only [decide_eq_false_iff_not]
      intro h
      have := hr.2 (hiff.1 h)
      cases this
  clear hr hiff
  go_wp2_with fail
  go_ret
  exact ⟨rfl, rfl⟩
set_option maxHeartbeats 1000000 in
theorem equal_any (own : DS) {A : Option Addr} {n cap : Nat} {l : List PB} (w : World) (ok : PBArg w A n cap l) (hn : n ≤ 8) (hnb : ¬ Better own l) {r : Bool} (hr : r = true ↔ EqualTo own l l.length) :
    Calls Try.prog 38 #[own.v, .slice A n cap] w fun e w' => e = .returned (.bool r) ∧ Below w.heap.size w w' := by
  have hl := ok.len_eq
  have HL := Lib.hid hl
  have OK := Lib.hid ok
  have NB := Lib.hid hnb
  have HR := Lib.hid hr
  clear hl ok hnb hr
  go_enter Try.func38, Try.ntmps38
  go_wp2_with fail
  generalize hW : w.alloc _ = W
  have hb0 : Below w.heap.size w W := by rw [← hW]; exact (Below.refl _ _).alloc (Nat.le_refl _) _
  have hO0 : BoxAt W w.heap.size own := by rw [← hW]; exact BoxAt.of (heap_alloc_new w _)
  have hs0 : w.heap.size < W.heap.size := by rw [← hW]; simp
  have HB := Lib.hid hb0
  have HO := Lib.hid hO0
  clear hW hb0 hO0
  go_loopw [10, 5] (fun i b wr => ∃ (k : Nat) (t : Bool), k ≤ n ∧ i = .int .i64 k ∧ b = .bool t ∧ (t = true ↔ EqualTo own l k) ∧ Below W.heap.size W wr) (fun i _ _ => n - (intOf i).toNat)
  case atStart => exact ⟨0, false, Nat.zero_le _, rfl, rfl, ⟨fun h => (nomatch h), fun ⟨i, hi, _⟩ => by omega⟩, Below.refl _ _⟩
  case round =>
    obtain ⟨k, t, hk, rfl, rfl, hiff, hbr⟩ := hrel
    have HI := Lib.hid hiff
    have HBR := Lib.hid hbr
    by_cases hlt : k < n
    · have hk0 : (0 : Int) ≤ (k : Int) := by omega
      have hk1 : (k : Int) < (n : Int) := by omega
      obtain ⟨b, off, rfl, hrow⟩ := OK.out.at_ (by omega)
      obtain ⟨q, hq⟩ : ∃ q, l.getD k .zero = q := ⟨_, rfl⟩
      have hA := ((hrow.below HB.out).below hbr) k (by rw [HL.out]; exact hlt)
      rw [hq] at hA
      have hnl : q.has = true → lessB q.set own = false := fun h => by
        cases hx : lessB q.set own with
        | false => rfl
        | true => exact absurd ⟨k, by rw [HL.out]; exact hlt, by rw [hq]; exact h, by rw [hq]; exact hx⟩ NB.out
      obtain ⟨e0, e1, e2, e3, e4, e5, e6, e7, e8, e9, e10⟩ := HO.out.below hbr
      obtain ⟨ah, a0, a1, a2, a3, a4, a5, a6, a7, a8, a9, a10⟩ := hA
      have hsr : w.heap.size < wr.heap.size := by have := hbr.size; omega
      have HQ := Lib.hid hq
      clear hbr hq hrow hiff
      cases hqh : q.has with
      | false =>
        rw [hqh] at ah
        have HH := Lib.hid hqh
        clear hnl hqh
        cases t
        · go_wp2_with fail
          go_roundw
          case rel => exact ⟨k + 1, false, by omega, by go_num, rfl, ⟨fun h => (nomatch h), fun ⟨i, hi, h1, h2⟩ => by
            by_cases e : i = k
            · rw [e, HQ.out, HH.out] at h1; cases h1
            · exact HI.out.2 ⟨i, by omega, h1, h2⟩⟩, below_then HBR.out ((Below.refl _ _).alloc (Nat.le_refl _) _)⟩
          case measure => simp [intOf]; omega
        · go_wp2_with fail
          go_roundw
          case rel => exact ⟨k + 1, true, by omega, by go_num, rfl, ⟨fun _ => let ⟨i, hi, h1, h2⟩ := HI.out.1 rfl; ⟨i, by omega, h1, h2⟩, fun _ => rfl⟩, below_then HBR.out ((Below.refl _ _).alloc (Nat.le_refl _) _)⟩
          case measure => simp [intOf]; omega
      | true =>
        rw [hqh] at ah
        have HLE := Lib.hid (hnl hqh)
        have HH := Lib.hid hqh
        clear hnl hqh
        go_wp2_with fail
        refine (less_false HLE.out _).mono ?_
        rintro e w3 ⟨rfl, hb3⟩
        have hA3 : PBAt w3 wr.heap.size 0 q := (PBAt.of (by rw [HH.out]; exact heap_alloc_new wr _)).below hb3
        have hO3 : BoxAt w3 w.heap.size own := HO.out.below (below_then HBR.out (below_then ((Below.refl _ _).alloc (Nat.le_refl _) _) hb3))
        have HB3 := Lib.hid (below_then HBR.out (below_then ((Below.refl _ _).alloc (Nat.le_refl _) _) hb3))
        clear hb3 e0 e1 e2 e3 e4 e5 e6 e7 e8 e9 e10 ah a0 a1 a2 a3 a4 a5 a6 a7 a8 a9 a10
        obtain ⟨e0, e1, e2, e3, e4, e5, e6, e7, e8, e9, e10⟩ := hO3
        obtain ⟨ah, a0, a1, a2, a3, a4, a5, a6, a7, a8, a9, a10⟩ := hA3
        rw [HH.out] at ah
        cases t
        · cases hlo : lessB own q.set with
          | false =>
            have HLO := Lib.hid hlo
            clear hlo
            go_wp2_with fail
            refine (less_false HLO.out _).mono ?_
            rintro e w4 ⟨rfl, hb4⟩
            have HB4 := Lib.hid (below_then HB3.out hb4)
            clear hb4
            go_wp2_with fail
            go_roundw
            case rel => exact ⟨k + 1, true, by omega, by go_num, rfl, ⟨fun _ => ⟨k, by omega, by rw [HQ.out]; exact HH.out, by rw [HQ.out]; exact HLO.out⟩, fun _ => rfl⟩, HB4.out⟩
            case measure => simp [intOf]; omega
          | true =>
            have HLO := Lib.hid hlo
            clear hlo
            go_wp2_with fail
            refine (less_true HLO.out _).mono ?_
            rintro e w4 ⟨rfl, hb4⟩
            have HB4 := Lib.hid (below_then HB3.out hb4)
            clear hb4
            go_wp2_with fail
            go_roundw
            case rel => exact ⟨k + 1, false, by omega, by go_num, rfl, ⟨fun h => (nomatch h), fun ⟨i, hi, h1, h2⟩ => by
              by_cases e : i = k
              · rw [e, HQ.out, HLO.out] at h2; cases h2
              · exact HI.out.2 ⟨i, by omega, h1, h2⟩⟩, HB4.out⟩
            case measure => simp [intOf]; omega
        · go_wp2_with fail
          go_roundw
          case rel => exact ⟨k + 1, true, by omega, by go_num, rfl, ⟨fun _ => let ⟨i, hi, h1, h2⟩ := HI.out.1 (by simp); ⟨i, by omega, h1, h2⟩, fun _ => rfl⟩, HB3.out⟩
          case measure => simp [intOf]; omega
    · obtain rfl : k = n := by omega
      obtain rfl : t = r := by
        have h1 := HI.out
        have h2 := HR.out
        rw [HL.out] at h2
        cases t <;> cases r <;> simp_all
      clear hbr hiff
      go_wp2_with fail
      go_ret
      exact ⟨rfl, below_then HB.out HBR.out⟩
end Go.Proofs.Ythehhcaohhlccaa
