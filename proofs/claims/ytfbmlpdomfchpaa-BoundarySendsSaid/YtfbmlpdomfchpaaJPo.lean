/- Several texts in one: Port, Port2, PortN. -/
import Derived.WalkKit
import Derived.LoopTactic
import Derived.Outline
import Derived.Lib.Hide
import Derived.Test.YtfbmlpdomfchpaaJDb
/- The walks of package port that the laws reach. -/
namespace Go.Proofs.Ytfbmlpdomfchpaa
open Go.RowKit
set_option linter.unusedVariables false
set_option linter.unusedSimpArgs false

theorem known_any (s : Int) (h1 : 1 ≤ s) (h2 : s ≤ 9) (w : World) : Calls Try.prog 70 #[.int .i64 s] w fun e w' => e = .returned (.bool true) ∧ w = w' := by
  have d1 : decide (1 ≤ s) = true := by simp; omega
  have d2 : decide (s ≤ 9) = true := by simp; omega
  go_enter Try.func70, Try.ntmps70
  go_wp2
  go_ret
  exact ⟨rfl, rfl⟩
theorem happens_any (s : Int) (h : (1 ≤ s ∧ s ≤ 10) ∨ (20 ≤ s ∧ s ≤ 26)) (w : World) : Calls Try.prog 71 #[.int .i64 s] w fun e w' => e = .returned (.bool true) ∧ w = w' := by
  rcases h with ⟨h1, h2⟩ | ⟨h1, h2⟩
  · have d1 : decide (1 ≤ s) = true := by simp; omega
    have d2 : decide (s ≤ 10) = true := by simp; omega
    go_enter Try.func71, Try.ntmps71
    go_wp2
    go_ret
    exact ⟨rfl, rfl⟩
  · have d1 : decide (1 ≤ s) = true := by simp; omega
    have d2 : decide (s ≤ 10) = false := by simp; omega
    have d3 : decide (20 ≤ s) = true := by simp; omega
    have d4 : decide (s ≤ 26) = true := by simp; omega
    go_enter Try.func71, Try.ntmps71
    go_wp2
    go_ret
    exact ⟨rfl, rfl⟩
theorem sends_any (s : Int) (w : World) : Calls Try.prog 32 #[.int .i64 s] w fun e w' => e = .returned (.bool (s == 6)) ∧ w = w' := by
  go_enter Try.func32, Try.ntmps32
  go_wp2
  go_ret
  exact ⟨rfl, rfl⟩
theorem uses_not (s : Int) (h1 : s ≠ 8) (h2 : s ≠ 9) (w : World) : Calls Try.prog 59 #[.int .i64 s] w fun e w' => e = .returned (.bool false) ∧ w = w' := by
  have d1 : (s == 8) = false := by simpa using h1
  have d2 : (s == 9) = false := by simpa using h2
  go_enter Try.func59, Try.ntmps59
  go_wp2
  go_ret
  exact ⟨rfl, rfl⟩
theorem uses_eight (w : World) : Calls Try.prog 59 #[.int .i64 8] w fun e w' => e = .returned (.bool true) ∧ w = w' := by
  go_enter Try.func59, Try.ntmps59
  go_wp2
  go_ret
  exact ⟨rfl, rfl⟩
/-- Whether a row of the table is for a state. -/
def appB (fr s : Int) : Bool := if fr = 100 then true else if fr = 101 then s != 3 else if fr = 102 then decide (4 ≤ s) else fr == s
theorem app_any (ev fr to s : Int) (w : World) : Calls Try.prog 72 #[.agg #[.int .i64 ev, .int .i64 fr, .int .i64 to], .int .i64 s] w fun e w' => e = .returned (.bool (appB fr s)) ∧ Below w.heap.size w w' := by
  by_cases h1 : fr = 100
  · subst h1
    have e1 : appB 100 s = true := rfl
    rw [e1]
    clear e1
    go_enter Try.func72, Try.ntmps72
    go_wp2
    go_ret
    exact ⟨rfl, (Below.refl _ _).alloc (Nat.le_refl _) _⟩
  by_cases h2 : fr = 101
  · subst h2
    have e1 : appB 101 s = (s != 3) := rfl
    rw [e1]
    clear e1
    go_enter Try.func72, Try.ntmps72
    go_wp2
    go_ret
    exact ⟨rfl, (Below.refl _ _).alloc (Nat.le_refl _) _⟩
  by_cases h3 : fr = 102
  · subst h3
    have e1 : appB 102 s = decide (4 ≤ s) := rfl
    rw [e1]
    clear e1
    go_enter Try.func72, Try.ntmps72
    go_wp2
    go_ret
    exact ⟨rfl, (Below.refl _ _).alloc (Nat.le_refl _) _⟩
  · have e1 : appB fr s = (fr == s) := by simp only [appB, if_neg h1, if_neg h2, if_neg h3]
    rw [e1]
    clear e1
    have b1 : (fr == 100) = false := by simpa using h1
    have b2 : (fr == 101) = false := by simpa using h2
    have b3 : (fr == 102) = false := by simpa using h3
    go_enter Try.func72, Try.ntmps72
    go_wp2
    go_ret
    exact ⟨rfl, (Below.refl _ _).alloc (Nat.le_refl _) _⟩
def moves : List Int := [1, 100, 1, 5, 100, 3, 3, 101, 2, 2, 1, 4, 4, 2, 1, 6, 3, 1, 7, 4, 6, 7, 8, 6, 7, 9, 6, 7, 7, 6, 8, 5, 6, 9, 8, 9, 10, 9, 8, 24, 102, 7, 25, 102, 7, 26, 102, 8, 21, 102, 5, 22, 102, 5, 23, 102, 5]
end Go.Proofs.Ytfbmlpdomfchpaa
/- The walk of port.Next. -/
namespace Go.Proofs.Ytfbmlpdomfchpaa
open Go.RowKit
set_option linter.unusedVariables false
set_option linter.unusedSimpArgs false

def toF (s to : Int) : Int := if to = 5 ∧ s = 6 then s else to
set_option maxRecDepth 100000 in
set_option maxHeartbeats 2000000 in
theorem next_hit {s e : Int} (k0 : Nat) (fr to : Int) (hk0 : k0 < 19) (h0 : moves.getD (k0 * 3) 0 = e) (h1 : moves.getD (k0 * 3 + 1) 0 = fr) (h2 : moves.getD (k0 * 3 + 2) 0 = to) (hu : ∀ k, k < 19 → moves.getD (k * 3) 0 = e → k = k0) (ha : appB fr s = true)
    (hs1 : 1 ≤ s) (hs9 : s ≤ 9) (he : (1 ≤ e ∧ e ≤ 10) ∨ (20 ≤ e ∧ e ≤ 26)) (w : World) :
    Calls Try.prog 48 #[.int .i64 s, .int .i64 e, .bool false] w fun ex w' => ex = .returned (.int .i64 (toF s to)) ∧ Below w.heap.size w w' := by
  obtain ⟨r, hr⟩ : ∃ r, toF s to = r := ⟨_, rfl⟩
  rw [hr]
  have H0 := Lib.hid h0
  have H1 := Lib.hid h1
  have H2 := Lib.hid h2
  have HU := Lib.hid hu
  have HA := Lib.hid ha
  have HK := Lib.hid hk0
  have HR := Lib.hid hr
  have KN := Lib.hid (known_any s hs1 hs9)
  have HP := Lib.hid (happens_any e he)
  clear h0 h1 h2 hu ha hk0 hr hs1 hs9 he
  go_enter Try.func48, Try.ntmps48
  go_wp2_with fail
  refine (KN.out _).mono ?_
  rintro ex _ ⟨rfl, rfl⟩
  go_wp2_with fail
  refine (HP.out _).mono ?_
  rintro ex _ ⟨rfl, rfl⟩
  go_wp2_with fail
  generalize hW : w.alloc _ = W
  have HB := Lib.hid (show Below w.heap.size w W by rw [← hW]; exact (Below.refl _ _).alloc (Nat.le_refl _) _)
  have ROW := Lib.hid (show RowAt W w.heap.size moves by rw [← hW]; exact RowAt.of (heap_alloc_new w _) rfl)
  have hsW : w.heap.size < W.heap.size := by rw [← hW]; simp
  clear hW
  go_loopw [41] (fun i wr => ∃ k : Nat, k ≤ k0 ∧ i = .int .i64 k ∧ Below W.heap.size W wr) (fun i _ => 19 - (intOf i).toNat)
  case atStart => exact ⟨0, Nat.zero_le _, rfl, Below.refl _ _⟩
  case round =>
    obtain ⟨k, hk, rfl, hbr⟩ := hrel
    have hk19 : k < 19 := by have := HK.out; omega
    have HBR := Lib.hid hbr
    have hkk0 : (0 : Int) ≤ (k : Int) := by omega
    have hkk1 : (k : Int) < 19 := by omega
    obtain ⟨a, hA⟩ : ∃ a, moves.getD (k * 3) 0 = a := ⟨_, rfl⟩
    obtain ⟨f, hF⟩ : ∃ f, moves.getD (k * 3 + 1) 0 = f := ⟨_, rfl⟩
    obtain ⟨t, hT⟩ : ∃ t, moves.getD (k * 3 + 2) 0 = t := ⟨_, rfl⟩
    have hlen : moves.length = 57 := rfl
    have c0 := (ROW.out.below hbr) (k * 3) (by rw [hlen]; omega)
    have c1 := (ROW.out.below hbr) (k * 3 + 1) (by rw [hlen]; omega)
    have c2 := (ROW.out.below hbr) (k * 3 + 2) (by rw [hlen]; omega)
    rw [hA] at c0
    rw [hF] at c1
    rw [hT] at c2
    have hsr : w.heap.size < wr.heap.size := by have := hbr.size; omega
    by_cases hae : a = e
    · have hkk : k = k0 := HU.out k hk19 (by rw [hA]; exact hae)
      have hfr : f = fr := by rw [← hF, hkk]; exact H1.out
      have hto : t = to := by rw [← hT, hkk]; exact H2.out
      subst hfr
      subst hto
      subst hae
      clear hA hF hT hbr hlen hkk
      have AP := Lib.hid (fun w => by have := app_any a f t s w; rwa [HA.out] at this)
      go_wp2_with fail
      refine (AP.out _).mono ?_
      rintro ex w2 ⟨rfl, hb2⟩
      have HB2 := Lib.hid (below_then HB.out (below_then HBR.out (below_then ((Below.refl _ _).alloc (Nat.le_refl _) _) hb2)))
      have d0 : w2.cell? ⟨wr.heap.size, 0, none⟩ = some (.int .i64 a) := (hb2.cell (by simp)).trans ((cell_of_row _ _ 0 _ _ (0, 0) (heap_alloc_new wr _)).trans rfl)
      have d1 : w2.cell? ⟨wr.heap.size, 1, none⟩ = some (.int .i64 f) := (hb2.cell (by simp)).trans ((cell_of_row _ _ 1 _ _ (0, 0) (heap_alloc_new wr _)).trans rfl)
      have d2 : w2.cell? ⟨wr.heap.size, 2, none⟩ = some (.int .i64 t) := (hb2.cell (by simp)).trans ((cell_of_row _ _ 2 _ _ (0, 0) (heap_alloc_new wr _)).trans rfl)
      clear hb2 c0 c1 c2
      by_cases h5 : t = 5
      · subst h5
        by_cases h6 : s = 6
        · subst h6
          have hr : r = 6 := by rw [← HR.out]; rfl
          subst hr
          go_wp2_with fail
          go_ret
          exact ⟨rfl, HB2.out⟩
        · have b6 : (s == 6) = false := by simpa using h6
          have hr : r = 5 := by rw [← HR.out]; simp [toF, h6]
          subst hr
          by_cases h26 : a = 26
          · subst h26
            go_wp2_with fail
            go_ret
            exact ⟨rfl, HB2.out⟩
          · have b26 : (a == 26) = false := by simpa using h26
            go_wp2_with fail
            go_ret
            exact ⟨rfl, HB2.out⟩
      · have b5 : (t == 5) = false := by simpa using h5
        have hr : r = t := by rw [← HR.out]; simp [toF, h5]
        subst hr
        by_cases h26 : a = 26
        · subst h26
          go_wp2_with fail
          go_ret
          exact ⟨rfl, HB2.out⟩
        · have b26 : (a == 26) = false := by simpa using h26
          go_wp2_with fail
          go_ret
          exact ⟨rfl, HB2.out⟩
    · have bae : (a == e) = false := by simpa using hae
      have hkk : k ≠ k0 := fun h => hae (by rw [← hA, h]; exact H0.out)
      clear hA hF hT hbr hlen
      go_wp2_with fail
      go_roundw
      case rel => exact ⟨k + 1, by omega, by go_num, below_then HBR.out ((Below.refl _ _).alloc (Nat.le_refl _) _)⟩
      case measure => simp [intOf]; omega
set_option maxRecDepth 100000 in
set_option maxHeartbeats 2000000 in
/-- The one row for the event does not apply: nothing turns. -/
theorem next_miss {s e : Int} (hu : ∀ k, k < 19 → moves.getD (k * 3) 0 = e → appB (moves.getD (k * 3 + 1) 0) s = false)
    (hs1 : 1 ≤ s) (hs9 : s ≤ 9) (he : (1 ≤ e ∧ e ≤ 10) ∨ (20 ≤ e ∧ e ≤ 26)) (w : World) :
    Calls Try.prog 48 #[.int .i64 s, .int .i64 e, .bool false] w fun ex w' => ex = .returned (.int .i64 s) ∧ Below w.heap.size w w' := by
  have HU := Lib.hid hu
  have KN := Lib.hid (known_any s hs1 hs9)
  have HP := Lib.hid (happens_any e he)
  clear hu hs1 hs9 he
  go_enter Try.func48, Try.ntmps48
  go_wp2_with fail
  refine (KN.out _).mono ?_
  rintro ex _ ⟨rfl, rfl⟩
  go_wp2_with fail
  refine (HP.out _).mono ?_
  rintro ex _ ⟨rfl, rfl⟩
  go_wp2_with fail
  generalize hW : w.alloc _ = W
  have HB := Lib.hid (show Below w.heap.size w W by rw [← hW]; exact (Below.refl _ _).alloc (Nat.le_refl _) _)
  have ROW := Lib.hid (show RowAt W w.heap.size moves by rw [← hW]; exact RowAt.of (heap_alloc_new w _) rfl)
  have hsW : w.heap.size < W.heap.size := by rw [← hW]; simp
  clear hW
  go_loopw [41] (fun i wr => ∃ k : Nat, k ≤ 19 ∧ i = .int .i64 k ∧ Below W.heap.size W wr) (fun i _ => 19 - (intOf i).toNat)
  case atStart => exact ⟨0, Nat.zero_le _, rfl, Below.refl _ _⟩
  case round =>
    obtain ⟨k, hk, rfl, hbr⟩ := hrel
    have HBR := Lib.hid hbr
    by_cases hk19 : k < 19
    · have hkk0 : (0 : Int) ≤ (k : Int) := by omega
      have hkk1 : (k : Int) < 19 := by omega
      obtain ⟨a, hA⟩ : ∃ a, moves.getD (k * 3) 0 = a := ⟨_, rfl⟩
      obtain ⟨f, hF⟩ : ∃ f, moves.getD (k * 3 + 1) 0 = f := ⟨_, rfl⟩
      obtain ⟨t, hT⟩ : ∃ t, moves.getD (k * 3 + 2) 0 = t := ⟨_, rfl⟩
      have hlen : moves.length = 57 := rfl
      have c0 := (ROW.out.below hbr) (k * 3) (by rw [hlen]; omega)
      have c1 := (ROW.out.below hbr) (k * 3 + 1) (by rw [hlen]; omega)
      have c2 := (ROW.out.below hbr) (k * 3 + 2) (by rw [hlen]; omega)
      rw [hA] at c0
      rw [hF] at c1
      rw [hT] at c2
      have hsr : w.heap.size < wr.heap.size := by have := hbr.size; omega
      by_cases hae : a = e
      · have hno := HU.out k hk19 (by rw [hA]; exact hae)
        rw [hF] at hno
        subst hae
        have AP := Lib.hid (fun w => by have := app_any a f t s w; rwa [hno] at this)
        clear hA hF hT hbr hlen hno
        go_wp2_with fail
        refine (AP.out _).mono ?_
        rintro ex w2 ⟨rfl, hb2⟩
        have HB2 := Lib.hid (below_then HBR.out (below_then ((Below.refl _ _).alloc (Nat.le_refl _) _) hb2))
        clear hb2 c0 c1 c2
        go_wp2_with fail
        go_roundw
        case rel => exact ⟨k + 1, by omega, by go_num, HB2.out⟩
        case measure => simp [intOf]; omega
      · have bae : (a == e) = false := by simpa using hae
        clear hA hF hT hbr hlen
        go_wp2_with fail
        go_roundw
        case rel => exact ⟨k + 1, by omega, by go_num, below_then HBR.out ((Below.refl _ _).alloc (Nat.le_refl _) _)⟩
        case measure => simp [intOf]; omega
    · obtain rfl : k = 19 := by omega
      go_wp2_with fail
      go_ret
      exact ⟨rfl, below_then HB.out HBR.out⟩
/-- The state that a code leads to, after qualification. -/
def portF (c : Int) : Int := if c ≤ 3 then 6 else if c ≤ 5 then 7 else 8
def midF (s c : Int) : Int := if c ≤ 3 then (if s = 6 then 6 else 5) else if c ≤ 5 then 7 else 8
theorem next_one {s c : Int} (h4 : 4 ≤ s) (h9 : s ≤ 9) (c1 : 1 ≤ c) (c6 : c ≤ 6) (w : World) : Calls Try.prog 48 #[.int .i64 s, .int .i64 (20 + c), .bool false] w fun ex w' => ex = .returned (.int .i64 (midF s c)) ∧ Below w.heap.size w w' := by
  have ha : appB 102 s = true := by simp [appB]; omega
  obtain rfl | rfl | rfl | rfl | rfl | rfl : c = 1 ∨ c = 2 ∨ c = 3 ∨ c = 4 ∨ c = 5 ∨ c = 6 := by omega
  · have := next_hit (s := s) (e := 20 + 1) 16 102 5 (by decide) (by decide) (by decide) (by decide) (by decide) ha (by omega) h9 (.inr ⟨by omega, by omega⟩) w
    have e : toF s 5 = midF s 1 := by simp [toF, midF]; split <;> simp_all
    rwa [e] at this
  · have := next_hit (s := s) (e := 20 + 2) 17 102 5 (by decide) (by decide) (by decide) (by decide) (by decide) ha (by omega) h9 (.inr ⟨by omega, by omega⟩) w
    have e : toF s 5 = midF s 2 := by simp [toF, midF]; split <;> simp_all
    rwa [e] at this
  · have := next_hit (s := s) (e := 20 + 3) 18 102 5 (by decide) (by decide) (by decide) (by decide) (by decide) ha (by omega) h9 (.inr ⟨by omega, by omega⟩) w
    have e : toF s 5 = midF s 3 := by simp [toF, midF]; split <;> simp_all
    rwa [e] at this
  · exact next_hit (s := s) (e := 20 + 4) 13 102 7 (by decide) (by decide) (by decide) (by decide) (by decide) ha (by omega) h9 (.inr ⟨by omega, by omega⟩) w
  · exact next_hit (s := s) (e := 20 + 5) 14 102 7 (by decide) (by decide) (by decide) (by decide) (by decide) ha (by omega) h9 (.inr ⟨by omega, by omega⟩) w
  · exact next_hit (s := s) (e := 20 + 6) 15 102 8 (by decide) (by decide) (by decide) (by decide) (by decide) ha (by omega) h9 (.inr ⟨by omega, by omega⟩) w
theorem next_two {s c : Int} (c1 : 1 ≤ c) (c6 : c ≤ 6) (w : World) : Calls Try.prog 48 #[.int .i64 (midF s c), .int .i64 8, .bool false] w fun ex w' => ex = .returned (.int .i64 (portF c)) ∧ Below w.heap.size w w' := by
  have hm : midF s c = 5 ∧ portF c = 6 ∨ (midF s c = 6 ∨ midF s c = 7 ∨ midF s c = 8) ∧ portF c = midF s c := by
    unfold midF portF
    by_cases h3 : c ≤ 3
    · by_cases h6 : s = 6
      · simp [h3, h6]
      · simp [h3, h6]
    · by_cases h5 : c ≤ 5
      · simp [h3, h5]
      · simp [h3, h5]
  rcases hm with ⟨h1, h2⟩ | ⟨h1, h2⟩
  · rw [h1, h2]
    exact next_hit (s := 5) (e := 8) 10 5 6 (by decide) (by decide) (by decide) (by decide) (by decide) (by decide) (by decide) (by decide) (.inl ⟨by decide, by decide⟩) w
  · rw [h2]
    rcases h1 with h | h | h
    all_goals rw [h]
    all_goals exact next_miss (by decide) (by decide) (by decide) (.inl ⟨by decide, by decide⟩) w
end Go.Proofs.Ytfbmlpdomfchpaa
/- port.Next at every state, event and 'same'. -/
namespace Go.Proofs.Ytfbmlpdomfchpaa
open Go.RowKit
set_option linter.unusedVariables false
set_option linter.unusedSimpArgs false

def usesB (s : Int) : Bool := s == 8 || s == 9
theorem uses_nine (w : World) : Calls Try.prog 59 #[.int .i64 9] w fun e w' => e = .returned (.bool true) ∧ w = w' := by
  go_enter Try.func59, Try.ntmps59
  go_wp2
  go_ret
  exact ⟨rfl, rfl⟩
theorem uses_any (s : Int) (w : World) : Calls Try.prog 59 #[.int .i64 s] w fun e w' => e = .returned (.bool (usesB s)) ∧ w = w' := by
  by_cases h8 : s = 8
  · subst h8; exact uses_eight w
  · by_cases h9 : s = 9
    · subst h9; exact uses_nine w
    · have e : usesB s = false := by simp [usesB, h8, h9]
      rw [e]
      exact uses_not s h8 h9 w
def rowHits (s e : Int) (k : Nat) : Bool := moves.getD (k * 3) 0 == e && appB (moves.getD (k * 3 + 1) 0) s
def staysB (s e to : Int) (same : Bool) : Bool := (to == 5 && s == 6) || (e == 26 && (same && usesB s))
def nextF (s e : Int) (same : Bool) : Int := match (List.range 19).find? (rowHits s e) with
  | some k => if staysB s e (moves.getD (k * 3 + 2) 0) same = true then s else moves.getD (k * 3 + 2) 0
  | none => s
set_option maxRecDepth 100000 in
set_option maxHeartbeats 4000000 in
theorem next_any {s e : Int} (same : Bool) (hs1 : 1 ≤ s) (hs9 : s ≤ 9) (he : (1 ≤ e ∧ e ≤ 10) ∨ (20 ≤ e ∧ e ≤ 26)) (w : World) :
    Calls Try.prog 48 #[.int .i64 s, .int .i64 e, .bool same] w fun ex w' => ex = .returned (.int .i64 (nextF s e same)) ∧ Below w.heap.size w w' := by
  obtain ⟨r, hr⟩ : ∃ r, nextF s e same = r := ⟨_, rfl⟩
  rw [hr]
  have HR := Lib.hid hr
  have KN := Lib.hid (known_any s hs1 hs9)
  have HP := Lib.hid (happens_any e he)
  have HUS := Lib.hid (uses_any s)
  clear hr hs1 hs9 he
  go_enter Try.func48, Try.ntmps48
  go_wp2_with fail
  refine (KN.out _).mono ?_
  rintro ex _ ⟨rfl, rfl⟩
  go_wp2_with fail
  refine (HP.out _).mono ?_
  rintro ex _ ⟨rfl, rfl⟩
  go_wp2_with fail
  generalize hW : w.alloc _ = W
  have HB := Lib.hid (show Below w.heap.size w W by rw [← hW]; exact (Below.refl _ _).alloc (Nat.le_refl _) _)
  have ROW := Lib.hid (show RowAt W w.heap.size moves by rw [← hW]; exact RowAt.of (heap_alloc_new w _) rfl)
  have hsW : w.heap.size < W.heap.size := by rw [← hW]; simp
  clear hW
  go_loopw [41] (fun i wr => ∃ k : Nat, k ≤ 19 ∧ i = .int .i64 k ∧ Below W.heap.size W wr ∧ ∀ j, j < k → rowHits s e j = false) (fun i _ => 19 - (intOf i).toNat)
  case atStart => exact ⟨0, Nat.zero_le _, rfl, Below.refl _ _, fun j hj => by omega⟩
  case round =>
    obtain ⟨k, hk, rfl, hbr, hno⟩ := hrel
    have HNO := Lib.hid hno
    have HBR := Lib.hid hbr
    clear hno
    by_cases hk19 : k < 19
    · have hkk0 : (0 : Int) ≤ (k : Int) := by omega
      have hkk1 : (k : Int) < 19 := by omega
      have hhit : rowHits s e k = (moves.getD (k * 3) 0 == e && appB (moves.getD (k * 3 + 1) 0) s) := rfl
      have hfind : rowHits s e k = true → r = if staysB s e (moves.getD (k * 3 + 2) 0) same = true then s else moves.getD (k * 3 + 2) 0 := fun h => by
        have : (List.range 19).find? (rowHits s e) = some k := List.find?_range_eq_some.2 ⟨h, by simpa using hk19, fun j hj => by rw [HNO.out j hj]; rfl⟩
        rw [← HR.out, nextF, this]
      obtain ⟨a, hA⟩ : ∃ a, moves.getD (k * 3) 0 = a := ⟨_, rfl⟩
      obtain ⟨f, hF⟩ : ∃ f, moves.getD (k * 3 + 1) 0 = f := ⟨_, rfl⟩
      obtain ⟨t, hT⟩ : ∃ t, moves.getD (k * 3 + 2) 0 = t := ⟨_, rfl⟩
      have hlen : moves.length = 57 := rfl
      have c0 := (ROW.out.below hbr) (k * 3) (by rw [hlen]; omega)
      have c1 := (ROW.out.below hbr) (k * 3 + 1) (by rw [hlen]; omega)
      have c2 := (ROW.out.below hbr) (k * 3 + 2) (by rw [hlen]; omega)
      rw [hA] at c0 hhit
      rw [hF] at c1 hhit
      rw [hT] at c2 hfind
      have hsr : w.heap.size < wr.heap.size := by have := hbr.size; omega
      by_cases hae : a = e
      · subst hae
        have AP := Lib.hid (fun w => app_any a f t s w)
        cases hap : appB f s
        · rw [hap] at AP hhit
          have HH := Lib.hid hhit
          clear hA hF hT hbr hlen hhit hfind hap
          go_wp2_with fail
          refine (AP.out _).mono ?_
          rintro ex w2 ⟨rfl, hb2⟩
          have HB2 := Lib.hid (below_then HBR.out (below_then ((Below.refl _ _).alloc (Nat.le_refl _) _) hb2))
          clear hb2 c0 c1 c2
          go_wp2_with fail
          go_roundw
          case rel => exact ⟨k + 1, by omega, by go_num, HB2.out, fun j hj => by
            by_cases h : j = k
            · rw [h, HH.out]; simp
            · exact HNO.out j (by omega)⟩
          case measure => simp [intOf]; omega
        · rw [hap] at AP hhit
          have hfd := hfind (by rw [hhit]; simp)
          clear hA hF hT hbr hlen hhit hfind hap
          have HFD := Lib.hid hfd
          clear hfd
          go_wp2_with fail
          refine (AP.out _).mono ?_
          rintro ex w2 ⟨rfl, hb2⟩
          have HB2 := Lib.hid (below_then HB.out (below_then HBR.out (below_then ((Below.refl _ _).alloc (Nat.le_refl _) _) hb2)))
          have d0 : w2.cell? ⟨wr.heap.size, 0, none⟩ = some (.int .i64 a) := (hb2.cell (by simp)).trans ((cell_of_row _ _ 0 _ _ (0, 0) (heap_alloc_new wr _)).trans rfl)
          have d1 : w2.cell? ⟨wr.heap.size, 1, none⟩ = some (.int .i64 f) := (hb2.cell (by simp)).trans ((cell_of_row _ _ 1 _ _ (0, 0) (heap_alloc_new wr _)).trans rfl)
          have d2 : w2.cell? ⟨wr.heap.size, 2, none⟩ = some (.int .i64 t) := (hb2.cell (by simp)).trans ((cell_of_row _ _ 2 _ _ (0, 0) (heap_alloc_new wr _)).trans rfl)
          clear hb2 c0 c1 c2
          have hst : staysB s a t same = ((t == 5 && s == 6) || (a == 26 && (same && usesB s))) := rfl
          cases b5 : (t == 5)
          all_goals cases b6 : (s == 6)
          all_goals cases b26 : (a == 26)
          all_goals cases same
          all_goals cases hus : usesB s
          all_goals rw [b5, b6, b26, hus] at hst
          all_goals have hrr := HFD.out
          all_goals rw [hst] at hrr
          all_goals have HRR := Lib.hid hrr
          all_goals rw [hus] at HUS
          all_goals clear hrr hst hus HFD
          all_goals go_wp2_with (go_at_call 59; refine (HUS.out _).mono ?_; rintro ex _ ⟨rfl, rfl⟩)
          all_goals go_ret
          all_goals exact ⟨by rw [HRR.out]; rfl, HB2.out⟩
      · have bae : (a == e) = false := by simpa using hae
        rw [bae] at hhit
        have HH := Lib.hid hhit
        clear hA hF hT hbr hlen hhit hfind
        go_wp2_with fail
        go_roundw
        case rel => exact ⟨k + 1, by omega, by go_num, below_then HBR.out ((Below.refl _ _).alloc (Nat.le_refl _) _), fun j hj => by
          by_cases h : j = k
          · rw [h, HH.out]; simp
          · exact HNO.out j (by omega)⟩
        case measure => simp [intOf]; omega
    · obtain rfl : k = 19 := by omega
      have hr : r = s := by
        have : (List.range 19).find? (rowHits s e) = none := List.find?_eq_none.2 fun j hj => by rw [HNO.out j (by simpa using hj)]; simp
        rw [← HR.out, nextF, this]
      subst hr
      go_wp2_with fail
      go_ret
      exact ⟨rfl, below_then HB.out HBR.out⟩
end Go.Proofs.Ytfbmlpdomfchpaa
