/- The walk of Master; Decide at whatever slice. -/
import Derived.WalkKit
import Derived.LoopTactic
import Derived.Outline
import Derived.Lib.Hide
import Derived.Test.YtfbmlpdomfchpaaDe3
import Derived.Test.YtfbmlpdomfchpaaPm6
namespace Go.Proofs.Ytfbmlpdomfchpaa
open Go.RowKit
set_option linter.unusedVariables false
set_option linter.unusedSimpArgs false

/-- A slice of what ports have heard, that came in. -/
structure PBArg (w : World) (A : Option Addr) (len cap : Nat) (l : List PB) : Prop where
  len_eq : l.length = len
  le : len ≤ cap
  most : cap ≤ 9223372036854775807
  none_ : A = none → len = 0 ∧ cap = 0
  at_ : 0 < len → ∃ b off, A = some ⟨b, off, none⟩ ∧ PBRow w b off l
  steps : ∀ p ∈ l, -9223372036854775808 ≤ p.set.steps
theorem PBArg.below {w w1 : World} {A : Option Addr} {len cap : Nat} {l : List PB} (h : PBArg w A len cap l) (hb : Below w.heap.size w w1) : PBArg w1 A len cap l :=
  ⟨h.len_eq, h.le, h.most, h.none_, fun h0 => let ⟨b, off, e, r⟩ := h.at_ h0; ⟨b, off, e, r.below hb⟩, h.steps⟩
theorem decide_any {A : Option Addr} {n cap : Nat} {l : List PB} {w : World} (own : DS) (ok : PBArg w A n cap l) (hn : n ≤ 8) :
    Calls Try.prog 38 #[own.v, .slice A n cap] w fun e w' => ∃ g, e = .returned (.tuple #[.slice (some ⟨g, 0, none⟩) n n, .int .i64 0]) ∧ Below w.heap.size w w' ∧ RowAt w' g (codesF own l) := by
  have hl := ok.len_eq
  rcases Nat.eq_zero_or_pos n with h0 | h0
  · subst h0
    have e : l = [] := List.eq_nil_of_length_eq_zero hl
    refine (decide_nil own A cap w).mono ?_
    rintro e w' ⟨g, rfl, hb⟩
    exact ⟨g, rfl, hb, by subst e; intro j hj; simp [codesF] at hj⟩
  · obtain ⟨b, off, rfl, hr⟩ := ok.at_ h0
    have := decide_some own l b off cap (by omega) (by omega) ok.steps w hr
    rw [hl] at this
    refine this.mono ?_
    rintro e w' ⟨g, rfl, hb, _, hr⟩
    exact ⟨g, rfl, hb, hr⟩
theorem master_long {A : Option Addr} {n cap : Nat} (own : DS) (hn : 8 < n) (w : World) :
    Calls Try.prog 39 #[own.v, .slice A n cap] w fun e w' => e = .returned DS.zero.v ∧ Below w.heap.size w w' := by
  go_enter Try.func39, Try.ntmps39
  go_wp2_with fail
  refine (decide_long own A n cap hn _).mono ?_
  rintro e w1 ⟨rfl, hb1⟩
  have hf : ∀ j, w1.frozen? ⟨w.heap.size + 1, j, none⟩ = false := fun j => (hb1.frozen (p := ⟨w.heap.size + 1, j, none⟩) (by simp)).trans (free_blk (heap_at (by simp)) j)
  have hR : BoxAt w1 (w.heap.size + 1) .zero := (BoxAt.of (heap_at (by simp))).below hb1
  have hb := (((Below.refl w.heap.size w).alloc (Nat.le_refl _) (.cells #[.int .i64 own.p1, .int .i64 own.cls, .int .i64 own.acc, .int .i64 own.var, .int .i64 own.p2, .int .u64 own.gm, .int .i64 own.steps, .int .u64 own.sender, .int .i64 own.sport, .int .u64 own.recv, .int .i64 own.rport] 35)).alloc (by simp) _).trans (hb1.mono (by simp; omega))
  have HB := Lib.hid hb
  clear hb hb1
  obtain ⟨x0, x1, x2, x3, x4, x5, x6, x7, x8, x9, x10⟩ := hR
  have f0 := hf 0
  have f1 := hf 1
  have f2 := hf 2
  have f3 := hf 3
  have f4 := hf 4
  have f5 := hf 5
  have f6 := hf 6
  have f7 := hf 7
  have f8 := hf 8
  have f9 := hf 9
  have f10 := hf 10
  clear hf
  go_wp2_with fail
  refine bodyPost_ret (v := DS.zero.v) (by simp [results, Try.results39, go_sem, DS.zero, x0, x1, x2, x3, x4, x5, x6, x7, x8, x9, x10]) rfl ⟨rfl, setDS_below HB.out (by omega) _ _ _ _ _ _ _ _ _ _ _⟩
set_option maxHeartbeats 1000000 in
theorem master_any {A : Option Addr} {n cap : Nat} {l : List PB} {w : World} (own : DS) (ok : PBArg w A n cap l) (hn : n ≤ 8) :
    Calls Try.prog 39 #[own.v, .slice A n cap] w fun e w' => e = .returned (masterF own l).v ∧ Below w.heap.size w w' := by
  have hl := ok.len_eq
  obtain ⟨r, hr⟩ : ∃ r, masterF own l = r := ⟨_, rfl⟩
  rw [hr]
  have HM := Lib.hid hr
  have HL := Lib.hid hl
  have OK := Lib.hid ok
  clear hl hr ok
  go_enter Try.func39, Try.ntmps39
  go_wp2_with fail
  have hb0 : Below w.heap.size w ((w.alloc (.cells #[.int .i64 own.p1, .int .i64 own.cls, .int .i64 own.acc, .int .i64 own.var, .int .i64 own.p2, .int .u64 own.gm, .int .i64 own.steps, .int .u64 own.sender, .int .i64 own.sport, .int .u64 own.recv, .int .i64 own.rport] 35)).alloc (.cells DS.zero.v.cells 35)) := ((Below.refl _ _).alloc (Nat.le_refl _) _).alloc (by simp) _
  refine (decide_any own (OK.out.below hb0) hn).mono ?_
  rintro e w1 ⟨g, rfl, hb1, hrow⟩
  have hf : ∀ j, w1.frozen? ⟨w.heap.size + 1, j, none⟩ = false := fun j => (hb1.frozen (p := ⟨w.heap.size + 1, j, none⟩) (by simp)).trans (free_blk (heap_at (by simp)) j)
  have hR : BoxAt w1 (w.heap.size + 1) .zero := (BoxAt.of (heap_at (by simp))).below hb1
  have hO : BoxAt w1 w.heap.size own := (BoxAt.of (heap_alloc_old (heap_alloc_new w _) _)).below hb1
  have HB := Lib.hid (below_then hb0 hb1)
  have ROW := Lib.hid hrow
  clear hb1 hb0 hrow
  go_wp2_with fail
  go_loop [20] (fun i => ∃ k : Nat, k ≤ n ∧ i = .int .i64 k ∧ ∀ j, j < k → codeF own l (pbest l) j ≠ 6) (fun i => n - (intOf i).toNat)
  case atStart => exact ⟨0, Nat.zero_le _, rfl, fun j hj => by omega⟩
  case round =>
    obtain ⟨k, hk, rfl, hno⟩ := hrel
    have HN := Lib.hid hno
    clear hno
    by_cases hlt : k < n
    · have hk0 : (0 : Int) ≤ (k : Int) := by omega
      have hk1 : (k : Int) < (n : Int) := by omega
      obtain ⟨v, hv⟩ : ∃ v, codeF own l (pbest l) k = v := ⟨_, rfl⟩
      have hc : w1.cell? ⟨g, k, none⟩ = some (.int .i64 v) := by
        have := ROW.out k (by rw [codes_len, HL.out]; exact hlt)
        rwa [codes_at own l k (by rw [HL.out]; exact hlt), hv] at this
      by_cases h6 : v = 6
      · have hset : masterF own l = (l.getD k .zero).set := master_hit (by rw [HL.out]; exact hn) (by rw [HL.out]; exact hlt) (by rw [hv]; exact h6)
        obtain ⟨b, off, rfl, hrow⟩ := OK.out.at_ (by omega)
        have hP := (hrow.below HB.out) k (by rw [HL.out]; exact hlt)
        obtain ⟨p, hp⟩ : ∃ p, l.getD k .zero = p := ⟨_, rfl⟩
        rw [hp] at hP hset
        have e : p.set = r := by rw [← hset]; exact HM.out
        have hP2 := hP.2
        rw [e] at hP2
        subst h6
        clear hv hset e hp hrow hP
        obtain ⟨b0, b1, b2, b3, b4, b5, b6, b7, b8, b9, b10⟩ := hP2
        obtain ⟨x0, x1, x2, x3, x4, x5, x6, x7, x8, x9, x10⟩ := hR
        have f0 := hf 0
        have f1 := hf 1
        have f2 := hf 2
        have f3 := hf 3
        have f4 := hf 4
        have f5 := hf 5
        have f6 := hf 6
        have f7 := hf 7
        have f8 := hf 8
        have f9 := hf 9
        have f10 := hf 10
        clear hf hO
        go_wp2_with fail
        refine bodyPost_ret (v := r.v) (by simp [results, Try.results39, go_sem, x0, x1, x2, x3, x4, x5, x6, x7, x8, x9, x10]) rfl ⟨rfl, setDS_below HB.out (by omega) _ _ _ _ _ _ _ _ _ _ _⟩
      · have hb6 : (v == 6) = false := by simp [h6]
        have HV := Lib.hid hv
        clear hv
        go_wp2_with fail
        go_round
        case rel => exact ⟨k + 1, by omega, by go_num, fun j hj => by
          by_cases e : j = k
          · rw [e, HV.out]; exact h6
          · exact HN.out j (by omega)⟩
        case measure => simp [intOf]; omega
    · obtain rfl : k = n := by omega
      have e : own = r := by
        rw [← HM.out]
        exact (master_own (by rw [HL.out]; exact hn) (fun j hj => HN.out j (by rw [HL.out] at hj; exact hj))).symm
      subst e
      obtain ⟨b0, b1, b2, b3, b4, b5, b6, b7, b8, b9, b10⟩ := hO
      obtain ⟨x0, x1, x2, x3, x4, x5, x6, x7, x8, x9, x10⟩ := hR
      have f0 := hf 0
      have f1 := hf 1
      have f2 := hf 2
      have f3 := hf 3
      have f4 := hf 4
      have f5 := hf 5
      have f6 := hf 6
      have f7 := hf 7
      have f8 := hf 8
      have f9 := hf 9
      have f10 := hf 10
      clear hf
      go_wp2_with fail
      refine bodyPost_ret (v := own.v) (by simp [results, Try.results39, go_sem, x0, x1, x2, x3, x4, x5, x6, x7, x8, x9, x10]) rfl ⟨rfl, setDS_below HB.out (by omega) _ _ _ _ _ _ _ _ _ _ _⟩
end Go.Proofs.Ytfbmlpdomfchpaa
