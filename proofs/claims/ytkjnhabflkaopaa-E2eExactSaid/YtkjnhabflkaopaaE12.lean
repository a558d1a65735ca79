/- A path of chapter 38; whether it is small. -/
import Derived.WalkKit
import Derived.LoopTactic
import Derived.Outline
import Derived.Lib.Hide
import Derived.Test.YtkjnhabflkaopaaE11
namespace Go.Proofs.Ytkjnhabflkaopaa
open Go.RowKit
set_option linter.unusedVariables false
set_option linter.unusedSimpArgs false

structure Pth where
  sync : Int
  req : Int
  there_ : Int
  back : Int
  ss : Int
  sr : Int
  ahead : Int
abbrev Pth.v (x : Pth) : Value := .agg #[.int .i64 x.sync, .int .i64 x.req, .int .i64 x.there_, .int .i64 x.back, .int .i64 x.ss, .int .i64 x.sr, .int .i64 x.ahead]
/-- A path lies in a block of its own. -/
structure PthAt (w : World) (g : Nat) (x : Pth) : Prop where
  c0 : w.cell? ⟨g, 0, none⟩ = some (.int .i64 x.sync)
  c1 : w.cell? ⟨g, 1, none⟩ = some (.int .i64 x.req)
  c2 : w.cell? ⟨g, 2, none⟩ = some (.int .i64 x.there_)
  c3 : w.cell? ⟨g, 3, none⟩ = some (.int .i64 x.back)
  c4 : w.cell? ⟨g, 4, none⟩ = some (.int .i64 x.ss)
  c5 : w.cell? ⟨g, 5, none⟩ = some (.int .i64 x.sr)
  c6 : w.cell? ⟨g, 6, none⟩ = some (.int .i64 x.ahead)
theorem PthAt.of {w : World} {g : Nat} {x : Pth} {t : TypeId} (h : w.heap[g]? = some (.cells #[.int .i64 x.sync, .int .i64 x.req, .int .i64 x.there_, .int .i64 x.back, .int .i64 x.ss, .int .i64 x.sr, .int .i64 x.ahead] t (0, 0))) : PthAt w g x := by
  constructor <;> (rw [cell_of_row w g _ _ t (0, 0) h]; rfl)
theorem PthAt.below {w w' : World} {g : Nat} {x : Pth} (h : PthAt w g x) (k : Below w.heap.size w w') : PthAt w' g x :=
  ⟨cell_below k h.c0, cell_below k h.c1, cell_below k h.c2, cell_below k h.c3, cell_below k h.c4, cell_below k h.c5, cell_below k h.c6⟩
theorem PthAt.touch {b : Nat} {w w' : World} {g : Nat} {x : Pth} (h : PthAt w g x) (k : Touch b w w') (hg : g ≠ b) : PthAt w' g x :=
  ⟨k.cell' h.c0 hg, k.cell' h.c1 hg, k.cell' h.c2 hg, k.cell' h.c3 hg, k.cell' h.c4 hg, k.cell' h.c5 hg, k.cell' h.c6 hg⟩
theorem getD_get (l : List Int) (j : Nat) (h : j < l.length) : l.getD j 0 = l[j] := by simp [List.getD_eq_getElem?_getD, h]
def okN (n : Int) : Bool := !decide (n < 0) && !decide (1099511627776 < n)
def Pth.list (x : Pth) : List Int := [x.sync, x.req, x.there_, x.back, x.ss, x.sr]
def smallB (x : Pth) : Bool := x.list.all okN && (decide (-1099511627776 ≤ x.ahead) && decide (x.ahead ≤ 1099511627776))
theorem okN_iff (n : Int) : okN n = true ↔ 0 ≤ n ∧ n ≤ 1099511627776 := by simp [okN]
theorem smallB_true {x : Pth} (h : smallB x = true) : (0 ≤ x.sync ∧ x.sync ≤ 1099511627776) ∧ (0 ≤ x.req ∧ x.req ≤ 1099511627776) ∧ (0 ≤ x.there_ ∧ x.there_ ≤ 1099511627776) ∧ (0 ≤ x.back ∧ x.back ≤ 1099511627776) ∧ (0 ≤ x.ss ∧ x.ss ≤ 1099511627776) ∧ (0 ≤ x.sr ∧ x.sr ≤ 1099511627776) ∧ (-1099511627776 ≤ x.ahead ∧ x.ahead ≤ 1099511627776) := by
  simp only [smallB, Pth.list, List.all_cons, List.all_nil, Bool.and_true, Bool.and_eq_true, okN_iff, decide_eq_true_eq] at h
  omega
set_option maxHeartbeats 2000000 in
theorem small_any (x : Pth) (w : World) : Calls Try.prog 22 #[x.v] w fun e w' => e = .returned (.bool (smallB x)) ∧ Below w.heap.size w w' := by
  obtain ⟨r, hr⟩ : ∃ r, smallB x = r := ⟨_, rfl⟩
  rw [hr]
  have HR := Lib.hid hr
  clear hr
  go_enter Try.func22, Try.ntmps22
  go_wp2_with fail
  generalize hW : (w.alloc _).alloc _ = W
  have hrow : RowAt W (w.heap.size + 1) x.list := by
    rw [← hW]
    intro j hj
    rw [cell_of_row _ _ j _ _ (0, 0) (heap_at (by simp))]
    simp only [Pth.list, List.length_cons, List.length_nil] at hj
    rcases j with _ | _ | _ | _ | _ | _ | j <;> first | rfl | omega
  have c6 : W.cell? ⟨w.heap.size, 6, none⟩ = some (.int .i64 x.ahead) := by
    rw [← hW, cell_of_row _ _ 6 _ _ (0, 0) (heap_alloc_old (heap_alloc_new w _) _)]; rfl
  have hb : Below w.heap.size w W := by rw [← hW]; exact ((Below.refl _ _).alloc (Nat.le_refl _) _).alloc (by simp) _
  have HB := Lib.hid hb
  have ROW := Lib.hid hrow
  clear hW hb hrow
  go_loop [4] (fun i => ∃ k : Nat, k ≤ 6 ∧ i = .int .i64 k ∧ ∀ j, j < k → okN (x.list.getD j 0) = true) (fun i => 6 - (intOf i).toNat)
  case atStart => exact ⟨0, by omega, rfl, fun j hj => by omega⟩
  case round =>
    obtain ⟨k, hk, rfl, hno⟩ := hrel
    have HN := Lib.hid hno
    clear hno
    by_cases hlt : k < 6
    · have hk0 : (0 : Int) ≤ (k : Int) := by omega
      have hk1 : (k : Int) < 6 := by omega
      obtain ⟨v, hv⟩ : ∃ v, x.list.getD k 0 = v := ⟨_, rfl⟩
      have hc : W.cell? ⟨w.heap.size + 1, k, none⟩ = some (.int .i64 v) := by rw [← hv]; exact ROW.out k hlt
      have HV := Lib.hid hv
      have bad : okN v = false → r = false := fun h => by
        rw [← HR.out]
        have : x.list.all okN = false := by
          rw [Bool.eq_false_iff]
          intro ha
          have := List.all_eq_true.1 ha v (by rw [← HV.out, getD_get _ _ hlt]; exact List.getElem_mem _)
          rw [h] at this; cases this
        simp [smallB, this]
      have BAD := Lib.hid bad
      clear hv bad
      by_cases h1 : v < 0
      · have d1 : decide (v < 0) = true := by simpa using h1
        have e : r = false := BAD.out (by simp [okN, h1])
        subst e
        go_wp2_with fail
        go_ret
        exact ⟨rfl, HB.out⟩
      · have d1 : decide (v < 0) = false := by simpa using h1
        by_cases h2 : 1099511627776 < v
        · have d2 : decide (1099511627776 < v) = true := by simpa using h2
          have e : r = false := BAD.out (by simp [okN, h2])
          subst e
          go_wp2_with fail
          go_ret
          exact ⟨rfl, HB.out⟩
        · have d2 : decide (1099511627776 < v) = false := by simpa using h2
          have hv : okN v = true := by simp [okN, d1, d2]
          go_wp2_with fail
          go_round
          case rel => exact ⟨k + 1, by omega, by go_num, fun j hj => by
            by_cases e : j = k
            · rw [e, HV.out]; exact hv
            · exact HN.out j (by omega)⟩
          case measure => simp [intOf]; omega
    · obtain rfl : k = 6 := by omega
      have hall : x.list.all okN = true := List.all_eq_true.2 fun v hv => by
        obtain ⟨j, hj, rfl⟩ := List.getElem_of_mem hv
        have := HN.out j hj
        rwa [getD_get _ _ hj] at this
      have e : r = (decide (-1099511627776 ≤ x.ahead) && decide (x.ahead ≤ 1099511627776)) := by rw [← HR.out]; simp [smallB, hall]
      clear hall
      by_cases h1 : -1099511627776 ≤ x.ahead
      · have d1 : decide (-1099511627776 ≤ x.ahead) = true := by simpa using h1
        rw [d1, Bool.true_and] at e
        subst e
        clear h1
        go_wp2_with fail
        go_ret
        exact ⟨rfl, HB.out⟩
      · have d1 : decide (-1099511627776 ≤ x.ahead) = false := by simpa using h1
        rw [d1, Bool.false_and] at e
        subst e
        clear h1
        go_wp2_with fail
        go_ret
        exact ⟨rfl, HB.out⟩
end Go.Proofs.Ytkjnhabflkaopaa
