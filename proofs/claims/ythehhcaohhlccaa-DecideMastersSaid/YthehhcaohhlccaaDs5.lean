/- The walks of the reference of layer 34: order. -/
import Derived.WalkKit
import Derived.LoopTactic
import Derived.Outline
import Derived.Lib.Hide
import Derived.Deep.QuietTactic
import Derived.BigQuiet
import Derived.Test.YthehhcaohhlccaaDs4
import Derived.Test.YthehhcaohhlccaaCalm
namespace Go.Proofs.Ythehhcaohhlccaa
open Go.RowKit

theorem heap_at {w : World} {g : Nat} {o : Obj} (h : g = w.heap.size) : (w.alloc o).heap[g]? = some o := by rw [h]; exact heap_alloc_new w o

def DS.five (d : DS) : List Int := [d.p1, d.cls, d.acc, d.var, d.p2]
theorem key6_five (d : DS) : d.key6 = d.five.drop 0 ++ [d.gm] := rfl
theorem five_len (d : DS) : d.five.length = 5 := rfl
theorem lex_drop (a b : DS) (k : Nat) (hk : k < 5) : lexL (a.five.drop k ++ [a.gm]) (b.five.drop k ++ [b.gm]) = if cmpI (a.five.getD k 0) (b.five.getD k 0) = 0 then lexL (a.five.drop (k + 1) ++ [a.gm]) (b.five.drop (k + 1) ++ [b.gm]) else cmpI (a.five.getD k 0) (b.five.getD k 0) := by
  obtain rfl | rfl | rfl | rfl | rfl : k = 0 ∨ k = 1 ∨ k = 2 ∨ k = 3 ∨ k = 4 := by omega
  all_goals rfl

theorem five_nat (d : DS) (k : Nat) : d.five.getD k 0 = d.five.getD (k : Int).toNat 0 := by simp

set_option maxHeartbeats 400000 in
theorem rorder_any (a b : DS) (w : World) : Calls Try.prog 43 #[a.v, b.v] w fun e w' => e = .returned (.int .i64 (lexL a.key6 b.key6)) ∧ Below w.heap.size w w' := by
  go_enter Try.func43, Try.ntmps43
  go_wp2
  go_loopw [7] (fun i wr => ∃ k : Nat, k ≤ 5 ∧ i = .int .i64 k ∧ lexL a.key6 b.key6 = lexL (a.five.drop k ++ [a.gm]) (b.five.drop k ++ [b.gm]) ∧ Below w.heap.size w wr ∧ BoxAt wr w.heap.size a ∧ BoxAt wr (w.heap.size + 1) b ∧ RowAt wr (w.heap.size + 1 + 1) a.five ∧ RowAt wr (w.heap.size + 1 + 1 + 1) b.five) (fun i _ => 5 - (intOf i).toNat)
  case atStart =>
    refine ⟨0, by omega, rfl, rfl, ((((Below.refl _ _).alloc (Nat.le_refl _) _).alloc (by simp) _).alloc (by simp; omega) _).alloc (by simp; omega) _, ?_, ?_, ?_, ?_⟩
    · exact BoxAt.of (heap_alloc_old (heap_alloc_old (heap_alloc_old (heap_alloc_new w _) _) _) _)
    · exact BoxAt.of (heap_alloc_old (heap_alloc_old (heap_at (by simp)) _) _)
    · exact RowAt.of (heap_alloc_old (heap_at (by simp)) _) rfl
    · exact RowAt.of (heap_at (by simp)) rfl
  case round =>
    obtain ⟨k, hk, rfl, he, hb, hA, hB, hx, hy⟩ := hrel
    have HE := Lib.hid he
    have HB := Lib.hid hb
    have HX := Lib.hid hx
    have HY := Lib.hid hy
    have HA := Lib.hid hA
    have HB2 := Lib.hid hB
    clear he hb hx hy hA hB
    by_cases hlt : k < 5
    · have hi0 : (0 : Int) ≤ (k : Int) := by omega
      have hi1 : (k : Int) < 5 := by omega
      have hd := lex_drop a b k hlt
      obtain ⟨x, hx⟩ : ∃ x, a.five.getD k 0 = x := ⟨_, rfl⟩
      obtain ⟨y, hy⟩ : ∃ y, b.five.getD k 0 = y := ⟨_, rfl⟩
      rw [hx, hy] at hd
      have hcx : wr.cell? ⟨w.heap.size + 1 + 1, k, none⟩ = some (.int .i64 x) := by rw [← hx]; exact HX.out k hlt
      have hcy : wr.cell? ⟨w.heap.size + 1 + 1 + 1, k, none⟩ = some (.int .i64 y) := by rw [← hy]; exact HY.out k hlt
      have HD := Lib.hid hd
      clear hd hx hy
      by_cases h1 : x < y
      · go_wp2
        go_quiet (fail)
        go_wp2
        go_ret
        exact ⟨ret_int (by rw [HE.out, HD.out, cmpI_lt h1]; rfl), below_drewN HB.out _⟩
      · by_cases h2 : y < x
        · go_wp2
          go_quiet (fail)
          go_wp2
          go_quiet (fail)
          go_wp2
          go_ret
          exact ⟨ret_int (by rw [HE.out, HD.out, cmpI_gt h2]; rfl), below_drewN (below_drewN HB.out _) _⟩
        · go_wp2
          go_quiet (fail)
          go_wp2
          go_quiet (fail)
          go_wp2
          go_roundw
          case rel => exact ⟨k + 1, by omega, by go_num, by rw [HE.out, HD.out, if_pos (cmpI_eq (by omega) (by omega))], below_drewN HB.out _, HA.out, HB2.out, HX.out, HY.out⟩
          case measure => simp [intOf]; omega
    · obtain rfl : k = 5 := by omega
      obtain ⟨a0, a1, a2, a3, a4, a5, a6, a7, a8, a9, a10⟩ := HA.out
      obtain ⟨b0, b1, b2, b3, b4, b5, b6, b7, b8, b9, b10⟩ := HB2.out
      go_wp2_with (go_at_call 45; refine (numbers_any _ _ _).mono ?_; rintro e w' ⟨rfl, rfl⟩)
      go_ret
      exact ⟨ret_int (by rw [HE.out]; simp [DS.five, lexL]), HB.out⟩
end Go.Proofs.Ythehhcaohhlccaa
