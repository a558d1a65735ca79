/- How many messages of a record are recent; its latest. -/
import Derived.WalkKit
import Derived.LoopTactic
import Derived.Outline
import Derived.Lib.Hide
import Derived.Test.YtboijaffpnmcaaaF1
namespace Go.Proofs.Ytboijaffpnmcaaa
open Go.RowKit
set_option linter.unusedVariables false
set_option linter.unusedSimpArgs false

theorem getD_nth (l : List Int) (j : Nat) (h : j < l.length) : l.getD j 0 = l[j] := by simp [List.getD_eq_getElem?_getD, h]
/-- Where a slice of times lies. -/
theorem owns_ints {w : World} {base : Nat} {v : Value} {l : List Int} (h : w.ownsRow base 3 1 v l.length (intsV l)) :
    (v = .slice none 0 0 ∧ l = []) ∨ ∃ g cap, v = .slice (some ⟨g, 0, none⟩) l.length cap ∧ base ≤ g ∧ g < w.heap.size ∧ l.length ≤ cap ∧ cap ≤ maxLen ∧ ∀ j, j < l.length → w.cell? ⟨g, j, none⟩ = some (.int .i64 (l.getD j 0)) := by
  rcases h.2 with ⟨e, hn⟩ | ⟨g, cap, cur, e, hb, hg, hl, hm, hs, ht⟩
  · exact .inl ⟨e, List.length_eq_zero_iff.1 hn⟩
  · refine .inr ⟨g, cap, e, hb, (Array.getElem?_eq_some_iff.1 hg).1, hl, hm, fun j hj => ?_⟩
    rw [cell_of_row w g j _ _ (0, 0) hg]
    have k : (cur.toList.take (l.length * 1))[j]? = (intsV l)[j]? := by rw [ht]
    rw [List.getElem?_take, if_pos (by omega)] at k
    rw [← Array.getElem?_toList, k, intsV, List.getElem?_map, List.getElem?_eq_getElem hj, getD_nth l j hj]
    rfl
/-- How many of the messages are recent. -/
def recentF (window last at_ : Int) (l : List Int) : Nat := l.countP fun t => decide ((if at_ < last then last else at_) - window < t)
theorem countP_take (l : List Int) (p : Int → Bool) (k : Nat) (hk : k < l.length) : (l.take (k + 1)).countP p = (l.take k).countP p + if p (l.getD k 0) = true then 1 else 0 := by
  rw [List.take_add_one, List.countP_append, List.getElem?_eq_getElem hk, getD_nth l k hk]
  simp [List.countP_cons]
set_option maxHeartbeats 2000000 in
theorem recent_any {b : Nat} {window last at_ : Int} {w : World} (c0 : w.cell? ⟨b, 0, none⟩ = some (.int .i64 window)) (c2 : w.cell? ⟨b, 2, none⟩ = some (.int .i64 last)) (r : Rc) {hv : Value} {base : Nat} (hown : w.ownsRow base 3 1 hv r.heard.length (intsV r.heard)) (hr : r.heard ≠ [])
    (hw0 : 1 ≤ window) (hw1 : window ≤ 1125899906842624) (hl0 : 0 ≤ last) (hl1 : last ≤ 1125899906842624) (ha1 : at_ ≤ 9223372036854775807) :
    Calls Try.prog 22 #[.pointer (some ⟨b, 0, none⟩), r.v hv, .int .i64 at_] w fun e w' => e = .returned (.int .i64 (recentF window last at_ r.heard)) ∧ Below w.heap.size w w' := by
  obtain ⟨m, hm⟩ : ∃ m, (if at_ < last then last else at_) = m := ⟨_, rfl⟩
  have hm0 : 0 ≤ m := by rw [← hm]; split <;> omega
  have hm1 : m ≤ 9223372036854775807 := by rw [← hm]; split <;> omega
  obtain ⟨l, hl⟩ : ∃ l, r.heard = l := ⟨_, rfl⟩
  unfold recentF
  rw [hm]
  rw [hl] at hown hr ⊢
  rcases owns_ints hown with ⟨_, e⟩ | ⟨g, cap, rfl, hb, hg, hlc, hcm, hcells⟩
  · exact absurd e hr
  unfold maxLen at hcm
  have HM := Lib.hid hm
  obtain ⟨p, hp⟩ : ∃ p : Int → Bool, (fun t => decide (m - window < t)) = p := ⟨_, rfl⟩
  rw [hp]
  have HPF := Lib.hid (show ∀ v, p v = decide (m - window < v) from fun v => by rw [← hp])
  have HC := Lib.hid hcells
  have hbl : b < w.heap.size := World.block_lt_of_cell? w _ c0
  clear hown hr hm hcells hp
  by_cases hlast : at_ < last
  all_goals
    have hme := HM.out
    first | rw [if_pos hlast] at hme | rw [if_neg hlast] at hme
    subst hme
    clear HM
    go_enter Try.func22, Try.ntmps22
    go_wp2_with fail
    generalize hW : w.alloc _ = W
    have hb0 : Below w.heap.size w W := by rw [← hW]; exact (Below.refl _ _).alloc (Nat.le_refl _) _
    have d0 : W.cell? ⟨b, 0, none⟩ = some (.int .i64 window) := cell_below hb0 c0
    have HC2 := Lib.hid (show ∀ j, j < l.length → W.cell? ⟨g, j, none⟩ = some (.int .i64 (l.getD j 0)) from fun j hj => cell_below hb0 (HC.out j hj))
    have HB := Lib.hid hb0
    clear hW hb0 c0 c2 HC
    go_loop [7, 19] (fun s i => ∃ (k : Nat), k ≤ l.length ∧ i = .int .i64 k ∧ s = .int .i64 ((l.take k).countP p)) (fun _ i => l.length - (intOf i).toNat)
    case atStart => exact ⟨0, Nat.zero_le _, rfl, by simp⟩
    case round =>
      obtain ⟨k, hk, rfl, rfl⟩ := hrel
      by_cases hlt : k < l.length
      · have hk0 : (0 : Int) ≤ (k : Int) := by omega
        have hk1 : (k : Int) < (l.length : Int) := by omega
        have hcnt : (l.take k).countP p ≤ k := Nat.le_trans List.countP_le_length (by simp; omega)
        obtain ⟨v, hv⟩ : ∃ v, l.getD k 0 = v := ⟨_, rfl⟩
        have hc := HC2.out k hlt
        rw [hv] at hc
        have hstep := countP_take l p k hlt
        rw [hv] at hstep
        obtain ⟨n, hn⟩ : ∃ n, (l.take k).countP p = n := ⟨_, rfl⟩
        rw [hn] at hstep hcnt ⊢
        have HS := Lib.hid hstep
        have hpv := HPF.out v
        clear hv hstep hn
        cases hd : p v
        · rw [hd] at hpv
          have hdd := hpv.symm
          have HD := Lib.hid hd
          clear hpv hd
          go_wp2_with fail
          go_round
          case rel => exact ⟨k + 1, by omega, by go_num, by rw [HS.out, HD.out]; simp⟩
          case measure => simp [intOf]; omega
        · rw [hd] at hpv
          have hdd := hpv.symm
          have HD := Lib.hid hd
          clear hpv hd
          go_wp2_with fail
          go_round
          case rel => exact ⟨k + 1, by omega, by go_num, by rw [HS.out, HD.out]; go_num⟩
          case measure => simp [intOf]; omega
      · obtain rfl : k = l.length := by omega
        go_wp2_with fail
        go_ret
        exact ⟨rfl, HB.out⟩
end Go.Proofs.Ytboijaffpnmcaaa
