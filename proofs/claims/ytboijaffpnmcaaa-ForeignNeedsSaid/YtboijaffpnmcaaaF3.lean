/- The latest message of a record; where a record lies; which record is a master's. -/
import Derived.WalkKit
import Derived.LoopTactic
import Derived.Outline
import Derived.Lib.Hide
import Derived.Test.YtboijaffpnmcaaaF2
import Derived.Test.YtboijaffpnmcaaaCalm
namespace Go.Proofs.Ytboijaffpnmcaaa
open Go.RowKit
set_option linter.unusedVariables false
set_option linter.unusedSimpArgs false

theorem latest_any (r : Rc) {hv : Value} {base : Nat} {w : World} (hown : w.ownsRow base 3 1 hv r.heard.length (intsV r.heard)) (hr : r.heard ≠ []) : Calls Try.prog 27 #[r.v hv] w fun e w' => e = .returned (.int .i64 (r.heard.getLastD 0)) ∧ Below w.heap.size w w' := by
  obtain ⟨l, hl⟩ : ∃ l, r.heard = l := ⟨_, rfl⟩
  rw [hl] at hown hr ⊢
  rcases owns_ints hown with ⟨_, e⟩ | ⟨g, cap, rfl, hb, hg, hlc, hcm, hcells⟩
  · exact absurd e hr
  unfold maxLen at hcm
  have hn : 0 < l.length := List.length_pos_iff.2 hr
  obtain ⟨v, hv⟩ : ∃ v, l.getD (l.length - 1) 0 = v := ⟨_, rfl⟩
  have hc := hcells (l.length - 1) (by omega)
  rw [hv] at hc
  have e : l.getLastD 0 = v := by rw [← hv]; rw [getD_nth _ _ (by omega), List.getLastD_eq_getLast?, List.getLast?_eq_getElem?, List.getElem?_eq_getElem (by omega)]; rfl
  rw [e]
  clear hown hr hcells hv e
  obtain ⟨n, hn'⟩ : ∃ n, l.length = n + 1 := ⟨l.length - 1, by omega⟩
  rw [hn'] at hc hlc ⊢
  simp only [Nat.add_sub_cancel] at hc
  clear hn hn' hl
  go_enter Try.func27, Try.ntmps27
  go_wp2_with fail
  go_ret
  exact ⟨rfl, (Below.refl _ _).alloc (Nat.le_refl _) _⟩
theorem rec_len (r : Rc) (h : Value) : (r.cells h).length = 14 := rfl
theorem rows_at : ∀ (l : List Rc) (hs : List Value) (i j : Nat) (r : Rc) (h : Value), l[i]? = some r → hs[i]? = some h → j < 14 → (rowsF l hs)[i * 14 + j]? = (r.cells h)[j]?
  | [], _, i, _, _, _, h1, _, _ => by simp at h1
  | _ :: _, [], i, _, _, _, _, h2, _ => by simp at h2
  | a :: l, b :: hs, 0, j, r, h, h1, h2, hj => by
    simp at h1 h2
    subst h1 h2
    rw [rowsF, Nat.zero_mul, Nat.zero_add, List.getElem?_append_left (by rw [rec_len]; exact hj)]
  | a :: l, b :: hs, i + 1, j, r, h, h1, h2, hj => by
    rw [rowsF, List.getElem?_append_right (by rw [rec_len]; omega), rec_len, show (i + 1) * 14 + j - 14 = i * 14 + j from by omega]
    exact rows_at l hs i j r h (by simpa using h1) (by simpa using h2) hj
/-- Where a record lies. -/
theorem owns_rec {w : World} {base n : Nat} {v : Value} {l : List Rc} {hs : List Value} (h : w.ownsRow base 57 14 v n (rowsF l hs)) (hn : n = l.length) (hlen : hs.length = l.length) :
    (v = .slice none 0 0 ∧ l = []) ∨ ∃ g cap, v = .slice (some ⟨g, 0, none⟩) n cap ∧ base ≤ g ∧ g < w.heap.size ∧ n ≤ cap ∧ cap ≤ maxLen ∧ ∀ i r x, l[i]? = some r → hs[i]? = some x → w.rangeAt g (i * 14) (r.cells x) := by
  rcases h.2 with ⟨e, hz⟩ | ⟨g, cap, cur, e, hb, hg, hl, hm, hs', ht⟩
  · exact .inl ⟨e, List.length_eq_zero_iff.1 (by omega)⟩
  · refine .inr ⟨g, cap, e, hb, (Array.getElem?_eq_some_iff.1 hg).1, hl, hm, fun i r x h1 h2 j v hv => ?_⟩
    have hj : j < 14 := (List.getElem?_eq_some_iff.1 hv).1
    have hi : i < n := by rw [hn]; exact (List.getElem?_eq_some_iff.1 h1).1
    rw [cell_of_row w g _ _ _ (0, 0) hg]
    have k : (cur.toList.take (n * 14))[i * 14 + j]? = (rowsF l hs)[i * 14 + j]? := by rw [ht]
    rw [List.getElem?_take, if_pos (by omega), rows_at l hs i j r x h1 h2 hj, hv] at k
    rw [← Array.getElem?_toList, k]
theorem infoRec : (Try.prog.info? 57).map (·.size) = some 14 := by kernel_rfl
theorem load_rec {ops : Array Oper} {rest : List Oper} {op : Oper} {a : Act} {w : World} {Q : Exit → Act → World → Prop} {g o : Nat} {r : Rc} {h : Value} (hr : w.rangeAt g o (r.cells h)) (x : Operand) (hw : Region.wanted op (yielded ops a.tmps) = true)
    (ho : op.op = .load 57 x) (hx : a.eval x = .pointer (some ⟨g, o, none⟩)) (k : wpList Try.prog ops Q rest (a.put op.dst (r.v h)) w) : wpList Try.prog ops Q (op :: rest) a w :=
  BigFrame.wpList_want hw fun K hK => wp_load_mid _ x ho g o hx (r.cells h) _ hr Try.underlying57 rfl infoRec (hK _ _ k)
/-- Is a record that of the port (c, n)? -/
def isB (c n : Int) (r : Rc) : Bool := r.clock == c && r.num == n
theorem from_any (r : Rc) (hv : Value) (q : Nat) (c n : Int) (w : World) (h0 : w.cell? ⟨q, 0, none⟩ = some (.int .u64 c)) (h1 : w.cell? ⟨q, 1, none⟩ = some (.int .i64 n)) :
    Calls Try.prog 19 #[r.v hv, .pointer (some ⟨q, 0, none⟩)] w fun e w' => e = .returned (.bool (isB c n r)) ∧ Below w.heap.size w w' := by
  have hq : q < w.heap.size := World.block_lt_of_cell? w _ h0
  obtain ⟨z, hz⟩ : ∃ z, isB c n r = z := ⟨_, rfl⟩
  rw [hz]
  have HZ := Lib.hid hz
  clear hz
  cases e0 : (r.clock == c)
  all_goals cases e1 : (r.num == n)
  all_goals have HE := Lib.hid (show z = _ from by rw [← HZ.out, isB, e0, e1])
  all_goals go_enter Try.func19, Try.ntmps19
  all_goals go_wp2_with fail
  all_goals go_ret
  all_goals exact ⟨by rw [HE.out]; simp_all, (Below.refl _ _).alloc (Nat.le_refl _) _⟩
end Go.Proofs.Ytboijaffpnmcaaa
