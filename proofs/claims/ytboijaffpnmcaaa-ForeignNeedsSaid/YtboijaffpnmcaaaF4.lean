/- Which record is a master's: slices.IndexFunc with the closure of Hear. -/
import Derived.WalkKit
import Derived.LoopTactic
import Derived.Outline
import Derived.Lib.Hide
import Derived.Test.YtboijaffpnmcaaaF3
namespace Go.Proofs.Ytboijaffpnmcaaa
open Go.RowKit
set_option linter.unusedVariables false
set_option linter.unusedSimpArgs false

/-- The place of the first record that p takes, or -1. -/
def idxF (p : Rc → Bool) (l : List Rc) : Int := match l.findIdx? p with
  | some i => i
  | none => -1
theorem idxF_hit {p : Rc → Bool} {l : List Rc} {k : Nat} {r : Rc} (hk : l[k]? = some r) (hp : p r = true) (hn : ∀ (j : Nat) (q : Rc), j < k → l[j]? = some q → p q = false) : idxF p l = k := by
  obtain ⟨h, e⟩ := List.getElem?_eq_some_iff.1 hk
  have : l.findIdx? p = some k := List.findIdx?_eq_some_iff_getElem.2 ⟨h, by rw [e]; exact hp, fun j hj => by
    have := hn j l[j] hj (List.getElem?_eq_getElem (by omega))
    simp [this]⟩
  simp [idxF, this]
theorem idxF_miss {p : Rc → Bool} {l : List Rc} (hn : ∀ (j : Nat) (q : Rc), l[j]? = some q → p q = false) : idxF p l = -1 := by
  have : l.findIdx? p = none := List.findIdx?_eq_none_iff.2 fun q hq => by
    obtain ⟨j, hj, rfl⟩ := List.getElem_of_mem hq
    exact hn j _ (List.getElem?_eq_getElem hj)
  simp [idxF, this]
set_option maxHeartbeats 2000000 in
/-- slices.IndexFunc over records, at a function value F that answers p of each record in every later world. -/
theorem index_any {w : World} {v : Value} {l : List Rc} {hs : List Value} {base : Nat} (hown : w.ownsRow base 57 14 v l.length (rowsF l hs)) (hlen : hs.length = l.length) (hbig : l.length ≤ 1000) (p : Rc → Bool) (F : FuncId) (caps : Array Value) (eg : ∀ args w, (callFunc F args).run Try.prog w = .ok (.enter F args) w)
    (hp : ∀ (i : Nat) (r : Rc) (h : Value) (w' : World), l[i]? = some r → hs[i]? = some h → Below w.heap.size w w' → Calls Try.prog F (#[r.v h] ++ caps) w' fun e w'' => e = .returned (.bool (p r)) ∧ Below w'.heap.size w' w'') :
    Calls Try.prog 18 #[v, .func (.func F) #[] caps] w fun e w' => e = .returned (.int .i64 (idxF p l)) ∧ Below w.heap.size w w' := by
  have HP := Lib.hid hp
  have HOWN := Lib.hid (fun (w' : World) (k : Below w.heap.size w w') => owns_rec (ownsRow_below hown k) rfl hlen)
  have hform := owns_rec hown rfl hlen
  obtain ⟨n, hn⟩ : ∃ n, l.length = n := ⟨_, rfl⟩
  have HLEN := Lib.hid hlen
  clear hown hp hlen
  rcases hform with ⟨rfl, rfl⟩ | ⟨g, cap, rfl, hb, hg, hle, hcm, _⟩
  · have e : idxF p [] = -1 := rfl
    rw [e]
    clear HP HOWN e
    go_enter Try.func18, Try.ntmps18
    go_wp2_with fail
    go_loop [8] (fun i => i = .int .i64 0) (fun _ => 0)
    case atStart => rfl
    case round =>
      subst hrel
      go_wp2_with fail
      go_ret
      exact ⟨rfl, Below.refl _ _⟩
  · unfold maxLen at hcm
    rw [hn] at hle hbig ⊢
    obtain ⟨z, hz⟩ : ∃ z, idxF p l = z := ⟨_, rfl⟩
    rw [hz]
    have HZ := Lib.hid hz
    have HN := Lib.hid hn
    clear hz hn
    go_enter Try.func18, Try.ntmps18
    go_wp2_with fail
    go_loopw [8] (fun i wr => ∃ k : Nat, k ≤ n ∧ i = .int .i64 k ∧ Below w.heap.size w wr ∧ ∀ (j : Nat) (q : Rc), j < k → l[j]? = some q → p q = false) (fun i _ => n - (intOf i).toNat)
    case atStart => exact ⟨0, Nat.zero_le _, rfl, Below.refl _ _, fun j q hj => by omega⟩
    case round =>
      obtain ⟨k, hk, rfl, hbw, hno⟩ := hrel
      have HB := Lib.hid hbw
      have HNO := Lib.hid hno
      clear hbw hno
      by_cases hlt : k < n
      · have hk0 : (0 : Int) ≤ (k : Int) := by omega
        have hk1 : (k : Int) < (n : Int) := by omega
        obtain ⟨r, hr⟩ : ∃ r, l[k]? = some r := ⟨_, List.getElem?_eq_getElem (by rw [HN.out]; exact hlt)⟩
        obtain ⟨x, hx⟩ : ∃ x, hs[k]? = some x := ⟨_, List.getElem?_eq_getElem (by rw [HLEN.out, HN.out]; exact hlt)⟩
        have HRG := Lib.hid (show World.rangeAt _ g (k * 14) (r.cells x) from by
          rcases HOWN.out _ HB.out with ⟨e, _⟩ | ⟨g', cap', e, _, _, _, _, hrg⟩
          · exact absurd e (by simp)
          · have hgg : g' = g := by injection e with e1 _ _; injection e1 with e1; injection e1 with e1 _ _; exact e1.symm
            rw [← hgg]
            exact hrg k r x hr hx)
        have HCALL := Lib.hid (HP.out k r x _ hr hx HB.out)
        have HR := Lib.hid hr
        clear hr hx
        go_wp2_with (refine load_rec HRG.out _ (by rfl) rfl rfl ?_)
        refine HCALL.out.mono ?_
        rintro e w1 ⟨rfl, hb1⟩
        have HB1 := Lib.hid (below_then HB.out hb1)
        clear hb1 HRG HCALL
        cases hp1 : p r
        · go_wp2_with fail
          go_roundw
          case rel => exact ⟨k + 1, by omega, by go_num, HB1.out, fun j q hj hq => by
            by_cases e : j = k
            · subst e
              have := HR.out
              rw [this] at hq
              injection hq with hq
              rw [← hq]; exact hp1
            · exact HNO.out j q (by omega) hq⟩
          case measure => simp [intOf]; omega
        · have hz : z = k := by rw [← HZ.out]; exact idxF_hit HR.out hp1 HNO.out
          subst hz
          go_wp2_with fail
          go_ret
          exact ⟨rfl, HB1.out⟩
      · obtain rfl : k = n := by omega
        have hz : z = -1 := by
          rw [← HZ.out]
          exact idxF_miss fun j q hq => HNO.out j q (by rw [← HN.out]; exact (List.getElem?_eq_some_iff.1 hq).1) hq
        subst hz
        go_wp2_with fail
        go_ret
        exact ⟨rfl, HB.out⟩
end Go.Proofs.Ytboijaffpnmcaaa
