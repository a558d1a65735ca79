/- The laws' own words: two lists that are the same; the records after a list of messages. -/
import Derived.WalkKit
import Derived.LoopTactic
import Derived.Outline
import Derived.Lib.Hide
import Derived.Deep.QuietTactic
import Derived.BigQuiet
import Derived.Test.YtboijaffpnmcaaaArg35
import Derived.Test.YtboijaffpnmcaaaEq
namespace Go.Proofs.Ytboijaffpnmcaaa
open Go.RowKit
set_option linter.unusedVariables false
set_option linter.unusedSimpArgs false

def runS (f : Fr) (l : List Op35) : Fr := l.foldl (fun f o => hearS f o.set o.at_) f
theorem runS_next {f : Fr} {l : List Op35} {k : Nat} {o : Op35} (h : l[k]? = some o) : runS f (l.take (k + 1)) = hearS (runS f (l.take k)) o.set o.at_ := by
  unfold runS
  rw [List.take_add_one, h]
  simp
theorem hearS_last (f : Fr) (d : DS) (t : Int) : (hearS f d t).last = if hearE f d t = 0 then t else f.last := by
  unfold hearS
  split <;> rfl
theorem runS_window (l : List Op35) : ∀ (f : Fr), (runS f l).window = f.window ∧ (runS f l).need = f.need := by
  induction l with
  | nil => exact fun f => ⟨rfl, rfl⟩
  | cons o l ih =>
    intro f
    have := ih (hearS f o.set o.at_)
    rw [show runS f (o :: l) = runS (hearS f o.set o.at_) l from rfl, this.1, this.2]
    unfold hearS
    split <;> exact ⟨rfl, rfl⟩
/-- When a message is refused. -/
theorem hearE_zero (f : Fr) (d : DS) (t : Int) (h0 : 0 ≤ f.last) : (hearE f d t != 0) = (decide (t < f.last) || (decide (1125899906842624 < t) || (d.sender == d.recv || decide (32 ≤ d.steps)))) := by
  unfold hearE
  by_cases h1 : t < 0 ∨ 1125899906842624 < t
  · rw [if_pos h1]
    rcases h1 with h1 | h1
    · have : decide (t < f.last) = true := by simp; omega
      rw [this]; rfl
    · have : decide (1125899906842624 < t) = true := by simp; omega
      rw [this]; simp
  · rw [if_neg h1]
    have e2 : decide (1125899906842624 < t) = false := by simp; omega
    rw [e2]
    by_cases h3 : t < f.last
    · rw [if_pos h3]; simp [h3]
    · rw [if_neg h3]
      by_cases h4 : d.sender = d.recv
      · rw [if_pos h4]; simp [h4]
      · rw [if_neg h4]
        by_cases h5 : 32 ≤ d.steps
        · rw [if_pos h5]; simp [h5]
        · rw [if_neg h5]; simp [h3, h4, h5]
set_option maxHeartbeats 2000000 in
theorem same_any {w : World} {v u : Value} {l : List DS} {base base' : Nat} (h1 : w.ownsRow base 30 11 v l.length (l.flatMap DS.cells)) (h2 : w.ownsRow base' 30 11 u l.length (l.flatMap DS.cells)) (hbig : l.length ≤ 1000) :
    Calls Try.prog 17 #[v, u] w fun e w' => e = .returned (.bool true) ∧ Below w.heap.size w w' := by
  rcases owns_ds h1 rfl with ⟨rfl, rfl⟩ | ⟨g, cap, rfl, hbg, hg, hle, hcm, hr⟩
  · rcases owns_ds h2 rfl with ⟨rfl, _⟩ | ⟨g', cap', rfl, _⟩
    all_goals clear h1 h2
    all_goals go_enter Try.func17, Try.ntmps17
    all_goals go_wp2_with fail
    all_goals go_loop [5] (fun i => i = .int .i64 0) (fun _ => 0)
    all_goals first
      | (case atStart => rfl)
      | (case round =>
          subst hrel
          go_wp2_with fail
          go_ret
          exact ⟨rfl, Below.refl _ _⟩)
  · rcases owns_ds h2 rfl with ⟨rfl, e⟩ | ⟨g', cap', rfl, hbg', hg', hle', hcm', hr'⟩
    · subst e
      clear h1 h2
      go_enter Try.func17, Try.ntmps17
      go_wp2_with fail
      go_loop [5] (fun i => i = .int .i64 0) (fun _ => 0)
      case atStart => rfl
      case round =>
        subst hrel
        go_wp2_with fail
        go_ret
        exact ⟨rfl, Below.refl _ _⟩
    · obtain ⟨n, hn⟩ : ∃ n, l.length = n := ⟨_, rfl⟩
      rw [hn] at hbig hle hle' ⊢
      unfold maxLen at hcm hcm'
      have HN := Lib.hid hn
      have HR := Lib.hid hr
      have HR' := Lib.hid hr'
      clear h1 h2 hr hr' hn
      go_enter Try.func17, Try.ntmps17
      go_wp2_with fail
      go_loopw [5] (fun i wr => ∃ k : Nat, k ≤ n ∧ i = .int .i64 k ∧ Below w.heap.size w wr) (fun i _ => n - (intOf i).toNat)
      case atStart => exact ⟨0, Nat.zero_le _, rfl, Below.refl _ _⟩
      case round =>
        obtain ⟨k, hk, rfl, hb⟩ := hrel
        have HB := Lib.hid hb
        by_cases hlt : k < n
        · have hk0 : (0 : Int) ≤ (k : Int) := by omega
          have hk1 : (k : Int) < (n : Int) := by omega
          obtain ⟨d, hd⟩ : ∃ d, l[k]? = some d := ⟨_, List.getElem?_eq_getElem (by rw [HN.out]; exact hlt)⟩
          have ha := rangeAt_below (HR.out k d hd) hb
          have hc := rangeAt_below (HR'.out k d hd) hb
          have a0 : wr.cell? ⟨g, k * 11, none⟩ = some (.int .i64 d.p1) := ha 0 _ rfl
          have a1 : wr.cell? ⟨g, k * 11 + 1, none⟩ = some (.int .i64 d.cls) := ha 1 _ rfl
          have a2 : wr.cell? ⟨g, k * 11 + 2, none⟩ = some (.int .i64 d.acc) := ha 2 _ rfl
          have a3 : wr.cell? ⟨g, k * 11 + 3, none⟩ = some (.int .i64 d.var) := ha 3 _ rfl
          have a4 : wr.cell? ⟨g, k * 11 + 4, none⟩ = some (.int .i64 d.p2) := ha 4 _ rfl
          have a5 : wr.cell? ⟨g, k * 11 + 5, none⟩ = some (.int .u64 d.gm) := ha 5 _ rfl
          have a6 : wr.cell? ⟨g, k * 11 + 6, none⟩ = some (.int .i64 d.steps) := ha 6 _ rfl
          have a7 : wr.cell? ⟨g, k * 11 + 7, none⟩ = some (.int .u64 d.sender) := ha 7 _ rfl
          have a8 : wr.cell? ⟨g, k * 11 + 8, none⟩ = some (.int .i64 d.sport) := ha 8 _ rfl
          have a9 : wr.cell? ⟨g, k * 11 + 9, none⟩ = some (.int .u64 d.recv) := ha 9 _ rfl
          have a10 : wr.cell? ⟨g, k * 11 + 10, none⟩ = some (.int .i64 d.rport) := ha 10 _ rfl
          have b0 : wr.cell? ⟨g', k * 11, none⟩ = some (.int .i64 d.p1) := hc 0 _ rfl
          have b1 : wr.cell? ⟨g', k * 11 + 1, none⟩ = some (.int .i64 d.cls) := hc 1 _ rfl
          have b2 : wr.cell? ⟨g', k * 11 + 2, none⟩ = some (.int .i64 d.acc) := hc 2 _ rfl
          have b3 : wr.cell? ⟨g', k * 11 + 3, none⟩ = some (.int .i64 d.var) := hc 3 _ rfl
          have b4 : wr.cell? ⟨g', k * 11 + 4, none⟩ = some (.int .i64 d.p2) := hc 4 _ rfl
          have b5 : wr.cell? ⟨g', k * 11 + 5, none⟩ = some (.int .u64 d.gm) := hc 5 _ rfl
          have b6 : wr.cell? ⟨g', k * 11 + 6, none⟩ = some (.int .i64 d.steps) := hc 6 _ rfl
          have b7 : wr.cell? ⟨g', k * 11 + 7, none⟩ = some (.int .u64 d.sender) := hc 7 _ rfl
          have b8 : wr.cell? ⟨g', k * 11 + 8, none⟩ = some (.int .i64 d.sport) := hc 8 _ rfl
          have b9 : wr.cell? ⟨g', k * 11 + 9, none⟩ = some (.int .u64 d.recv) := hc 9 _ rfl
          have b10 : wr.cell? ⟨g', k * 11 + 10, none⟩ = some (.int .i64 d.rport) := hc 10 _ rfl
          have he := neq_ds d d
          have hdd : decide (d = d) = true := by simp
          clear hd ha hc hb
          go_wp2_with fail
          go_quiet (fail)
          clear a0 a1 a2 a3 a4 a5 a6 a7 a8 a9 a10 b0 b1 b2 b3 b4 b5 b6 b7 b8 b9 b10 he
          go_wp2_with fail
          go_roundw
          case rel => exact ⟨k + 1, by omega, by go_num, below_drewN HB.out _⟩
          case measure => simp [intOf]; omega
        · obtain rfl : k = n := by omega
          clear hb
          go_wp2_with fail
          go_ret
          exact ⟨rfl, HB.out⟩
theorem ownsRow_stay {B : Nat} {S : List Nat} {w w' : World} {base size n : Nat} {e : TypeId} {v : Value} {xs : List Value} (h : w.ownsRow base e size v n xs) (k : Stay B S w w') (hS : ∀ q ∈ v.ownBlock.toList, q ∈ S) : w'.ownsRow base e size v n xs := by
  refine ⟨h.1, ?_⟩
  rcases h.2 with hn | ⟨g, cap, cur, rfl, hb, hg, rest⟩
  · exact .inl hn
  · exact .inr ⟨g, cap, cur, rfl, hb, (k.same g (hS g (by simp [Value.ownBlock]))).trans hg, rest⟩
theorem aw_qualS {w : World} {B : Nat} {S : List Nat} {f : Fr} (h : AwE w B S f) (t : Int) (ht : t ≤ 9223372036854775807) {l : List DS} (hl : qualF f t = l) : Calls Try.prog 12 #[.pointer (some ⟨B, 0, none⟩), .int .i64 t] w fun e w' => ∃ A c, e = .returned (.slice A l.length c) ∧ AwE w' B ((Value.slice A l.length c).ownBlock.toList ++ S) f ∧ Stay B S w w' ∧ Below w.heap.size w w' ∧ w'.ownsRow w.heap.size 30 11 (.slice A l.length c) l.length (l.flatMap DS.cells) := by
  refine (aw_qual h t ht).mono ?_
  rintro e w' ⟨q, rfl, hb, ho⟩
  rw [hl] at ho
  rcases owns_ds ho rfl with ⟨rfl, rfl⟩ | ⟨g, cap, rfl, hbg, hg, _⟩
  · exact ⟨none, 0, rfl, by simpa [Value.ownBlock] using h.below hb, h.stay hb, hb, ho⟩
  · exact ⟨_, _, rfl, by simpa [Value.ownBlock] using h.add hb hbg hg, h.stay hb, hb, ho⟩
theorem qual_five {w : World} {B : Nat} {S : List Nat} {f : Fr} (h : AwE w B S f) (t : Int) : (qualF f t).length ≤ 1000 := by
  have := qual_len f t
  have := h.inv.five
  omega
theorem last_most {w : World} {B : Nat} {S : List Nat} {f : Fr} (h : AwE w B S f) : f.last ≤ 9223372036854775807 := by
  have := h.inv.ok.l1
  omega
end Go.Proofs.Ytboijaffpnmcaaa
