/- ptpmsg: the sizes of messages. -/
import Derived.WalkKit
import Derived.LoopTactic
import Derived.Outline
import Derived.Lib.Hide
import Derived.Maps.Own
import Derived.Maps.OwnOps
import Derived.Test.YtkjnhabflkaopaaProg
namespace Go.Proofs.Ytkjnhabflkaopaa
open Go.RowKit Go.Maps
set_option linter.unusedVariables false
set_option linter.unusedSimpArgs false

/-- An entry of a map's literal. -/
theorem wpList_insert_own {H : Type} {P : Program} (w : World) {ops : Array Oper} {rest : List Oper} {o : Oper} {a : Act} {Q : Exit → Act → World → Prop}
    (hg : o.guard = none) (m x v : Operand) (t : TypeId) (hop : o.op = Op.insert t m x v)
    (k e : TypeId) (K : Keyed P k) (ht : P.underlying t = some (.map k e)) (R : Value → Option (DataW H × List MemPlace)) (b n : Nat) (D : DataW H)
    (hm : a.eval m = .map (some b)) (hown : w.ownsMap P k R b n D) (hn : n < maxLen) (key val : Value) (kl : Lit) (hx : a.eval x = key) (hv : a.eval v = val) (hkey : keyOf P k key = some kl)
    (d : DataW H) (ps : List MemPlace) (hval : R val = some (d, ps))
    (hK : ∀ w', w'.ownsMap P k R b (n + 1) (D.put kl d) → w.grownBy w' (some b) → wpList P ops Q rest (a.put o.dst undef) w') :
    wpList P ops Q (o :: rest) a w := by
  refine wpList_plain hg fun K' hK' => ?_
  obtain ⟨w', hrun, r1, r2⟩ := hown.update K ht hn hkey hval
  unfold Oper.wp
  simp [execOp, hop, hm, hx, hv, hrun, Result.andThen]
  exact hK' _ _ (hK w' r1 r2)
theorem kint : Keyed Try.prog 3 := int_keyed Try.underlying3
theorem zeroInt (w : World) : (zeroValue 3).run Try.prog w = .ok (.int .i64 0) w := by kernel_rfl
def put8 (D : DataW Unit) (k v : Int) : DataW Unit := D.put (.int .i64 k) (.lit (.int .i64 v))
def sizesD : DataW Unit := put8 (put8 (put8 (put8 (put8 (put8 (put8 (put8 (.map []) 0 44) 1 44) 2 54) 3 54) 8 44) 9 54) 10 54) 11 64
def sizeF (k : Int) : Int := if k = 0 then 44 else if k = 1 then 44 else if k = 2 then 54 else if k = 3 then 54 else if k = 8 then 44 else if k = 9 then 54 else if k = 10 then 54 else if k = 11 then 64 else 0
set_option maxRecDepth 100000 in
theorem sizes_any (w : World) : Calls Try.prog 65 #[] w fun e w' => e = .returned (.map (some w.heap.size)) ∧ Below w.heap.size w w' ∧ w'.ownsMap Try.prog 3 (plainElem Try.prog 3) w.heap.size 8 sizesD := by
  have hmm := @run_makeMap Try.prog
  have hown := World.ownsMap_made w Try.prog 3 (plainElem (H := Unit) Try.prog 3)
  have hb := (Below.refl w.heap.size w).alloc (Nat.le_refl _) (.map #[] 0)
  go_enter Try.func65, Try.ntmps65
  go_wp2_with (refine wpList_insert_own _ rfl _ _ _ 98 rfl 3 3 kint Try.underlying98 _ w.heap.size _ _ rfl hown (by decide) _ _ _ rfl rfl (keyOf_int_mk Try.underlying3 (by decide)) _ [] (plainElem_int Try.underlying3 (by decide)) ?_)
  intro w1 o1 g1
  have b1 := hb.grown g1 hb.size (fun j hj => by cases hj; exact Nat.le_refl _)
  clear hown hb g1
  go_wp2_with (refine wpList_insert_own _ rfl _ _ _ 98 rfl 3 3 kint Try.underlying98 _ w.heap.size _ _ rfl o1 (by decide) _ _ _ rfl rfl (keyOf_int_mk Try.underlying3 (by decide)) _ [] (plainElem_int Try.underlying3 (by decide)) ?_)
  intro w2 o2 g2
  have b2 := b1.grown g2 b1.size (fun j hj => by cases hj; exact Nat.le_refl _)
  clear o1 b1 g2
  go_wp2_with (refine wpList_insert_own _ rfl _ _ _ 98 rfl 3 3 kint Try.underlying98 _ w.heap.size _ _ rfl o2 (by decide) _ _ _ rfl rfl (keyOf_int_mk Try.underlying3 (by decide)) _ [] (plainElem_int Try.underlying3 (by decide)) ?_)
  intro w3 o3 g3
  have b3 := b2.grown g3 b2.size (fun j hj => by cases hj; exact Nat.le_refl _)
  clear o2 b2 g3
  go_wp2_with (refine wpList_insert_own _ rfl _ _ _ 98 rfl 3 3 kint Try.underlying98 _ w.heap.size _ _ rfl o3 (by decide) _ _ _ rfl rfl (keyOf_int_mk Try.underlying3 (by decide)) _ [] (plainElem_int Try.underlying3 (by decide)) ?_)
  intro w4 o4 g4
  have b4 := b3.grown g4 b3.size (fun j hj => by cases hj; exact Nat.le_refl _)
  clear o3 b3 g4
  go_wp2_with (refine wpList_insert_own _ rfl _ _ _ 98 rfl 3 3 kint Try.underlying98 _ w.heap.size _ _ rfl o4 (by decide) _ _ _ rfl rfl (keyOf_int_mk Try.underlying3 (by decide)) _ [] (plainElem_int Try.underlying3 (by decide)) ?_)
  intro w5 o5 g5
  have b5 := b4.grown g5 b4.size (fun j hj => by cases hj; exact Nat.le_refl _)
  clear o4 b4 g5
  go_wp2_with (refine wpList_insert_own _ rfl _ _ _ 98 rfl 3 3 kint Try.underlying98 _ w.heap.size _ _ rfl o5 (by decide) _ _ _ rfl rfl (keyOf_int_mk Try.underlying3 (by decide)) _ [] (plainElem_int Try.underlying3 (by decide)) ?_)
  intro w6 o6 g6
  have b6 := b5.grown g6 b5.size (fun j hj => by cases hj; exact Nat.le_refl _)
  clear o5 b5 g6
  go_wp2_with (refine wpList_insert_own _ rfl _ _ _ 98 rfl 3 3 kint Try.underlying98 _ w.heap.size _ _ rfl o6 (by decide) _ _ _ rfl rfl (keyOf_int_mk Try.underlying3 (by decide)) _ [] (plainElem_int Try.underlying3 (by decide)) ?_)
  intro w7 o7 g7
  have b7 := b6.grown g7 b6.size (fun j hj => by cases hj; exact Nat.le_refl _)
  clear o6 b6 g7
  go_wp2_with (refine wpList_insert_own _ rfl _ _ _ 98 rfl 3 3 kint Try.underlying98 _ w.heap.size _ _ rfl o7 (by decide) _ _ _ rfl rfl (keyOf_int_mk Try.underlying3 (by decide)) _ [] (plainElem_int Try.underlying3 (by decide)) ?_)
  intro w8 o8 g8
  have b8 := b7.grown g8 b7.size (fun j hj => by cases hj; exact Nat.le_refl _)
  clear o7 b7 g8
  go_wp2
  go_ret
  exact ⟨rfl, b8, o8⟩
theorem sizes_at (k : Int) : sizesD.atKey (.int .i64 k) (.lit (.int .i64 0)) = .lit (.int .i64 (sizeF k)) := by
  have e : sizesD = .map [(.int .i64 0, .lit (.int .i64 44)), (.int .i64 1, .lit (.int .i64 44)), (.int .i64 2, .lit (.int .i64 54)), (.int .i64 3, .lit (.int .i64 54)), (.int .i64 8, .lit (.int .i64 44)), (.int .i64 9, .lit (.int .i64 54)), (.int .i64 10, .lit (.int .i64 54)), (.int .i64 11, .lit (.int .i64 64))] := by kernel_rfl
  rw [e]
  by_cases h0 : k = 0
  · subst h0; rfl
  by_cases h1 : k = 1
  · subst h1; rfl
  by_cases h2 : k = 2
  · subst h2; rfl
  by_cases h3 : k = 3
  · subst h3; rfl
  by_cases h8 : k = 8
  · subst h8; rfl
  by_cases h9 : k = 9
  · subst h9; rfl
  by_cases h10 : k = 10
  · subst h10; rfl
  by_cases h11 : k = 11
  · subst h11; rfl
  have n0 : ¬ 0 = k := fun h => h0 h.symm
  have n1 : ¬ 1 = k := fun h => h1 h.symm
  have n2 : ¬ 2 = k := fun h => h2 h.symm
  have n3 : ¬ 3 = k := fun h => h3 h.symm
  have n8 : ¬ 8 = k := fun h => h8 h.symm
  have n9 : ¬ 9 = k := fun h => h9 h.symm
  have n10 : ¬ 10 = k := fun h => h10 h.symm
  have n11 : ¬ 11 = k := fun h => h11 h.symm
  simp [DataW.atKey, Lit.sameKey, sizeF, h0, h1, h2, h3, h8, h9, h10, h11, n0, n1, n2, n3, n8, n9, n10, n11]
theorem size_any (k : Int) (wf : (Lit.int .i64 k).wf = true) (w : World) : Calls Try.prog 53 #[.int .i64 k] w fun e w' => e = .returned (.int .i64 (sizeF k)) ∧ Below w.heap.size w w' := by
  go_enter Try.func53, Try.ntmps53
  go_wp2_with fail
  refine (sizes_any w).mono ?_
  rintro e w1 ⟨rfl, hb, hown⟩
  go_wp2_with (at_lookup; refine wpList_lookup_own_int _ rfl _ _ 98 rfl 3 3 .i64 kint Try.underlying98 Try.underlying3 (zeroInt _) w.heap.size _ _ rfl hown _ _ rfl (keyOf_int_mk Try.underlying3 wf) ?_; intro c hat hwc)
  rw [sizes_at] at hat
  have hc : c = sizeF k := by injection hat with h; injection h with _ h; exact h.symm
  subst hc
  clear hat
  go_wp2
  go_ret
  exact ⟨rfl, hb⟩
end Go.Proofs.Ytkjnhabflkaopaa
