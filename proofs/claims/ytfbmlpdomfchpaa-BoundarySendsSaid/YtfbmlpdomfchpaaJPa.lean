/- Several texts in one: Pm1, Pm2. -/
import Derived.WalkKit
import Derived.LoopTactic
import Derived.Outline
import Derived.Lib.Hide
import Derived.Maps.Own
import Derived.Maps.OwnOps
import Derived.Test.YtfbmlpdomfchpaaProg
import Derived.Test.YtfbmlpdomfchpaaJDb
/- ptpmsg: the sizes of messages. -/
namespace Go.Proofs.Ytfbmlpdomfchpaa
open Go.RowKit Go.Maps
set_option linter.unusedVariables false
set_option linter.unusedSimpArgs false

/-- An entry of a map's literal. -/
theorem wpList_insert_own {H : Type} {P : Program} (w : World) {ops : Array Oper} {rest : List Oper} {o : Oper} {a : Act} {Q : Exit → Act → World → Prop}
    (hg : o.guard = none) (m x v : Operand) (t : TypeId) (hop : o.op = Op.insert t m x v)
    (k e : TypeId) (K : Keyed P k) (ht : P.underlying t = some (.map k e)) (R : Value → Option (DataW H × List MemPlace)) (b n : Nat) (D : DataW H)
    (hm : a.eval m = .map (some b)) (hown : w.ownsMap P k R b n D) (hn : n < maxLen) (key val : Value) (kl : Lit) (hx : a.eval x = key) (hv : a.eval v = val) (hkey : keyOf P k key = some kl)
    (d : DataW H) (ps : List MemPlace) (hval : R val = some (d, ps))
    (hK : ∀ w', w'.ownsMap P k R b (n + 1) (D.put kl d) → w.grownBy w' (some b) → wpList P ops Q rest (a.put o.dst undef) w') :
    wpList P ops Q (o :: rest) a w := by
  refine wpList_plain hg fun K' hK' => ?_
  obtain ⟨w', hrun, r1, r2⟩ := hown.update K ht hn hkey hval
  unfold Oper.wp
  simp [execOp, hop, hm, hx, hv, hrun, Result.andThen]
  exact hK' _ _ (hK w' r1 r2)
theorem kint : Keyed Try.prog 3 := int_keyed Try.underlying3
theorem zeroInt (w : World) : (zeroValue 3).run Try.prog w = .ok (.int .i64 0) w := by kernel_rfl
def put8 (D : DataW Unit) (k v : Int) : DataW Unit := D.put (.int .i64 k) (.lit (.int .i64 v))
def sizesD : DataW Unit := put8 (put8 (put8 (put8 (put8 (put8 (put8 (put8 (.map []) 0 44) 1 44) 2 54) 3 54) 8 44) 9 54) 10 54) 11 64
def sizeF (k : Int) : Int := if k = 0 then 44 else if k = 1 then 44 else if k = 2 then 54 else if k = 3 then 54 else if k = 8 then 44 else if k = 9 then 54 else if k = 10 then 54 else if k = 11 then 64 else 0
set_option maxRecDepth 100000 in
theorem sizes_any (w : World) : Calls Try.prog 51 #[] w fun e w' => e = .returned (.map (some w.heap.size)) ∧ Below w.heap.size w w' ∧ w'.ownsMap Try.prog 3 (plainElem Try.prog 3) w.heap.size 8 sizesD := by
  have hmm := @run_makeMap Try.prog
  have hown := World.ownsMap_made w Try.prog 3 (plainElem (H := Unit) Try.prog 3)
  have hb := (Below.refl w.heap.size w).alloc (Nat.le_refl _) (.map #[] 0)
  go_enter Try.func51, Try.ntmps51
  go_wp2_with (refine wpList_insert_own _ rfl _ _ _ 106 rfl 3 3 kint Try.underlying106 _ w.heap.size _ _ rfl hown (by decide) _ _ _ rfl rfl (keyOf_int_mk Try.underlying3 (by decide)) _ [] (plainElem_int Try.underlying3 (by decide)) ?_)
  intro w1 o1 g1
  have b1 := hb.grown g1 hb.size (fun j hj => by cases hj; exact Nat.le_refl _)
  clear hown hb g1
  go_wp2_with (refine wpList_insert_own _ rfl _ _ _ 106 rfl 3 3 kint Try.underlying106 _ w.heap.size _ _ rfl o1 (by decide) _ _ _ rfl rfl (keyOf_int_mk Try.underlying3 (by decide)) _ [] (plainElem_int Try.underlying3 (by decide)) ?_)
  intro w2 o2 g2
  have b2 := b1.grown g2 b1.size (fun j hj => by cases hj; exact Nat.le_refl _)
  clear o1 b1 g2
  go_wp2_with (refine wpList_insert_own _ rfl _ _ _ 106 rfl 3 3 kint Try.underlying106 _ w.heap.size _ _ rfl o2 (by decide) _ _ _ rfl rfl (keyOf_int_mk Try.underlying3 (by decide)) _ [] (plainElem_int Try.underlying3 (by decide)) ?_)
  intro w3 o3 g3
  have b3 := b2.grown g3 b2.size (fun j hj => by cases hj; exact Nat.le_refl _)
  clear o2 b2 g3
  go_wp2_with (refine wpList_insert_own _ rfl _ _ _ 106 rfl 3 3 kint Try.underlying106 _ w.heap.size _ _ rfl o3 (by decide) _ _ _ rfl rfl (keyOf_int_mk Try.underlying3 (by decide)) _ [] (plainElem_int Try.underlying3 (by decide)) ?_)
  intro w4 o4 g4
  have b4 := b3.grown g4 b3.size (fun j hj => by cases hj; exact Nat.le_refl _)
  clear o3 b3 g4
  go_wp2_with (refine wpList_insert_own _ rfl _ _ _ 106 rfl 3 3 kint Try.underlying106 _ w.heap.size _ _ rfl o4 (by decide) _ _ _ rfl rfl (keyOf_int_mk Try.underlying3 (by decide)) _ [] (plainElem_int Try.underlying3 (by decide)) ?_)
  intro w5 o5 g5
  have b5 := b4.grown g5 b4.size (fun j hj => by cases hj; exact Nat.le_refl _)
  clear o4 b4 g5
  go_wp2_with (refine wpList_insert_own _ rfl _ _ _ 106 rfl 3 3 kint Try.underlying106 _ w.heap.size _ _ rfl o5 (by decide) _ _ _ rfl rfl (keyOf_int_mk Try.underlying3 (by decide)) _ [] (plainElem_int Try.underlying3 (by decide)) ?_)
  intro w6 o6 g6
  have b6 := b5.grown g6 b5.size (fun j hj => by cases hj; exact Nat.le_refl _)
  clear o5 b5 g6
  go_wp2_with (refine wpList_insert_own _ rfl _ _ _ 106 rfl 3 3 kint Try.underlying106 _ w.heap.size _ _ rfl o6 (by decide) _ _ _ rfl rfl (keyOf_int_mk Try.underlying3 (by decide)) _ [] (plainElem_int Try.underlying3 (by decide)) ?_)
  intro w7 o7 g7
  have b7 := b6.grown g7 b6.size (fun j hj => by cases hj; exact Nat.le_refl _)
  clear o6 b6 g7
  go_wp2_with (refine wpList_insert_own _ rfl _ _ _ 106 rfl 3 3 kint Try.underlying106 _ w.heap.size _ _ rfl o7 (by decide) _ _ _ rfl rfl (keyOf_int_mk Try.underlying3 (by decide)) _ [] (plainElem_int Try.underlying3 (by decide)) ?_)
  intro w8 o8 g8
  have b8 := b7.grown g8 b7.size (fun j hj => by cases hj; exact Nat.le_refl _)
  clear o7 b7 g8
  go_wp2
  go_ret
  exact ⟨rfl, b8, o8⟩
theorem sizes_at (k : Int) : sizesD.atKey (.int .i64 k) (.lit (.int .i64 0)) = .lit (.int .i64 (sizeF k)) := by
  have e : sizesD = .map [(.int .i64 0, .lit (.int .i64 44)), (.int .i64 1, .lit (.int .i64 44)), (.int .i64 2, .lit (.int .i64 54)), (.int .i64 3, .lit (.int .i64 54)), (.int .i64 8, .lit (.int .i64 44)), (.int .i64 9, .lit (.int .i64 54)), (.int .i64 10, .lit (.int .i64 54)), (.int .i64 11, .lit (.int .i64 64))] := by kernel_rfl
  rw [e]
  by_cases h0 : k = 0
  · subst h0; rfl
  by_cases h1 : k = 1
  · subst h1; rfl
  by_cases h2 : k = 2
  · subst h2; rfl
  by_cases h3 : k = 3
  · subst h3; rfl
  by_cases h8 : k = 8
  · subst h8; rfl
  by_cases h9 : k = 9
  · subst h9; rfl
  by_cases h10 : k = 10
  · subst h10; rfl
  by_cases h11 : k = 11
  · subst h11; rfl
  have n0 : ¬ 0 = k := fun h => h0 h.symm
  have n1 : ¬ 1 = k := fun h => h1 h.symm
  have n2 : ¬ 2 = k := fun h => h2 h.symm
  have n3 : ¬ 3 = k := fun h => h3 h.symm
  have n8 : ¬ 8 = k := fun h => h8 h.symm
  have n9 : ¬ 9 = k := fun h => h9 h.symm
  have n10 : ¬ 10 = k := fun h => h10 h.symm
  have n11 : ¬ 11 = k := fun h => h11 h.symm
  simp [DataW.atKey, Lit.sameKey, sizeF, h0, h1, h2, h3, h8, h9, h10, h11, n0, n1, n2, n3, n8, n9, n10, n11]
theorem size_any (k : Int) (wf : (Lit.int .i64 k).wf = true) (w : World) : Calls Try.prog 33 #[.int .i64 k] w fun e w' => e = .returned (.int .i64 (sizeF k)) ∧ Below w.heap.size w w' := by
  go_enter Try.func33, Try.ntmps33
  go_wp2_with fail
  refine (sizes_any w).mono ?_
  rintro e w1 ⟨rfl, hb, hown⟩
  go_wp2_with (at_lookup; refine wpList_lookup_own_int _ rfl _ _ 106 rfl 3 3 .i64 kint Try.underlying106 Try.underlying3 (zeroInt _) w.heap.size _ _ rfl hown _ _ rfl (keyOf_int_mk Try.underlying3 wf) ?_; intro c hat hwc)
  rw [sizes_at] at hat
  have hc : c = sizeF k := by injection hat with h; injection h with _ h; exact h.symm
  subst hc
  clear hat
  go_wp2
  go_ret
  exact ⟨rfl, hb⟩
end Go.Proofs.Ytfbmlpdomfchpaa
/- ptpmsg: the ranges. -/
namespace Go.Proofs.Ytfbmlpdomfchpaa
open Go.RowKit
set_option linter.unusedVariables false
set_option linter.unusedSimpArgs false

/-- What a message announces. -/
structure Ann where
  utc : Int
  p1 : Int
  cls : Int
  acc : Int
  var : Int
  p2 : Int
  gm : Int
  steps : Int
  source : Int
  deriving DecidableEq
def Ann.zero : Ann := ⟨0, 0, 0, 0, 0, 0, 0, 0, 0⟩
abbrev Ann.v (a : Ann) : Value := .agg #[.int .i64 a.utc, .int .i64 a.p1, .int .i64 a.cls, .int .i64 a.acc, .int .i64 a.var, .int .i64 a.p2, .int .u64 a.gm, .int .i64 a.steps, .int .i64 a.source]
/-- A message. -/
structure Ptp where
  kind : Int
  domain : Int
  flags : Int
  corr : Int
  clock : Int
  port : Int
  seq : Int
  logInt : Int
  sec : Int
  nano : Int
  reqClock : Int
  reqPort : Int
  ann : Ann
  deriving DecidableEq
abbrev Ptp.v (p : Ptp) : Value := .agg #[.int .i64 p.kind, .int .i64 p.domain, .int .i64 p.flags, .int .i64 p.corr, .int .u64 p.clock, .int .i64 p.port, .int .i64 p.seq, .int .i64 p.logInt, .int .i64 p.sec, .int .i64 p.nano, .int .u64 p.reqClock, .int .i64 p.reqPort, .int .i64 p.ann.utc, .int .i64 p.ann.p1, .int .i64 p.ann.cls, .int .i64 p.ann.acc, .int .i64 p.ann.var, .int .i64 p.ann.p2, .int .u64 p.ann.gm, .int .i64 p.ann.steps, .int .i64 p.ann.source]
abbrev stampV (s n : Int) : Value := .agg #[.int .i64 s, .int .i64 n]
def wi (n lo hi : Int) : Bool := decide (lo ≤ n) && decide (n ≤ hi)
theorem within_any (n lo hi : Int) (w : World) : Calls Try.prog 52 #[.int .i64 n, .int .i64 lo, .int .i64 hi] w fun e w' => e = .returned (.bool (wi n lo hi)) ∧ w = w' := by
  by_cases h : lo ≤ n
  · have d : decide (lo ≤ n) = true := by simpa using h
    have e : wi n lo hi = decide (n ≤ hi) := by simp [wi, h]
    rw [e]
    clear e h
    go_enter Try.func52, Try.ntmps52
    go_wp2
    go_ret
    exact ⟨rfl, rfl⟩
  · have d : decide (lo ≤ n) = false := by simpa using h
    have e : wi n lo hi = false := by simp [wi, h]
    rw [e]
    clear e h
    go_enter Try.func52, Try.ntmps52
    go_wp2
    go_ret
    exact ⟨rfl, rfl⟩
def reqB (k : Int) : Bool := (k == 9) || ((k == 3) || (k == 10))
theorem req_any (k : Int) (w : World) : Calls Try.prog 35 #[.int .i64 k] w fun e w' => e = .returned (.bool (reqB k)) ∧ w = w' := by
  cases h9 : (k == 9)
  all_goals cases h3 : (k == 3)
  all_goals (first | (have e : reqB k = true := by simp only [reqB, h9, h3, Bool.true_or, Bool.or_true]) | (have e : reqB k = (k == 10) := by simp only [reqB, h9, h3, Bool.false_or]))
  all_goals rw [e]
  all_goals clear e
  all_goals go_enter Try.func35, Try.ntmps35
  all_goals go_wp2
  all_goals go_ret
  all_goals exact ⟨rfl, rfl⟩
def stampB (s n : Int) : Bool := wi s 0 281474976710655 && wi n 0 999999999
theorem stamp_any (s n : Int) (w : World) : Calls Try.prog 53 #[stampV s n] w fun e w' => e = .returned (.int .i64 (if stampB s n = true then 0 else 3)) ∧ Below w.heap.size w w' := by
  by_cases h1 : s < 0
  · have d1 : decide (s < 0) = true := by simpa using h1
    have e : stampB s n = false := by simp [stampB, wi]; omega
    rw [e]
    have ev : (if (false : Bool) = true then (0 : Int) else 3) = 3 := by rfl
    rw [ev]
    clear e ev
    go_enter Try.func53, Try.ntmps53
    go_wp2
    go_ret
    exact ⟨rfl, (Below.refl _ _).alloc (Nat.le_refl _) _⟩
  have d1 : decide (s < 0) = false := by simpa using h1
  by_cases h2 : 281474976710655 < s
  · have d2 : decide (281474976710655 < s) = true := by simpa using h2
    have e : stampB s n = false := by simp [stampB, wi]; omega
    rw [e]
    have ev : (if (false : Bool) = true then (0 : Int) else 3) = 3 := by rfl
    rw [ev]
    clear e ev
    go_enter Try.func53, Try.ntmps53
    go_wp2
    go_ret
    exact ⟨rfl, (Below.refl _ _).alloc (Nat.le_refl _) _⟩
  have d2 : decide (281474976710655 < s) = false := by simpa using h2
  by_cases h3 : n < 0
  · have d3 : decide (n < 0) = true := by simpa using h3
    have e : stampB s n = false := by simp [stampB, wi]; omega
    rw [e]
    have ev : (if (false : Bool) = true then (0 : Int) else 3) = 3 := by rfl
    rw [ev]
    clear e ev
    go_enter Try.func53, Try.ntmps53
    go_wp2
    go_ret
    exact ⟨rfl, (Below.refl _ _).alloc (Nat.le_refl _) _⟩
  have d3 : decide (n < 0) = false := by simpa using h3
  by_cases h4 : 1000000000 ≤ n
  · have d4 : decide (1000000000 ≤ n) = true := by simpa using h4
    have e : stampB s n = false := by simp [stampB, wi]; omega
    rw [e]
    have ev : (if (false : Bool) = true then (0 : Int) else 3) = 3 := by rfl
    rw [ev]
    clear e ev
    go_enter Try.func53, Try.ntmps53
    go_wp2
    go_ret
    exact ⟨rfl, (Below.refl _ _).alloc (Nat.le_refl _) _⟩
  · have d4 : decide (1000000000 ≤ n) = false := by simpa using h4
    have e : stampB s n = true := by simp [stampB, wi]; omega
    rw [e]
    have ev : (if (true : Bool) = true then (0 : Int) else 3) = 0 := by rfl
    rw [ev]
    clear e ev
    go_enter Try.func53, Try.ntmps53
    go_wp2
    go_ret
    exact ⟨rfl, (Below.refl _ _).alloc (Nat.le_refl _) _⟩
end Go.Proofs.Ytfbmlpdomfchpaa
