/- Several texts in one: B4, B5. -/
import Derived.WalkKit
import Derived.LoopTactic
import Derived.Outline
import Derived.Lib.Hide
import Derived.Test.YtfbmlpdomfchpaaJBa
import Derived.Deep.RegionHeld3
import Derived.Deep.DeepCutAuto
/- boundary.Check. -/
namespace Go.Proofs.Ytfbmlpdomfchpaa
open Go.RowKit
set_option linter.unusedVariables false
set_option linter.unusedSimpArgs false

def insB (n lo hi : Int) : Bool := decide (lo ≤ n) && decide (n ≤ hi)
theorem inside_any (n lo hi : Int) (w : World) : Calls Try.prog 28 #[.int .i64 n, .int .i64 lo, .int .i64 hi] w fun e w' => e = .returned (.bool (insB n lo hi)) ∧ w = w' := by
  have h : insB n lo hi = (decide (lo ≤ n) && decide (n ≤ hi)) := rfl
  cases a : decide (lo ≤ n)
  all_goals cases b : decide (n ≤ hi)
  all_goals rw [a, b] at h
  all_goals rw [h]
  all_goals clear h
  all_goals go_enter Try.func28, Try.ntmps28
  all_goals go_wp2_with fail
  all_goals go_ret
  all_goals exact ⟨rfl, rfl⟩
def BConf.okL (c : BConf) : List Bool := [insB c.p1 0 255, insB c.cls 0 255, insB c.acc 0 255, insB c.var 0 65535, insB c.p2 0 255, insB c.domain 0 255, insB c.ports 1 8, insB c.window 1 1125899906842624, insB c.need 1 8, insB c.timeout 1 1125899906842624]
structure BConf.Ok (c : BConf) : Prop where
  p1 : insB c.p1 0 255 = true
  cls : insB c.cls 0 255 = true
  acc : insB c.acc 0 255 = true
  var : insB c.var 0 65535 = true
  p2 : insB c.p2 0 255 = true
  domain : insB c.domain 0 255 = true
  ports : insB c.ports 1 8 = true
  window : insB c.window 1 1125899906842624 = true
  need : insB c.need 1 8 = true
  timeout : insB c.timeout 1 1125899906842624 = true
theorem insB_spec {n lo hi : Int} (h : insB n lo hi = true) : lo ≤ n ∧ n ≤ hi := by simpa [insB] using h
set_option maxRecDepth 100000 in
set_option maxHeartbeats 4000000 in
theorem check_ok (c : BConf) (ok : c.Ok) (w : World) : Calls Try.prog 9 #[c.v] w fun e w' => e = .returned (.int .i64 0) ∧ Below w.heap.size w w' := by
  obtain ⟨v1, v2, v3, v4, v5, v6, v7, v8, v9, v10⟩ := ok
  go_enter Try.func9, Try.ntmps9
  go_wp2_with (go_at_call 28; refine (inside_any _ _ _ _).mono ?_; rintro e _ ⟨rfl, rfl⟩)
  go_ret
  exact ⟨rfl, below_then ((Below.refl _ _).alloc (Nat.le_refl _) _) ((Below.refl _ _).alloc (Nat.le_refl _) _)⟩
end Go.Proofs.Ytfbmlpdomfchpaa
/- boundary.New. -/
namespace Go.Proofs.Ytfbmlpdomfchpaa
open Go.RowKit
set_option linter.unusedVariables false
set_option linter.unusedSimpArgs false

theorem FrAt.down {w : World} {base base' b : Nat} {f : Fr} {lv : Value} {hs : List Value} (h : FrAt w base b f lv hs) (hb : base' ≤ base) : FrAt w base' b f lv hs := by
  have od : ∀ {e : TypeId} {size n : Nat} {v : Value} {xs : List Value}, w.ownsRow base e size v n xs → w.ownsRow base' e size v n xs := fun {e size n v xs} h => by
    refine ⟨h.1, ?_⟩
    rcases h.2 with h2 | ⟨g, cap, cur, e, h3, rest⟩
    · exact .inl h2
    · exact .inr ⟨g, cap, cur, e, Nat.le_trans hb h3, rest⟩
  exact ⟨Nat.le_trans hb h.le, h.head, h.hlen, od h.own, fun i r v h1 h2 => ⟨od (h.each i r v h1 h2).1, (h.each i r v h1 h2).2⟩, h.lb, h.two⟩
/-- One port more. -/
theorem CkIs.push {w w' : World} {base kb : Nat} {k : Ck} {mb : Nat} {sps : List Nat} {ft : Nat → Nat → Prop} (h : CkIs w base kb k mb sps ft) (hk : Keep (fun g => g = mb) w w') {sp : Nat} {p : Pst} {f : Nat → Prop} (hm : w'.heap[mb]? = some (.map (mapEs 0 (sps ++ [sp])).toArray (sps ++ [sp]).length))
    (hP : PortAt w' base sp p f) (hf : ∀ g, f g → w.heap.size ≤ g) : CkIs w' base kb { k with ports := k.ports ++ [p] } mb (sps ++ [sp]) (fun j => if j = k.ports.length then f else ft j) := by
  have hlt : ∀ j g, j < k.ports.length → ft j g → g < w.heap.size := fun j g hj hg => (h.lt g (.inr (.inr ⟨j, hj, hg⟩))).2
  have kl := (h.lt kb (.inl rfl)).2
  have ml := (h.lt mb (.inr (.inl rfl))).2
  have hjl : ∀ j, j < (k.ports ++ [p]).length → j ≠ k.ports.length → j < k.ports.length := fun j h1 h2 => by simp at h1; omega
  refine ⟨(hk.block kb kl (fun e => h.ne e)).trans h.head, hm, by simp [h.len], ?_, ?_, ?_, h.ne, h.kge, h.mge⟩
  · intro j q sq h1 h2
    have h1 : (k.ports ++ [p])[j]? = some q := h1
    by_cases e : j = k.ports.length
    · subst e
      rw [List.getElem?_append_right (Nat.le_refl _), Nat.sub_self] at h1
      rw [List.getElem?_append_right (by rw [h.len]; exact Nat.le_refl _), h.len, Nat.sub_self] at h2
      simp at h1 h2
      subst h1 h2
      simpa using hP
    · have hj := hjl j (List.getElem?_eq_some_iff.1 h1).1 e
      rw [List.getElem?_append_left hj] at h1
      rw [List.getElem?_append_left (by rw [h.len]; exact hj)] at h2
      simp only [if_neg e]
      exact (h.ports j q sq h1 h2).keep hk (fun g hg hm => (h.out j hj).2 (by rw [← show g = mb from hg]; exact hm))
  · intro a b g ha hb hab h1 h2
    by_cases ea : a = k.ports.length
    · subst ea
      simp only [if_pos rfl, if_neg (fun h : b = k.ports.length => hab h.symm)] at h1 h2
      have := hf g h1
      have := hlt b g (hjl b hb (fun h => hab h.symm)) h2
      omega
    · simp only [if_neg ea] at h1
      by_cases eb : b = k.ports.length
      · subst eb
        simp only [if_pos rfl] at h2
        have := hf g h2
        have := hlt a g (hjl a ha ea) h1
        omega
      · simp only [if_neg eb] at h2
        exact h.apart a b g (hjl a ha ea) (hjl b hb eb) hab h1 h2
  · intro j hj
    by_cases e : j = k.ports.length
    · subst e
      simp only [if_pos rfl]
      exact ⟨fun h1 => by have := hf kb h1; omega, fun h1 => by have := hf mb h1; omega⟩
    · simp only [if_neg e]
      exact h.out j (hjl j hj e)
def newP (c : BConf) (now : Int) : Pst := ⟨now, 0, 0, 0, newF c.window c.need, .new c.domain⟩
def newCk (c : BConf) (n : Nat) : Ck := ⟨c, List.replicate n (newP c 4), 0, c.own⟩
theorem next11 : nextF 1 1 false = 1 := by kernel_rfl
theorem next12 : nextF 1 2 false = 4 := by kernel_rfl
set_option maxRecDepth 100000 in
set_option maxHeartbeats 4000000 in
theorem bnew_any (c : BConf) (ok : c.Ok) (w : World) : Calls Try.prog 8 #[c.v] w fun e w' => ∃ kb, e = .returned (.pointer (some ⟨kb, 0, none⟩)) ∧ CkE w' w.heap.size kb [] (newCk c c.ports.toNat) ∧ Below w.heap.size w w' := by
  have hmk := @run_makeMap Try.prog
  have HOK := Lib.hid ok
  obtain ⟨n, hn⟩ : ∃ n : Nat, c.ports = n := ⟨c.ports.toNat, by have := insB_spec ok.ports; omega⟩
  have hn8 : n ≤ 8 := by have := insB_spec ok.ports; omega
  have HN := Lib.hid hn
  clear ok hn
  go_enter Try.func8, Try.ntmps8
  go_wp2_with fail
  generalize hW : w.alloc _ = w1
  have hb1 : Below w.heap.size w w1 := by rw [← hW]; exact (Below.refl _ _).alloc (Nat.le_refl _) _
  have hr1 : w1.rangeAt w.heap.size 0 c.cells := by
    rw [← hW]
    intro j v hv
    rw [Nat.zero_add, cell_of_row _ _ j _ _ (0, 0) (heap_alloc_new w _), ← hv]
    simp [BConf.cells]
  have hs1 : w.heap.size < w1.heap.size := by rw [← hW]; simp
  have HB1 := Lib.hid hb1
  have HR1 := Lib.hid hr1
  clear hW hb1 hr1
  refine (check_ok c HOK.out w1).mono ?_
  rintro e w2 ⟨rfl, hb⟩
  have HB2 := Lib.hid (below_then HB1.out hb)
  have hr2 := rangeAt_below HR1.out hb
  have hs2 : w.heap.size < w2.heap.size := Nat.lt_of_lt_of_le hs1 hb.size
  obtain ⟨qc, hqc⟩ : ∃ q, w.heap.size = q := ⟨_, rfl⟩
  rw [hqc] at hr2 hs2 ⊢
  have HQ := Lib.hid hqc
  have HR2 := Lib.hid hr2
  clear hb HB1 HR1 hqc hs1
  have c0 : w2.cell? ⟨qc, 0, none⟩ = some (.int .u64 c.id) := hr2 0 _ rfl
  have c1 : w2.cell? ⟨qc, 1, none⟩ = some (.int .i64 c.p1) := hr2 1 _ rfl
  have c2 : w2.cell? ⟨qc, 2, none⟩ = some (.int .i64 c.cls) := hr2 2 _ rfl
  have c3 : w2.cell? ⟨qc, 3, none⟩ = some (.int .i64 c.acc) := hr2 3 _ rfl
  have c4 : w2.cell? ⟨qc, 4, none⟩ = some (.int .i64 c.var) := hr2 4 _ rfl
  have c5 : w2.cell? ⟨qc, 5, none⟩ = some (.int .i64 c.p2) := hr2 5 _ rfl
  have c6 : w2.cell? ⟨qc, 6, none⟩ = some (.int .i64 c.domain) := hr2 6 _ rfl
  have c7 : w2.cell? ⟨qc, 7, none⟩ = some (.int .i64 c.ports) := hr2 7 _ rfl
  have c8 : w2.cell? ⟨qc, 8, none⟩ = some (.int .i64 c.window) := hr2 8 _ rfl
  have c9 : w2.cell? ⟨qc, 9, none⟩ = some (.int .i64 c.need) := hr2 9 _ rfl
  have c10 : w2.cell? ⟨qc, 10, none⟩ = some (.int .i64 c.timeout) := hr2 10 _ rfl
  clear hr2
  go_upto_region 3 with fail
  go_cut [3] (fun v3 wx => ∃ kb mb, v3 = .pointer (some ⟨kb, 0, none⟩) ∧ wx.heap[kb]? = some (.cells ((⟨c, [], 0, c.own⟩ : Ck).row mb) 70 (0, 0)) ∧ wx.heap[mb]? = some (.map #[] 0) ∧ kb ≠ mb ∧ w2.heap.size ≤ kb ∧ w2.heap.size ≤ mb ∧ Below w2.heap.size w2 wx)
  case first =>
    have HB2w := Lib.hid (show ∀ X : World, Below w2.heap.size w2 X → (X.cell? ⟨qc, 0, none⟩ = some (.int .u64 c.id) ∧ X.cell? ⟨qc, 1, none⟩ = some (.int .i64 c.p1) ∧ X.cell? ⟨qc, 2, none⟩ = some (.int .i64 c.cls) ∧ X.cell? ⟨qc, 3, none⟩ = some (.int .i64 c.acc) ∧ X.cell? ⟨qc, 4, none⟩ = some (.int .i64 c.var) ∧ X.cell? ⟨qc, 5, none⟩ = some (.int .i64 c.p2) ∧ X.cell? ⟨qc, 6, none⟩ = some (.int .i64 c.domain) ∧ X.cell? ⟨qc, 7, none⟩ = some (.int .i64 c.ports) ∧ X.cell? ⟨qc, 8, none⟩ = some (.int .i64 c.window) ∧ X.cell? ⟨qc, 9, none⟩ = some (.int .i64 c.need) ∧ X.cell? ⟨qc, 10, none⟩ = some (.int .i64 c.timeout)) from fun X hb => ⟨cell_below hb c0, cell_below hb c1, cell_below hb c2, cell_below hb c3, cell_below hb c4, cell_below hb c5, cell_below hb c6, cell_below hb c7, cell_below hb c8, cell_below hb c9, cell_below hb c10⟩)
    go_region_held3 (fun X => X.cell? ⟨qc, 0, none⟩ = some (.int .u64 c.id) ∧ X.cell? ⟨qc, 1, none⟩ = some (.int .i64 c.p1) ∧ X.cell? ⟨qc, 2, none⟩ = some (.int .i64 c.cls) ∧ X.cell? ⟨qc, 3, none⟩ = some (.int .i64 c.acc) ∧ X.cell? ⟨qc, 4, none⟩ = some (.int .i64 c.var) ∧ X.cell? ⟨qc, 5, none⟩ = some (.int .i64 c.p2) ∧ X.cell? ⟨qc, 6, none⟩ = some (.int .i64 c.domain) ∧ X.cell? ⟨qc, 7, none⟩ = some (.int .i64 c.ports) ∧ X.cell? ⟨qc, 8, none⟩ = some (.int .i64 c.window) ∧ X.cell? ⟨qc, 9, none⟩ = some (.int .i64 c.need) ∧ X.cell? ⟨qc, 10, none⟩ = some (.int .i64 c.timeout))
      (first | go_keep | exact HB2w.out _ hA.out)
      (first
        | (go_at_call 10; refine (own_any ⟨c.p1, c.cls, c.acc, c.var, c.p2⟩ c.id _).mono ?_; rintro e w3 ⟨rfl, hb3⟩; first | (have hA : Hid (Below w2.heap.size w2 w3) := below_then (show Below w2.heap.size w2 w2.drew from below_drewN (Below.refl _ _) 1) hb3) | (have hA : Hid (Below w2.heap.size w2 w3) := below_then (show Below w2.heap.size w2 (w2.alloc _).drew from below_drewN ((Below.refl _ _).alloc (Nat.le_refl _) _) 1) hb3) | (have hA : Hid (Below w2.heap.size w2 w3) := below_then (show Below w2.heap.size w2 (w2.drew.alloc _) from (below_drewN (Below.refl _ _) 1).alloc (Nat.le_refl _) _) hb3)))
    all_goals go_wp2_with fail
    all_goals go_meet
    · case rel =>
        have h3 : w2.heap.size < w3.heap.size := by have := hb3.size; simp at this; omega
        exact ⟨w3.heap.size, w2.heap.size, rfl, heap_alloc_new w3 _, (_root_.Go.heap_alloc_old w3 _ h3).trans ((hb3.block w2.heap.size (show w2.heap.size < (w2.alloc _).heap.size by simp)).trans (heap_alloc_new w2 _)), by omega, by omega, Nat.le_refl _, hA.out.alloc (by omega) _⟩
    · case rel =>
        have h3 : w2.heap.size ≤ w3.heap.size := hA.out.size
        have e : (w3.alloc (.map #[] 0)).heap.size = w3.heap.size + 1 := by simp
        exact ⟨w3.heap.size + 1, w3.heap.size, rfl, by rw [← e]; exact heap_alloc_new _ _, (_root_.Go.heap_alloc_old _ _ (by rw [e]; omega)).trans (heap_alloc_new w3 _), by omega, by omega, by omega, (hA.out.alloc (by omega) _).alloc (by rw [e]; omega) _⟩
  case rest =>
    obtain ⟨kb, mb, rfl, hkb, hmb, hne, hk2, hm2, hb3⟩ := hcut
    have hC0 : CkIs wc w.heap.size kb ⟨c, [], 0, c.own⟩ mb [] (fun _ _ => False) :=
      ⟨hkb, hmb, rfl, fun i p sp h1 => by simp at h1, fun i j g hi => by simp at hi, fun i hi => by simp at hi, hne, by rw [HQ.out]; omega, by rw [HQ.out]; omega⟩
    have HC0 := Lib.hid hC0
    have HBC := Lib.hid hb3
    have HMB := Lib.hid hm2
    have HR3 := Lib.hid (show ∀ X : World, Below w2.heap.size w2 X → X.rangeAt qc 0 c.cells from fun X hb => rangeAt_below HR2.out hb)
    have cp : wc.cell? ⟨qc, 3, none⟩ = some (.int .i64 c.acc) := HR3.out wc hb3 3 _ rfl
    clear hkb hmb hne hk2 hm2 hb3 hC0 c0 c1 c2 c3 c4 c5 c6 c7 c8 c9 c10 cp
    go_wp2_with fail
    go_loopw [4] (fun vi wr => ∃ j : Nat, j ≤ n ∧ vi = .int .i64 ((j : Int) + 1) ∧ Below w2.heap.size w2 wr ∧ ∃ sps ft, CkIs wr w.heap.size kb ⟨c, List.replicate j (newP c 4), 0, c.own⟩ mb sps ft ∧ sps.length = j) (fun vi _ => n + 1 - (intOf vi).toNat)
    case atStart => exact ⟨0, Nat.zero_le _, rfl, HBC.out, [], _, HC0.out, rfl⟩
    case round =>
      obtain ⟨j, hj, rfl, hbr, sps, ft, hC, hsl⟩ := hrel
      have HBR := Lib.hid hbr
      have HC := Lib.hid hC
      have c7 : wr.cell? ⟨qc, 7, none⟩ = some (.int .i64 (n : Int)) := by rw [← HN.out]; exact HR3.out wr hbr 7 _ rfl
      by_cases hlt : j < n
      · have hle : decide ((j : Int) + 1 ≤ (n : Int)) = true := by simp; omega
        have c6 : wr.cell? ⟨qc, 6, none⟩ = some (.int .i64 c.domain) := HR3.out wr hbr 6 _ rfl
        have c8 : wr.cell? ⟨qc, 8, none⟩ = some (.int .i64 c.window) := HR3.out wr hbr 8 _ rfl
        have c9 : wr.cell? ⟨qc, 9, none⟩ = some (.int .i64 c.need) := HR3.out wr hbr 9 _ rfl
        clear hbr hC
        go_upto_region 7 with fail
        go_cut [5] (fun v5 wx => ∃ sp rb xb, v5 = .pointer (some ⟨sp, 0, none⟩) ∧ PortIs wx w.heap.size sp (newP c 1) rb xb (.slice none 0 0) [] ∧ wr.heap.size ≤ sp ∧ wr.heap.size ≤ rb ∧ wr.heap.size ≤ xb ∧ Below wr.heap.size wr wx)
        case first =>
          have HSX := Lib.hid (show ∀ X : World, Below wr.heap.size wr X → (X.cell? ⟨qc, 6, none⟩ = some (.int .i64 c.domain) ∧ X.cell? ⟨qc, 8, none⟩ = some (.int .i64 c.window) ∧ X.cell? ⟨qc, 9, none⟩ = some (.int .i64 c.need)) from fun X hb => ⟨cell_below hb c6, cell_below hb c8, cell_below hb c9⟩)
          have HNEW := Lib.hid (fnew_ok c.window c.need (insB_spec HOK.out.window).1 (insB_spec HOK.out.window).2 (insB_spec HOK.out.need).1 (insB_spec HOK.out.need).2 wr.drew)
          have HEX := Lib.hid (fun X => new_ok c.domain (insB_spec HOK.out.domain).1 (insB_spec HOK.out.domain).2 X)
          go_region_held3 (fun X => X.cell? ⟨qc, 6, none⟩ = some (.int .i64 c.domain) ∧ X.cell? ⟨qc, 8, none⟩ = some (.int .i64 c.window) ∧ X.cell? ⟨qc, 9, none⟩ = some (.int .i64 c.need))
            (first | go_keep | exact HSX.out _ hB.out.2.2.1 | exact HSX.out _ hA.out.2.1)
            (first
              | (go_at_call 25; refine HNEW.out.mono ?_; rintro e wA ⟨rfl, hF, hb, hs⟩; have hA : Hid (FrAt wA wr.heap.size wr.heap.size (newF c.window c.need) (.slice none 0 0) [] ∧ Below wr.heap.size wr wA ∧ wr.heap.size < wA.heap.size) := ⟨hF, below_then (show Below wr.heap.size wr wr.drew from below_drewN (Below.refl _ _) 1) hb, hs⟩; clear hF hb hs)
              | (go_at_call 26; refine (HEX.out wA).mono ?_; rintro e wB ⟨rfl, hX, hb, hs⟩; have hB : Hid (ExAt wB wA.heap.size (.new c.domain) ∧ Below wA.heap.size wA wB ∧ Below wr.heap.size wr wB ∧ wA.heap.size < wB.heap.size) := ⟨hX, hb, below_then hA.out.2.1 hb, hs⟩; clear hX hb hs))
          all_goals go_wp2_with fail
          all_goals go_meet
          all_goals
            (case rel =>
              obtain ⟨hF, hbA, hsA⟩ := hA.out
              obtain ⟨hX, hAB, hbB, hsB⟩ := hB.out
              have hl : Below wB.heap.size wB (wB.alloc (.cells ((newP c 1).row wr.heap.size wA.heap.size) 77)) := (Below.refl _ _).alloc (Nat.le_refl _) _
              have hw := HC.out.kge
              have hk := (HC.out.lt kb (.inl rfl)).2
              refine ⟨wB.heap.size, wr.heap.size, wA.heap.size, rfl, ⟨heap_alloc_new wB _, ((hF.below hAB).below hl).down (by omega), hX.below hl, by omega, by omega, by omega, ?_, ?_⟩, by omega, Nat.le_refl _, by omega, below_then hbB hl⟩
              · rintro (e | e | ⟨i, x, hx, _⟩)
                · omega
                · simp [Value.ownBlock] at e
                · simp at hx
              · rintro (e | e | ⟨i, x, hx, _⟩)
                · omega
                · simp [Value.ownBlock] at e
                · simp at hx)
        case rest =>
          obtain ⟨sp, rb, xb, rfl, hP, hp1, hp2, hp3, hbc⟩ := hcut
          have HP := Lib.hid hP
          have HBX := Lib.hid hbc
          have HLE := Lib.hid (And.intro hp1 (And.intro hp2 hp3))
          clear hP hbc hp1 hp2 hp3 c6 c7 c8 c9
          go_wp2_with fail
          refine (event_any HP.out false (by show (1 : Int) ≤ 1; omega) (by show (1 : Int) ≤ 9; omega) (.inl ⟨by omega, by omega⟩)).mono ?_
          rintro e w4 ⟨rfl, hP4, ht4⟩
          rw [show nextF (newP c 1).now 1 false = 1 from next11] at hP4
          have HP4 := Lib.hid (show PortIs w4 w.heap.size sp (newP c 1) rb xb (.slice none 0 0) [] from hP4)
          have HT4 := Lib.hid ht4
          clear hP4 ht4 HP
          go_wp2_with fail
          refine (event_any HP4.out false (by show (1 : Int) ≤ 1; omega) (by show (1 : Int) ≤ 9; omega) (.inl ⟨by omega, by omega⟩)).mono ?_
          rintro e w5 ⟨rfl, hP5, ht5⟩
          rw [show nextF (newP c 1).now 2 false = 4 from next12] at hP5
          have HP5 := Lib.hid (show PortIs w5 w.heap.size sp (newP c 4) rb xb (.slice none 0 0) [] from hP5)
          have hsw : w.heap.size ≤ wr.heap.size := by have := HC.out.kge; have := (HC.out.lt kb (.inl rfl)).2; omega
          have hk5 : Keep (fun _ => False) wr w5 := (((Keep.of HBX.out).thenTouch HT4.out (.inr HLE.out.1)).thenTouch ht5 (.inr HLE.out.1))
          have hC5 := HC.out.keep hk5 (fun g hg => hg.elim)
          have c11 : w5.cell? ⟨kb, 11, none⟩ = some (.map (some mb)) := hC5.cell 11
          obtain ⟨w6, hrun, hm6, ht6⟩ := upd_run hC5.map sp ((j : Int) + 1) (by rw [hsl])
          have HK5 := Lib.hid hk5
          have HEND := Lib.hid (And.intro hm6 ht6)
          clear hP5 ht5 hk5 hC5 hm6 ht6 HT4 HP4
          go_wp2_with fail
          go_roundw
          case rel =>
            obtain ⟨hm6, ht6⟩ := HEND.out
            have hkr : Keep (fun g => g = mb) wr w6 := (HK5.out.wide (fun g hg => hg.elim)).thenTouch ht6 (.inl rfl)
            have hmb := (HC.out.lt mb (.inr (.inl rfl))).2
            have hP6 := HP5.out.keep (Keep.touch (M := fun g => g = mb) ht6 rfl) (fun g hg hf => by
              have hg : g = mb := hg
              subst hg
              rcases hf with h | h | h | h | ⟨i, x, hx, _⟩
              · have := HLE.out.1; omega
              · have := HLE.out.2.2; omega
              · have := HLE.out.2.1; omega
              · simp [Value.ownBlock] at h
              · simp at hx)
            have hpush := HC.out.push hkr hm6 (f := footOf sp rb xb (.slice none 0 0) []) ⟨rb, xb, _, _, hP6, fun g => Iff.rfl⟩ (fun g hg => by
              rcases hg with h | h | h | h | ⟨i, x, hx, _⟩
              · rw [h]; exact HLE.out.1
              · rw [h]; exact HLE.out.2.2
              · rw [h]; exact HLE.out.2.1
              · simp [Value.ownBlock] at h
              · simp at hx)
            have hb6 : Below w2.heap.size w2 w6 := by
              refine Keep.below HBR.out hkr (fun g hg => ?_) (Nat.le_refl _)
              have hg : g = mb := hg
              rw [hg]
              exact HMB.out
            obtain ⟨ft2, hft2⟩ : ∃ f, CkIs w6 w.heap.size kb ⟨c, List.replicate j (newP c 4) ++ [newP c 4], 0, c.own⟩ mb (sps ++ [sp]) f := ⟨_, hpush⟩
            refine ⟨j + 1, by omega, by go_num, hb6, sps ++ [sp], ft2, ?_, by simp [hsl]⟩
            rw [List.replicate_succ']
            exact hft2
          case measure => simp [intOf]; omega
      · obtain rfl : j = n := by omega
        have hle : decide ((j : Int) + 1 ≤ (j : Int)) = false := by simp <;> omega
        clear hbr hC
        go_wp2_with fail
        go_ret
        refine ⟨kb, rfl, ⟨mb, sps, ft, ?_, fun q hq => by simp at hq⟩, below_then HB2.out HBR.out⟩
        rw [HN.out]
        exact HC.out
end Go.Proofs.Ytfbmlpdomfchpaa
