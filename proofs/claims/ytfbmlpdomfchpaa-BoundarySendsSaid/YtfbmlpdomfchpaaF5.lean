/- Qualified (written by gen_f5.py). -/
import Derived.WalkKit
import Derived.LoopTactic
import Derived.Outline
import Derived.Lib.Hide
import Derived.Deep.QuietTactic
import Derived.BigQuiet
import Derived.OwnWalk
import Derived.Laws.AppendOwn
import Derived.Test.YtfbmlpdomfchpaaJFa
import Derived.Test.YtfbmlpdomfchpaaJDb
import Derived.Test.YtfbmlpdomfchpaaDe3
namespace Go.Proofs.Ytfbmlpdomfchpaa
open Go.RowKit
set_option linter.unusedVariables false
set_option linter.unusedSimpArgs false

theorem infoDS : (Try.prog.info? 35).map (fun i => (i.zero, i.size, i.bytes)) = some (some (.agg #[.int .i64 0, .int .i64 0, .int .i64 0, .int .i64 0, .int .i64 0, .int .u64 0, .int .i64 0, .int .u64 0, .int .i64 0, .int .u64 0, .int .i64 0]), 11, 88) := by kernel_rfl
/-- Is a record qualified? -/
def qualB (f : Fr) (at_ : Int) (r : Rc) : Bool := decide (f.need ≤ (recentF f.window f.last at_ r.heard : Int))
def qualF (f : Fr) (at_ : Int) : List DS := (f.list.filter (qualB f at_)).map (·.set)
def qualTo (f : Fr) (at_ : Int) (k : Nat) : List DS := ((f.list.take k).filter (qualB f at_)).map (·.set)
theorem qualTo_next {f : Fr} {at_ : Int} {k : Nat} {r : Rc} (hr : f.list[k]? = some r) : qualTo f at_ (k + 1) = qualTo f at_ k ++ if qualB f at_ r = true then [r.set] else [] := by
  unfold qualTo
  rw [List.take_add_one, hr]
  cases h : qualB f at_ r <;> simp [h]
theorem qualTo_len (f : Fr) (at_ : Int) (k : Nat) : (qualTo f at_ k).length ≤ k := by
  unfold qualTo
  have := List.length_filter_le (qualB f at_) (f.list.take k)
  simp at this ⊢
  omega
theorem fqual_nil (at_ : Int) (w : World) : Calls Try.prog 76 #[.pointer none, .int .i64 at_] w fun e w' => e = .returned (.slice none 0 0) ∧ w = w' := by
  go_enter Try.func76, Try.ntmps76
  go_wp2_with fail
  go_ret
  exact ⟨rfl, rfl⟩
set_option maxRecDepth 100000 in
set_option maxHeartbeats 4000000 in
theorem fqual_any {f : Fr} {base b : Nat} {lv : Value} {hs : List Value} {w : World} (hF : FrAt w base b f lv hs) (ok : f.Ok) (hbig : f.list.length ≤ 1000) (at_ : Int) (ha1 : at_ ≤ 9223372036854775807) :
    Calls Try.prog 76 #[.pointer (some ⟨b, 0, none⟩), .int .i64 at_] w fun e w' => ∃ q, e = .returned q ∧ Below w.heap.size w w' ∧ w'.ownsRow w.heap.size 35 11 q (qualF f at_).length ((qualF f at_).flatMap DS.cells) := by
  obtain ⟨i0, hi0, hz0, hz1, hz2⟩ := info_parts infoDS
  have c0 : w.cell? ⟨b, 0, none⟩ = some (.int .i64 f.window) := hF.cell 0
  have c1 : w.cell? ⟨b, 1, none⟩ = some (.int .i64 f.need) := hF.cell 1
  have c2 : w.cell? ⟨b, 2, none⟩ = some (.int .i64 f.last) := hF.cell 2
  have c3 : w.cell? ⟨b, 3, none⟩ = some lv := hF.cell 3
  have hbl := hF.lt
  have HF := Lib.hid hF
  have HOK := Lib.hid ok
  have hform := owns_rec hF.own rfl hF.hlen
  obtain ⟨n, hn⟩ : ∃ n, f.list.length = n := ⟨_, rfl⟩
  rw [hn] at hform hbig
  have HN := Lib.hid hn
  clear hF ok hn
  rcases hform with ⟨rfl, e⟩ | ⟨g, cap, rfl, hb, hg, hle, hcm, hrg⟩
  · have e2 : qualF f at_ = [] := by unfold qualF; rw [e]; rfl
    rw [e2]
    clear e2 e
    go_enter Try.func76, Try.ntmps76
    go_wp2_with fail
    go_loop [5, 15] (fun v i => v = .slice none 0 0 ∧ i = .int .i64 0) (fun _ _ => 0)
    case atStart => exact ⟨rfl, rfl⟩
    case round =>
      obtain ⟨rfl, rfl⟩ := hrel
      go_wp2_with fail
      go_ret
      exact ⟨_, rfl, Below.refl _ _, World.ownsRow_nil _ _ _ _⟩
  · unfold maxLen at hcm
    have HRG := Lib.hid hrg
    clear hrg
    go_enter Try.func76, Try.ntmps76
    go_wp2_with fail
    go_loopw [5, 15] (fun v i wr => ∃ k : Nat, k ≤ n ∧ i = .int .i64 k ∧ wr.ownsRow w.heap.size 35 11 v (qualTo f at_ k).length ((qualTo f at_ k).flatMap DS.cells) ∧ Below w.heap.size w wr) (fun _ i _ => n - (intOf i).toNat)
    case atStart => exact ⟨0, Nat.zero_le _, rfl, World.ownsRow_nil _ _ _ _, Below.refl _ _⟩
    case round =>
      obtain ⟨k, hk, rfl, hown, hbr⟩ := hrel
      have HBR := Lib.hid hbr
      by_cases hlt : k < n
      · have hk0 : (0 : Int) ≤ (k : Int) := by omega
        have hk1 : (k : Int) < (n : Int) := by omega
        obtain ⟨r, hr⟩ : ∃ r, f.list[k]? = some r := ⟨_, List.getElem?_eq_getElem (by rw [HN.out]; exact hlt)⟩
        obtain ⟨x, hx⟩ : ∃ x, hs[k]? = some x := ⟨_, List.getElem?_eq_getElem (by rw [HF.out.hlen, HN.out]; exact hlt)⟩
        obtain ⟨gh, ch, rfl⟩ : ∃ gh ch, x = .slice (some ⟨gh, 0, none⟩) r.heard.length ch := by
          rcases owns_ints (HF.out.each k r x hr hx).1 with ⟨_, e⟩ | ⟨g', c', e, _⟩
          · exact absurd e (HF.out.each k r x hr hx).2.1
          · exact ⟨g', c', e⟩
        have hrgk : wr.rangeAt g (k * 14) (r.cells (.slice (some ⟨gh, 0, none⟩) r.heard.length ch)) := fun j v hv => cell_below hbr (HRG.out k r _ hr hx j v hv)
        have HRK := Lib.hid hrgk
        have hea := HF.out.each k r _ hr hx
        have HE := Lib.hid hea
        have HR := Lib.hid hr
        have HOWN := Lib.hid hown
        have hgr : g < wr.heap.size := Nat.lt_of_lt_of_le hg hbr.size
        have hbrl : b < wr.heap.size := Nat.lt_of_lt_of_le hbl hbr.size
        have hsW : w.heap.size ≤ wr.heap.size := hbr.size
        have hql := qualTo_len f at_ k
        have C0 := Lib.hid c0
        have C1 := Lib.hid c1
        have C2 := Lib.hid c2
        clear hr hx hrgk hea hown hbr c0 c1 c2 c3
        go_wp2_with (refine load_rec HRK.out _ (by rfl) rfl rfl ?_)
        generalize hW1 : wr.alloc _ = W1
        have hbW : Below wr.heap.size wr W1 := by rw [← hW1]; exact (Below.refl _ _).alloc (Nat.le_refl _) _
        have x0 : W1.cell? ⟨wr.heap.size, 0, none⟩ = some (.int .u64 r.clock) := by rw [← hW1, cell_of_row _ _ 0 _ _ (0, 0) (heap_alloc_new wr _)]; rfl
        have x1 : W1.cell? ⟨wr.heap.size, 1, none⟩ = some (.int .i64 r.num) := by rw [← hW1, cell_of_row _ _ 1 _ _ (0, 0) (heap_alloc_new wr _)]; rfl
        have x2 : W1.cell? ⟨wr.heap.size, 2, none⟩ = some (.int .i64 r.set.p1) := by rw [← hW1, cell_of_row _ _ 2 _ _ (0, 0) (heap_alloc_new wr _)]; rfl
        have x3 : W1.cell? ⟨wr.heap.size, 3, none⟩ = some (.int .i64 r.set.cls) := by rw [← hW1, cell_of_row _ _ 3 _ _ (0, 0) (heap_alloc_new wr _)]; rfl
        have x4 : W1.cell? ⟨wr.heap.size, 4, none⟩ = some (.int .i64 r.set.acc) := by rw [← hW1, cell_of_row _ _ 4 _ _ (0, 0) (heap_alloc_new wr _)]; rfl
        have x5 : W1.cell? ⟨wr.heap.size, 5, none⟩ = some (.int .i64 r.set.var) := by rw [← hW1, cell_of_row _ _ 5 _ _ (0, 0) (heap_alloc_new wr _)]; rfl
        have x6 : W1.cell? ⟨wr.heap.size, 6, none⟩ = some (.int .i64 r.set.p2) := by rw [← hW1, cell_of_row _ _ 6 _ _ (0, 0) (heap_alloc_new wr _)]; rfl
        have x7 : W1.cell? ⟨wr.heap.size, 7, none⟩ = some (.int .u64 r.set.gm) := by rw [← hW1, cell_of_row _ _ 7 _ _ (0, 0) (heap_alloc_new wr _)]; rfl
        have x8 : W1.cell? ⟨wr.heap.size, 8, none⟩ = some (.int .i64 r.set.steps) := by rw [← hW1, cell_of_row _ _ 8 _ _ (0, 0) (heap_alloc_new wr _)]; rfl
        have x9 : W1.cell? ⟨wr.heap.size, 9, none⟩ = some (.int .u64 r.set.sender) := by rw [← hW1, cell_of_row _ _ 9 _ _ (0, 0) (heap_alloc_new wr _)]; rfl
        have x10 : W1.cell? ⟨wr.heap.size, 10, none⟩ = some (.int .i64 r.set.sport) := by rw [← hW1, cell_of_row _ _ 10 _ _ (0, 0) (heap_alloc_new wr _)]; rfl
        have x11 : W1.cell? ⟨wr.heap.size, 11, none⟩ = some (.int .u64 r.set.recv) := by rw [← hW1, cell_of_row _ _ 11 _ _ (0, 0) (heap_alloc_new wr _)]; rfl
        have x12 : W1.cell? ⟨wr.heap.size, 12, none⟩ = some (.int .i64 r.set.rport) := by rw [← hW1, cell_of_row _ _ 12 _ _ (0, 0) (heap_alloc_new wr _)]; rfl
        have x13 : W1.cell? ⟨wr.heap.size, 13, none⟩ = some (.slice (some ⟨gh, 0, none⟩) r.heard.length ch) := by rw [← hW1, cell_of_row _ _ 13 _ _ (0, 0) (heap_alloc_new wr _)]; rfl
        have hsB : wr.heap.size < W1.heap.size := by rw [← hW1]; simp
        have HB1 := Lib.hid (below_then HBR.out hbW)
        have HOW1 := Lib.hid (HOWN.out.kept (grown_of_below hbW none) (by cases h : Value.ownBlock _ with | none => exact .inl rfl | some g => exact .inr (by simp)))
        obtain ⟨B, hBB⟩ : ∃ B, wr.heap.size = B := ⟨_, rfl⟩
        have n1 : ∀ u : Aft W1, u.now.cell? ⟨b, 1, none⟩ = some (.int .i64 f.need) := fun u => u.cell (cell_below HB1.out C1.out)
        have HRC := Lib.hid (show ∀ u : Aft W1, Calls Try.prog 75 #[.pointer (some ⟨b, 0, none⟩), r.v (.slice (some ⟨gh, 0, none⟩) r.heard.length ch), .int .i64 at_] u.now fun e w' => e = .returned (.int .i64 (recentF f.window f.last at_ r.heard)) ∧ Below u.now.heap.size u.now w' from fun u =>
          recent_any (u.cell (cell_below HB1.out C0.out)) (u.cell (cell_below HB1.out C2.out)) r (ownsRow_below (ownsRow_below HE.out.1 HB1.out) u.below) HE.out.2.1 HOK.out.w0 HOK.out.w1 HOK.out.l0 HOK.out.l1 ha1)
        rw [hBB] at x0 x1 x2 x3 x4 x5 x6 x7 x8 x9 x10 x11 x12 x13 hsB ⊢
        have y0 : ∀ u : Aft W1, u.now.cell? ⟨B, 0, none⟩ = some (.int .u64 r.clock) := fun u => u.cell x0
        have y1 : ∀ u : Aft W1, u.now.cell? ⟨B, 1, none⟩ = some (.int .i64 r.num) := fun u => u.cell x1
        have y2 : ∀ u : Aft W1, u.now.cell? ⟨B, 2, none⟩ = some (.int .i64 r.set.p1) := fun u => u.cell x2
        have y3 : ∀ u : Aft W1, u.now.cell? ⟨B, 3, none⟩ = some (.int .i64 r.set.cls) := fun u => u.cell x3
        have y4 : ∀ u : Aft W1, u.now.cell? ⟨B, 4, none⟩ = some (.int .i64 r.set.acc) := fun u => u.cell x4
        have y5 : ∀ u : Aft W1, u.now.cell? ⟨B, 5, none⟩ = some (.int .i64 r.set.var) := fun u => u.cell x5
        have y6 : ∀ u : Aft W1, u.now.cell? ⟨B, 6, none⟩ = some (.int .i64 r.set.p2) := fun u => u.cell x6
        have y7 : ∀ u : Aft W1, u.now.cell? ⟨B, 7, none⟩ = some (.int .u64 r.set.gm) := fun u => u.cell x7
        have y8 : ∀ u : Aft W1, u.now.cell? ⟨B, 8, none⟩ = some (.int .i64 r.set.steps) := fun u => u.cell x8
        have y9 : ∀ u : Aft W1, u.now.cell? ⟨B, 9, none⟩ = some (.int .u64 r.set.sender) := fun u => u.cell x9
        have y10 : ∀ u : Aft W1, u.now.cell? ⟨B, 10, none⟩ = some (.int .i64 r.set.sport) := fun u => u.cell x10
        have y11 : ∀ u : Aft W1, u.now.cell? ⟨B, 11, none⟩ = some (.int .u64 r.set.recv) := fun u => u.cell x11
        have y12 : ∀ u : Aft W1, u.now.cell? ⟨B, 12, none⟩ = some (.int .i64 r.set.rport) := fun u => u.cell x12
        have y13 : ∀ u : Aft W1, u.now.cell? ⟨B, 13, none⟩ = some (.slice (some ⟨gh, 0, none⟩) r.heard.length ch) := fun u => u.cell x13
        have HNX := Lib.hid (qualTo_next (at_ := at_) HR.out)
        obtain ⟨m, hm⟩ : ∃ m, recentF f.window f.last at_ r.heard = m := ⟨_, rfl⟩
        have hq : qualB f at_ r = decide (f.need ≤ (m : Int)) := by rw [← hm]; rfl
        rw [hm] at HRC
        clear hm hW1 hbW x0 x1 x2 x3 x4 x5 x6 x7 x8 x9 x10 x11 x12 x13 HOWN HRK HBR HE
        cases hqq : qualB f at_ r
        all_goals rw [hqq] at hq HNX
        all_goals have hqd := hq.symm
        all_goals clear hq hqq
        all_goals refine wp_region_calm (by kernel_rfl) (by kernel_rfl) ?_
        all_goals repeat (go_big_quiet_step ((go_at_call 75; exact calm_of (HRC.out _))))
        all_goals refine wpQuiet_nil ?_
        all_goals rintro _ ⟨u, rfl⟩
        all_goals have HBU := Lib.hid (below_then HB1.out u.below)
        all_goals have hou := ownsRow_below HOW1.out u.below
        all_goals have hsu : w.heap.size ≤ u.now.heap.size := HBU.out.size
        · have HOU := Lib.hid hou
          clear hou y0 y1 y2 y3 y4 y5 y6 y7 y8 y9 y10 y11 y12 y13 n1
          go_wp2_with fail
          go_roundw
          case rel => exact ⟨k + 1, by omega, by go_num, by rw [HNX.out]; simpa using HOU.out, HBU.out⟩
          case measure => simp [intOf]; omega
        · have z2 := y2 u
          have z3 := y3 u
          have z4 := y4 u
          have z5 := y5 u
          have z6 := y6 u
          have z7 := y7 u
          have z8 := y8 u
          have z9 := y9 u
          have z10 := y10 u
          have z11 := y11 u
          have z12 := y12 u
          clear y0 y1 y2 y3 y4 y5 y6 y7 y8 y9 y10 y11 y12 y13 n1
          go_wp2_with (at_builtin; refine wpList_append_own _ rfl _ _ 130 rfl w.heap.size 35 i0 (.agg #[.int .i64 0, .int .i64 0, .int .i64 0, .int .i64 0, .int .i64 0, .int .u64 0, .int .i64 0, .int .u64 0, .int .i64 0, .int .u64 0, .int .i64 0]) 11 88 Try.underlying130 hi0 hz0 hz1 hz2 rfl (by decide) _ _ _ rfl (hou.alloc _) ⟨u.now.heap.size, 0, none⟩ 1 1 (DS.cells r.set) rfl rfl ?c1 ?c2 ?c3 ?c4 ?c5 ?_)
          case c1 =>
            intro j v hj
            rw [← hj]; rfl
          case c2 => simp [DS.cells, Value.oneCell']
          case c3 => unfold maxLen; omega
          case c4 => omega
          case c5 => first | omega | (simp; omega)
          · intro v' w2 hown' hgrow _
            have HOW := Lib.hid hown'
            have HBN := Lib.hid (Below.grown (HBU.out.alloc hsu _) hgrow (by simp; omega) (fun j e => (hou.lt j e).1))
            clear hown' hgrow hou z2 z3 z4 z5 z6 z7 z8 z9 z10 z11 z12
            go_wp2_with fail
            go_roundw
            case rel => exact ⟨k + 1, by omega, by go_num, by rw [HNX.out]; simpa using HOW.out, HBN.out⟩
            case measure => simp [intOf]; omega
      · obtain rfl : k = n := by omega
        have e : qualTo f at_ k = qualF f at_ := by unfold qualTo qualF; rw [List.take_of_length_le (by rw [HN.out]; exact Nat.le_refl _)]
        rw [e] at hown
        have HOWN := Lib.hid hown
        clear hown hbr c0 c1 c2 c3
        go_wp2_with fail
        go_ret
        exact ⟨_, rfl, HBR.out, HOWN.out⟩
end Go.Proofs.Ytfbmlpdomfchpaa
