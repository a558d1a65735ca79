/- The walk of Decide. -/
import Derived.WalkKit
import Derived.LoopTactic
import Derived.Outline
import Derived.Lib.Hide
import Derived.OwnWalk
import Derived.KernelRfl
import Derived.Deep.DeepCutAuto
import Derived.Deep.CutBlock
import Derived.Test.YtfbmlpdomfchpaaJDd
import Derived.Test.YtfbmlpdomfchpaaJDb
namespace Go.Proofs.Ytfbmlpdomfchpaa
open Go.RowKit
set_option linter.unusedVariables false
set_option linter.unusedSimpArgs false

theorem infoInt : (Try.prog.info? 3).map (fun i => (i.zero, i.size, i.bytes)) = some (some (.int .i64 0), 1, 8) := by kernel_rfl
theorem madeInts (n : Nat) : (madeCells #[Value.int .i64 0] n).toList = List.replicate n (Value.int .i64 0) := by
  refine List.ext_getElem (by simp [madeCells]) fun i h1 h2 => ?_
  simp [madeCells, Nat.mod_one]
section
variable {own : DS} {l : List PB} {m : Int} {k : Nat} {p : PB}
theorem code_m1 (hp : l.getD k .zero = p) (hc : own.cls ≤ 127) (h : p.has = false ∨ lessB own p.set = true) : codeF own l m k = 1 := by
  simp only [codeF, hp]; rw [if_pos hc, if_pos h]
theorem code_p1 (hp : l.getD k .zero = p) (hc : own.cls ≤ 127) (h : p.has = true) (h2 : lessB own p.set = false) : codeF own l m k = 4 := by
  simp only [codeF, hp]; rw [if_pos hc, if_neg (by rw [h, h2]; simp)]
theorem code_m2 (hc : ¬ own.cls ≤ 127) (h : m < 0 ∨ lessB own (l.getD m.toNat .zero).set = true) : codeF own l m k = 2 := by
  simp only [codeF]; rw [if_neg hc, if_pos h]
theorem code_s1 (hc : ¬ own.cls ≤ 127) (h : ¬ m < 0) (h2 : lessB own (l.getD m.toNat .zero).set = false) (hk : (k : Int) = m) : codeF own l m k = 6 := by
  simp only [codeF]; rw [if_neg hc, if_neg (by rw [h2]; simp; omega), if_pos hk]
theorem code_m3 (hp : l.getD k .zero = p) (hc : ¬ own.cls ≤ 127) (h : ¬ m < 0) (h2 : lessB own (l.getD m.toNat .zero).set = false) (hk : ¬ (k : Int) = m) (h3 : p.has = false ∨ lessB (furtherF (l.getD m.toNat .zero).set own p.set (k + 1)) p.set = true) : codeF own l m k = 3 := by
  simp only [codeF, hp]; rw [if_neg hc, if_neg (by rw [h2]; simp; omega), if_neg hk, if_pos h3]
theorem code_p2 (hp : l.getD k .zero = p) (hc : ¬ own.cls ≤ 127) (h : ¬ m < 0) (h2 : lessB own (l.getD m.toNat .zero).set = false) (hk : ¬ (k : Int) = m) (h3 : p.has = true) (h4 : lessB (furtherF (l.getD m.toNat .zero).set own p.set (k + 1)) p.set = false) : codeF own l m k = 5 := by
  simp only [codeF, hp]; rw [if_neg hc, if_neg (by rw [h2]; simp; omega), if_neg hk, if_neg (by rw [h3, h4]; simp)]
end
def intVals (l : List Int) : List Value := l.map (Value.int .i64)
def codesTo (own : DS) (l : List PB) (k : Nat) : List Int := (List.range l.length).map fun i => if i < k then codeF own l (pbest l) i else 0
theorem codesTo_len (own : DS) (l : List PB) (k : Nat) : (codesTo own l k).length = l.length := by simp [codesTo]
theorem codesTo_all (own : DS) (l : List PB) : codesTo own l l.length = codesF own l := by
  unfold codesTo codesF
  refine List.map_congr_left fun i hi => ?_
  rw [if_pos (by simpa using hi)]
theorem codesTo_set (own : DS) (l : List PB) (k : Nat) (hk : k < l.length) : (codesTo own l k).set k (codeF own l (pbest l) k) = codesTo own l (k + 1) := by
  refine List.ext_getElem (by simp [codesTo]) fun i h1 h2 => ?_
  have hi : i < l.length := by simpa [codesTo] using h2
  rw [List.getElem_set]
  by_cases e : k = i
  · rw [if_pos e]; simp [codesTo, e]
  · rw [if_neg e]
    simp only [codesTo, List.getElem_map, List.getElem_range]
    by_cases h : i < k
    · rw [if_pos h, if_pos (by omega)]
    · rw [if_neg h, if_neg (by omega)]
theorem grown_of_below {w w1 : World} (h : Below w.heap.size w w1) (row : Option Nat) : w.grownBy w1 row := ⟨h.os, h.tape, h.output, h.size, fun i hi _ => h.block i hi⟩
theorem BoxAt.far {w : World} {g b j : Nat} {d : DS} (h : BoxAt w g d) (hne : b ≠ g) (v : Value) : BoxAt (w.setCell ⟨b, j, none⟩ v) g d := by
  have hn : ∀ i : Nat, (⟨b, j, none⟩ : Addr) ≠ ⟨g, i, none⟩ := fun i e => hne (by injection e)
  obtain ⟨h0, h1, h2, h3, h4, h5, h6, h7, h8, h9, h10⟩ := h
  refine ⟨?_, ?_, ?_, ?_, ?_, ?_, ?_, ?_, ?_, ?_, ?_⟩ <;> (rw [World.cell?_setCell_other _ _ _ _ (hn _)]; assumption)
/-- What holds at the head of round k. -/
structure DRel (w : World) (own : DS) (l : List PB) (ga gc : Nat) (k : Nat) (wr : World) : Prop where
  below : Below w.heap.size w wr
  box : BoxAt wr w.heap.size own
  at_ : wr.cell? ⟨ga, 0, none⟩ = some (.int .i64 (pbest l))
  row : wr.ownsRow (ga + 1) 3 1 (.slice (some ⟨gc, 0, none⟩) l.length l.length) l.length (intVals (codesTo own l k))
  lo : w.heap.size < ga
  mid : ga < gc
  hi : gc < wr.heap.size
theorem DRel.next {w : World} {own : DS} {l : List PB} {ga gc k : Nat} {wr X : World} (h : DRel w own l ga gc k wr) (hk : k < l.length) (hb : Below wr.heap.size wr X) {c : Int} (hc : codeF own l (pbest l) k = c) : DRel w own l ga gc (k + 1) (X.setCell ⟨gc, k, none⟩ (.int .i64 c)) := by
  have hlo := h.lo
  have hmid := h.mid
  refine ⟨(below_then h.below hb).setCell (by simp; omega) _, (h.box.below hb).far (by omega) _, ?_, ?_, hlo, hmid, by rw [World.size_setCell]; have := h.hi; have := hb.size; omega⟩
  · rw [World.cell?_setCell_other _ _ _ _ (fun e => by injection e; omega)]
    exact cell_below hb h.at_
  · have h1 := (h.row.kept (grown_of_below hb none) (.inr (by simp [Value.ownBlock]))).stored k (.int .i64 c)
    have h1 := h1.1
    have e : intVals (codesTo own l (k + 1)) = (intVals (codesTo own l k)).set k (.int .i64 c) := by
      rw [← codesTo_set own l k hk, hc, intVals, intVals, List.map_set]
    rw [e]; exact h1
theorem DRel.cell {w : World} {own : DS} {l : List PB} {ga gc k : Nat} {wr : World} (h : DRel w own l ga gc k wr) (hk : k < l.length) : wr.cell? ⟨gc, k, none⟩ = some (.int .i64 0) := by
  rw [h.row.cellAt k (by simpa using hk)]
  simp [intVals, codesTo, hk]
theorem DRel.free {w : World} {own : DS} {l : List PB} {ga gc k : Nat} {wr : World} (h : DRel w own l ga gc k wr) : wr.frozen? ⟨gc, k, none⟩ = false := h.row.frozenAt k
theorem DRel.done {w : World} {own : DS} {l : List PB} {ga gc : Nat} {wr : World} (h : DRel w own l ga gc l.length wr) : RowAt wr gc (codesF own l) := fun j hj => by
  have hj' : j < l.length := by rwa [codes_len] at hj
  rw [h.row.cellAt j (by simpa using hj'), codesTo_all]
  simp [intVals, List.getElem?_eq_getElem hj, List.getD_eq_getElem?_getD]

set_option maxRecDepth 100000 in
set_option maxHeartbeats 4000000 in
theorem decide_some (own : DS) (l : List PB) (b off c : Nat) (hn0 : 0 < l.length) (hn8 : l.length ≤ 8) (hst : ∀ p ∈ l, -9223372036854775808 ≤ p.set.steps) (w : World) (hr : PBRow w b off l) :
    Calls Try.prog 38 #[own.v, .slice (some ⟨b, off, none⟩) l.length c] w fun e w' => ∃ g, e = .returned (.tuple #[.slice (some ⟨g, 0, none⟩) l.length l.length, .int .i64 0]) ∧ Below w.heap.size w w' ∧ w.heap.size ≤ g ∧ RowAt w' g (codesF own l) := by
  have hmf : ∀ (fn : Fn) (first cap : Array Value) (w : World), (Instr.makeFunc fn first cap).run Try.prog w = .ok (.func fn first cap) w := fun _ _ _ _ => rfl
  obtain ⟨i0, hi0, hz0, hz1, hz2⟩ := info_parts infoInt
  have HR := Lib.hid hr
  have HST := Lib.hid hst
  have HPB := Lib.hid (fun w h => pbest_any l b off c w (by omega) h)
  clear hr hst
  go_enter Try.func38, Try.ntmps38
  go_wp2_with fail
  have kO : BoxAt (w.alloc (.cells #[.int .i64 own.p1, .int .i64 own.cls, .int .i64 own.acc, .int .i64 own.var, .int .i64 own.p2, .int .u64 own.gm, .int .i64 own.steps, .int .u64 own.sender, .int .i64 own.sport, .int .u64 own.recv, .int .i64 own.rport] 35)) w.heap.size own := BoxAt.of (heap_alloc_new w _)
  have hb0 : Below w.heap.size w (w.alloc (.cells #[.int .i64 own.p1, .int .i64 own.cls, .int .i64 own.acc, .int .i64 own.var, .int .i64 own.p2, .int .u64 own.gm, .int .i64 own.steps, .int .u64 own.sender, .int .i64 own.sport, .int .u64 own.recv, .int .i64 own.rport] 35)) := (Below.refl _ _).alloc (Nat.le_refl _) _
  refine (HPB.out _ (HR.out.below hb0)).mono ?_
  rintro e w1 ⟨rfl, hb1⟩
  have hb01 := below_then hb0 hb1
  have kO1 := kO.below hb1
  have hs1 : w.heap.size + 1 ≤ w1.heap.size := by have := hb1.size; simpa using this
  have HB01 := Lib.hid hb01
  have HO1 := Lib.hid kO1
  clear kO hb0 hb1 hb01 kO1
  have hb8 : i0.bytes * l.length ≤ 281474976710656 := by rw [hz2]; omega
  have hml : l.length ≤ maxLen := by unfold maxLen; omega
  have H2 := Lib.hid hz2
  clear hz2
  go_wp2_with (at_make; refine wpList_make_full _ rfl _ _ 57 rfl (w1.heap.size + 1) 3 i0 (.int .i64 0) 1 Try.underlying57 hi0 hz0 hz1 .i64 .i64 _ _ l.length rfl rfl rfl rfl hb8 hml (by simp) ?_)
  intro w2 hown hgr
  have hrel0 : DRel w own l w1.heap.size (w1.heap.size + 1) 0 w2 := by
    have hba : Below w1.heap.size w1 (w1.alloc (.cells #[.int .i64 (pbest l)] 3)) := (Below.refl _ _).alloc (Nat.le_refl _) _
    have hb2 : Below w1.heap.size w1 w2 := hba.grown hgr (by simp) (fun k e => by cases e)
    refine ⟨below_then HB01.out hb2, HO1.out.below hb2, ?_, ?_, by omega, by omega, ?_⟩
    · have hc : (w1.alloc (.cells #[.int .i64 (pbest l)] 3)).cell? ⟨w1.heap.size, 0, none⟩ = some (.int .i64 (pbest l)) := (cell_of_row _ _ 0 _ _ (0, 0) (heap_alloc_new w1 _)).trans rfl
      have hb3 : Below (w1.alloc (.cells #[.int .i64 (pbest l)] 3)).heap.size (w1.alloc (.cells #[.int .i64 (pbest l)] 3)) w2 := ⟨hgr.os, hgr.tape, hgr.output, hgr.size, fun i hi => hgr.block i hi (by simp)⟩
      exact cell_below hb3 hc
    · have e : intVals (codesTo own l 0) = (madeCells #[Value.int .i64 0] l.length).toList := by
        rw [madeInts]
        simp only [intVals, codesTo]
        refine List.ext_getElem (by simp) fun i h1 h2 => by simp
      rw [e]; exact hown
    · rcases hown.2 with ⟨h, _⟩ | ⟨g, cap, cur, h, _, hh, _⟩
      · cases h
      · injection h with h _ _
        injection h with h
        injection h with h _ _
        rw [h]; exact (Array.getElem?_eq_some_iff.1 hh).1
  have HREL0 := Lib.hid hrel0
  have hga : w.heap.size < w1.heap.size := by omega
  clear hown hgr hrel0 HB01 HO1 hi0 hz0 hz1 hb8 hml hs1
  generalize w1.heap.size = ga at *
  go_wp2_with fail
  go_loopw [22] (fun i wr => ∃ k : Nat, k ≤ l.length ∧ i = .int .i64 k ∧ DRel w own l ga (ga + 1) k wr) (fun i _ => l.length - (intOf i).toNat)
  case atStart => exact ⟨0, Nat.zero_le _, rfl, HREL0.out⟩
  case round =>
    obtain ⟨k, hk, rfl, hrel⟩ := hrel
    have REL := Lib.hid hrel
    clear hrel HREL0
    by_cases hlt : k < l.length
    · have hk0 : (0 : Int) ≤ (k : Int) := by omega
      have hk1 : (k : Int) < (l.length : Int) := by omega
      obtain ⟨p, hp⟩ : ∃ p, l.getD k .zero = p := ⟨_, rfl⟩
      have hA := (HR.out k hlt).below REL.out.below
      rw [hp] at hA
      have HP := Lib.hid hp
      have hws := REL.out.lo
      have hwz := REL.out.hi
      have hl1 : w.heap.size < wr.heap.size := by omega
      have hl2 : ga < wr.heap.size := by omega
      clear hp
      obtain ⟨m, hm⟩ : ∃ m, pbest l = m := ⟨_, rfl⟩
      have HM := Lib.hid hm
      have hmr := pbTo_range l l.length
      rw [show pbTo l l.length = m from hm] at hmr
      clear hm
      by_cases hc : own.cls ≤ 127
      · have hc' : decide (own.cls ≤ 127) = true := by simpa using hc
        cases hph : p.has with
        | false =>
          have CF := Lib.hid (show codeF own l (pbest l) k = 1 from by rw [HM.out]; exact code_m1 HP.out hc (.inl hph))
          obtain ⟨hh, a0, a1, a2, a3, a4, a5, a6, a7, a8, a9, a10⟩ := hA
          rw [hph] at hh
          have HPH := Lib.hid hph
          clear hph
          go_upto_region 10 with (fail)
          generalize hW : wr.alloc _ = W
          have hbW : Below wr.heap.size wr W := by rw [← hW]; exact (Below.refl _ _).alloc (Nat.le_refl _) _
          have hP : PBAt W wr.heap.size 0 p := by rw [← hW]; exact PBAt.of (by rw [HPH.out]; exact heap_alloc_new wr _)
          have HW := Lib.hid hbW
          clear hW hh a0 a1 a2 a3 a4 a5 a6 a7 a8 a9 a10
          have p0 := hP.has_aft
          rw [HPH.out] at p0
          obtain ⟨a0, a1, a2, a3, a4, a5, a6, a7, a8, a9, a10⟩ := hP.2.aft
          obtain ⟨o0, o1, o2, o3, o4, o5, o6, o7, o8, o9, o10⟩ := (REL.out.box.below hbW).aft
          have t0 : ∀ u : Aft W, u.now.cell? ⟨ga, 0, none⟩ = some (.int .i64 m) := fun u => u.cell (by rw [← HM.out]; exact cell_below hbW REL.out.at_)
          have q0 : ∀ u : Aft W, u.now.cell? ⟨ga + 1, k, none⟩ = some (.int .i64 0) := fun u => u.cell (cell_below hbW (REL.out.cell hlt))
          have f0 : ∀ u : Aft W, u.now.frozen? ⟨ga + 1, k, none⟩ = false := fun u => (u.below.frozen (p := ⟨ga + 1, k, none⟩) (by have := hbW.size; simp; omega)).trans ((hbW.frozen (p := ⟨ga + 1, k, none⟩) (by simp; omega)).trans REL.out.free)
          clear hbW hP
          obtain ⟨u, hu⟩ : ∃ u : Aft W, u.now = W := ⟨⟨W, Below.refl _ _⟩, rfl⟩
          rw [← hu]
          clear hu
          go_wp2_with fail
          go_roundw
          case rel => exact ⟨k + 1, by omega, by go_num, REL.out.next hlt (below_then HW.out u.below) CF.out⟩
          case measure => simp [intOf]; omega
        | true =>
          cases hl : lessB own p.set with
          | true =>
            have CF := Lib.hid (show codeF own l (pbest l) k = 1 from by rw [HM.out]; exact code_m1 HP.out hc (.inr hl))
            have HL := Lib.hid hl
            clear hl
            obtain ⟨hh, a0, a1, a2, a3, a4, a5, a6, a7, a8, a9, a10⟩ := hA
            rw [hph] at hh
            have HPH := Lib.hid hph
            clear hph
            go_upto_region 10 with (fail)
            generalize hW : wr.alloc _ = W
            have hbW : Below wr.heap.size wr W := by rw [← hW]; exact (Below.refl _ _).alloc (Nat.le_refl _) _
            have hP : PBAt W wr.heap.size 0 p := by rw [← hW]; exact PBAt.of (by rw [HPH.out]; exact heap_alloc_new wr _)
            have HW := Lib.hid hbW
            clear hW hh a0 a1 a2 a3 a4 a5 a6 a7 a8 a9 a10
            have p0 := hP.has_aft
            rw [HPH.out] at p0
            obtain ⟨a0, a1, a2, a3, a4, a5, a6, a7, a8, a9, a10⟩ := hP.2.aft
            obtain ⟨o0, o1, o2, o3, o4, o5, o6, o7, o8, o9, o10⟩ := (REL.out.box.below hbW).aft
            have t0 : ∀ u : Aft W, u.now.cell? ⟨ga, 0, none⟩ = some (.int .i64 m) := fun u => u.cell (by rw [← HM.out]; exact cell_below hbW REL.out.at_)
            have q0 : ∀ u : Aft W, u.now.cell? ⟨ga + 1, k, none⟩ = some (.int .i64 0) := fun u => u.cell (cell_below hbW (REL.out.cell hlt))
            have f0 : ∀ u : Aft W, u.now.frozen? ⟨ga + 1, k, none⟩ = false := fun u => (u.below.frozen (p := ⟨ga + 1, k, none⟩) (by have := hbW.size; simp; omega)).trans ((hbW.frozen (p := ⟨ga + 1, k, none⟩) (by simp; omega)).trans REL.out.free)
            clear hbW hP
            obtain ⟨u, hu⟩ : ∃ u : Aft W, u.now = W := ⟨⟨W, Below.refl _ _⟩, rfl⟩
            rw [← hu]
            clear hu
            go_wp2_with fail
            refine (calm_of (less_true HL.out _)).mono ?_
            rintro e _ ⟨rfl, u, rfl⟩
            go_wp2_with fail
            go_roundw
            case rel => exact ⟨k + 1, by omega, by go_num, REL.out.next hlt (below_then HW.out u.below) CF.out⟩
            case measure => simp [intOf]; omega
          | false =>
            have CF := Lib.hid (show codeF own l (pbest l) k = 4 from by rw [HM.out]; exact code_p1 HP.out hc hph hl)
            have HL := Lib.hid hl
            clear hl
            obtain ⟨hh, a0, a1, a2, a3, a4, a5, a6, a7, a8, a9, a10⟩ := hA
            rw [hph] at hh
            have HPH := Lib.hid hph
            clear hph
            go_upto_region 10 with (fail)
            generalize hW : wr.alloc _ = W
            have hbW : Below wr.heap.size wr W := by rw [← hW]; exact (Below.refl _ _).alloc (Nat.le_refl _) _
            have hP : PBAt W wr.heap.size 0 p := by rw [← hW]; exact PBAt.of (by rw [HPH.out]; exact heap_alloc_new wr _)
            have HW := Lib.hid hbW
            clear hW hh a0 a1 a2 a3 a4 a5 a6 a7 a8 a9 a10
            have p0 := hP.has_aft
            rw [HPH.out] at p0
            obtain ⟨a0, a1, a2, a3, a4, a5, a6, a7, a8, a9, a10⟩ := hP.2.aft
            obtain ⟨o0, o1, o2, o3, o4, o5, o6, o7, o8, o9, o10⟩ := (REL.out.box.below hbW).aft
            have t0 : ∀ u : Aft W, u.now.cell? ⟨ga, 0, none⟩ = some (.int .i64 m) := fun u => u.cell (by rw [← HM.out]; exact cell_below hbW REL.out.at_)
            have q0 : ∀ u : Aft W, u.now.cell? ⟨ga + 1, k, none⟩ = some (.int .i64 0) := fun u => u.cell (cell_below hbW (REL.out.cell hlt))
            have f0 : ∀ u : Aft W, u.now.frozen? ⟨ga + 1, k, none⟩ = false := fun u => (u.below.frozen (p := ⟨ga + 1, k, none⟩) (by have := hbW.size; simp; omega)).trans ((hbW.frozen (p := ⟨ga + 1, k, none⟩) (by simp; omega)).trans REL.out.free)
            clear hbW hP
            obtain ⟨u, hu⟩ : ∃ u : Aft W, u.now = W := ⟨⟨W, Below.refl _ _⟩, rfl⟩
            rw [← hu]
            clear hu
            go_wp2_with fail
            refine (calm_of (less_false HL.out _)).mono ?_
            rintro e _ ⟨rfl, u, rfl⟩
            go_wp2_with fail
            go_roundw
            case rel => exact ⟨k + 1, by omega, by go_num, REL.out.next hlt (below_then HW.out u.below) CF.out⟩
            case measure => simp [intOf]; omega
      · have hc' : decide (own.cls ≤ 127) = false := by simpa using hc
        by_cases hmn : m < 0
        · have hg : decide (m < 0) = true := by simpa using hmn
          have CF := Lib.hid (show codeF own l (pbest l) k = 2 from by rw [HM.out]; exact code_m2 hc (.inl hmn))
          cases hph : p.has with
          | false =>
            obtain ⟨hh, a0, a1, a2, a3, a4, a5, a6, a7, a8, a9, a10⟩ := hA
            rw [hph] at hh
            have HPH := Lib.hid hph
            clear hph
            go_upto_region 10 with (fail)
            generalize hW : wr.alloc _ = W
            have hbW : Below wr.heap.size wr W := by rw [← hW]; exact (Below.refl _ _).alloc (Nat.le_refl _) _
            have hP : PBAt W wr.heap.size 0 p := by rw [← hW]; exact PBAt.of (by rw [HPH.out]; exact heap_alloc_new wr _)
            have HW := Lib.hid hbW
            clear hW hh a0 a1 a2 a3 a4 a5 a6 a7 a8 a9 a10
            have p0 := hP.has_aft
            rw [HPH.out] at p0
            obtain ⟨a0, a1, a2, a3, a4, a5, a6, a7, a8, a9, a10⟩ := hP.2.aft
            obtain ⟨o0, o1, o2, o3, o4, o5, o6, o7, o8, o9, o10⟩ := (REL.out.box.below hbW).aft
            have t0 : ∀ u : Aft W, u.now.cell? ⟨ga, 0, none⟩ = some (.int .i64 m) := fun u => u.cell (by rw [← HM.out]; exact cell_below hbW REL.out.at_)
            have q0 : ∀ u : Aft W, u.now.cell? ⟨ga + 1, k, none⟩ = some (.int .i64 0) := fun u => u.cell (cell_below hbW (REL.out.cell hlt))
            have f0 : ∀ u : Aft W, u.now.frozen? ⟨ga + 1, k, none⟩ = false := fun u => (u.below.frozen (p := ⟨ga + 1, k, none⟩) (by have := hbW.size; simp; omega)).trans ((hbW.frozen (p := ⟨ga + 1, k, none⟩) (by simp; omega)).trans REL.out.free)
            clear hbW hP
            obtain ⟨u, hu⟩ : ∃ u : Aft W, u.now = W := ⟨⟨W, Below.refl _ _⟩, rfl⟩
            rw [← hu]
            clear hu
            go_wp2_with fail
            refine wp_region_calm_at (u := u) (by kernel_rfl) (by kernel_rfl) ?_
            repeat (go_big_quiet_step (fail))
            refine wpQuiet_nil ?_
            rintro _ ⟨u, rfl⟩
            go_wp2_with fail
            go_roundw
            case rel => exact ⟨k + 1, by omega, by go_num, REL.out.next hlt (below_then HW.out u.below) CF.out⟩
            case measure => simp [intOf]; omega
          | true =>
            obtain ⟨hh, a0, a1, a2, a3, a4, a5, a6, a7, a8, a9, a10⟩ := hA
            rw [hph] at hh
            have HPH := Lib.hid hph
            clear hph
            go_upto_region 10 with (fail)
            generalize hW : wr.alloc _ = W
            have hbW : Below wr.heap.size wr W := by rw [← hW]; exact (Below.refl _ _).alloc (Nat.le_refl _) _
            have hP : PBAt W wr.heap.size 0 p := by rw [← hW]; exact PBAt.of (by rw [HPH.out]; exact heap_alloc_new wr _)
            have HW := Lib.hid hbW
            clear hW hh a0 a1 a2 a3 a4 a5 a6 a7 a8 a9 a10
            have p0 := hP.has_aft
            rw [HPH.out] at p0
            obtain ⟨a0, a1, a2, a3, a4, a5, a6, a7, a8, a9, a10⟩ := hP.2.aft
            obtain ⟨o0, o1, o2, o3, o4, o5, o6, o7, o8, o9, o10⟩ := (REL.out.box.below hbW).aft
            have t0 : ∀ u : Aft W, u.now.cell? ⟨ga, 0, none⟩ = some (.int .i64 m) := fun u => u.cell (by rw [← HM.out]; exact cell_below hbW REL.out.at_)
            have q0 : ∀ u : Aft W, u.now.cell? ⟨ga + 1, k, none⟩ = some (.int .i64 0) := fun u => u.cell (cell_below hbW (REL.out.cell hlt))
            have f0 : ∀ u : Aft W, u.now.frozen? ⟨ga + 1, k, none⟩ = false := fun u => (u.below.frozen (p := ⟨ga + 1, k, none⟩) (by have := hbW.size; simp; omega)).trans ((hbW.frozen (p := ⟨ga + 1, k, none⟩) (by simp; omega)).trans REL.out.free)
            clear hbW hP
            obtain ⟨u, hu⟩ : ∃ u : Aft W, u.now = W := ⟨⟨W, Below.refl _ _⟩, rfl⟩
            rw [← hu]
            clear hu
            go_wp2_with fail
            refine wp_region_calm_at (u := u) (by kernel_rfl) (by kernel_rfl) ?_
            repeat (go_big_quiet_step (fail))
            refine wpQuiet_nil ?_
            rintro _ ⟨u, rfl⟩
            go_wp2_with fail
            go_roundw
            case rel => exact ⟨k + 1, by omega, by go_num, REL.out.next hlt (below_then HW.out u.below) CF.out⟩
            case measure => simp [intOf]; omega
        · have hg : decide (m < 0) = false := by simpa using hmn
          obtain ⟨n, rfl⟩ : ∃ n : Nat, m = n := ⟨m.toNat, by omega⟩
          have hn : n < l.length := by omega
          have hn0 : (0 : Int) ≤ (n : Int) := by omega
          have hn1 : (n : Int) < (l.length : Int) := by omega
          obtain ⟨bp, hbp⟩ : ∃ bp, l.getD n .zero = bp := ⟨_, rfl⟩
          have hbest := HR.out n hn
          rw [hbp] at hbest
          have HBEST := Lib.hid hbest
          have hbp' : l.getD (n : Int).toNat .zero = bp := by rw [Int.toNat_natCast]; exact hbp
          have HBS := Lib.hid (HST.out bp (by rw [← hbp, List.getD_eq_getElem?_getD, List.getElem?_eq_getElem hn]; exact List.getElem_mem hn))
          have HBP := Lib.hid hbp'
          clear hbest hbp hbp' hmr
          cases hl : lessB own bp.set with
          | true =>
            have CF := Lib.hid (show codeF own l (pbest l) k = 2 from by rw [HM.out]; exact code_m2 hc (.inr (by rw [HBP.out]; exact hl)))
            have HL := Lib.hid hl
            clear hl
            cases hph : p.has with
            | false =>
              obtain ⟨hh, a0, a1, a2, a3, a4, a5, a6, a7, a8, a9, a10⟩ := hA
              rw [hph] at hh
              have HPH := Lib.hid hph
              clear hph
              go_upto_region 10 with (fail)
              generalize hW : wr.alloc _ = W
              have hbW : Below wr.heap.size wr W := by rw [← hW]; exact (Below.refl _ _).alloc (Nat.le_refl _) _
              have hP : PBAt W wr.heap.size 0 p := by rw [← hW]; exact PBAt.of (by rw [HPH.out]; exact heap_alloc_new wr _)
              have HW := Lib.hid hbW
              clear hW hh a0 a1 a2 a3 a4 a5 a6 a7 a8 a9 a10
              have p0 := hP.has_aft
              rw [HPH.out] at p0
              obtain ⟨a0, a1, a2, a3, a4, a5, a6, a7, a8, a9, a10⟩ := hP.2.aft
              obtain ⟨o0, o1, o2, o3, o4, o5, o6, o7, o8, o9, o10⟩ := (REL.out.box.below hbW).aft
              have t0 : ∀ u : Aft W, u.now.cell? ⟨ga, 0, none⟩ = some (.int .i64 n) := fun u => u.cell (by rw [← HM.out]; exact cell_below hbW REL.out.at_)
              have q0 : ∀ u : Aft W, u.now.cell? ⟨ga + 1, k, none⟩ = some (.int .i64 0) := fun u => u.cell (cell_below hbW (REL.out.cell hlt))
              have f0 : ∀ u : Aft W, u.now.frozen? ⟨ga + 1, k, none⟩ = false := fun u => (u.below.frozen (p := ⟨ga + 1, k, none⟩) (by have := hbW.size; simp; omega)).trans ((hbW.frozen (p := ⟨ga + 1, k, none⟩) (by simp; omega)).trans REL.out.free)
              obtain ⟨b0, b1, b2, b3, b4, b5, b6, b7, b8, b9, b10⟩ := ((HBEST.out.below REL.out.below).below hbW).2.aft
              clear hbW hP
              obtain ⟨u, hu⟩ : ∃ u : Aft W, u.now = W := ⟨⟨W, Below.refl _ _⟩, rfl⟩
              rw [← hu]
              clear hu
              go_wp2_with fail
              refine wp_region_calm_at (u := u) (by kernel_rfl) (by kernel_rfl) ?_
              repeat (go_big_quiet_step (((go_at_call 14; exact calm_of (less_true HL.out _)))))
              refine wpQuiet_nil ?_
              rintro _ ⟨u, rfl⟩
              go_wp2_with fail
              go_roundw
              case rel => exact ⟨k + 1, by omega, by go_num, REL.out.next hlt (below_then HW.out u.below) CF.out⟩
              case measure => simp [intOf]; omega
            | true =>
              obtain ⟨hh, a0, a1, a2, a3, a4, a5, a6, a7, a8, a9, a10⟩ := hA
              rw [hph] at hh
              have HPH := Lib.hid hph
              clear hph
              go_upto_region 10 with (fail)
              generalize hW : wr.alloc _ = W
              have hbW : Below wr.heap.size wr W := by rw [← hW]; exact (Below.refl _ _).alloc (Nat.le_refl _) _
              have hP : PBAt W wr.heap.size 0 p := by rw [← hW]; exact PBAt.of (by rw [HPH.out]; exact heap_alloc_new wr _)
              have HW := Lib.hid hbW
              clear hW hh a0 a1 a2 a3 a4 a5 a6 a7 a8 a9 a10
              have p0 := hP.has_aft
              rw [HPH.out] at p0
              obtain ⟨a0, a1, a2, a3, a4, a5, a6, a7, a8, a9, a10⟩ := hP.2.aft
              obtain ⟨o0, o1, o2, o3, o4, o5, o6, o7, o8, o9, o10⟩ := (REL.out.box.below hbW).aft
              have t0 : ∀ u : Aft W, u.now.cell? ⟨ga, 0, none⟩ = some (.int .i64 n) := fun u => u.cell (by rw [← HM.out]; exact cell_below hbW REL.out.at_)
              have q0 : ∀ u : Aft W, u.now.cell? ⟨ga + 1, k, none⟩ = some (.int .i64 0) := fun u => u.cell (cell_below hbW (REL.out.cell hlt))
              have f0 : ∀ u : Aft W, u.now.frozen? ⟨ga + 1, k, none⟩ = false := fun u => (u.below.frozen (p := ⟨ga + 1, k, none⟩) (by have := hbW.size; simp; omega)).trans ((hbW.frozen (p := ⟨ga + 1, k, none⟩) (by simp; omega)).trans REL.out.free)
              obtain ⟨b0, b1, b2, b3, b4, b5, b6, b7, b8, b9, b10⟩ := ((HBEST.out.below REL.out.below).below hbW).2.aft
              clear hbW hP
              obtain ⟨u, hu⟩ : ∃ u : Aft W, u.now = W := ⟨⟨W, Below.refl _ _⟩, rfl⟩
              rw [← hu]
              clear hu
              go_wp2_with fail
              refine wp_region_calm_at (u := u) (by kernel_rfl) (by kernel_rfl) ?_
              repeat (go_big_quiet_step (((go_at_call 14; exact calm_of (less_true HL.out _)))))
              refine wpQuiet_nil ?_
              rintro _ ⟨u, rfl⟩
              go_wp2_with fail
              go_roundw
              case rel => exact ⟨k + 1, by omega, by go_num, REL.out.next hlt (below_then HW.out u.below) CF.out⟩
              case measure => simp [intOf]; omega
          | false =>
            by_cases hkn : k = n
            · have CF := Lib.hid (show codeF own l (pbest l) k = 6 from by rw [HM.out]; exact code_s1 hc hmn (by rw [HBP.out]; exact hl) (by omega))
              have hkb : ((k : Int) == (n : Int)) = true := by simp [hkn]
              clear hkn
              have HL := Lib.hid hl
              clear hl
              cases hph : p.has with
              | false =>
                obtain ⟨hh, a0, a1, a2, a3, a4, a5, a6, a7, a8, a9, a10⟩ := hA
                rw [hph] at hh
                have HPH := Lib.hid hph
                clear hph
                go_upto_region 10 with (fail)
                generalize hW : wr.alloc _ = W
                have hbW : Below wr.heap.size wr W := by rw [← hW]; exact (Below.refl _ _).alloc (Nat.le_refl _) _
                have hP : PBAt W wr.heap.size 0 p := by rw [← hW]; exact PBAt.of (by rw [HPH.out]; exact heap_alloc_new wr _)
                have HW := Lib.hid hbW
                clear hW hh a0 a1 a2 a3 a4 a5 a6 a7 a8 a9 a10
                have p0 := hP.has_aft
                rw [HPH.out] at p0
                obtain ⟨a0, a1, a2, a3, a4, a5, a6, a7, a8, a9, a10⟩ := hP.2.aft
                obtain ⟨o0, o1, o2, o3, o4, o5, o6, o7, o8, o9, o10⟩ := (REL.out.box.below hbW).aft
                have t0 : ∀ u : Aft W, u.now.cell? ⟨ga, 0, none⟩ = some (.int .i64 n) := fun u => u.cell (by rw [← HM.out]; exact cell_below hbW REL.out.at_)
                have q0 : ∀ u : Aft W, u.now.cell? ⟨ga + 1, k, none⟩ = some (.int .i64 0) := fun u => u.cell (cell_below hbW (REL.out.cell hlt))
                have f0 : ∀ u : Aft W, u.now.frozen? ⟨ga + 1, k, none⟩ = false := fun u => (u.below.frozen (p := ⟨ga + 1, k, none⟩) (by have := hbW.size; simp; omega)).trans ((hbW.frozen (p := ⟨ga + 1, k, none⟩) (by simp; omega)).trans REL.out.free)
                obtain ⟨b0, b1, b2, b3, b4, b5, b6, b7, b8, b9, b10⟩ := ((HBEST.out.below REL.out.below).below hbW).2.aft
                clear hbW hP
                obtain ⟨u, hu⟩ : ∃ u : Aft W, u.now = W := ⟨⟨W, Below.refl _ _⟩, rfl⟩
                rw [← hu]
                clear hu
                go_wp2_with fail
                refine wp_region_calm_at (u := u) (by kernel_rfl) (by kernel_rfl) ?_
                repeat (go_big_quiet_step (((go_at_call 14; exact calm_of (less_false HL.out _)))))
                refine wpQuiet_nil ?_
                rintro _ ⟨u, rfl⟩
                go_wp2_with fail
                refine (isbest_any _ n ga _ (t0 u)).mono ?_
                rintro e w' ⟨rfl, rfl⟩
                go_wp2_with fail
                go_roundw
                case rel => exact ⟨k + 1, by omega, by go_num, REL.out.next hlt (below_then HW.out u.below) CF.out⟩
                case measure => simp [intOf]; omega
              | true =>
                obtain ⟨hh, a0, a1, a2, a3, a4, a5, a6, a7, a8, a9, a10⟩ := hA
                rw [hph] at hh
                have HPH := Lib.hid hph
                clear hph
                go_upto_region 10 with (fail)
                generalize hW : wr.alloc _ = W
                have hbW : Below wr.heap.size wr W := by rw [← hW]; exact (Below.refl _ _).alloc (Nat.le_refl _) _
                have hP : PBAt W wr.heap.size 0 p := by rw [← hW]; exact PBAt.of (by rw [HPH.out]; exact heap_alloc_new wr _)
                have HW := Lib.hid hbW
                clear hW hh a0 a1 a2 a3 a4 a5 a6 a7 a8 a9 a10
                have p0 := hP.has_aft
                rw [HPH.out] at p0
                obtain ⟨a0, a1, a2, a3, a4, a5, a6, a7, a8, a9, a10⟩ := hP.2.aft
                obtain ⟨o0, o1, o2, o3, o4, o5, o6, o7, o8, o9, o10⟩ := (REL.out.box.below hbW).aft
                have t0 : ∀ u : Aft W, u.now.cell? ⟨ga, 0, none⟩ = some (.int .i64 n) := fun u => u.cell (by rw [← HM.out]; exact cell_below hbW REL.out.at_)
                have q0 : ∀ u : Aft W, u.now.cell? ⟨ga + 1, k, none⟩ = some (.int .i64 0) := fun u => u.cell (cell_below hbW (REL.out.cell hlt))
                have f0 : ∀ u : Aft W, u.now.frozen? ⟨ga + 1, k, none⟩ = false := fun u => (u.below.frozen (p := ⟨ga + 1, k, none⟩) (by have := hbW.size; simp; omega)).trans ((hbW.frozen (p := ⟨ga + 1, k, none⟩) (by simp; omega)).trans REL.out.free)
                obtain ⟨b0, b1, b2, b3, b4, b5, b6, b7, b8, b9, b10⟩ := ((HBEST.out.below REL.out.below).below hbW).2.aft
                clear hbW hP
                obtain ⟨u, hu⟩ : ∃ u : Aft W, u.now = W := ⟨⟨W, Below.refl _ _⟩, rfl⟩
                rw [← hu]
                clear hu
                go_wp2_with fail
                refine wp_region_calm_at (u := u) (by kernel_rfl) (by kernel_rfl) ?_
                repeat (go_big_quiet_step (((go_at_call 14; exact calm_of (less_false HL.out _)))))
                refine wpQuiet_nil ?_
                rintro _ ⟨u, rfl⟩
                go_wp2_with fail
                refine (isbest_any _ n ga _ (t0 u)).mono ?_
                rintro e w' ⟨rfl, rfl⟩
                go_wp2_with fail
                go_roundw
                case rel => exact ⟨k + 1, by omega, by go_num, REL.out.next hlt (below_then HW.out u.below) CF.out⟩
                case measure => simp [intOf]; omega
            · have hkb : ((k : Int) == (n : Int)) = false := by simp; omega
              have hkn' : ¬ (k : Int) = (n : Int) := by omega
              have HKN := Lib.hid hkn'
              clear hkn hkn'
              cases hph : p.has with
              | false =>
                have CF := Lib.hid (show codeF own l (pbest l) k = 3 from by rw [HM.out]; exact code_m3 HP.out hc hmn (by rw [HBP.out]; exact hl) HKN.out (.inl hph))
                have HL := Lib.hid hl
                clear hl
                obtain ⟨hh, a0, a1, a2, a3, a4, a5, a6, a7, a8, a9, a10⟩ := hA
                rw [hph] at hh
                have HPH := Lib.hid hph
                clear hph
                go_upto_region 10 with (fail)
                generalize hW : wr.alloc _ = W
                have hbW : Below wr.heap.size wr W := by rw [← hW]; exact (Below.refl _ _).alloc (Nat.le_refl _) _
                have hP : PBAt W wr.heap.size 0 p := by rw [← hW]; exact PBAt.of (by rw [HPH.out]; exact heap_alloc_new wr _)
                have HW := Lib.hid hbW
                clear hW hh a0 a1 a2 a3 a4 a5 a6 a7 a8 a9 a10
                have p0 := hP.has_aft
                rw [HPH.out] at p0
                obtain ⟨a0, a1, a2, a3, a4, a5, a6, a7, a8, a9, a10⟩ := hP.2.aft
                obtain ⟨o0, o1, o2, o3, o4, o5, o6, o7, o8, o9, o10⟩ := (REL.out.box.below hbW).aft
                have t0 : ∀ u : Aft W, u.now.cell? ⟨ga, 0, none⟩ = some (.int .i64 n) := fun u => u.cell (by rw [← HM.out]; exact cell_below hbW REL.out.at_)
                have q0 : ∀ u : Aft W, u.now.cell? ⟨ga + 1, k, none⟩ = some (.int .i64 0) := fun u => u.cell (cell_below hbW (REL.out.cell hlt))
                have f0 : ∀ u : Aft W, u.now.frozen? ⟨ga + 1, k, none⟩ = false := fun u => (u.below.frozen (p := ⟨ga + 1, k, none⟩) (by have := hbW.size; simp; omega)).trans ((hbW.frozen (p := ⟨ga + 1, k, none⟩) (by simp; omega)).trans REL.out.free)
                obtain ⟨b0, b1, b2, b3, b4, b5, b6, b7, b8, b9, b10⟩ := ((HBEST.out.below REL.out.below).below hbW).2.aft
                clear hbW hP
                obtain ⟨u, hu⟩ : ∃ u : Aft W, u.now = W := ⟨⟨W, Below.refl _ _⟩, rfl⟩
                rw [← hu]
                clear hu
                go_wp2_with fail
                refine wp_region_calm_at (u := u) (by kernel_rfl) (by kernel_rfl) ?_
                repeat (go_big_quiet_step (((go_at_call 14; exact calm_of (less_false HL.out _)))))
                refine wpQuiet_nil ?_
                rintro _ ⟨u, rfl⟩
                go_wp2_with fail
                refine (isbest_any _ n ga _ (t0 u)).mono ?_
                rintro e w' ⟨rfl, rfl⟩
                go_wp2_with fail
                refine wp_region_calm_at (u := u) (by kernel_rfl) (by kernel_rfl) ?_
                repeat (go_big_quiet_step (fail))
                refine wpQuiet_nil ?_
                rintro _ ⟨u, rfl⟩
                go_wp2_with fail
                go_roundw
                case rel => exact ⟨k + 1, by omega, by go_num, REL.out.next hlt (below_then HW.out u.below) CF.out⟩
                case measure => simp [intOf]; omega
              | true =>
                cases hf : lessB (furtherF bp.set own p.set (k + 1)) p.set with
                | true =>
                  have CF := Lib.hid (show codeF own l (pbest l) k = 3 from by rw [HM.out]; exact code_m3 HP.out hc hmn (by rw [HBP.out]; exact hl) HKN.out (.inr (by rw [HBP.out]; exact hf)))
                  have HL := Lib.hid hl
                  clear hl
                  have HF := Lib.hid hf
                  clear hf
                  obtain ⟨hh, a0, a1, a2, a3, a4, a5, a6, a7, a8, a9, a10⟩ := hA
                  rw [hph] at hh
                  have HPH := Lib.hid hph
                  clear hph
                  go_upto_region 10 with (fail)
                  generalize hW : wr.alloc _ = W
                  have hbW : Below wr.heap.size wr W := by rw [← hW]; exact (Below.refl _ _).alloc (Nat.le_refl _) _
                  have hP : PBAt W wr.heap.size 0 p := by rw [← hW]; exact PBAt.of (by rw [HPH.out]; exact heap_alloc_new wr _)
                  have HW := Lib.hid hbW
                  clear hW hh a0 a1 a2 a3 a4 a5 a6 a7 a8 a9 a10
                  have p0 := hP.has_aft
                  rw [HPH.out] at p0
                  obtain ⟨a0, a1, a2, a3, a4, a5, a6, a7, a8, a9, a10⟩ := hP.2.aft
                  obtain ⟨o0, o1, o2, o3, o4, o5, o6, o7, o8, o9, o10⟩ := (REL.out.box.below hbW).aft
                  have t0 : ∀ u : Aft W, u.now.cell? ⟨ga, 0, none⟩ = some (.int .i64 n) := fun u => u.cell (by rw [← HM.out]; exact cell_below hbW REL.out.at_)
                  have q0 : ∀ u : Aft W, u.now.cell? ⟨ga + 1, k, none⟩ = some (.int .i64 0) := fun u => u.cell (cell_below hbW (REL.out.cell hlt))
                  have f0 : ∀ u : Aft W, u.now.frozen? ⟨ga + 1, k, none⟩ = false := fun u => (u.below.frozen (p := ⟨ga + 1, k, none⟩) (by have := hbW.size; simp; omega)).trans ((hbW.frozen (p := ⟨ga + 1, k, none⟩) (by simp; omega)).trans REL.out.free)
                  obtain ⟨b0, b1, b2, b3, b4, b5, b6, b7, b8, b9, b10⟩ := ((HBEST.out.below REL.out.below).below hbW).2.aft
                  clear hbW hP
                  obtain ⟨u, hu⟩ : ∃ u : Aft W, u.now = W := ⟨⟨W, Below.refl _ _⟩, rfl⟩
                  rw [← hu]
                  clear hu
                  go_wp2_with fail
                  refine wp_region_calm_at (u := u) (by kernel_rfl) (by kernel_rfl) ?_
                  repeat (go_big_quiet_step (((go_at_call 14; exact calm_of (less_false HL.out _)))))
                  refine wpQuiet_nil ?_
                  rintro _ ⟨u, rfl⟩
                  go_wp2_with fail
                  refine (isbest_any _ n ga _ (t0 u)).mono ?_
                  rintro e w' ⟨rfl, rfl⟩
                  go_wp2_with fail
                  refine wp_region_calm_at (u := u) (by kernel_rfl) (by kernel_rfl) ?_
                  repeat (go_big_quiet_step ((first | (go_at_call 58; exact calm_of (further_any bp.set own p.set _ HBS.out _)) | (go_at_call 14; exact calm_of (less_true HF.out _)))))
                  refine wpQuiet_nil ?_
                  rintro _ ⟨u, rfl⟩
                  go_wp2_with fail
                  go_roundw
                  case rel => exact ⟨k + 1, by omega, by go_num, REL.out.next hlt (below_then HW.out u.below) CF.out⟩
                  case measure => simp [intOf]; omega
                | false =>
                  have CF := Lib.hid (show codeF own l (pbest l) k = 5 from by rw [HM.out]; exact code_p2 HP.out hc hmn (by rw [HBP.out]; exact hl) HKN.out hph (by rw [HBP.out]; exact hf))
                  have HL := Lib.hid hl
                  clear hl
                  have HF := Lib.hid hf
                  clear hf
                  obtain ⟨hh, a0, a1, a2, a3, a4, a5, a6, a7, a8, a9, a10⟩ := hA
                  rw [hph] at hh
                  have HPH := Lib.hid hph
                  clear hph
                  go_upto_region 10 with (fail)
                  generalize hW : wr.alloc _ = W
                  have hbW : Below wr.heap.size wr W := by rw [← hW]; exact (Below.refl _ _).alloc (Nat.le_refl _) _
                  have hP : PBAt W wr.heap.size 0 p := by rw [← hW]; exact PBAt.of (by rw [HPH.out]; exact heap_alloc_new wr _)
                  have HW := Lib.hid hbW
                  clear hW hh a0 a1 a2 a3 a4 a5 a6 a7 a8 a9 a10
                  have p0 := hP.has_aft
                  rw [HPH.out] at p0
                  obtain ⟨a0, a1, a2, a3, a4, a5, a6, a7, a8, a9, a10⟩ := hP.2.aft
                  obtain ⟨o0, o1, o2, o3, o4, o5, o6, o7, o8, o9, o10⟩ := (REL.out.box.below hbW).aft
                  have t0 : ∀ u : Aft W, u.now.cell? ⟨ga, 0, none⟩ = some (.int .i64 n) := fun u => u.cell (by rw [← HM.out]; exact cell_below hbW REL.out.at_)
                  have q0 : ∀ u : Aft W, u.now.cell? ⟨ga + 1, k, none⟩ = some (.int .i64 0) := fun u => u.cell (cell_below hbW (REL.out.cell hlt))
                  have f0 : ∀ u : Aft W, u.now.frozen? ⟨ga + 1, k, none⟩ = false := fun u => (u.below.frozen (p := ⟨ga + 1, k, none⟩) (by have := hbW.size; simp; omega)).trans ((hbW.frozen (p := ⟨ga + 1, k, none⟩) (by simp; omega)).trans REL.out.free)
                  obtain ⟨b0, b1, b2, b3, b4, b5, b6, b7, b8, b9, b10⟩ := ((HBEST.out.below REL.out.below).below hbW).2.aft
                  clear hbW hP
                  obtain ⟨u, hu⟩ : ∃ u : Aft W, u.now = W := ⟨⟨W, Below.refl _ _⟩, rfl⟩
                  rw [← hu]
                  clear hu
                  go_wp2_with fail
                  refine wp_region_calm_at (u := u) (by kernel_rfl) (by kernel_rfl) ?_
                  repeat (go_big_quiet_step (((go_at_call 14; exact calm_of (less_false HL.out _)))))
                  refine wpQuiet_nil ?_
                  rintro _ ⟨u, rfl⟩
                  go_wp2_with fail
                  refine (isbest_any _ n ga _ (t0 u)).mono ?_
                  rintro e w' ⟨rfl, rfl⟩
                  go_wp2_with fail
                  refine wp_region_calm_at (u := u) (by kernel_rfl) (by kernel_rfl) ?_
                  repeat (go_big_quiet_step ((first | (go_at_call 58; exact calm_of (further_any bp.set own p.set _ HBS.out _)) | (go_at_call 14; exact calm_of (less_false HF.out _)))))
                  refine wpQuiet_nil ?_
                  rintro _ ⟨u, rfl⟩
                  go_wp2_with fail
                  go_roundw
                  case rel => exact ⟨k + 1, by omega, by go_num, REL.out.next hlt (below_then HW.out u.below) CF.out⟩
                  case measure => simp [intOf]; omega
    · obtain rfl : k = l.length := by omega
      go_wp2_with fail
      go_ret2
      exact ⟨ga + 1, rfl, REL.out.below, by omega, REL.out.done⟩
theorem decide_nil (own : DS) (A : Option Addr) (c : Nat) (w : World) :
    Calls Try.prog 38 #[own.v, .slice A 0 c] w fun e w' => ∃ g, e = .returned (.tuple #[.slice (some ⟨g, 0, none⟩) 0 0, .int .i64 0]) ∧ Below w.heap.size w w' := by
  have hmf : ∀ (fn : Fn) (first cap : Array Value) (w : World), (Instr.makeFunc fn first cap).run Try.prog w = .ok (.func fn first cap) w := fun _ _ _ _ => rfl
  obtain ⟨i0, hi0, hz0, hz1, hz2⟩ := info_parts infoInt
  have hmk : ∀ w, (Instr.makeSlice 57 (.int .i64 0) (.int .i64 0)).run Try.prog w = .ok (.slice (some ⟨w.heap.size, 0, none⟩) 0 0) (w.alloc (.cells #[] 3)) := fun _ => by kernel_rfl
  go_enter Try.func38, Try.ntmps38
  go_wp2_with fail
  refine (pbest_nil A c _).mono ?_
  rintro e w1 ⟨rfl, hb1⟩
  go_wp2_with fail
  refine wp_loop_rounds 1 ?_
  rw [rounds_succ]
  go_wp2_with fail
  go_ret2
  exact ⟨_, rfl, ((((Below.refl _ _).alloc (Nat.le_refl _) _).trans (hb1.mono (by simp))).alloc (by have := hb1.size; simp at this; omega) _).alloc (by have := hb1.size; simp at this ⊢; omega) _⟩
theorem decide_long (own : DS) (A : Option Addr) (n c : Nat) (hn : 8 < n) (w : World) :
    Calls Try.prog 38 #[own.v, .slice A n c] w fun e w' => e = .returned (.tuple #[.slice none 0 0, .int .i64 6]) ∧ Below w.heap.size w w' := by
  have hn' : (8 : Int) < (n : Int) := by omega
  go_enter Try.func38, Try.ntmps38
  go_wp2_with fail
  go_ret2
  exact ⟨rfl, (Below.refl _ _).alloc (Nat.le_refl _) _⟩
end Go.Proofs.Ytfbmlpdomfchpaa
