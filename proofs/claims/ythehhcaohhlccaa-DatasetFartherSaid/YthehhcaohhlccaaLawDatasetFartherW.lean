/- The walk of DatasetFarther. -/
import Derived.WalkKit
import Derived.LoopTactic
import Derived.Outline
import Derived.Lib.Hide
import Derived.WalkSpells
import Derived.OpenShut
import Derived.WalkLawsBesides
import Derived.Test.YthehhcaohhlccaaDs10
import Derived.Test.YthehhcaohhlccaaDsPlain2
import Derived.Test.YthehhcaohhlccaaHopArg
namespace Go.Proofs.Ythehhcaohhlccaa
open Go.RowKit
set_option linter.unusedVariables false
set_option linter.unusedSimpArgs false

theorem step_less {d x y : DS} (hx : x.key6 = d.key6) (hs : d.steps ≤ x.steps) (hy : y.key6 = x.key6) (h1 : y.steps = x.steps + 1) : lessB d y = true := by
  have e : lexL d.key6 y.key6 = 0 := by rw [hy, hx]; exact lexL_self _
  have hc : cmpI d.steps y.steps = -1 := cmpI_lt (by omega)
  have e2 : lexL d.key y.key = -1 := by
    unfold DS.key
    rw [lexL_append _ _ (by rfl : d.key6.length = y.key6.length), if_pos e]
    simp only [DS.key5, lexL, hc]
    rfl
  simp only [lessB, e2]
  decide
theorem free_of_blk {w : World} {g : Nat} {t : TypeId} {cs : Array Value} (h : w.heap[g]? = some (.cells cs t (0, 0))) (i : Nat) : w.frozen? ⟨g, i, none⟩ = false := by simp [World.frozen?, h]
theorem step_compare {d x y : DS} (hx : x.key6 = d.key6) (hs : d.steps ≤ x.steps) (hy : y.key6 = x.key6) (h1 : y.steps = x.steps + 1) : (compareF d y = 1 ∨ compareF d y = 2 ∨ compareF d y = 5) ∧ (d.steps < x.steps → compareF d y = 1) := by
  have hg : d.gm = y.gm := by
    have : y.key6 = d.key6 := hy.trans hx
    simp [DS.key6] at this
    exact this.2.2.2.2.2.symm
  have hne : ¬ d = y := fun e => by rw [e] at hs; omega
  have hlt : d.steps < y.steps := by omega
  unfold compareF
  rw [if_neg hne, if_neg (by simp [hg]), if_neg (by omega)]
  by_cases h2 : 1 < y.steps - d.steps
  · rw [if_pos ⟨hlt, h2⟩]; exact ⟨.inl rfl, fun _ => rfl⟩
  · rw [if_neg (by omega), if_neg (by omega), if_pos hlt]
    refine ⟨?_, fun h => by omega⟩
    unfold verdict; split
    · exact .inl rfl
    · split
      · exact .inr (.inl rfl)
      · exact .inr (.inr rfl)
theorem zero_eq (w : World) : (binOp .eql 24 DS.zero.v (.agg #[.int .i64 0, .int .i64 0, .int .i64 0, .int .i64 0, .int .i64 0, .int .u64 0, .int .i64 0, .int .u64 0, .int .i64 0, .int .u64 0, .int .i64 0])).run Try.prog w = .ok (.bool true) w := eql_ds DS.zero DS.zero w
def putDS (X : World) (g : Nat) (d : DS) : World := ((((((((((X.setCell ⟨g, 0, none⟩ (.int .i64 d.p1)).setCell ⟨g, 1, none⟩ (.int .i64 d.cls)).setCell ⟨g, 2, none⟩ (.int .i64 d.acc)).setCell ⟨g, 3, none⟩ (.int .i64 d.var)).setCell ⟨g, 4, none⟩ (.int .i64 d.p2)).setCell ⟨g, 5, none⟩ (.int .u64 d.gm)).setCell ⟨g, 6, none⟩ (.int .i64 d.steps)).setCell ⟨g, 7, none⟩ (.int .u64 d.sender)).setCell ⟨g, 8, none⟩ (.int .i64 d.sport)).setCell ⟨g, 9, none⟩ (.int .u64 d.recv)).setCell ⟨g, 10, none⟩ (.int .i64 d.rport)
theorem putDS_size (X : World) (g : Nat) (d : DS) : (putDS X g d).heap.size = X.heap.size := by simp [putDS]
theorem putDS_frozen (X : World) (g : Nat) (d : DS) (a : Addr) : (putDS X g d).frozen? a = X.frozen? a := by simp [putDS]
theorem putDS_other (X : World) (g : Nat) (d : DS) (b j : Nat) (h : g ≠ b) : (putDS X g d).cell? ⟨b, j, none⟩ = X.cell? ⟨b, j, none⟩ := by
  have hn : ∀ i : Nat, (⟨g, i, none⟩ : Addr) ≠ ⟨b, j, none⟩ := fun i e => h (by injection e)
  simp only [putDS, World.cell?_setCell_other _ _ _ _ (hn _)]
theorem putDS_box {X : World} {g : Nat} {x : DS} (h : BoxAt X g x) (d : DS) : BoxAt (putDS X g d) g d := by
  obtain ⟨h0, h1, h2, h3, h4, h5, h6, h7, h8, h9, h10⟩ := h
  refine ⟨?_, ?_, ?_, ?_, ?_, ?_, ?_, ?_, ?_, ?_, ?_⟩ <;> simp [putDS, World.cell?_setCell_other, World.cell?_setCell_same', *]
theorem putDS_far {X : World} {g b : Nat} {x : DS} (h : BoxAt X b x) (hne : g ≠ b) (d : DS) : BoxAt (putDS X g d) b x := by
  obtain ⟨h0, h1, h2, h3, h4, h5, h6, h7, h8, h9, h10⟩ := h
  refine ⟨?_, ?_, ?_, ?_, ?_, ?_, ?_, ?_, ?_, ?_, ?_⟩ <;> (rw [putDS_other _ _ _ _ _ hne]; assumption)
theorem putDS_below {B : Nat} {w X : World} (h : Below B w X) {g : Nat} (hg : B ≤ g) (d : DS) : Below B w (putDS X g d) :=
  ((((((((((h.setCell (p := ⟨g, 0, none⟩) hg _).setCell (p := ⟨g, 1, none⟩) hg _).setCell (p := ⟨g, 2, none⟩) hg _).setCell (p := ⟨g, 3, none⟩) hg _).setCell (p := ⟨g, 4, none⟩) hg _).setCell (p := ⟨g, 5, none⟩) hg _).setCell (p := ⟨g, 6, none⟩) hg _).setCell (p := ⟨g, 7, none⟩) hg _).setCell (p := ⟨g, 8, none⟩) hg _).setCell (p := ⟨g, 9, none⟩) hg _).setCell (p := ⟨g, 10, none⟩) hg _
/-- The data set that is announced further, and what it must have kept. -/
structure FarRel (d x : DS) (k : Nat) : Prop where
  key : x.key6 = d.key6
  steps : x.steps = d.steps + k
  low : 0 ≤ d.steps
  high : d.steps < 40
  later : 0 < k → x.steps ≤ 32
theorem far_I64 {d x : DS} {k : Nat} (r : FarRel d x k) (hk : k ≤ 1000) : I64 x.steps := by
  have := r.steps; have := r.low; have := r.high; unfold I64; omega

set_option maxRecDepth 100000 in
set_option maxHeartbeats 4000000 in
theorem farther_all (d0 : DS) (s : Int) (hs0 : 0 ≤ s) (hs1 : s ≤ 255) (l : List Hop) (g off n cap : Nat) (hn : 0 < n) (hl : l.length = n) (hc : n ≤ cap) (hm : cap ≤ 9223372036854775807) (h40 : n ≤ 40) (w : World) (hr : HopRow w g off l) : Calls Try.prog 9 #[d0.v, .int .u8 s, .slice (some ⟨g, off, none⟩) n cap] w fun e w' => e = .returned (.bool true) ∧ Below w.heap.size w w' := by
  have HL := Lib.hid hl
  have HR := Lib.hid hr
  clear hl hr
  obtain ⟨d, hd⟩ : ∃ d : DS, d = { d0 with steps := s % 40 } := ⟨_, rfl⟩
  have HD := Lib.hid hd
  clear hd
  go_enter Try.func9, Try.ntmps9
  go_wp2_with fail
  try simp only [show (max 40 0 : Int) = 40 from by decide]
  go_loopw [24] (fun i wr => ∃ (k : Nat) (st xa xb xc xd : Int), k ≤ n ∧ i = .int .i64 k ∧ FarRel d ⟨d.p1, d.cls, d.acc, d.var, d.p2, d.gm, st, xa, xb, xc, xd⟩ k ∧ Below w.heap.size w wr ∧ BoxAt wr w.heap.size d ∧ BoxAt wr (w.heap.size + 1) ⟨d.p1, d.cls, d.acc, d.var, d.p2, d.gm, st, xa, xb, xc, xd⟩ ∧ (∀ j, wr.frozen? ⟨w.heap.size + 1, j, none⟩ = false) ∧ w.heap.size + 2 ≤ wr.heap.size) (fun i _ => n - (intOf i).toNat)
  case atStart =>
    refine ⟨0, d.steps, d.sender, d.sport, d.recv, d.rport, Nat.zero_le _, rfl, ?_, ((Below.refl _ _).alloc (Nat.le_refl _) _).alloc (by simp) _, ?_, ?_, ?_, by simp⟩
    · have := HD.out
      exact ⟨rfl, by simp, by rw [this]; simp only []; omega, by rw [this]; simp only []; omega, fun h => by omega⟩
    · rw [HD.out]; exact BoxAt.of (heap_alloc_old (heap_alloc_new w _) _)
    · rw [HD.out]; exact BoxAt.of (heap_at (by simp))
    · intro j; exact free_of_blk (heap_at (by simp)) j
  case round =>
    obtain ⟨k, st, xa, xb, xc, xd, hk, rfl, hrel, hb, hD, hX, hF, hz⟩ := hrel
    by_cases hlt : k < n
    · have hk0 : (0 : Int) ≤ (k : Int) := by omega
      have hk1 : (k : Int) < (n : Int) := by omega
      obtain ⟨h, hh⟩ : ∃ h, l.getD k .zero = h := ⟨_, rfl⟩
      have hH := (HR.out k (by have := HL.out; omega)).below hb
      rw [hh] at hH
      have REL := Lib.hid hrel
      have HB := Lib.hid hb
      have hxs : st ≤ d.steps + k := by have : st = d.steps + k := hrel.steps; omega
      have hxs' : d.steps + k ≤ st := by have : st = d.steps + k := hrel.steps; omega
      have hx32 : 0 < k → st ≤ 32 := hrel.later
      have hlow := hrel.low
      have hst0 : 0 ≤ st := by omega
      have hst1 : st ≤ 100 := by have := hrel.high; omega
      obtain ⟨y, hy⟩ : ∃ y, stepF ⟨d.p1, d.cls, d.acc, d.var, d.p2, d.gm, st, xa, xb, xc, xd⟩ h.sender h.sport h.recv h.rport = y := ⟨_, rfl⟩
      have c1 : ∀ w, Calls Try.prog 23 #[(DS.mk d.p1 d.cls d.acc d.var d.p2 d.gm st xa xb xc xd).v, .int .u64 h.sender, .int .i64 h.sport, .int .u64 h.recv, .int .i64 h.rport] w fun e w' => e = .returned (.tuple #[y.v,   .int .i64 (stepE ⟨d.p1, d.cls, d.acc, d.var, d.p2, d.gm, st, xa, xb, xc, xd⟩)]) ∧ Below w.heap.size w w' := fun w => by
        have := step_any ⟨d.p1, d.cls, d.acc, d.var, d.p2, d.gm, st, xa, xb, xc, xd⟩ h.sender h.sport h.recv h.rport (far_I64 hrel (by omega)).1 w; rwa [hy] at this
      have kX := hX
      have KD := Lib.hid hD
      have KX := Lib.hid hX
      have KF := Lib.hid hF
      have hl0 : w.heap.size < wr.heap.size := by omega
      have hl1 : w.heap.size + 1 < wr.heap.size := by omega
      clear hb hD hF hh hrel
      obtain ⟨h0, h1, h2, h3⟩ := hH
      obtain ⟨x0, x1, x2, x3, x4, x5, x6, x7, x8, x9, x10⟩ := hX
      by_cases h32 : 32 ≤ st
      · have hyz : y = DS.zero := by rw [← hy]; simp [stepF, h32]
        have hez : stepE ⟨d.p1, d.cls, d.acc, d.var, d.p2, d.gm, st, xa, xb, xc, xd⟩ = 3 := by simp [stepE, h32]
        rw [hez] at c1
        rw [hyz] at c1
        have C1 := Lib.hid c1
        clear c1 hy hyz hez hx32
        have hz0 := zero_eq
        go_wp2_with fail
        generalize hZ : wr.alloc _ = Z
        have hbZ : Below wr.heap.size wr Z := by rw [← hZ]; exact (Below.refl _ _).alloc (Nat.le_refl _) _
        have lZ : wr.heap.size < Z.heap.size := by rw [← hZ]; simp
        have HZ := Lib.hid (below_then HB.out hbZ)
        clear hZ x0 x1 x2 x3 x4 x5 x6 x7 x8 x9 x10 h0 h1 h2 h3
        obtain ⟨x0, x1, x2, x3, x4, x5, x6, x7, x8, x9, x10⟩ := (kX.below hbZ).aft
        clear hbZ kX
        refine (calm_next (w := Z) (Below.refl _ _) (C1.out _)).mono ?_
        rintro e _ ⟨rfl, u1, rfl⟩
        have hz1 := u1.below.size
        have hl2 : w.heap.size + 1 < u1.now.heap.size := by omega
        go_wp2_with fail
        have hbA := below_then u1.below ((Below.refl u1.now.heap.size u1.now).alloc (Nat.le_refl _) (.cells #[.int .i64 DS.zero.p1, .int .i64 DS.zero.cls, .int .i64 DS.zero.acc, .int .i64 DS.zero.var, .int .i64 DS.zero.p2, .int .u64 DS.zero.gm, .int .i64 DS.zero.steps, .int .u64 DS.zero.sender, .int .i64 DS.zero.sport, .int .u64 DS.zero.recv, .int .i64 DS.zero.rport] 24))
        have HA := Lib.hid (below_then HZ.out hbA)
        clear hbA
        refine (awake34 _).mono ?_
        rintro e w3 ⟨rfl, hb3⟩
        go_wp2_with fail
        go_ret
        exact ⟨rfl, below_then HA.out hb3⟩
      · obtain rfl : y = ⟨d.p1, d.cls, d.acc, d.var, d.p2, d.gm, st + 1, h.sender, h.sport, h.recv, h.rport⟩ := by rw [← hy]; simp [stepF, h32]
        have hez : stepE ⟨d.p1, d.cls, d.acc, d.var, d.p2, d.gm, st, xa, xb, xc, xd⟩ = 0 := by simp [stepE, h32]
        rw [hez] at c1
        have C1 := Lib.hid c1
        have hds : d.steps ≤ st := by omega
        have hl := step_less (y := ⟨d.p1, d.cls, d.acc, d.var, d.p2, d.gm, st + 1, h.sender, h.sport, h.recv, h.rport⟩) REL.out.key hds rfl rfl
        have CL1 := Lib.hid (less_true hl)
        have CL2 := Lib.hid (less_false (less_asymm hl))
        have hcmp := step_compare (y := ⟨d.p1, d.cls, d.acc, d.var, d.p2, d.gm, st + 1, h.sender, h.sport, h.recv, h.rport⟩) REL.out.key hds rfl rfl
        obtain ⟨m, hm2⟩ : ∃ m, compareF d ⟨d.p1, d.cls, d.acc, d.var, d.p2, d.gm, st + 1, h.sender, h.sport, h.recv, h.rport⟩ = m := ⟨_, rfl⟩
        have cc : ∀ w, Calls Try.prog 15 #[d.v, (DS.mk d.p1 d.cls d.acc d.var d.p2 d.gm (st + 1) h.sender h.sport h.recv h.rport).v] w fun e w' => e = .returned (.int .i64 m) ∧ Below w.heap.size w w' := fun w => by
          have h1 := far_I64 REL.out (by omega)
          have := compare_calls d ⟨d.p1, d.cls, d.acc, d.var, d.p2, d.gm, st + 1, h.sender, h.sport, h.recv, h.rport⟩ (by have := REL.out.low; have := REL.out.high; unfold I64; omega) (by unfold I64; simp only []; omega) w
          rwa [hm2] at this
        have CC := Lib.hid cc
        rw [hm2] at hcmp
        have hk' : (0 < k → m = 1) := fun h => hcmp.2 (by simp only []; omega)
        have hrel2 : FarRel d ⟨d.p1, d.cls, d.acc, d.var, d.p2, d.gm, st + 1, h.sender, h.sport, h.recv, h.rport⟩ (k + 1) := ⟨rfl, by simp only []; omega, REL.out.low, REL.out.high, fun _ => by show st + 1 ≤ 32; omega⟩
        have REL2 := Lib.hid hrel2
        have hcm : (m = 1 ∧ 0 < k) ∨ (k = 0 ∧ m = 1) ∨ (k = 0 ∧ m = 2) ∨ (k = 0 ∧ m = 5) := by
          rcases Nat.eq_zero_or_pos k with h | h
          · rcases hcmp.1 with e | e | e
            · exact .inr (.inl ⟨h, e⟩)
            · exact .inr (.inr (.inl ⟨h, e⟩))
            · exact .inr (.inr (.inr ⟨h, e⟩))
          · exact .inl ⟨hk' h, h⟩
        have hb39 : st ≤ 31 := by omega
        clear c1 hez hl hcmp cc hm2 hk' hrel2 hds hy
        go_wp2_with fail
        generalize hZ : wr.alloc _ = Z
        have hbZ : Below wr.heap.size wr Z := by rw [← hZ]; exact (Below.refl _ _).alloc (Nat.le_refl _) _
        have lZ : wr.heap.size < Z.heap.size := by rw [← hZ]; simp
        have HZ := Lib.hid (below_then HB.out hbZ)
        clear hZ x0 x1 x2 x3 x4 x5 x6 x7 x8 x9 x10 h0 h1 h2 h3
        have kX := kX.below hbZ
        have kD := KD.out.below hbZ
        have kF : ∀ j, Z.frozen? ⟨w.heap.size + 1, j, none⟩ = false := fun j => (hbZ.frozen (p := ⟨w.heap.size + 1, j, none⟩) hl1).trans (KF.out j)
        have KF2 := Lib.hid kF
        clear kF KF KD KX
        obtain ⟨x0, x1, x2, x3, x4, x5, x6, x7, x8, x9, x10⟩ := kX.aft
        clear hbZ
        refine (calm_next (w := Z) (Below.refl _ _) (C1.out _)).mono ?_
        rintro e _ ⟨rfl, u1, rfl⟩
        have hz1 := u1.below.size
        have hl2 : w.heap.size + 1 < u1.now.heap.size := by omega
        have hl3 : w.heap.size < u1.now.heap.size := by omega
        obtain ⟨d0, d1, d2, d3, d4, d5, d6, d7, d8, d9, d10⟩ := kD.aft
        go_wp2_with fail
        generalize hV : u1.now.alloc _ = V
        have hbV : Below Z.heap.size Z V := by rw [← hV]; exact below_then u1.below ((Below.refl _ _).alloc (Nat.le_refl _) _)
        have kY : BoxAt V u1.now.heap.size ⟨d.p1, d.cls, d.acc, d.var, d.p2, d.gm, st + 1, h.sender, h.sport, h.recv, h.rport⟩ := by rw [← hV]; exact BoxAt.of (heap_alloc_new _ _)
        have kX := kX.below hbV
        have kD := kD.below hbV
        have kF : ∀ j, V.frozen? ⟨w.heap.size + 1, j, none⟩ = false := fun j => (hbV.frozen (p := ⟨w.heap.size + 1, j, none⟩) (by simp; omega)).trans (KF2.out j)
        have KFV := Lib.hid kF
        have HV := Lib.hid (below_then HZ.out hbV)
        have lV : w.heap.size + 2 ≤ V.heap.size := by have := hbV.size; omega
        clear hV hbV kF KF2 x0 x1 x2 x3 x4 x5 x6 x7 x8 x9 x10 d0 d1 d2 d3 d4 d5 d6 d7 d8 d9 d10 hl2 hl3 hz1
        generalize u1.now.heap.size = gy at *
        obtain ⟨x0, x1, x2, x3, x4, x5, x6, x7, x8, x9, x10⟩ := kX.aft
        obtain ⟨d0, d1, d2, d3, d4, d5, d6, d7, d8, d9, d10⟩ := kD.aft
        obtain ⟨y0, y1, y2, y3, y4, y5, y6, y7, y8, y9, y10⟩ := kY.aft
        refine (calm_next (w := V) (Below.refl _ _) (CL1.out _)).mono ?_
        rintro e _ ⟨rfl, u2, rfl⟩
        go_wp2_with fail
        refine (calm_of (CL2.out _)).mono ?_
        rintro e _ ⟨rfl, u3, rfl⟩
        go_wp2_with fail
        refine (calm_of (CC.out _)).mono ?_
        rintro e _ ⟨rfl, u4, rfl⟩
        clear x0 x1 x2 x3 x4 x5 x6 x7 x8 x9 x10 d0 d1 d2 d3 d4 d5 d6 d7 d8 d9 d10 y0 y1 y2 y3 y4 y5 y6 y7 y8 y9 y10
        have hX := kX.below u4.below
        have hD := kD.below u4.below
        have hY := kY.below u4.below
        have hF : ∀ j, u4.now.frozen? ⟨w.heap.size + 1, j, none⟩ = false := fun j => (u4.below.frozen (p := ⟨w.heap.size + 1, j, none⟩) (by simp; omega)).trans (KFV.out j)
        have HX4 := Lib.hid (below_then HV.out u4.below)
        have l4 : w.heap.size + 2 ≤ u4.now.heap.size := by have := u4.below.size; omega
        generalize u4.now = X at *
        have KD4 := Lib.hid hD
        have KX4 := Lib.hid hX
        obtain ⟨x0, x1, x2, x3, x4, x5, x6, x7, x8, x9, x10⟩ := hX
        obtain ⟨y0, y1, y2, y3, y4, y5, y6, y7, y8, y9, y10⟩ := hY
        have f0 := hF 0
        have f1 := hF 1
        have f2 := hF 2
        have f3 := hF 3
        have f4 := hF 4
        have f5 := hF 5
        have f6 := hF 6
        have f7 := hF 7
        have f8 := hF 8
        have f9 := hF 9
        have f10 := hF 10
        have KF4 := Lib.hid hF
        clear hD hF kX kD kY KFV
        rcases hcm with ⟨rfl, hk2⟩ | ⟨rfl, rfl⟩ | ⟨rfl, rfl⟩ | ⟨rfl, rfl⟩
        all_goals go_wp2_with fail
        all_goals go_roundw
        all_goals first
          | exact ⟨_, _, _, _, _, _, by omega, by first | go_num | rfl, REL2.out, putDS_below HX4.out (by omega) ⟨d.p1, d.cls, d.acc, d.var, d.p2, d.gm, st + 1, h.sender, h.sport, h.recv, h.rport⟩, putDS_far KD4.out (by omega) ⟨d.p1, d.cls, d.acc, d.var, d.p2, d.gm, st + 1, h.sender, h.sport, h.recv, h.rport⟩, putDS_box KX4.out ⟨d.p1, d.cls, d.acc, d.var, d.p2, d.gm, st + 1, h.sender, h.sport, h.recv, h.rport⟩, fun j => (putDS_frozen _ _ ⟨d.p1, d.cls, d.acc, d.var, d.p2, d.gm, st + 1, h.sender, h.sport, h.recv, h.rport⟩ _).trans (KF4.out j), by simp only [World.size_setCell]; exact l4⟩
          | (simp [intOf] <;> omega)
    · obtain rfl : k = n := by omega
      go_wp2_with fail
      refine (awake34 _).mono ?_
      rintro e w3 ⟨rfl, hb3⟩
      go_wp2_with fail
      go_ret
      exact ⟨rfl, below_then hb hb3⟩
set_option maxRecDepth 100000 in
set_option maxHeartbeats 4000000 in
theorem farther_cut (d0 : DS) (s : Int) (hs0 : 0 ≤ s) (hs1 : s ≤ 255) (l : List Hop) (g off n cap : Nat) (hn : 0 < n) (hl : l.length = n) (hc : n ≤ cap) (hm : cap ≤ 9223372036854775807) (h40 : 40 < n) (w : World) (hr : HopRow w g off l) : Calls Try.prog 9 #[d0.v, .int .u8 s, .slice (some ⟨g, off, none⟩) n cap] w fun e w' => e = .returned (.bool true) ∧ Below w.heap.size w w' := by
  have HL := Lib.hid hl
  have HR := Lib.hid hr
  clear hl hr
  obtain ⟨d, hd⟩ : ∃ d : DS, d = { d0 with steps := s % 40 } := ⟨_, rfl⟩
  have HD := Lib.hid hd
  clear hd
  go_enter Try.func9, Try.ntmps9
  go_wp2_with fail
  try simp only [show (max 40 0 : Int) = 40 from by decide]
  go_loopw [24] (fun i wr => ∃ (k : Nat) (st xa xb xc xd : Int), k ≤ 40 ∧ i = .int .i64 k ∧ FarRel d ⟨d.p1, d.cls, d.acc, d.var, d.p2, d.gm, st, xa, xb, xc, xd⟩ k ∧ Below w.heap.size w wr ∧ BoxAt wr w.heap.size d ∧ BoxAt wr (w.heap.size + 1) ⟨d.p1, d.cls, d.acc, d.var, d.p2, d.gm, st, xa, xb, xc, xd⟩ ∧ (∀ j, wr.frozen? ⟨w.heap.size + 1, j, none⟩ = false) ∧ w.heap.size + 2 ≤ wr.heap.size) (fun i _ => 40 - (intOf i).toNat)
  case atStart =>
    refine ⟨0, d.steps, d.sender, d.sport, d.recv, d.rport, Nat.zero_le _, rfl, ?_, ((Below.refl _ _).alloc (Nat.le_refl _) _).alloc (by simp) _, ?_, ?_, ?_, by simp⟩
    · have := HD.out
      exact ⟨rfl, by simp, by rw [this]; simp only []; omega, by rw [this]; simp only []; omega, fun h => by omega⟩
    · rw [HD.out]; exact BoxAt.of (heap_alloc_old (heap_alloc_new w _) _)
    · rw [HD.out]; exact BoxAt.of (heap_at (by simp))
    · intro j; exact free_of_blk (heap_at (by simp)) j
  case round =>
    obtain ⟨k, st, xa, xb, xc, xd, hk, rfl, hrel, hb, hD, hX, hF, hz⟩ := hrel
    by_cases hlt : k < 40
    · have hk0 : (0 : Int) ≤ (k : Int) := by omega
      have hk1 : (k : Int) < (40 : Int) := by omega
      obtain ⟨h, hh⟩ : ∃ h, l.getD k .zero = h := ⟨_, rfl⟩
      have hH := (HR.out k (by have := HL.out; omega)).below hb
      rw [hh] at hH
      have REL := Lib.hid hrel
      have HB := Lib.hid hb
      have hxs : st ≤ d.steps + k := by have : st = d.steps + k := hrel.steps; omega
      have hxs' : d.steps + k ≤ st := by have : st = d.steps + k := hrel.steps; omega
      have hx32 : 0 < k → st ≤ 32 := hrel.later
      have hlow := hrel.low
      have hst0 : 0 ≤ st := by omega
      have hst1 : st ≤ 100 := by have := hrel.high; omega
      obtain ⟨y, hy⟩ : ∃ y, stepF ⟨d.p1, d.cls, d.acc, d.var, d.p2, d.gm, st, xa, xb, xc, xd⟩ h.sender h.sport h.recv h.rport = y := ⟨_, rfl⟩
      have c1 : ∀ w, Calls Try.prog 23 #[(DS.mk d.p1 d.cls d.acc d.var d.p2 d.gm st xa xb xc xd).v, .int .u64 h.sender, .int .i64 h.sport, .int .u64 h.recv, .int .i64 h.rport] w fun e w' => e = .returned (.tuple #[y.v,   .int .i64 (stepE ⟨d.p1, d.cls, d.acc, d.var, d.p2, d.gm, st, xa, xb, xc, xd⟩)]) ∧ Below w.heap.size w w' := fun w => by
        have := step_any ⟨d.p1, d.cls, d.acc, d.var, d.p2, d.gm, st, xa, xb, xc, xd⟩ h.sender h.sport h.recv h.rport (far_I64 hrel (by omega)).1 w; rwa [hy] at this
      have kX := hX
      have KD := Lib.hid hD
      have KX := Lib.hid hX
      have KF := Lib.hid hF
      have hl0 : w.heap.size < wr.heap.size := by omega
      have hl1 : w.heap.size + 1 < wr.heap.size := by omega
      clear hb hD hF hh hrel
      obtain ⟨h0, h1, h2, h3⟩ := hH
      obtain ⟨x0, x1, x2, x3, x4, x5, x6, x7, x8, x9, x10⟩ := hX
      by_cases h32 : 32 ≤ st
      · have hyz : y = DS.zero := by rw [← hy]; simp [stepF, h32]
        have hez : stepE ⟨d.p1, d.cls, d.acc, d.var, d.p2, d.gm, st, xa, xb, xc, xd⟩ = 3 := by simp [stepE, h32]
        rw [hez] at c1
        rw [hyz] at c1
        have C1 := Lib.hid c1
        clear c1 hy hyz hez hx32
        have hz0 := zero_eq
        go_wp2_with fail
        generalize hZ : wr.alloc _ = Z
        have hbZ : Below wr.heap.size wr Z := by rw [← hZ]; exact (Below.refl _ _).alloc (Nat.le_refl _) _
        have lZ : wr.heap.size < Z.heap.size := by rw [← hZ]; simp
        have HZ := Lib.hid (below_then HB.out hbZ)
        clear hZ x0 x1 x2 x3 x4 x5 x6 x7 x8 x9 x10 h0 h1 h2 h3
        obtain ⟨x0, x1, x2, x3, x4, x5, x6, x7, x8, x9, x10⟩ := (kX.below hbZ).aft
        clear hbZ kX
        refine (calm_next (w := Z) (Below.refl _ _) (C1.out _)).mono ?_
        rintro e _ ⟨rfl, u1, rfl⟩
        have hz1 := u1.below.size
        have hl2 : w.heap.size + 1 < u1.now.heap.size := by omega
        go_wp2_with fail
        have hbA := below_then u1.below ((Below.refl u1.now.heap.size u1.now).alloc (Nat.le_refl _) (.cells #[.int .i64 DS.zero.p1, .int .i64 DS.zero.cls, .int .i64 DS.zero.acc, .int .i64 DS.zero.var, .int .i64 DS.zero.p2, .int .u64 DS.zero.gm, .int .i64 DS.zero.steps, .int .u64 DS.zero.sender, .int .i64 DS.zero.sport, .int .u64 DS.zero.recv, .int .i64 DS.zero.rport] 24))
        have HA := Lib.hid (below_then HZ.out hbA)
        clear hbA
        refine (awake34 _).mono ?_
        rintro e w3 ⟨rfl, hb3⟩
        go_wp2_with fail
        go_ret
        exact ⟨rfl, below_then HA.out hb3⟩
      · obtain rfl : y = ⟨d.p1, d.cls, d.acc, d.var, d.p2, d.gm, st + 1, h.sender, h.sport, h.recv, h.rport⟩ := by rw [← hy]; simp [stepF, h32]
        have hez : stepE ⟨d.p1, d.cls, d.acc, d.var, d.p2, d.gm, st, xa, xb, xc, xd⟩ = 0 := by simp [stepE, h32]
        rw [hez] at c1
        have C1 := Lib.hid c1
        have hds : d.steps ≤ st := by omega
        have hl := step_less (y := ⟨d.p1, d.cls, d.acc, d.var, d.p2, d.gm, st + 1, h.sender, h.sport, h.recv, h.rport⟩) REL.out.key hds rfl rfl
        have CL1 := Lib.hid (less_true hl)
        have CL2 := Lib.hid (less_false (less_asymm hl))
        have hcmp := step_compare (y := ⟨d.p1, d.cls, d.acc, d.var, d.p2, d.gm, st + 1, h.sender, h.sport, h.recv, h.rport⟩) REL.out.key hds rfl rfl
        obtain ⟨m, hm2⟩ : ∃ m, compareF d ⟨d.p1, d.cls, d.acc, d.var, d.p2, d.gm, st + 1, h.sender, h.sport, h.recv, h.rport⟩ = m := ⟨_, rfl⟩
        have cc : ∀ w, Calls Try.prog 15 #[d.v, (DS.mk d.p1 d.cls d.acc d.var d.p2 d.gm (st + 1) h.sender h.sport h.recv h.rport).v] w fun e w' => e = .returned (.int .i64 m) ∧ Below w.heap.size w w' := fun w => by
          have h1 := far_I64 REL.out (by omega)
          have := compare_calls d ⟨d.p1, d.cls, d.acc, d.var, d.p2, d.gm, st + 1, h.sender, h.sport, h.recv, h.rport⟩ (by have := REL.out.low; have := REL.out.high; unfold I64; omega) (by unfold I64; simp only []; omega) w
          rwa [hm2] at this
        have CC := Lib.hid cc
        rw [hm2] at hcmp
        have hk' : (0 < k → m = 1) := fun h => hcmp.2 (by simp only []; omega)
        have hrel2 : FarRel d ⟨d.p1, d.cls, d.acc, d.var, d.p2, d.gm, st + 1, h.sender, h.sport, h.recv, h.rport⟩ (k + 1) := ⟨rfl, by simp only []; omega, REL.out.low, REL.out.high, fun _ => by show st + 1 ≤ 32; omega⟩
        have REL2 := Lib.hid hrel2
        have hcm : (m = 1 ∧ 0 < k) ∨ (k = 0 ∧ m = 1) ∨ (k = 0 ∧ m = 2) ∨ (k = 0 ∧ m = 5) := by
          rcases Nat.eq_zero_or_pos k with h | h
          · rcases hcmp.1 with e | e | e
            · exact .inr (.inl ⟨h, e⟩)
            · exact .inr (.inr (.inl ⟨h, e⟩))
            · exact .inr (.inr (.inr ⟨h, e⟩))
          · exact .inl ⟨hk' h, h⟩
        have hb39 : st ≤ 31 := by omega
        clear c1 hez hl hcmp cc hm2 hk' hrel2 hds hy
        go_wp2_with fail
        generalize hZ : wr.alloc _ = Z
        have hbZ : Below wr.heap.size wr Z := by rw [← hZ]; exact (Below.refl _ _).alloc (Nat.le_refl _) _
        have lZ : wr.heap.size < Z.heap.size := by rw [← hZ]; simp
        have HZ := Lib.hid (below_then HB.out hbZ)
        clear hZ x0 x1 x2 x3 x4 x5 x6 x7 x8 x9 x10 h0 h1 h2 h3
        have kX := kX.below hbZ
        have kD := KD.out.below hbZ
        have kF : ∀ j, Z.frozen? ⟨w.heap.size + 1, j, none⟩ = false := fun j => (hbZ.frozen (p := ⟨w.heap.size + 1, j, none⟩) hl1).trans (KF.out j)
        have KF2 := Lib.hid kF
        clear kF KF KD KX
        obtain ⟨x0, x1, x2, x3, x4, x5, x6, x7, x8, x9, x10⟩ := kX.aft
        clear hbZ
        refine (calm_next (w := Z) (Below.refl _ _) (C1.out _)).mono ?_
        rintro e _ ⟨rfl, u1, rfl⟩
        have hz1 := u1.below.size
        have hl2 : w.heap.size + 1 < u1.now.heap.size := by omega
        have hl3 : w.heap.size < u1.now.heap.size := by omega
        obtain ⟨d0, d1, d2, d3, d4, d5, d6, d7, d8, d9, d10⟩ := kD.aft
        go_wp2_with fail
        generalize hV : u1.now.alloc _ = V
        have hbV : Below Z.heap.size Z V := by rw [← hV]; exact below_then u1.below ((Below.refl _ _).alloc (Nat.le_refl _) _)
        have kY : BoxAt V u1.now.heap.size ⟨d.p1, d.cls, d.acc, d.var, d.p2, d.gm, st + 1, h.sender, h.sport, h.recv, h.rport⟩ := by rw [← hV]; exact BoxAt.of (heap_alloc_new _ _)
        have kX := kX.below hbV
        have kD := kD.below hbV
        have kF : ∀ j, V.frozen? ⟨w.heap.size + 1, j, none⟩ = false := fun j => (hbV.frozen (p := ⟨w.heap.size + 1, j, none⟩) (by simp; omega)).trans (KF2.out j)
        have KFV := Lib.hid kF
        have HV := Lib.hid (below_then HZ.out hbV)
        have lV : w.heap.size + 2 ≤ V.heap.size := by have := hbV.size; omega
        clear hV hbV kF KF2 x0 x1 x2 x3 x4 x5 x6 x7 x8 x9 x10 d0 d1 d2 d3 d4 d5 d6 d7 d8 d9 d10 hl2 hl3 hz1
        generalize u1.now.heap.size = gy at *
        obtain ⟨x0, x1, x2, x3, x4, x5, x6, x7, x8, x9, x10⟩ := kX.aft
        obtain ⟨d0, d1, d2, d3, d4, d5, d6, d7, d8, d9, d10⟩ := kD.aft
        obtain ⟨y0, y1, y2, y3, y4, y5, y6, y7, y8, y9, y10⟩ := kY.aft
        refine (calm_next (w := V) (Below.refl _ _) (CL1.out _)).mono ?_
        rintro e _ ⟨rfl, u2, rfl⟩
        go_wp2_with fail
        refine (calm_of (CL2.out _)).mono ?_
        rintro e _ ⟨rfl, u3, rfl⟩
        go_wp2_with fail
        refine (calm_of (CC.out _)).mono ?_
        rintro e _ ⟨rfl, u4, rfl⟩
        clear x0 x1 x2 x3 x4 x5 x6 x7 x8 x9 x10 d0 d1 d2 d3 d4 d5 d6 d7 d8 d9 d10 y0 y1 y2 y3 y4 y5 y6 y7 y8 y9 y10
        have hX := kX.below u4.below
        have hD := kD.below u4.below
        have hY := kY.below u4.below
        have hF : ∀ j, u4.now.frozen? ⟨w.heap.size + 1, j, none⟩ = false := fun j => (u4.below.frozen (p := ⟨w.heap.size + 1, j, none⟩) (by simp; omega)).trans (KFV.out j)
        have HX4 := Lib.hid (below_then HV.out u4.below)
        have l4 : w.heap.size + 2 ≤ u4.now.heap.size := by have := u4.below.size; omega
        generalize u4.now = X at *
        have KD4 := Lib.hid hD
        have KX4 := Lib.hid hX
        obtain ⟨x0, x1, x2, x3, x4, x5, x6, x7, x8, x9, x10⟩ := hX
        obtain ⟨y0, y1, y2, y3, y4, y5, y6, y7, y8, y9, y10⟩ := hY
        have f0 := hF 0
        have f1 := hF 1
        have f2 := hF 2
        have f3 := hF 3
        have f4 := hF 4
        have f5 := hF 5
        have f6 := hF 6
        have f7 := hF 7
        have f8 := hF 8
        have f9 := hF 9
        have f10 := hF 10
        have KF4 := Lib.hid hF
        clear hD hF kX kD kY KFV
        rcases hcm with ⟨rfl, hk2⟩ | ⟨rfl, rfl⟩ | ⟨rfl, rfl⟩ | ⟨rfl, rfl⟩
        all_goals go_wp2_with fail
        all_goals go_roundw
        all_goals first
          | exact ⟨_, _, _, _, _, _, by omega, by first | go_num | rfl, REL2.out, putDS_below HX4.out (by omega) ⟨d.p1, d.cls, d.acc, d.var, d.p2, d.gm, st + 1, h.sender, h.sport, h.recv, h.rport⟩, putDS_far KD4.out (by omega) ⟨d.p1, d.cls, d.acc, d.var, d.p2, d.gm, st + 1, h.sender, h.sport, h.recv, h.rport⟩, putDS_box KX4.out ⟨d.p1, d.cls, d.acc, d.var, d.p2, d.gm, st + 1, h.sender, h.sport, h.recv, h.rport⟩, fun j => (putDS_frozen _ _ ⟨d.p1, d.cls, d.acc, d.var, d.p2, d.gm, st + 1, h.sender, h.sport, h.recv, h.rport⟩ _).trans (KF4.out j), by simp only [World.size_setCell]; exact l4⟩
          | (simp [intOf] <;> omega)
    · obtain rfl : k = 40 := by omega
      go_wp2_with fail
      refine (awake34 _).mono ?_
      rintro e w3 ⟨rfl, hb3⟩
      go_wp2_with fail
      go_ret
      exact ⟨rfl, below_then hb hb3⟩
theorem farther_nil (d0 : DS) (s : Int) (hs0 : 0 ≤ s) (hs1 : s ≤ 255) (A : Option Addr) (cap : Nat) (hA : A = none → cap = 0) (hm : cap ≤ 9223372036854775807) (w : World) : Calls Try.prog 9 #[d0.v, .int .u8 s, .slice A 0 cap] w fun e w' => e = .returned (.bool true) ∧ Below w.heap.size w w' := by
  cases A with
  | none =>
    obtain rfl := hA rfl
    clear hA
    go_enter Try.func9, Try.ntmps9
    go_wp2_with fail
    refine wp_loop_rounds 1 ?_
    rw [rounds_succ]
    go_wp2_with fail
    refine (awake34 _).mono ?_
    rintro e w3 ⟨rfl, hb3⟩
    go_wp2_with fail
    go_ret
    exact ⟨rfl, below_then (((Below.refl _ _).alloc (Nat.le_refl _) _).alloc (by simp) _) hb3⟩
  | some x =>
    clear hA
    go_enter Try.func9, Try.ntmps9
    go_wp2_with fail
    refine wp_loop_rounds 1 ?_
    rw [rounds_succ]
    go_wp2_with fail
    refine (awake34 _).mono ?_
    rintro e w3 ⟨rfl, hb3⟩
    go_wp2_with fail
    go_ret
    exact ⟨rfl, below_then (((Below.refl _ _).alloc (Nat.le_refl _) _).alloc (by simp) _) hb3⟩
theorem DatasetFarther_walk (d : DS) (s : Int) (hs : (Lit.int .u8 s).wf = true) (A : Option Addr) (n cap : Nat) (l : List Hop) (w : World) (ok : HopArg w A n cap l) : Calls Try.prog 9 #[d.v, .int .u8 s, .slice A n cap] w fun e w' => e = .returned (.bool true) ∧ Below w.heap.size w w' := by
  obtain ⟨hs0, hs1⟩ := bounds_u8 hs
  rcases Nat.eq_zero_or_pos n with h0 | h0
  · subst h0
    exact farther_nil d s hs0 hs1 A cap (fun h => (ok.none_ h).2) ok.most w
  · obtain ⟨g, off, rfl, hr⟩ := ok.at_ h0
    by_cases h40 : n ≤ 40
    · exact farther_all d s hs0 hs1 l g off n cap h0 ok.len_eq ok.le ok.most h40 w hr
    · exact farther_cut d s hs0 hs1 l g off n cap h0 ok.len_eq ok.le ok.most (by omega) w hr
end Go.Proofs.Ythehhcaohhlccaa
