/- The examples of chapter 35 (written by gen_f18.py). -/
import Derived.WalkKit
import Derived.LoopTactic
import Derived.Outline
import Derived.Lib.Hide
import Derived.Deep.RegionHeld3
import Derived.Test.YtboijaffpnmcaaaF17
import Derived.Test.YtboijaffpnmcaaaEq
namespace Go.Proofs.Ytboijaffpnmcaaa
open Go.RowKit
set_option linter.unusedVariables false
set_option linter.unusedSimpArgs false

def a35 : DS := { DS.zero with sender := 7, sport := 1, recv := 1 }
def b35 : DS := { DS.zero with sender := 8, sport := 1, recv := 1 }
def d35 : DS := { DS.zero with sender := 1, sport := 2, recv := 1 }
def f35a : Fr := hearS (newF 100 2) a35 10
def f35b : Fr := hearS f35a a35 50
def f35c : Fr := hearS f35b b35 60
def f35d : Fr := hearS f35c b35 70
def f35e : Fr := forgetF f35d 155
theorem e35a : hearE (newF 100 2) a35 10 = 0 := by kernel_rfl
theorem l35a : f35a.list.length = 1 := by kernel_rfl
theorem q35a : qualF f35a 10 = [] := by kernel_rfl
theorem e35b : hearE f35a a35 50 = 0 := by kernel_rfl
theorem q35b : (qualF f35b 109).length = 1 := by kernel_rfl
theorem q35c : (qualF f35b 110).length = 0 := by kernel_rfl
theorem e35c : hearE f35b b35 60 = 0 := by kernel_rfl
theorem e35d : hearE f35c b35 70 = 0 := by kernel_rfl
theorem q35d : qualF f35d 70 = [a35, b35] := by kernel_rfl
theorem r35 : bestR [a35, b35] = a35 := by kernel_rfl
theorem l35d : (f35d.list.length : Int) - (f35e.list.length : Int) = 1 := by kernel_rfl
theorem l35e : f35e.list.length = 1 := by kernel_rfl
theorem e35f : hearE f35e d35 70 = 18 := by kernel_rfl
theorem s35f : hearS f35e d35 70 = f35e := by kernel_rfl
theorem e35g : hearE f35e a35 69 = 12 := by kernel_rfl
theorem aw_qual2 {w : World} {B : Nat} {S : List Nat} {f : Fr} (h : AwE w B S f) (t : Int) (ht : t ≤ 9223372036854775807) {n : Nat} (hn : (qualF f t).length = n) : Calls Try.prog 12 #[.pointer (some ⟨B, 0, none⟩), .int .i64 t] w fun e w' => ∃ A c, e = .returned (.slice A n c) ∧ AwE w' B S f ∧ Stay B S w w' := by
  refine (aw_qual h t ht).mono ?_
  rintro e w' ⟨q, rfl, hb, ho⟩
  rw [hn] at ho
  rcases ho.2 with ⟨rfl, rfl⟩ | ⟨g, cap, cur, rfl, _⟩
  · exact ⟨_, _, rfl, h.below hb, h.stay hb⟩
  · exact ⟨_, _, rfl, h.below hb, h.stay hb⟩
theorem aw_qual35 {w : World} {B : Nat} {S : List Nat} (h : AwE w B S f35d) : Calls Try.prog 12 #[.pointer (some ⟨B, 0, none⟩), .int .i64 70] w fun e w' => ∃ g c, e = .returned (.slice (some ⟨g, 0, none⟩) 2 c) ∧ 2 ≤ c ∧ AwE w' B (g :: S) f35d ∧ Stay B S w w' ∧ w'.rangeAt g 0 a35.cells ∧ w'.rangeAt g 11 b35.cells := by
  refine (aw_qual h 70 (by decide)).mono ?_
  rintro e w' ⟨q, rfl, hb, ho⟩
  rw [q35d] at ho
  rcases owns_ds ho rfl with ⟨_, e⟩ | ⟨g, cap, rfl, hbg, hg, hle, _, hr⟩
  · cases e
  · exact ⟨g, cap, rfl, hle, h.add hb hbg hg, h.stay hb, hr 0 a35 rfl, hr 1 b35 rfl⟩
theorem range_stay {B : Nat} {S : List Nat} {w w' : World} {q o : Nat} {cs : List Value} (h : Stay B S w w') (hr : w.rangeAt q o cs) (hq : q ∈ S) : w'.rangeAt q o cs := fun j v hv => h.cell (hr j v hv) (.inr hq)
set_option maxRecDepth 100000 in
set_option maxHeartbeats 4000000 in
theorem awake35 (w : World) : Calls Try.prog 10 #[] w fun e w' => e = .returned (.bool true) ∧ Below w.heap.size w w' := by
  go_enter Try.func10, Try.ntmps10
  go_wp2_with fail
  refine (aw_new 100 2 (by decide) (by decide) (by decide) (by decide) w).mono ?_
  rintro e w1 ⟨rfl, hA1, hb1, hs1⟩
  obtain ⟨B, hB⟩ : ∃ B, w.heap.size = B := ⟨_, rfl⟩
  rw [hB] at hA1 hs1 hb1 ⊢
  have HA1 := Lib.hid hA1
  have HB1 := Lib.hid hb1
  have HHB := Lib.hid hB
  clear hA1 hb1 hB
  go_wp2_with fail
  refine (fnew_bad 0 2 (.inl (by decide)) w1).mono ?_
  rintro e _ ⟨rfl, rfl⟩
  go_upto_region 6 with fail
  generalize hW : World.alloc (World.alloc w1 _) _ = w2
  have hA2 : AwE w2 B [w1.heap.size + 1, w1.heap.size] (newF 100 2) := by
    rw [← hW]
    exact (HA1.out.add ((Below.refl _ _).alloc (Nat.le_refl _) _) (Nat.le_refl _) (by simp)).add ((Below.refl _ _).alloc (Nat.le_refl _) _) (by simp) (by simp)
  have ra2 : w2.rangeAt w1.heap.size 0 a35.cells := by
    rw [← hW]
    refine rangeAt_below ?_ ((Below.refl _ _).alloc (Nat.le_refl _) _)
    intro j v hv
    rw [Nat.zero_add, cell_of_row _ _ j _ _ (0, 0) (heap_alloc_new w1 _), ← hv]
    simp [DS.cells, a35, DS.zero]
  have rb2 : w2.rangeAt (w1.heap.size + 1) 0 b35.cells := by
    rw [← hW]
    intro j v hv
    rw [Nat.zero_add, cell_of_row _ _ j _ _ (0, 0) (by rw [show w1.heap.size + 1 = (w1.alloc _).heap.size from by simp]; exact heap_alloc_new _ _), ← hv]
    simp [DS.cells, b35, DS.zero]
  have hb2 : Below B w w2 := by
    rw [← hW]
    exact HB1.out.trans ((below_then ((Below.refl _ _).alloc (Nat.le_refl _) _) ((Below.refl _ _).alloc (Nat.le_refl _) _)).mono (Nat.le_of_lt hs1))
  obtain ⟨qa, hqa⟩ : ∃ q, w1.heap.size = q := ⟨_, rfl⟩
  rw [hqa] at hA2 ra2 rb2 hs1 ⊢
  obtain ⟨qb, hqb⟩ : ∃ q, qa + 1 = q := ⟨_, rfl⟩
  rw [hqb] at hA2 rb2 ⊢
  have HA2 := Lib.hid hA2
  have RA2 := Lib.hid ra2
  have RB2 := Lib.hid rb2
  have HB2 := Lib.hid hb2
  clear hW hA2 ra2 rb2 hb2 HA1 HB1 hqa hqb
  go_wp2_with (refine load_ds RA2.out _ (by rfl) rfl rfl ?_)
  refine (aw_hear HA2.out a35 10).mono ?_
  rintro e w3 ⟨rfl, hA, hS⟩
  rw [e35a]
  have HA3 : Hid (AwE w3 B [qb, qa] f35a) := Lib.hid hA
  have RA3 := Lib.hid (range_stay hS RA2.out (by simp))
  have RB3 := Lib.hid (range_stay hS RB2.out (by simp))
  have HB3 := Lib.hid (HB2.out.trans hS.below)
  clear hA hS HA2 RA2 RB2 HB2
  go_wp2_with fail
  refine (aw_len HA3.out).mono ?_
  rintro e _ ⟨rfl, rfl⟩
  rw [l35a]
  go_wp2_with fail
  refine (aw_qual2 HA3.out 10 (by decide) (n := 0) (by rw [q35a]; rfl)).mono ?_
  rintro e w4 ⟨A, c, rfl, hA, hS⟩
  have HA4 : Hid (AwE w4 B [qb, qa] f35a) := Lib.hid hA
  have RA4 := Lib.hid (range_stay hS RA3.out (by simp))
  have RB4 := Lib.hid (range_stay hS RB3.out (by simp))
  have HB4 := Lib.hid (HB3.out.trans hS.below)
  clear hA hS HA3 RA3 RB3 HB3
  go_wp2_with (refine load_ds RA4.out _ (by rfl) rfl rfl ?_)
  refine (aw_hear HA4.out a35 50).mono ?_
  rintro e w5 ⟨rfl, hA, hS⟩
  rw [e35b]
  have HA5 : Hid (AwE w5 B [qb, qa] f35b) := Lib.hid hA
  have RA5 := Lib.hid (range_stay hS RA4.out (by simp))
  have RB5 := Lib.hid (range_stay hS RB4.out (by simp))
  have HB5 := Lib.hid (HB4.out.trans hS.below)
  clear hA hS HA4 RA4 RB4 HB4
  go_wp2_with fail
  refine (aw_qual2 HA5.out 109 (by decide) q35b).mono ?_
  rintro e w6 ⟨A, c, rfl, hA, hS⟩
  have HA6 : Hid (AwE w6 B [qb, qa] f35b) := Lib.hid hA
  have RA6 := Lib.hid (range_stay hS RA5.out (by simp))
  have RB6 := Lib.hid (range_stay hS RB5.out (by simp))
  have HB6 := Lib.hid (HB5.out.trans hS.below)
  clear hA hS HA5 RA5 RB5 HB5
  go_wp2_with fail
  refine (aw_qual2 HA6.out 110 (by decide) q35c).mono ?_
  rintro e w7 ⟨A, c, rfl, hA, hS⟩
  have HA7 : Hid (AwE w7 B [qb, qa] f35b) := Lib.hid hA
  have RA7 := Lib.hid (range_stay hS RA6.out (by simp))
  have RB7 := Lib.hid (range_stay hS RB6.out (by simp))
  have HB7 := Lib.hid (HB6.out.trans hS.below)
  clear hA hS HA6 RA6 RB6 HB6
  go_wp2_with (refine load_ds RB7.out _ (by rfl) rfl rfl ?_)
  refine (aw_hear HA7.out b35 60).mono ?_
  rintro e w8 ⟨rfl, hA, hS⟩
  rw [e35c]
  have HA8 : Hid (AwE w8 B [qb, qa] f35c) := Lib.hid hA
  have RA8 := Lib.hid (range_stay hS RA7.out (by simp))
  have RB8 := Lib.hid (range_stay hS RB7.out (by simp))
  have HB8 := Lib.hid (HB7.out.trans hS.below)
  clear hA hS HA7 RA7 RB7 HB7
  go_wp2_with (refine load_ds RB8.out _ (by rfl) rfl rfl ?_)
  refine (aw_hear HA8.out b35 70).mono ?_
  rintro e w9 ⟨rfl, hA, hS⟩
  rw [e35d]
  have HA9 : Hid (AwE w9 B [qb, qa] f35d) := Lib.hid hA
  have RA9 := Lib.hid (range_stay hS RA8.out (by simp))
  have RB9 := Lib.hid (range_stay hS RB8.out (by simp))
  have HB9 := Lib.hid (HB8.out.trans hS.below)
  clear hA hS HA8 RA8 RB8 HB8
  go_wp2_with fail
  refine (aw_qual35 HA9.out).mono ?_
  rintro e u1 ⟨g, c, rfl, hc2, hA, hS, rg, rh⟩
  have HAu := Lib.hid hA
  have RAu := Lib.hid (range_stay hS RA9.out (by simp))
  have RBu := Lib.hid (range_stay hS RB9.out (by simp))
  have HBu := Lib.hid (HB9.out.trans hS.below)
  have RG := Lib.hid rg
  have RH := Lib.hid rh
  clear hA hS rg rh HA9 RA9 RB9 HB9
  go_wp2_with fail
  refine (aw_best HAu.out 70 (by decide)).mono ?_
  rintro e u2 ⟨rfl, hb⟩
  rw [q35d, r35, show (!([a35, b35] : List DS).isEmpty) = true from rfl]
  have HAv := Lib.hid (HAu.out.below hb)
  have HSv := Lib.hid (HAu.out.stay hb)
  have RAv := Lib.hid (range_stay HSv.out RAu.out (by simp))
  have RBv := Lib.hid (range_stay HSv.out RBu.out (by simp))
  have RGv := Lib.hid (range_stay HSv.out RG.out (by simp))
  have RHv := Lib.hid (range_stay HSv.out RH.out (by simp))
  have HBv := Lib.hid (HBu.out.trans HSv.out.below)
  clear hb HAu HSv RAu RBu RG RH HBu
  go_upto_region 12 with fail
  generalize hW : World.alloc u2 _ = u3
  have hA3 : AwE u3 B [u2.heap.size, g, qb, qa] f35d := by
    rw [← hW]
    exact HAv.out.add ((Below.refl _ _).alloc (Nat.le_refl _) _) (Nat.le_refl _) (by simp)
  have hb3 : Below u2.heap.size u2 u3 := by rw [← hW]; exact (Below.refl _ _).alloc (Nat.le_refl _) _
  have hrx : u3.rangeAt u2.heap.size 0 a35.cells := by
    rw [← hW]
    intro j v hv
    rw [Nat.zero_add, cell_of_row _ _ j _ _ (0, 0) (heap_alloc_new u2 _), ← hv]
    simp [DS.cells]
  obtain ⟨qx, hqx⟩ : ∃ q, u2.heap.size = q := ⟨_, rfl⟩
  have HBz := Lib.hid (HBv.out.trans (hb3.mono (Nat.le_of_lt HAv.out.size)))
  have hra := rangeAt_below RAv.out hb3
  have hrb := rangeAt_below RBv.out hb3
  have hrg := rangeAt_below RGv.out hb3
  have hrh := rangeAt_below RHv.out hb3
  rw [hqx] at hA3 hrx ⊢
  have HAz := Lib.hid hA3
  clear hW hb3 hqx HBv RAv RBv RGv RHv HAv hA3
  have ka0 : u3.cell? ⟨qa, 0, none⟩ = some (.int .i64 a35.p1) := hra 0 _ rfl
  have ka1 : u3.cell? ⟨qa, 1, none⟩ = some (.int .i64 a35.cls) := hra 1 _ rfl
  have ka2 : u3.cell? ⟨qa, 2, none⟩ = some (.int .i64 a35.acc) := hra 2 _ rfl
  have ka3 : u3.cell? ⟨qa, 3, none⟩ = some (.int .i64 a35.var) := hra 3 _ rfl
  have ka4 : u3.cell? ⟨qa, 4, none⟩ = some (.int .i64 a35.p2) := hra 4 _ rfl
  have ka5 : u3.cell? ⟨qa, 5, none⟩ = some (.int .u64 a35.gm) := hra 5 _ rfl
  have ka6 : u3.cell? ⟨qa, 6, none⟩ = some (.int .i64 a35.steps) := hra 6 _ rfl
  have ka7 : u3.cell? ⟨qa, 7, none⟩ = some (.int .u64 a35.sender) := hra 7 _ rfl
  have ka8 : u3.cell? ⟨qa, 8, none⟩ = some (.int .i64 a35.sport) := hra 8 _ rfl
  have ka9 : u3.cell? ⟨qa, 9, none⟩ = some (.int .u64 a35.recv) := hra 9 _ rfl
  have ka10 : u3.cell? ⟨qa, 10, none⟩ = some (.int .i64 a35.rport) := hra 10 _ rfl
  have kb0 : u3.cell? ⟨qb, 0, none⟩ = some (.int .i64 b35.p1) := hrb 0 _ rfl
  have kb1 : u3.cell? ⟨qb, 1, none⟩ = some (.int .i64 b35.cls) := hrb 1 _ rfl
  have kb2 : u3.cell? ⟨qb, 2, none⟩ = some (.int .i64 b35.acc) := hrb 2 _ rfl
  have kb3 : u3.cell? ⟨qb, 3, none⟩ = some (.int .i64 b35.var) := hrb 3 _ rfl
  have kb4 : u3.cell? ⟨qb, 4, none⟩ = some (.int .i64 b35.p2) := hrb 4 _ rfl
  have kb5 : u3.cell? ⟨qb, 5, none⟩ = some (.int .u64 b35.gm) := hrb 5 _ rfl
  have kb6 : u3.cell? ⟨qb, 6, none⟩ = some (.int .i64 b35.steps) := hrb 6 _ rfl
  have kb7 : u3.cell? ⟨qb, 7, none⟩ = some (.int .u64 b35.sender) := hrb 7 _ rfl
  have kb8 : u3.cell? ⟨qb, 8, none⟩ = some (.int .i64 b35.sport) := hrb 8 _ rfl
  have kb9 : u3.cell? ⟨qb, 9, none⟩ = some (.int .u64 b35.recv) := hrb 9 _ rfl
  have kb10 : u3.cell? ⟨qb, 10, none⟩ = some (.int .i64 b35.rport) := hrb 10 _ rfl
  have kg0 : u3.cell? ⟨g, 0, none⟩ = some (.int .i64 a35.p1) := hrg 0 _ rfl
  have kg1 : u3.cell? ⟨g, 1, none⟩ = some (.int .i64 a35.cls) := hrg 1 _ rfl
  have kg2 : u3.cell? ⟨g, 2, none⟩ = some (.int .i64 a35.acc) := hrg 2 _ rfl
  have kg3 : u3.cell? ⟨g, 3, none⟩ = some (.int .i64 a35.var) := hrg 3 _ rfl
  have kg4 : u3.cell? ⟨g, 4, none⟩ = some (.int .i64 a35.p2) := hrg 4 _ rfl
  have kg5 : u3.cell? ⟨g, 5, none⟩ = some (.int .u64 a35.gm) := hrg 5 _ rfl
  have kg6 : u3.cell? ⟨g, 6, none⟩ = some (.int .i64 a35.steps) := hrg 6 _ rfl
  have kg7 : u3.cell? ⟨g, 7, none⟩ = some (.int .u64 a35.sender) := hrg 7 _ rfl
  have kg8 : u3.cell? ⟨g, 8, none⟩ = some (.int .i64 a35.sport) := hrg 8 _ rfl
  have kg9 : u3.cell? ⟨g, 9, none⟩ = some (.int .u64 a35.recv) := hrg 9 _ rfl
  have kg10 : u3.cell? ⟨g, 10, none⟩ = some (.int .i64 a35.rport) := hrg 10 _ rfl
  have kh0 : u3.cell? ⟨g, 11, none⟩ = some (.int .i64 b35.p1) := hrh 0 _ rfl
  have kh1 : u3.cell? ⟨g, 12, none⟩ = some (.int .i64 b35.cls) := hrh 1 _ rfl
  have kh2 : u3.cell? ⟨g, 13, none⟩ = some (.int .i64 b35.acc) := hrh 2 _ rfl
  have kh3 : u3.cell? ⟨g, 14, none⟩ = some (.int .i64 b35.var) := hrh 3 _ rfl
  have kh4 : u3.cell? ⟨g, 15, none⟩ = some (.int .i64 b35.p2) := hrh 4 _ rfl
  have kh5 : u3.cell? ⟨g, 16, none⟩ = some (.int .u64 b35.gm) := hrh 5 _ rfl
  have kh6 : u3.cell? ⟨g, 17, none⟩ = some (.int .i64 b35.steps) := hrh 6 _ rfl
  have kh7 : u3.cell? ⟨g, 18, none⟩ = some (.int .u64 b35.sender) := hrh 7 _ rfl
  have kh8 : u3.cell? ⟨g, 19, none⟩ = some (.int .i64 b35.sport) := hrh 8 _ rfl
  have kh9 : u3.cell? ⟨g, 20, none⟩ = some (.int .u64 b35.recv) := hrh 9 _ rfl
  have kh10 : u3.cell? ⟨g, 21, none⟩ = some (.int .i64 b35.rport) := hrh 10 _ rfl
  have kx0 : u3.cell? ⟨qx, 0, none⟩ = some (.int .i64 a35.p1) := hrx 0 _ rfl
  have kx1 : u3.cell? ⟨qx, 1, none⟩ = some (.int .i64 a35.cls) := hrx 1 _ rfl
  have kx2 : u3.cell? ⟨qx, 2, none⟩ = some (.int .i64 a35.acc) := hrx 2 _ rfl
  have kx3 : u3.cell? ⟨qx, 3, none⟩ = some (.int .i64 a35.var) := hrx 3 _ rfl
  have kx4 : u3.cell? ⟨qx, 4, none⟩ = some (.int .i64 a35.p2) := hrx 4 _ rfl
  have kx5 : u3.cell? ⟨qx, 5, none⟩ = some (.int .u64 a35.gm) := hrx 5 _ rfl
  have kx6 : u3.cell? ⟨qx, 6, none⟩ = some (.int .i64 a35.steps) := hrx 6 _ rfl
  have kx7 : u3.cell? ⟨qx, 7, none⟩ = some (.int .u64 a35.sender) := hrx 7 _ rfl
  have kx8 : u3.cell? ⟨qx, 8, none⟩ = some (.int .i64 a35.sport) := hrx 8 _ rfl
  have kx9 : u3.cell? ⟨qx, 9, none⟩ = some (.int .u64 a35.recv) := hrx 9 _ rfl
  have kx10 : u3.cell? ⟨qx, 10, none⟩ = some (.int .i64 a35.rport) := hrx 10 _ rfl
  have HS := Lib.hid (show ∀ X : World, Stay B [qx, g, qb, qa] u3 X → (X.cell? ⟨qa, 0, none⟩ = some (.int .i64 a35.p1) ∧ X.cell? ⟨qa, 1, none⟩ = some (.int .i64 a35.cls) ∧ X.cell? ⟨qa, 2, none⟩ = some (.int .i64 a35.acc) ∧ X.cell? ⟨qa, 3, none⟩ = some (.int .i64 a35.var) ∧ X.cell? ⟨qa, 4, none⟩ = some (.int .i64 a35.p2) ∧ X.cell? ⟨qa, 5, none⟩ = some (.int .u64 a35.gm) ∧ X.cell? ⟨qa, 6, none⟩ = some (.int .i64 a35.steps) ∧ X.cell? ⟨qa, 7, none⟩ = some (.int .u64 a35.sender) ∧ X.cell? ⟨qa, 8, none⟩ = some (.int .i64 a35.sport) ∧ X.cell? ⟨qa, 9, none⟩ = some (.int .u64 a35.recv) ∧ X.cell? ⟨qa, 10, none⟩ = some (.int .i64 a35.rport) ∧ X.cell? ⟨qb, 0, none⟩ = some (.int .i64 b35.p1) ∧ X.cell? ⟨qb, 1, none⟩ = some (.int .i64 b35.cls) ∧ X.cell? ⟨qb, 2, none⟩ = some (.int .i64 b35.acc) ∧ X.cell? ⟨qb, 3, none⟩ = some (.int .i64 b35.var) ∧ X.cell? ⟨qb, 4, none⟩ = some (.int .i64 b35.p2) ∧ X.cell? ⟨qb, 5, none⟩ = some (.int .u64 b35.gm) ∧ X.cell? ⟨qb, 6, none⟩ = some (.int .i64 b35.steps) ∧ X.cell? ⟨qb, 7, none⟩ = some (.int .u64 b35.sender) ∧ X.cell? ⟨qb, 8, none⟩ = some (.int .i64 b35.sport) ∧ X.cell? ⟨qb, 9, none⟩ = some (.int .u64 b35.recv) ∧ X.cell? ⟨qb, 10, none⟩ = some (.int .i64 b35.rport) ∧ X.cell? ⟨g, 0, none⟩ = some (.int .i64 a35.p1) ∧ X.cell? ⟨g, 1, none⟩ = some (.int .i64 a35.cls) ∧ X.cell? ⟨g, 2, none⟩ = some (.int .i64 a35.acc) ∧ X.cell? ⟨g, 3, none⟩ = some (.int .i64 a35.var) ∧ X.cell? ⟨g, 4, none⟩ = some (.int .i64 a35.p2) ∧ X.cell? ⟨g, 5, none⟩ = some (.int .u64 a35.gm) ∧ X.cell? ⟨g, 6, none⟩ = some (.int .i64 a35.steps) ∧ X.cell? ⟨g, 7, none⟩ = some (.int .u64 a35.sender) ∧ X.cell? ⟨g, 8, none⟩ = some (.int .i64 a35.sport) ∧ X.cell? ⟨g, 9, none⟩ = some (.int .u64 a35.recv) ∧ X.cell? ⟨g, 10, none⟩ = some (.int .i64 a35.rport) ∧ X.cell? ⟨g, 11, none⟩ = some (.int .i64 b35.p1) ∧ X.cell? ⟨g, 12, none⟩ = some (.int .i64 b35.cls) ∧ X.cell? ⟨g, 13, none⟩ = some (.int .i64 b35.acc) ∧ X.cell? ⟨g, 14, none⟩ = some (.int .i64 b35.var) ∧ X.cell? ⟨g, 15, none⟩ = some (.int .i64 b35.p2) ∧ X.cell? ⟨g, 16, none⟩ = some (.int .u64 b35.gm) ∧ X.cell? ⟨g, 17, none⟩ = some (.int .i64 b35.steps) ∧ X.cell? ⟨g, 18, none⟩ = some (.int .u64 b35.sender) ∧ X.cell? ⟨g, 19, none⟩ = some (.int .i64 b35.sport) ∧ X.cell? ⟨g, 20, none⟩ = some (.int .u64 b35.recv) ∧ X.cell? ⟨g, 21, none⟩ = some (.int .i64 b35.rport) ∧ X.cell? ⟨qx, 0, none⟩ = some (.int .i64 a35.p1) ∧ X.cell? ⟨qx, 1, none⟩ = some (.int .i64 a35.cls) ∧ X.cell? ⟨qx, 2, none⟩ = some (.int .i64 a35.acc) ∧ X.cell? ⟨qx, 3, none⟩ = some (.int .i64 a35.var) ∧ X.cell? ⟨qx, 4, none⟩ = some (.int .i64 a35.p2) ∧ X.cell? ⟨qx, 5, none⟩ = some (.int .u64 a35.gm) ∧ X.cell? ⟨qx, 6, none⟩ = some (.int .i64 a35.steps) ∧ X.cell? ⟨qx, 7, none⟩ = some (.int .u64 a35.sender) ∧ X.cell? ⟨qx, 8, none⟩ = some (.int .i64 a35.sport) ∧ X.cell? ⟨qx, 9, none⟩ = some (.int .u64 a35.recv) ∧ X.cell? ⟨qx, 10, none⟩ = some (.int .i64 a35.rport)) from fun X hb => ⟨hb.cell ka0 (.inr (by simp)), hb.cell ka1 (.inr (by simp)), hb.cell ka2 (.inr (by simp)), hb.cell ka3 (.inr (by simp)), hb.cell ka4 (.inr (by simp)), hb.cell ka5 (.inr (by simp)), hb.cell ka6 (.inr (by simp)), hb.cell ka7 (.inr (by simp)), hb.cell ka8 (.inr (by simp)), hb.cell ka9 (.inr (by simp)), hb.cell ka10 (.inr (by simp)), hb.cell kb0 (.inr (by simp)), hb.cell kb1 (.inr (by simp)), hb.cell kb2 (.inr (by simp)), hb.cell kb3 (.inr (by simp)), hb.cell kb4 (.inr (by simp)), hb.cell kb5 (.inr (by simp)), hb.cell kb6 (.inr (by simp)), hb.cell kb7 (.inr (by simp)), hb.cell kb8 (.inr (by simp)), hb.cell kb9 (.inr (by simp)), hb.cell kb10 (.inr (by simp)), hb.cell kg0 (.inr (by simp)), hb.cell kg1 (.inr (by simp)), hb.cell kg2 (.inr (by simp)), hb.cell kg3 (.inr (by simp)), hb.cell kg4 (.inr (by simp)), hb.cell kg5 (.inr (by simp)), hb.cell kg6 (.inr (by simp)), hb.cell kg7 (.inr (by simp)), hb.cell kg8 (.inr (by simp)), hb.cell kg9 (.inr (by simp)), hb.cell kg10 (.inr (by simp)), hb.cell kh0 (.inr (by simp)), hb.cell kh1 (.inr (by simp)), hb.cell kh2 (.inr (by simp)), hb.cell kh3 (.inr (by simp)), hb.cell kh4 (.inr (by simp)), hb.cell kh5 (.inr (by simp)), hb.cell kh6 (.inr (by simp)), hb.cell kh7 (.inr (by simp)), hb.cell kh8 (.inr (by simp)), hb.cell kh9 (.inr (by simp)), hb.cell kh10 (.inr (by simp)), hb.cell kx0 (.inr (by simp)), hb.cell kx1 (.inr (by simp)), hb.cell kx2 (.inr (by simp)), hb.cell kx3 (.inr (by simp)), hb.cell kx4 (.inr (by simp)), hb.cell kx5 (.inr (by simp)), hb.cell kx6 (.inr (by simp)), hb.cell kx7 (.inr (by simp)), hb.cell kx8 (.inr (by simp)), hb.cell kx9 (.inr (by simp)), hb.cell kx10 (.inr (by simp))⟩)
  have he1 := eql_ds a35 a35
  have hd1 : decide (a35 = a35) = true := by simp
  have he2 := eql_ds b35 b35
  have hd2 : decide (b35 = b35) = true := by simp
  clear hra hrb hrg hrh hrx
  have HD := Lib.hid (show AwE u3.drew B [qx, g, qb, qa] f35d ∧ Stay B [qx, g, qb, qa] u3 u3.drew from ⟨HAz.out.below (below_drewN (Below.refl _ _) 1), HAz.out.stay (below_drewN (Below.refl _ _) 1)⟩)
  go_region_held3 (fun X => X.cell? ⟨qa, 0, none⟩ = some (.int .i64 a35.p1) ∧ X.cell? ⟨qa, 1, none⟩ = some (.int .i64 a35.cls) ∧ X.cell? ⟨qa, 2, none⟩ = some (.int .i64 a35.acc) ∧ X.cell? ⟨qa, 3, none⟩ = some (.int .i64 a35.var) ∧ X.cell? ⟨qa, 4, none⟩ = some (.int .i64 a35.p2) ∧ X.cell? ⟨qa, 5, none⟩ = some (.int .u64 a35.gm) ∧ X.cell? ⟨qa, 6, none⟩ = some (.int .i64 a35.steps) ∧ X.cell? ⟨qa, 7, none⟩ = some (.int .u64 a35.sender) ∧ X.cell? ⟨qa, 8, none⟩ = some (.int .i64 a35.sport) ∧ X.cell? ⟨qa, 9, none⟩ = some (.int .u64 a35.recv) ∧ X.cell? ⟨qa, 10, none⟩ = some (.int .i64 a35.rport) ∧ X.cell? ⟨qb, 0, none⟩ = some (.int .i64 b35.p1) ∧ X.cell? ⟨qb, 1, none⟩ = some (.int .i64 b35.cls) ∧ X.cell? ⟨qb, 2, none⟩ = some (.int .i64 b35.acc) ∧ X.cell? ⟨qb, 3, none⟩ = some (.int .i64 b35.var) ∧ X.cell? ⟨qb, 4, none⟩ = some (.int .i64 b35.p2) ∧ X.cell? ⟨qb, 5, none⟩ = some (.int .u64 b35.gm) ∧ X.cell? ⟨qb, 6, none⟩ = some (.int .i64 b35.steps) ∧ X.cell? ⟨qb, 7, none⟩ = some (.int .u64 b35.sender) ∧ X.cell? ⟨qb, 8, none⟩ = some (.int .i64 b35.sport) ∧ X.cell? ⟨qb, 9, none⟩ = some (.int .u64 b35.recv) ∧ X.cell? ⟨qb, 10, none⟩ = some (.int .i64 b35.rport) ∧ X.cell? ⟨g, 0, none⟩ = some (.int .i64 a35.p1) ∧ X.cell? ⟨g, 1, none⟩ = some (.int .i64 a35.cls) ∧ X.cell? ⟨g, 2, none⟩ = some (.int .i64 a35.acc) ∧ X.cell? ⟨g, 3, none⟩ = some (.int .i64 a35.var) ∧ X.cell? ⟨g, 4, none⟩ = some (.int .i64 a35.p2) ∧ X.cell? ⟨g, 5, none⟩ = some (.int .u64 a35.gm) ∧ X.cell? ⟨g, 6, none⟩ = some (.int .i64 a35.steps) ∧ X.cell? ⟨g, 7, none⟩ = some (.int .u64 a35.sender) ∧ X.cell? ⟨g, 8, none⟩ = some (.int .i64 a35.sport) ∧ X.cell? ⟨g, 9, none⟩ = some (.int .u64 a35.recv) ∧ X.cell? ⟨g, 10, none⟩ = some (.int .i64 a35.rport) ∧ X.cell? ⟨g, 11, none⟩ = some (.int .i64 b35.p1) ∧ X.cell? ⟨g, 12, none⟩ = some (.int .i64 b35.cls) ∧ X.cell? ⟨g, 13, none⟩ = some (.int .i64 b35.acc) ∧ X.cell? ⟨g, 14, none⟩ = some (.int .i64 b35.var) ∧ X.cell? ⟨g, 15, none⟩ = some (.int .i64 b35.p2) ∧ X.cell? ⟨g, 16, none⟩ = some (.int .u64 b35.gm) ∧ X.cell? ⟨g, 17, none⟩ = some (.int .i64 b35.steps) ∧ X.cell? ⟨g, 18, none⟩ = some (.int .u64 b35.sender) ∧ X.cell? ⟨g, 19, none⟩ = some (.int .i64 b35.sport) ∧ X.cell? ⟨g, 20, none⟩ = some (.int .u64 b35.recv) ∧ X.cell? ⟨g, 21, none⟩ = some (.int .i64 b35.rport) ∧ X.cell? ⟨qx, 0, none⟩ = some (.int .i64 a35.p1) ∧ X.cell? ⟨qx, 1, none⟩ = some (.int .i64 a35.cls) ∧ X.cell? ⟨qx, 2, none⟩ = some (.int .i64 a35.acc) ∧ X.cell? ⟨qx, 3, none⟩ = some (.int .i64 a35.var) ∧ X.cell? ⟨qx, 4, none⟩ = some (.int .i64 a35.p2) ∧ X.cell? ⟨qx, 5, none⟩ = some (.int .u64 a35.gm) ∧ X.cell? ⟨qx, 6, none⟩ = some (.int .i64 a35.steps) ∧ X.cell? ⟨qx, 7, none⟩ = some (.int .u64 a35.sender) ∧ X.cell? ⟨qx, 8, none⟩ = some (.int .i64 a35.sport) ∧ X.cell? ⟨qx, 9, none⟩ = some (.int .u64 a35.recv) ∧ X.cell? ⟨qx, 10, none⟩ = some (.int .i64 a35.rport))
    (first | go_keep | exact HS.out _ hD.out.2 | exact HS.out _ hC.out.2 | exact HS.out _ hA.out.2)
    (first
      | (go_at_call 13; (with_reducible refine (aw_len hA.out.1).mono ?_); rintro e _ ⟨rfl, rfl⟩; rw [l35e])
      | (go_at_call 11; (with_reducible refine (aw_hear hC.out.1 a35 69).mono ?_); rintro e wD ⟨rfl, hx, hs⟩; rw [e35g]; have hD : Hid (AwE wD B [qx, g, qb, qa] (hearS f35e a35 69) ∧ Stay B [qx, g, qb, qa] u3 wD) := ⟨hx, hC.out.2.trans hs⟩; clear hx hs)
      | (go_at_call 11; refine (aw_hear hA.out.1 d35 70).mono ?_; rintro e wC ⟨rfl, hx, hs⟩; rw [e35f]; have hC : Hid (AwE wC B [qx, g, qb, qa] f35e ∧ Stay B [qx, g, qb, qa] u3 wC) := ⟨by rw [s35f] at hx; exact hx, hA.out.2.trans hs⟩; clear hx hs)
      | (go_at_call 16; (with_reducible refine (aw_forget HD.out.1 155 (by decide)).mono ?_); rintro e wA ⟨rfl, hx, hs⟩; rw [show (f35d.list.length : Int) - ((forgetF f35d 155).list.length : Int) = 1 from l35d]; have hA : Hid (AwE wA B [qx, g, qb, qa] f35e ∧ Stay B [qx, g, qb, qa] u3 wA) := ⟨hx, HD.out.2.trans hs⟩; clear hx hs))
  all_goals clear ka0 ka1 ka2 ka3 ka4 ka5 ka6 ka7 ka8 ka9 ka10 kb0 kb1 kb2 kb3 kb4 kb5 kb6 kb7 kb8 kb9 kb10 kg0 kg1 kg2 kg3 kg4 kg5 kg6 kg7 kg8 kg9 kg10 kh0 kh1 kh2 kh3 kh4 kh5 kh6 kh7 kh8 kh9 kh10 kx0 kx1 kx2 kx3 kx4 kx5 kx6 kx7 kx8 kx9 kx10 he1 hd1 he2 hd2
  all_goals go_wp2_with fail
  all_goals go_ret
  all_goals exact ⟨rfl, by rw [HHB.out]; exact HBz.out.trans hD.out.2.below⟩
end Go.Proofs.Ytboijaffpnmcaaa
