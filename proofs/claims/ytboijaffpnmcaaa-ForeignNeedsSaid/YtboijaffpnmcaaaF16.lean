/- Forget. -/
import Derived.WalkKit
import Derived.LoopTactic
import Derived.Outline
import Derived.Lib.Hide
import Derived.Deep.RegionWith
import Derived.Test.YtboijaffpnmcaaaF15
namespace Go.Proofs.Ytboijaffpnmcaaa
open Go.RowKit
set_option linter.unusedVariables false
set_option linter.unusedSimpArgs false

/-- Has a record no recent message? -/
def staleB (f : Fr) (at_ : Int) (r : Rc) : Bool := ((recentF f.window f.last at_ r.heard : Nat) : Int) == 0
def forgetF (f : Fr) (at_ : Int) : Fr := { f with list := f.list.filter (fun r => !staleB f at_ r) }
theorem stale_any {f : Fr} {b q1 q2 : Nat} {at_ : Int} {w : World} (c0 : w.cell? ⟨b, 0, none⟩ = some (.int .i64 f.window)) (c2 : w.cell? ⟨b, 2, none⟩ = some (.int .i64 f.last)) (x1 : w.cell? ⟨q1, 0, none⟩ = some (.pointer (some ⟨b, 0, none⟩))) (x2 : w.cell? ⟨q2, 0, none⟩ = some (.int .i64 at_)) (r : Rc) {A : Option Addr} {n c : Nat} {base : Nat} (hown : w.ownsRow base 3 1 (.slice A n c) r.heard.length (intsV r.heard)) (hr : r.heard ≠ []) (ok : f.Ok) (ha1 : at_ ≤ 9223372036854775807) :
    Calls Try.prog 26 #[r.v (.slice A n c), .pointer (some ⟨q1, 0, none⟩), .pointer (some ⟨q2, 0, none⟩)] w fun e w' => e = .returned (.bool (staleB f at_ r)) ∧ Below w.heap.size w w' := by
  have HREC := Lib.hid (fun (w' : World) (h : Below w.heap.size w w') => recent_any (cell_below h c0) (cell_below h c2) r (ownsRow_below hown h) hr ok.w0 ok.w1 ok.l0 ok.l1 ha1)
  have hq1 := World.block_lt_of_cell? w _ x1
  have hq2 := World.block_lt_of_cell? w _ x2
  obtain ⟨z, hz⟩ : ∃ z, staleB f at_ r = z := ⟨_, rfl⟩
  rw [hz]
  have HZ := Lib.hid hz
  clear hz hown hr c0 c2
  go_enter Try.func26, Try.ntmps26
  go_upto_region 1 with fail
  generalize hW1 : w.alloc _ = W1
  have hbW : Below w.heap.size w W1 := by rw [← hW1]; exact (Below.refl _ _).alloc (Nat.le_refl _) _
  have hbx : W1.rangeAt w.heap.size 0 (r.cells (.slice A n c)) := by
    rw [← hW1]
    intro t v hv
    rw [Nat.zero_add, cell_of_row _ _ t _ _ (0, 0) (heap_alloc_new w _), ← hv]
    simp [Rc.cells]
  have HBW := Lib.hid hbW
  have HBX := Lib.hid hbx
  have y1 := cell_below hbW x1
  have y2 := cell_below hbW x2
  obtain ⟨B, hB⟩ : ∃ B, w.heap.size = B := ⟨_, rfl⟩
  rw [hB] at HBX ⊢
  clear hW1 hbW hbx x1 x2 hB
  go_wp2_with (refine load_rec HBX.out _ (by rfl) rfl rfl ?_)
  refine (HREC.out W1 HBW.out).mono ?_
  rintro e w2 ⟨rfl, hb2⟩
  have HB2 := Lib.hid (below_then HBW.out hb2)
  obtain ⟨m, hm⟩ : ∃ m, recentF f.window f.last at_ r.heard = m := ⟨_, rfl⟩
  have hs : ((m : Int) == 0) = z := by rw [← HZ.out, staleB, hm]
  rw [hm]
  clear hb2 y1 y2 HREC hm
  cases z
  all_goals go_wp2_with fail
  all_goals go_ret
  all_goals exact ⟨rfl, HB2.out⟩
theorem forget_enters : ∀ args w, (callFunc 26 args).run Try.prog w = .ok (.enter 26 args) w := enters_of Try.func26 (by kernel_rfl) rfl
theorem fforget_nil (at_ : Int) (w : World) : Calls Try.prog 16 #[.pointer none, .int .i64 at_] w fun e w' => e = .returned (.int .i64 0) ∧ Below w.heap.size w w' := by
  go_enter Try.func16, Try.ntmps16
  go_wp2_with fail
  go_ret
  exact ⟨rfl, below_then ((Below.refl _ _).alloc (Nat.le_refl _) _) ((Below.refl _ _).alloc (Nat.le_refl _) _)⟩
/-- What DeleteFunc leaves of the records, ahead of the store. -/
theorem forget_facts {W w2 : World} {base b n c q1 : Nat} {f : Fr} {A : Option Addr} {hs : List Value} {v' : Value} {p : Rc → Bool} {x1 : Value} (hF : FrAt W base b f (.slice A n c) hs) (hq1 : W.cell? ⟨q1, 0, none⟩ = some x1) (hqm : q1 ≠ b ∧ (Value.slice A n c).ownBlock ≠ some q1)
    (h : w2.ownsRow base 57 14 v' (keptL p f.list hs).length (rowsF ((keptL p f.list hs).map (·.1)) ((keptL p f.list hs).map (·.2))) ∧ v'.ownBlock = (Value.slice A n c).ownBlock ∧ Keep (fun q => (Value.slice A n c).ownBlock = some q) W.drew w2) :
    ∃ A' c', v' = .slice A' (keptL p f.list hs).length c' ∧ w2.cell? ⟨q1, 0, none⟩ = some x1 ∧ w2.cell? ⟨b, 3, none⟩ = some (.slice A n c) ∧ w2.frozen? ⟨b, 3, none⟩ = false ∧ (w2.setCell ⟨b, 3, none⟩ (.slice A' (keptL p f.list hs).length c')).cell? ⟨q1, 0, none⟩ = some x1 ∧ (w2.setCell ⟨b, 3, none⟩ (.slice A' (keptL p f.list hs).length c')).cell? ⟨b, 3, none⟩ = some (.slice A' (keptL p f.list hs).length c') ∧
      Hid (FrAt (w2.setCell ⟨b, 3, none⟩ (.slice A' (keptL p f.list hs).length c')) base b { f with list := f.list.filter (fun r => !p r) } (.slice A' (keptL p f.list hs).length c') ((keptL p f.list hs).map (·.2)) ∧ Keep (fun g => g = b ∨ (Value.slice A n c).ownBlock = some g) W (w2.setCell ⟨b, 3, none⟩ (.slice A' (keptL p f.list hs).length c')) ∧ ∀ g, mine b (.slice A' (keptL p f.list hs).length c') ((keptL p f.list hs).map (·.2)) g → mine b (.slice A n c) hs g) := by
  obtain ⟨hown, hob, hk0⟩ := h
  obtain ⟨A', c', rfl⟩ : ∃ A' c', v' = .slice A' (keptL p f.list hs).length c' := by
    rcases hown.2 with ⟨e, hn⟩ | ⟨g, cap, cur, e, _⟩
    · exact ⟨none, 0, by rw [e, hn]⟩
    · exact ⟨_, _, e⟩
  have hbl := hF.lt
  have hk : Keep (fun q => (Value.slice A n c).ownBlock = some q) W w2 := (Keep.of (M := fun q => (Value.slice A n c).ownBlock = some q) (below_drewN (Below.refl W.heap.size W) 1)).trans hk0 (fun g hg => .inl hg)
  have hh := (hk.block b hbl hF.lb).trans hF.head
  have hs2 := heap_set hh 3 (.slice A' (keptL p f.list hs).length c')
  have k2 : Keep (fun g => g = b ∨ (Value.slice A n c).ownBlock = some g) W (w2.setCell ⟨b, 3, none⟩ (.slice A' (keptL p f.list hs).length c')) := (hk.wide (fun g hg => .inr hg)).thenTouch ((Touch.refl b w2).set 3 _) (.inl (.inl rfl))
  obtain ⟨σ, h1, h2, h3⟩ := kept_at p f.list hs hF.hlen
  have hfst := kept_fst p f.list hs hF.hlen
  have hl2 : ((keptL p f.list hs).map (·.2)).length = (f.list.filter (fun r => !p r)).length := by rw [← hfst]; simp
  have hl3 : (keptL p f.list hs).length = (f.list.filter (fun r => !p r)).length := by rw [← hfst]; simp
  refine ⟨A', c', rfl, hk.cell hq1 hqm.2, cell_of_row w2 b 3 _ _ (0, 0) hh, frozen_of_row w2 b 3 _ _ hh, k2.cell hq1 (by rintro (e | e); exact hqm.1 e; exact hqm.2 e), ?_, ?_, k2, mine_sub hob σ h3⟩
  · rw [cell_of_row _ b 3 _ _ (0, 0) hs2]
    rfl
  · refine hF.sub k2 (by rw [hs2]; rfl) hl2 ?_ hob σ h1 (fun i r h => h2 i r (by rw [hfst]; exact h)) h3
    show World.ownsRow _ base _ 14 _ (f.list.filter (fun r => !p r)).length (rowsF (f.list.filter (fun r => !p r)) _)
    rw [← hl3, ← hfst]
    exact ownsRow_keep hown (Keep.touch (M := fun q => q = b) ((Touch.refl b w2).set 3 _) rfl) (fun q hq e => hF.lb (by rw [← hob, hq, e]))
set_option maxRecDepth 100000 in
set_option maxHeartbeats 4000000 in
theorem fforget_any {f : Fr} {base b : Nat} {lv : Value} {hs : List Value} {w : World} (hF : FrAt w base b f lv hs) (ok : f.Ok) (hbig : f.list.length ≤ 1000) (at_ : Int) (ha1 : at_ ≤ 9223372036854775807) :
    Calls Try.prog 16 #[.pointer (some ⟨b, 0, none⟩), .int .i64 at_] w fun e w' => e = .returned (.int .i64 ((f.list.length : Int) - ((forgetF f at_).list.length : Int))) ∧ ∃ lv' hs', FrAt w' base b (forgetF f at_) lv' hs' ∧ Keep (fun g => g = b ∨ lv.ownBlock = some g) w w' ∧ ∀ g, mine b lv' hs' g → mine b lv hs g := by
  obtain ⟨A, c, rfl⟩ : ∃ A c, lv = .slice A f.list.length c := by
    rcases hF.form with ⟨rfl, e⟩ | ⟨g, cap, rfl, _⟩
    · exact ⟨none, 0, by rw [e]; rfl⟩
    · exact ⟨_, _, rfl⟩
  have hbl := hF.lt
  have HF := Lib.hid hF
  have HOK := Lib.hid ok
  have hll : (keptL (staleB f at_) f.list hs).length = (forgetF f at_).list.length := by rw [show (forgetF f at_).list = f.list.filter (fun r => !staleB f at_ r) from rfl, ← kept_fst _ _ _ hF.hlen]; simp
  have hlf : (forgetF f at_).list.length ≤ f.list.length := List.length_filter_le _ _
  obtain ⟨m, hm⟩ : ∃ m, (forgetF f at_).list.length = m := ⟨_, rfl⟩
  obtain ⟨n, hn⟩ : ∃ n, f.list.length = n := ⟨_, rfl⟩
  rw [hm] at hll hlf ⊢
  rw [hn] at hbig hlf ⊢
  have HN := Lib.hid hn
  have HLL := Lib.hid hll
  rw [hn] at HF
  clear hF ok hm hn hll
  go_enter Try.func16, Try.ntmps16
  have C3 := HF.out.cell 3
  go_upto_region 4 with fail
  generalize hW : World.alloc (World.alloc w _) _ = W
  have hb0 : Below w.heap.size w W := by rw [← hW]; exact below_then ((Below.refl _ _).alloc (Nat.le_refl _) _) ((Below.refl _ _).alloc (Nat.le_refl _) _)
  have hF0 := HF.out.below hb0
  have x1 : W.cell? ⟨w.heap.size, 0, none⟩ = some (.pointer (some ⟨b, 0, none⟩)) := by
    rw [← hW]
    refine cell_below ((Below.refl _ _).alloc (Nat.le_refl _) _) ?_
    rw [cell_of_row _ _ 0 _ _ (0, 0) (heap_alloc_new w _)]
    rfl
  have x2 : W.cell? ⟨w.heap.size + 1, 0, none⟩ = some (.int .i64 at_) := by
    rw [← hW, cell_of_row _ _ 0 _ _ (0, 0) (by rw [show w.heap.size + 1 = (w.alloc _).heap.size from by simp]; exact heap_alloc_new _ _)]
    rfl
  have hF1 : FrAt W.drew base b f (.slice A n c) hs := hF0.below (below_drewN (Below.refl _ _) 1)
  have hqm : w.heap.size ≠ b ∧ (Value.slice A n c).ownBlock ≠ some w.heap.size := ⟨by omega, fun e => by have := (HF.out.own.lt _ e).2; omega⟩
  have hqn : (Value.slice A n c).ownBlock ≠ some (w.heap.size + 1) := fun e => by have := (HF.out.own.lt _ e).2; omega
  have hdel := rdelf_any hF1.own hF1.hlen (by rw [HN.out]; exact hbig) (fun i x hx => by
    obtain ⟨r, hr⟩ := hF1.each_hs hx
    obtain ⟨g', c', rfl⟩ := hF1.time hr hx
    exact ⟨_, _, _, rfl⟩) (staleB f at_) 26 #[.pointer (some ⟨w.heap.size, 0, none⟩), .pointer (some ⟨w.heap.size + 1, 0, none⟩)] forget_enters (fun i r h w' h1 h2 hk => by
    have he := hF1.each i r h h1 h2
    obtain ⟨g', c', rfl⟩ := hF1.time h1 h2
    exact stale_any (hk.cell (hF1.cell 0) hF1.lb) (hk.cell (hF1.cell 2) hF1.lb) (hk.cell x1 hqm.2) (hk.cell x2 hqn) r (ownsRow_keep he.1 hk (fun q hq e => he.2.2.2 (hq.trans e.symm))) he.2.1 HOK.out ha1)
  have HDEL := Lib.hid hdel
  have HF0 := Lib.hid hF0
  have HB0 := Lib.hid hb0
  have D3 : W.cell? ⟨b, 3, none⟩ = some (.slice A n c) := hF0.cell 3
  have HFF := Lib.hid (fun (w2 : World) (v' : Value) h => forget_facts (w2 := w2) (v' := v') (p := staleB f at_) hF0 x1 hqm h)
  have HLL2 := HLL
  clear hdel hF0 hF1 hb0 hW C3 HOK
  go_region_with (
    go_at_call 25
    refine HDEL.out.mono ?_
    rintro e w2 ⟨v', rfl, h2⟩
    obtain ⟨A', c', rfl, y1, y3, z3, z1, z4, HEND⟩ := HFF.out w2 v' h2
    rw [HLL2.out] at z1 z4 HEND ⊢
    clear h2)
  all_goals generalize hW3 : w2.setCell ⟨b, 3, none⟩ (.slice A' m c') = w3 at z1 z4 HEND ⊢
  all_goals clear hW3 y1 y3 z3 D3 x1 x2 HFF HLL HLL2
  all_goals have hb1 : (m : Int) ≤ (n : Int) := by omega
  all_goals go_wp2_with fail
  all_goals go_ret
  all_goals
    obtain ⟨h1, h2, h3⟩ := HEND.out
    refine ⟨?_, _, _, h1, (Keep.of HB0.out).trans h2 (fun g hg => .inl hg), h3⟩
    first | rfl | skip
end Go.Proofs.Ytboijaffpnmcaaa
