/- Messages of the examples: how they are stored, and what 'message' returns. -/
import Derived.WalkKit
import Derived.LoopTactic
import Derived.Outline
import Derived.Lib.Hide
import Derived.Deep.WholeRow
import Derived.Test.YtkjnhabflkaopaaMem
import Derived.Test.YtkjnhabflkaopaaE2
namespace Go.Proofs.Ytkjnhabflkaopaa
open Go.RowKit
set_option linter.unusedVariables false
set_option linter.unusedSimpArgs false

theorem load_ptp_at {ops : Array Oper} {rest : List Oper} {op : Oper} {a : Act} {w : World} {Q : Exit → Act → World → Prop} {g o : Nat} {p : Ptp} (h : w.rangeAt g o p.cells) (x : Operand) (hw : Region.wanted op (yielded ops a.tmps) = true)
    (ho : op.op = .load 38 x) (hx : a.eval x = .pointer (some ⟨g, o, none⟩)) (k : wpList Try.prog ops Q rest (a.put op.dst p.v) w) : wpList Try.prog ops Q (op :: rest) a w :=
  BigFrame.wpList_want hw fun K hK => wp_load_mid _ x ho g o hx p.cells _ h Try.underlying38 rfl infoPtp (hK _ _ k)
theorem ptp_one (p : Ptp) : p.cells.toArray.all (·.oneCell') = true := by simp [Ptp.cells, Value.oneCell']
theorem store_ptp_new {ops : Array Oper} {rest : List Oper} {op : Oper} {a : Act} {w : World} {Q : Exit → Act → World → Prop} {c : Array Value} {p : Ptp} {g : Nat} (hg : g = w.heap.size) (hc : c.size = 21) (x y : Operand) (hw : Region.wanted op (yielded ops a.tmps) = true)
    (ho : op.op = .store 38 x y) (hx : a.eval x = .pointer (some ⟨g, 0, none⟩)) (hy : a.eval y = p.v) (k : wpList Try.prog ops Q rest (a.put op.dst undef) (w.alloc (.cells p.cells.toArray 38))) :
    wpList Try.prog ops Q (op :: rest) a (w.alloc (.cells c 38)) :=
  BigFrame.wpList_want hw fun K hK => by
    subst hg
    have hv : p.v = .agg p.cells.toArray := rfl
    have hs := run_storeVar_new (P := Try.prog) w 38 c p.cells.toArray infoPtp (by rw [hc]; rfl) (ptp_one p)
    unfold Oper.wp execOp
    simp only [ho, hx, hy, hv, Instr.storeAt, Instr.sureAddr, Sem.run_bind, Sem.run_pure, Result.andThen_ok, hs]
    exact hK _ _ k
theorem store_ptp_at {ops : Array Oper} {rest : List Oper} {op : Oper} {a : Act} {w : World} {Q : Exit → Act → World → Prop} {g o : Nat} {p : Ptp} (ht : w.there g o 21) (x y : Operand) (hw : Region.wanted op (yielded ops a.tmps) = true)
    (ho : op.op = .store 38 x y) (hx : a.eval x = .pointer (some ⟨g, o, none⟩)) (hy : a.eval y = p.v) (k : wpList Try.prog ops Q rest (a.put op.dst undef) (w.setCells g o p.cells)) :
    wpList Try.prog ops Q (op :: rest) a w :=
  BigFrame.wpList_want hw fun K hK => wp_store_mid _ x y ho g o p.cells.toArray hx hy ht infoPtp (ptp_one p) (hK _ _ k)
theorem stampOf_any (t : Int) (h0 : 2208988800000000000 ≤ t) (h1 : t ≤ 9000000000000000000) (w : World) : Calls Try.prog 50 #[.int .i64 t] w fun e w' => e = .returned (.tuple #[stampV (t / 1000000000 - 2208988800) (t % 1000000000), .int .i64 0]) ∧ Below w.heap.size w w' := by
  have hd : decide (t < 2208988800000000000) = false := by simp; omega
  go_enter Try.func50, Try.ntmps50
  go_wp2_with fail
  refine bodyPost_ret (v := .tuple #[stampV (t / 1000000000 - 2208988800) (t % 1000000000), .int .i64 0]) (by simp [results, Try.results50, go_sem]) rfl ⟨rfl, ?_⟩
  exact (Below.refl _ _).alloc (Nat.le_refl _) _
theorem results_cell_at {fn : Func} {p : Tmp} {ty : TypeId} (h : fn.results = #[.cell p ty]) (tmps : Array Value) (w : World) (A : Addr) (v : Value) (hp : tmps.getD p undef = .pointer (some A)) (hl : (loadVar ty A).run Try.prog w = .ok v w) :
    (results fn tmps).run Try.prog w = .ok v w := by
  have hp' : tmps[p]?.getD undef = .pointer (some A) := by simpa using hp
  simp [results, h, hp', asAddr, hl, Result.andThen]
theorem there_up {w : World} {g o n : Nat} {x : Obj} (h : w.there g o n) (hg : g < w.heap.size) : (w.alloc x).there g o n := fun j hj => by
  have hb := (Below.refl w.heap.size w).alloc (Nat.le_refl _) x
  exact ⟨by rw [hb.cell hg]; exact (h j hj).1, by rw [hb.frozen hg]; exact (h j hj).2⟩
theorem lt_up {w : World} {g : Nat} {x : Obj} (h : g < w.heap.size) : g < (w.alloc x).heap.size := by simp; omega
theorem below_sets {B g : Nat} {u : World} (hg : B ≤ g) : ∀ (vs : List Value) (o : Nat) (w : World), Below B u w → Below B u (w.setCells g o vs)
  | [], _, _, h => h
  | v :: r, o, w, h => below_sets hg r (o + 1) _ (h.setCell (p := ⟨g, o, none⟩) hg v)
def msgF (kind seq at_ corr : Int) : Ptp := ⟨kind, 0, 0, corr * 65536, 5, 1, seq, 0, (3900000000000000000 + at_) / 1000000000 - 2208988800, (3900000000000000000 + at_) % 1000000000, if kind = 9 then 9 else 0, if kind = 9 then 1 else 0, .zero⟩
set_option maxRecDepth 100000 in
set_option maxHeartbeats 4000000 in
theorem message_any (kind seq at_ corr : Int) (h0 : -1125899906842624 ≤ at_) (h1 : at_ ≤ 1125899906842624) (h2 : -70368744177664 ≤ corr) (h3 : corr ≤ 70368744177664) (w : World) :
    Calls Try.prog 30 #[.int .i64 kind, .int .i64 seq, .int .i64 at_, .int .i64 corr] w fun e w' => e = .returned (msgF kind seq at_ corr).v ∧ Below w.heap.size w w' := by
  have hof := stampOf_any (3900000000000000000 + at_) (by omega) (by omega)
  obtain ⟨s, hs⟩ : ∃ s, (3900000000000000000 + at_) / 1000000000 - 2208988800 = s := ⟨_, rfl⟩
  obtain ⟨n, hn⟩ : ∃ n, (3900000000000000000 + at_) % 1000000000 = n := ⟨_, rfl⟩
  rw [hs, hn] at hof
  obtain ⟨m, hm⟩ : ∃ m, msgF kind seq at_ corr = m := ⟨_, rfl⟩
  rw [hm]
  simp only [msgF, hs, hn] at hm
  have HM := Lib.hid hm
  have OF := Lib.hid hof
  clear hof hs hn hm
  go_enter Try.func30, Try.ntmps30
  refine seq_opaque ?_
  intro T HT
  go_wp2_with fail
  generalize hW : w.alloc _ = W
  have hw : Below w.heap.size w W := by rw [← hW]; exact (Below.refl _ _).alloc (Nat.le_refl _) _
  have hz : PtpBox W w.heap.size .zero := by rw [← hW]; exact PtpBox.of (heap_alloc_new w _)
  have hfz : ∀ j, W.frozen? ⟨w.heap.size, j, none⟩ = false := by rw [← hW]; exact fun j => frozen_of_row _ _ j _ _ (heap_alloc_new w _)
  have hs : w.heap.size < W.heap.size := by rw [← hW]; simp
  rw [HT.out]
  clear hW HT
  go_wp2_with fail
  refine (OF.out _).mono ?_
  rintro e w1 ⟨rfl, hb1⟩
  have HB1 := Lib.hid (below_then hw hb1)
  have HS := Lib.hid (show w.heap.size < w1.heap.size by have := hb1.size; omega)
  have TH := Lib.hid (show w1.there w.heap.size 0 21 from fun j hj => ⟨by rw [Nat.zero_add, hb1.cell hs, hz j hj]; simp [Ptp.cells, hj], by rw [Nat.zero_add, hb1.frozen hs]; exact hfz j⟩)
  clear hw hz hfz hs hb1
  by_cases hk : kind = 9
  · subst hk
    have hm : m = ⟨9, 0, 0, corr * 65536, 5, 1, seq, 0, s, n, 9, 1, .zero⟩ := by rw [← HM.out]; simp
    subst hm
    go_wp2_with (first | (refine store_ptp_at (p := ⟨9, 0, 0, corr * 65536, 5, 1, seq, 0, s, n, 9, 1, .zero⟩) (there_up (there_up TH.out HS.out) (lt_up HS.out)) _ _ (by rfl) rfl rfl rfl ?_) | (refine store_ptp_new (p := ⟨9, 0, 0, corr * 65536, 5, 1, seq, 0, s, n, 0, 0, .zero⟩) (by simp) rfl _ _ (by rfl) rfl rfl rfl ?_) | (refine load_ptp_at (p := ⟨9, 0, 0, corr * 65536, 5, 1, seq, 0, s, n, 9, 1, .zero⟩) (PtpBox.range (PtpBox.of (heap_at (by simp)))) _ (by rfl) rfl rfl ?_))
    generalize hV : (w1.alloc _).alloc _ = V
    have tv : V.there w.heap.size 0 21 := by rw [← hV]; exact there_up (there_up TH.out HS.out) (lt_up HS.out)
    have hv : Below w.heap.size w V := by rw [← hV]; exact (HB1.out.alloc (Nat.le_of_lt HS.out) _).alloc (Nat.le_of_lt (lt_up HS.out)) _
    have hl := run_loadVar_mid (P := Try.prog) (V.setCells w.heap.size 0 (Ptp.cells ⟨9, 0, 0, corr * 65536, 5, 1, seq, 0, s, n, 9, 1, .zero⟩)) w.heap.size 0 38 (Ptp.cells ⟨9, 0, 0, corr * 65536, 5, 1, seq, 0, s, n, 9, 1, .zero⟩) _ (World.rangeAt_setCells_same _ _ _ _ tv) Try.underlying38 rfl infoPtp
    refine bodyPost_ret (v := Ptp.v ⟨9, 0, 0, corr * 65536, 5, 1, seq, 0, s, n, 9, 1, .zero⟩) ?_ rfl ⟨rfl, below_sets (Nat.le_refl _) _ _ _ hv⟩
    rw [results_cell_at rfl _ _ _ _ rfl hl]
    rfl
  · have hkb : (kind == 9) = false := by simpa using hk
    have hm : m = ⟨kind, 0, 0, corr * 65536, 5, 1, seq, 0, s, n, 0, 0, .zero⟩ := by rw [← HM.out]; simp [hk]
    subst hm
    clear hk
    go_wp2_with (first | (refine store_ptp_at (p := ⟨kind, 0, 0, corr * 65536, 5, 1, seq, 0, s, n, 0, 0, .zero⟩) (there_up (there_up TH.out HS.out) (lt_up HS.out)) _ _ (by rfl) rfl rfl rfl ?_) | (refine store_ptp_new (p := ⟨kind, 0, 0, corr * 65536, 5, 1, seq, 0, s, n, 0, 0, .zero⟩) (by simp) rfl _ _ (by rfl) rfl rfl rfl ?_) | (refine load_ptp_at (p := ⟨kind, 0, 0, corr * 65536, 5, 1, seq, 0, s, n, 0, 0, .zero⟩) (PtpBox.range (PtpBox.of (heap_at (by simp)))) _ (by rfl) rfl rfl ?_))
    generalize hV : (w1.alloc _).alloc _ = V
    have tv : V.there w.heap.size 0 21 := by rw [← hV]; exact there_up (there_up TH.out HS.out) (lt_up HS.out)
    have hv : Below w.heap.size w V := by rw [← hV]; exact (HB1.out.alloc (Nat.le_of_lt HS.out) _).alloc (Nat.le_of_lt (lt_up HS.out)) _
    have hl := run_loadVar_mid (P := Try.prog) (V.setCells w.heap.size 0 (Ptp.cells ⟨kind, 0, 0, corr * 65536, 5, 1, seq, 0, s, n, 0, 0, .zero⟩)) w.heap.size 0 38 (Ptp.cells ⟨kind, 0, 0, corr * 65536, 5, 1, seq, 0, s, n, 0, 0, .zero⟩) _ (World.rangeAt_setCells_same _ _ _ _ tv) Try.underlying38 rfl infoPtp
    refine bodyPost_ret (v := Ptp.v ⟨kind, 0, 0, corr * 65536, 5, 1, seq, 0, s, n, 0, 0, .zero⟩) ?_ rfl ⟨rfl, below_sets (Nat.le_refl _) _ _ _ hv⟩
    rw [results_cell_at rfl _ _ _ _ rfl hl]
    rfl
end Go.Proofs.Ytkjnhabflkaopaa
