/- The reference of chapter 36: Decide, Master. -/
import Derived.WalkKit
import Derived.LoopTactic
import Derived.Outline
import Derived.Lib.Hide
import Derived.OwnWalk
import Derived.Test.YthehhcaohhlccaaDe9
namespace Go.Proofs.Ythehhcaohhlccaa
open Go.RowKit
set_option linter.unusedVariables false
set_option linter.unusedSimpArgs false

theorem codes_next (own : DS) (l : List PB) (k : Nat) (hk : k < l.length) : intVals ((codesF own l).take (k + 1)) = intVals ((codesF own l).take k) ++ [.int .i64 (codeF own l (pbest l) k)] := by
  have hk' : k < (codesF own l).length := by rw [codes_len]; exact hk
  have h := codes_at own l k hk
  rw [List.getD_eq_getElem?_getD, List.getElem?_eq_getElem hk', Option.getD_some] at h
  rw [List.take_add_one, List.getElem?_eq_getElem hk', h]
  simp [intVals]
theorem rdecide_long (own : DS) (A : Option Addr) (n c : Nat) (hn : 8 < n) (w : World) :
    Calls Try.prog 53 #[own.v, .slice A n c] w fun e w' => e = .returned (.tuple #[.slice none 0 0, .int .i64 6]) ∧ Below w.heap.size w w' := by
  have hn' : (8 : Int) < (n : Int) := by omega
  go_enter Try.func53, Try.ntmps53
  go_wp2_with fail
  go_ret2
  exact ⟨rfl, (Below.refl _ _).alloc (Nat.le_refl _) _⟩
set_option maxRecDepth 100000 in
set_option maxHeartbeats 2000000 in
theorem rdecide_any {A : Option Addr} {n cap : Nat} {l : List PB} {w : World} (own : DS) (ok : PBArg w A n cap l) (hn : n ≤ 8) :
    Calls Try.prog 53 #[own.v, .slice A n cap] w fun e w' => ∃ B c, e = .returned (.tuple #[.slice B n c, .int .i64 0]) ∧ Below w.heap.size w w' ∧ (0 < n → ∃ g, B = some ⟨g, 0, none⟩ ∧ RowAt w' g (codesF own l)) := by
  obtain ⟨i0, hi0, hz0, hz1, hz2⟩ := info_parts infoInt
  have hl := ok.len_eq
  have HL := Lib.hid hl
  have OK := Lib.hid ok
  have hmo := ok.most
  have hcp := ok.le
  have RB := Lib.hid (show ∀ w1, Below w.heap.size w w1 → Calls Try.prog 57 #[.slice A n cap] w1 fun e w' => e = .returned (.int .i64 (pbest l)) ∧ Below w1.heap.size w1 w' from fun w1 hb => by
    rcases Nat.eq_zero_or_pos n with h0 | h0
    · subst h0
      have e : l = [] := List.eq_nil_of_length_eq_zero hl
      subst e
      exact rpbest_nil A cap w1
    · obtain ⟨b, off, rfl, hr⟩ := ok.at_ h0
      have := rpbest_any l b off cap w1 (by omega) (hr.below hb)
      rwa [hl] at this)
  clear hl ok
  go_enter Try.func53, Try.ntmps53
  have hg : decide (8 < (n : Int)) = false := by simp; omega
  go_wp2_with fail
  generalize hW : w.alloc _ = W
  have hb0 : Below w.heap.size w W := by rw [← hW]; exact (Below.refl _ _).alloc (Nat.le_refl _) _
  have hO0 : BoxAt W w.heap.size own := by rw [← hW]; exact BoxAt.of (heap_alloc_new w _)
  have hs0 : w.heap.size < W.heap.size := by rw [← hW]; simp
  have HB := Lib.hid hb0
  clear hW
  refine (RB.out W hb0).mono ?_
  rintro e w1 ⟨rfl, hb1⟩
  have HB1 := Lib.hid (below_then HB.out hb1)
  have HO1 := Lib.hid (hO0.below hb1)
  have hs1 : w.heap.size < w1.heap.size := by have := hb1.size; omega
  clear hb0 hO0 hb1
  go_wp2_with fail
  go_loopw [7, 8] (fun v i wr => ∃ (k : Nat) (sl : Value), k ≤ n ∧ i = .int .i64 k ∧ sl = v ∧ wr.ownsRow w1.heap.size 3 1 v k (intVals ((codesF own l).take k)) ∧ Below w1.heap.size w1 wr) (fun _ i _ => n - (intOf i).toNat)
  case atStart => exact ⟨0, _, Nat.zero_le _, rfl, rfl, World.ownsRow_nil _ _ _ _, Below.refl _ _⟩
  case round =>
    obtain ⟨k, sl, hk, rfl, rfl, hown, hbr⟩ := hrel
    have HBR := Lib.hid hbr
    have HOWN := Lib.hid hown
    by_cases hlt : k < n
    · obtain ⟨b, off, rfl, hrow⟩ := OK.out.at_ (by omega)
      have hk0 : (0 : Int) ≤ (k : Int) := by omega
      have hk1 : (k : Int) < (n : Int) := by omega
      obtain ⟨o0, o1, o2, o3, o4, o5, o6, o7, o8, o9, o10⟩ := HO1.out.below hbr
      have hsr : w.heap.size < wr.heap.size := by have := hbr.size; omega
      have hs1r : w1.heap.size ≤ wr.heap.size := hbr.size
      obtain ⟨cd, hcd⟩ : ∃ cd, codeF own l (pbest l) k = cd := ⟨_, rfl⟩
      have RC := Lib.hid (show Calls Try.prog 58 #[own.v, .slice (some ⟨b, off, none⟩) n cap, .int .i64 (pbest l), .int .i64 k] wr fun e w' => e = .returned (.int .i64 cd) ∧ Below wr.heap.size wr w' by
        rw [← hcd]; exact rcode_any own l b off cap n k HL.out hlt hn OK.out.steps wr (hrow.below (below_then HB1.out HBR.out)))
      have HCD := Lib.hid hcd
      clear hcd hown hbr hrow
      go_wp2_with fail
      refine RC.out.mono ?_
      rintro e x ⟨rfl, hx⟩
      have hown2 := HOWN.out.kept (grown_of_below hx none) (by cases h : sl.ownBlock with | none => exact .inl rfl | some g => exact .inr (by simp))
      have HX := Lib.hid (below_then HBR.out hx)
      have hsx : w1.heap.size ≤ x.heap.size := by have := hx.size; omega
      clear hx o0 o1 o2 o3 o4 o5 o6 o7 o8 o9 o10
      go_wp2_with (at_builtin; refine wpList_append_own _ rfl _ _ 47 rfl w1.heap.size 3 i0 (.int .i64 0) 1 8 Try.underlying47 hi0 hz0 hz1 hz2 rfl (by decide) _ _ _ rfl (hown2.alloc _) ⟨x.heap.size, 0, none⟩ 1 1 [.int .i64 cd] rfl rfl ?c1 ?c2 ?c3 ?c4 ?c5 ?_)
      case c1 =>
        intro j u hj
        match j, hj with
        | 0, hj => simp at hj; subst hj; simp [Addr.add]
      case c2 => intro u hu; simp at hu; subst hu; rfl
      case c3 => unfold maxLen; omega
      case c4 => omega
      case c5 => simp; omega
      · intro v' w2 hown' hgrow _
        have HOW := Lib.hid hown'
        have HBN := Lib.hid (Below.grown (HX.out.alloc hsx _) hgrow (by simp; omega) (fun j e => (hown2.lt j e).1))
        clear hown' hgrow hown2
        go_wp2_with fail
        go_roundw
        case rel => exact ⟨k + 1, _, by omega, by go_num, rfl, by rw [codes_next own l k (by rw [HL.out]; exact hlt), HCD.out]; exact HOW.out, HBN.out⟩
        case measure => simp [intOf]; omega
    · obtain rfl : k = n := by omega
      have hcl : (codesF own l).length = k := by rw [codes_len]; exact HL.out
      rw [List.take_of_length_le (by omega)] at hown
      obtain ⟨B, cp, rfl, hrow⟩ : ∃ B cp, sl = .slice B k cp ∧ (0 < k → ∃ g, B = some ⟨g, 0, none⟩ ∧ RowAt wr g (codesF own l)) := by
        rcases hown.2 with ⟨h, h0⟩ | ⟨g, cap', cur, h, _⟩
        · subst h0; exact ⟨none, 0, h, fun h => by omega⟩
        · refine ⟨_, cap', h, fun _ => ⟨g, rfl, fun j hj => ?_⟩⟩
          have := hown.cells (g := g) (by rw [h]; rfl) j (.int .i64 ((codesF own l).getD j 0)) (by simp [intVals, List.getElem?_eq_getElem hj, List.getD_eq_getElem?_getD])
          rw [show (Addr.add ⟨g, 0, none⟩ j) = ⟨g, j, none⟩ from by simp [Addr.add]; omega] at this
          exact this
      have HR := Lib.hid hrow
      clear hown hrow hbr HOWN
      go_wp2_with fail
      go_ret2
      exact ⟨_, _, rfl, below_then HB1.out HBR.out, HR.out⟩
theorem rmaster_long {A : Option Addr} {n cap : Nat} (own : DS) (hn : 8 < n) (w : World) :
    Calls Try.prog 34 #[own.v, .slice A n cap] w fun e w' => e = .returned DS.zero.v ∧ Below w.heap.size w w' := by
  go_enter Try.func34, Try.ntmps34
  go_wp2_with fail
  refine (rdecide_long own A n cap hn _).mono ?_
  rintro e w1 ⟨rfl, hb1⟩
  have hf : ∀ j, w1.frozen? ⟨w.heap.size + 1, j, none⟩ = false := fun j => (hb1.frozen (p := ⟨w.heap.size + 1, j, none⟩) (by simp)).trans (free_blk (heap_at (by simp)) j)
  have hR : BoxAt w1 (w.heap.size + 1) .zero := (BoxAt.of (heap_at (by simp))).below hb1
  have hb := (((Below.refl w.heap.size w).alloc (Nat.le_refl _) (.cells #[.int .i64 own.p1, .int .i64 own.cls, .int .i64 own.acc, .int .i64 own.var, .int .i64 own.p2, .int .u64 own.gm, .int .i64 own.steps, .int .u64 own.sender, .int .i64 own.sport, .int .u64 own.recv, .int .i64 own.rport] 24)).alloc (by simp) _).trans (hb1.mono (by simp; omega))
  have HB := Lib.hid hb
  clear hb hb1
  obtain ⟨x0, x1, x2, x3, x4, x5, x6, x7, x8, x9, x10⟩ := hR
  have f0 := hf 0
  have f1 := hf 1
  have f2 := hf 2
  have f3 := hf 3
  have f4 := hf 4
  have f5 := hf 5
  have f6 := hf 6
  have f7 := hf 7
  have f8 := hf 8
  have f9 := hf 9
  have f10 := hf 10
  clear hf
  go_wp2_with fail
  refine bodyPost_ret (v := DS.zero.v) (by simp [results, Try.results34, go_sem, DS.zero, x0, x1, x2, x3, x4, x5, x6, x7, x8, x9, x10]) rfl ⟨rfl, setDS_below HB.out (by omega) _ _ _ _ _ _ _ _ _ _ _⟩
set_option maxHeartbeats 1000000 in
theorem rmaster_any {A : Option Addr} {n cap : Nat} {l : List PB} {w : World} (own : DS) (ok : PBArg w A n cap l) (hn : n ≤ 8) :
    Calls Try.prog 34 #[own.v, .slice A n cap] w fun e w' => e = .returned (masterF own l).v ∧ Below w.heap.size w w' := by
  have hl := ok.len_eq
  obtain ⟨r, hr⟩ : ∃ r, masterF own l = r := ⟨_, rfl⟩
  rw [hr]
  have HM := Lib.hid hr
  have HL := Lib.hid hl
  have OK := Lib.hid ok
  clear hl hr ok
  go_enter Try.func34, Try.ntmps34
  go_wp2_with fail
  have hb0 : Below w.heap.size w ((w.alloc (.cells #[.int .i64 own.p1, .int .i64 own.cls, .int .i64 own.acc, .int .i64 own.var, .int .i64 own.p2, .int .u64 own.gm, .int .i64 own.steps, .int .u64 own.sender, .int .i64 own.sport, .int .u64 own.recv, .int .i64 own.rport] 24)).alloc (.cells DS.zero.v.cells 24)) := ((Below.refl _ _).alloc (Nat.le_refl _) _).alloc (by simp) _
  refine (rdecide_any own (OK.out.below hb0) hn).mono ?_
  rintro e w1 ⟨B, cpb, rfl, hb1, hrow⟩
  have hf : ∀ j, w1.frozen? ⟨w.heap.size + 1, j, none⟩ = false := fun j => (hb1.frozen (p := ⟨w.heap.size + 1, j, none⟩) (by simp)).trans (free_blk (heap_at (by simp)) j)
  have hR : BoxAt w1 (w.heap.size + 1) .zero := (BoxAt.of (heap_at (by simp))).below hb1
  have hO : BoxAt w1 w.heap.size own := (BoxAt.of (heap_alloc_old (heap_alloc_new w _) _)).below hb1
  have HB := Lib.hid (below_then hb0 hb1)
  have ROW := Lib.hid hrow
  clear hb1 hb0 hrow
  go_wp2_with fail
  go_loop [7] (fun i => ∃ k : Nat, k ≤ n ∧ i = .int .i64 k ∧ ∀ j, j < k → codeF own l (pbest l) j ≠ 6) (fun i => n - (intOf i).toNat)
  case atStart => exact ⟨0, Nat.zero_le _, rfl, fun j hj => by omega⟩
  case round =>
    obtain ⟨k, hk, rfl, hno⟩ := hrel
    have HN := Lib.hid hno
    clear hno
    by_cases hlt : k < n
    · have hk0 : (0 : Int) ≤ (k : Int) := by omega
      have hk1 : (k : Int) < (n : Int) := by omega
      obtain ⟨v, hv⟩ : ∃ v, codeF own l (pbest l) k = v := ⟨_, rfl⟩
      obtain ⟨g, rfl, hROW⟩ := ROW.out (by omega)
      have hc : w1.cell? ⟨g, k, none⟩ = some (.int .i64 v) := by
        have := hROW k (by rw [codes_len, HL.out]; exact hlt)
        rwa [codes_at own l k (by rw [HL.out]; exact hlt), hv] at this
      by_cases h6 : v = 6
      · have hset : masterF own l = (l.getD k .zero).set := master_hit (by rw [HL.out]; exact hn) (by rw [HL.out]; exact hlt) (by rw [hv]; exact h6)
        obtain ⟨b, off, rfl, hrow⟩ := OK.out.at_ (by omega)
        have hP := (hrow.below HB.out) k (by rw [HL.out]; exact hlt)
        obtain ⟨p, hp⟩ : ∃ p, l.getD k .zero = p := ⟨_, rfl⟩
        rw [hp] at hP hset
        have e : p.set = r := by rw [← hset]; exact HM.out
        have hP2 := hP.2
        rw [e] at hP2
        subst h6
        clear hv hset e hp hrow hP
        obtain ⟨b0, b1, b2, b3, b4, b5, b6, b7, b8, b9, b10⟩ := hP2
        obtain ⟨x0, x1, x2, x3, x4, x5, x6, x7, x8, x9, x10⟩ := hR
        have f0 := hf 0
        have f1 := hf 1
        have f2 := hf 2
        have f3 := hf 3
        have f4 := hf 4
        have f5 := hf 5
        have f6 := hf 6
        have f7 := hf 7
        have f8 := hf 8
        have f9 := hf 9
        have f10 := hf 10
        clear hf hO
        go_wp2_with fail
        refine bodyPost_ret (v := r.v) (by simp [results, Try.results34, go_sem, x0, x1, x2, x3, x4, x5, x6, x7, x8, x9, x10]) rfl ⟨rfl, setDS_below HB.out (by omega) _ _ _ _ _ _ _ _ _ _ _⟩
      · have hb6 : (v == 6) = false := by simp [h6]
        have HV := Lib.hid hv
        clear hv
        go_wp2_with fail
        go_round
        case rel => exact ⟨k + 1, by omega, by go_num, fun j hj => by
          by_cases e : j = k
          · rw [e, HV.out]; exact h6
          · exact HN.out j (by omega)⟩
        case measure => simp [intOf]; omega
    · obtain rfl : k = n := by omega
      have e : own = r := by
        rw [← HM.out]
        exact (master_own (by rw [HL.out]; exact hn) (fun j hj => HN.out j (by rw [HL.out] at hj; exact hj))).symm
      subst e
      obtain ⟨b0, b1, b2, b3, b4, b5, b6, b7, b8, b9, b10⟩ := hO
      obtain ⟨x0, x1, x2, x3, x4, x5, x6, x7, x8, x9, x10⟩ := hR
      have f0 := hf 0
      have f1 := hf 1
      have f2 := hf 2
      have f3 := hf 3
      have f4 := hf 4
      have f5 := hf 5
      have f6 := hf 6
      have f7 := hf 7
      have f8 := hf 8
      have f9 := hf 9
      have f10 := hf 10
      clear hf
      go_wp2_with fail
      refine bodyPost_ret (v := own.v) (by simp [results, Try.results34, go_sem, x0, x1, x2, x3, x4, x5, x6, x7, x8, x9, x10]) rfl ⟨rfl, setDS_below HB.out (by omega) _ _ _ _ _ _ _ _ _ _ _⟩
end Go.Proofs.Ythehhcaohhlccaa
