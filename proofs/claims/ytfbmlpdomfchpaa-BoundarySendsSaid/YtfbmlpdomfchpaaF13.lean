/- Hear when the message is taken. -/
import Derived.WalkKit
import Derived.LoopTactic
import Derived.Outline
import Derived.Lib.Hide
import Derived.OwnWalk
import Derived.Deep.DeepCutAuto
import Derived.Test.YtfbmlpdomfchpaaJFf
namespace Go.Proofs.Ytfbmlpdomfchpaa
open Go.RowKit
set_option linter.unusedVariables false
set_option linter.unusedSimpArgs false

theorem hear_end {w wc w' : World} {base b : Nat} {f1 : Fr} {lv0 lv1 : Value} {hs0 hs1 : List Value} {s : Nat} (hFI : FrI wc base b f1 lv1 hs1 s) {r : Rc} {x v : Value} (hr : f1.list[s]? = some r) (hx : hs1[s]? = some x)
    {g n cap : Nat} (hlv : lv1 = .slice (some ⟨g, 0, none⟩) n cap) {cur : Array Value} (hg : wc.heap[g]? = some (.cells cur 117 (0, 0))) (d : DS) (at_ : Int)
    (hg' : w'.heap[g]? = some (.cells ((setList cur (s * 14 + 2) d.cells).setIfInBounds (s * 14 + 13) v) 117 (0, 0)))
    (k : Keep (fun q => lv1.ownBlock = some q ∨ x.ownBlock = some q) wc w') (hv : w'.ownsRow base 3 1 v (pushT r.heard at_).length (intsV (pushT r.heard at_))) (hb : ∃ q, v.ownBlock = some q ∧ (x.ownBlock = some q ∨ wc.heap.size ≤ q))
    (hk : Keep (mine b lv0 hs0) w wc) (hmn : ∀ q, mine b lv1 hs1 q → mine b lv0 hs0 q ∨ w.heap.size ≤ q) :
    ∃ lv' hs', FrAt w' base b { f1 with list := setAt f1.list s d at_ } lv' hs' ∧ Keep (mine b lv0 hs0) w w' ∧ ∀ q, mine b lv' hs' q → mine b lv0 hs0 q ∨ w.heap.size ≤ q := by
  have hd := hFI.done (M := fun _ => True) hr hx hlv hg d _ hg' k hv (pushT_ne _ _) hb
  have es : setAt f1.list s d at_ = f1.list.set s ⟨r.clock, r.num, d, pushT r.heard at_⟩ := by rw [setAt, hr]
  have hw : w.heap.size ≤ wc.heap.size := hk.size
  rw [es]
  refine ⟨_, _, hd, hk.trans k (fun q hq => ?_), fun q hq => ?_⟩
  · rcases hq with hq | hq
    · exact hmn q (.inr (.inl hq))
    · exact hmn q (.inr (.inr ⟨s, x, hx, hq⟩))
  · rcases hq with rfl | hq | ⟨i, y, hy, hq⟩
    · exact hmn _ (.inl rfl)
    · exact hmn q (.inr (.inl hq))
    · by_cases e : i = s
      · subst e
        rw [List.getElem?_set_self (List.getElem?_eq_some_iff.1 hx).1] at hy
        injection hy with hy
        subst hy
        obtain ⟨q2, h1, h2⟩ := hb
        rw [h1] at hq
        injection hq with hq
        subst hq
        rcases h2 with h2 | h2
        · exact hmn _ (.inr (.inr ⟨i, x, hx, h2⟩))
        · exact .inr (by omega)
      · rw [List.getElem?_set_ne (fun h => e h.symm)] at hy
        exact hmn q (.inr (.inr ⟨i, y, hy, hq⟩))
/-- A time more has been appended. -/
theorem times_facts {wc w2 w3 : World} {base g o13 K1 : Nat} {x v' : Value} {xs : List Value} {ob : Obj} {C : Array Value} (ht : Touch g wc w2) (hgl : g < wc.heap.size) (h2 : w2.heap[g]? = some (.cells C 117 (0, 0))) (hx13 : w2.cell? ⟨g, o13, none⟩ = some x) (hxg : x.ownBlock ≠ some g)
    (hown : w3.ownsRow base 3 1 v' K1 xs) (hK : 0 < K1) (hgrow : (w2.alloc ob).grownBy w3 x.ownBlock) (hfr : ∀ q, v'.ownBlock = some q → x.ownBlock = some q ∨ w2.heap.size + 1 ≤ q) :
    ∃ g3 c3, v' = .slice (some ⟨g3, 0, none⟩) K1 c3 ∧ w3.cell? ⟨g, o13, none⟩ = some x ∧ w3.frozen? ⟨g, o13, none⟩ = false ∧ Hid (w3.ownsRow base 3 1 (.slice (some ⟨g3, 0, none⟩) K1 c3) K1 xs ∧ Keep (fun q => q = g ∨ x.ownBlock = some q) wc w3 ∧ w3.heap[g]? = some (.cells C 117 (0, 0)) ∧ (x.ownBlock = some g3 ∨ wc.heap.size ≤ g3)) := by
  have hgl2 : g < w2.heap.size := Nat.lt_of_lt_of_le hgl ht.size
  have hh : w3.heap[g]? = some (.cells C 117 (0, 0)) := (hgrow.block g (by simp; omega) (fun e => hxg e.symm)).trans ((_root_.Go.heap_alloc_old w2 _ hgl2).trans h2)
  obtain ⟨g3, c3, rfl⟩ : ∃ g3 c3, v' = .slice (some ⟨g3, 0, none⟩) K1 c3 := by
    rcases hown.2 with ⟨_, e⟩ | ⟨g', c', _, e, _⟩
    · omega
    · exact ⟨g', c', e⟩
  have hc : w3.cell? ⟨g, o13, none⟩ = some x := by
    rw [cell_of_row w3 g o13 _ _ (0, 0) hh, ← cell_of_row w2 g o13 _ _ (0, 0) h2]
    exact hx13
  refine ⟨g3, c3, rfl, hc, frozen_of_row w3 g _ _ _ hh, hown, ?_, hh, (hfr g3 rfl).imp_right fun h => ?_⟩
  · exact ((Keep.touch ht (.inl rfl)).thenBelow ((Below.refl _ _).alloc (Nat.le_refl _) ob)).trans (keep_grown hgrow) (fun q hq => .inl (.inr hq))
  · have := ht.size
    omega
/-- .. and stored. -/
theorem stored_facts {wc w3 : World} {base g o13 K1 g3 c3 : Nat} {x : Value} {xs : List Value} {C : Array Value} (hA : w3.ownsRow base 3 1 (.slice (some ⟨g3, 0, none⟩) K1 c3) K1 xs ∧ Keep (fun q => q = g ∨ x.ownBlock = some q) wc w3 ∧ w3.heap[g]? = some (.cells C 117 (0, 0)) ∧ (x.ownBlock = some g3 ∨ wc.heap.size ≤ g3)) (hxg : x.ownBlock ≠ some g) (hgl : g < wc.heap.size) (ho : o13 < C.size) :
    (w3.setCell ⟨g, o13, none⟩ (.slice (some ⟨g3, 0, none⟩) K1 c3)).cell? ⟨g, o13, none⟩ = some (.slice (some ⟨g3, 0, none⟩) K1 c3) ∧ g3 ≠ g ∧ Hid ((w3.setCell ⟨g, o13, none⟩ (.slice (some ⟨g3, 0, none⟩) K1 c3)).ownsRow base 3 1 (.slice (some ⟨g3, 0, none⟩) K1 c3) K1 xs ∧ Keep (fun q => q = g ∨ x.ownBlock = some q) wc (w3.setCell ⟨g, o13, none⟩ (.slice (some ⟨g3, 0, none⟩) K1 c3)) ∧ (w3.setCell ⟨g, o13, none⟩ (.slice (some ⟨g3, 0, none⟩) K1 c3)).heap[g]? = some (.cells (C.setIfInBounds o13 (.slice (some ⟨g3, 0, none⟩) K1 c3)) 117 (0, 0)) ∧ (x.ownBlock = some g3 ∨ wc.heap.size ≤ g3)) := by
  obtain ⟨h1, h2, h3, h4⟩ := hA
  have hne : g3 ≠ g := fun e => by
    subst e
    rcases h4 with h4 | h4
    · exact hxg h4
    · omega
  have hs := heap_set h3 o13 (.slice (some ⟨g3, 0, none⟩) K1 c3)
  refine ⟨?_, hne, ownsRow_keep h1 (Keep.touch (M := fun q => q = g) ((Touch.refl g w3).set o13 _) rfl) (fun q hq e => ?_), h2.thenTouch ((Touch.refl g w3).set o13 _) (.inl (.inl rfl)), hs, h4⟩
  · rw [cell_of_row _ g o13 _ _ (0, 0) hs, Array.getElem?_setIfInBounds, if_pos rfl, if_pos ho]
  · injection hq with hq
    exact hne (hq.trans e)
set_option maxRecDepth 100000 in
set_option maxHeartbeats 4000000 in
theorem hear_any {f : Fr} {base b : Nat} {lv : Value} {hs : List Value} {w : World} (hF : FrAt w base b f lv hs) (hl5 : f.list.length ≤ 5) (hT : ∀ r ∈ f.list, r.heard.length ≤ 8) (d : DS) (at_ : Int) (he : hearE f d at_ = 0) :
    Calls Try.prog 43 #[.pointer (some ⟨b, 0, none⟩), d.v, .int .i64 at_] w fun e w' => e = .returned (.int .i64 0) ∧ ∃ lv' hs', FrAt w' base b (hearF f d at_) lv' hs' ∧ Keep (mine b lv hs) w w' ∧ ∀ g, mine b lv' hs' g → mine b lv hs g ∨ w.heap.size ≤ g := by
  obtain ⟨d0, d1, d2, d3, d4⟩ := hear_ok he
  have c2 : w.cell? ⟨b, 2, none⟩ = some (.int .i64 f.last) := hF.cell 2
  have c3 : w.cell? ⟨b, 3, none⟩ = some lv := hF.cell 3
  have f2 : w.frozen? ⟨b, 2, none⟩ = false := frozen_of_row w b 2 _ _ hF.head
  have hbl := hF.lt
  have HF := Lib.hid hF
  have HT := Lib.hid hT
  obtain ⟨A, c, rfl⟩ : ∃ A c, lv = .slice A f.list.length c := by
    rcases hF.form with ⟨rfl, e⟩ | ⟨g, cap, rfl, _⟩
    · exact ⟨none, 0, by rw [e]; rfl⟩
    · exact ⟨_, _, rfl⟩
  obtain ⟨n, hn⟩ : ∃ n, f.list.length = n := ⟨_, rfl⟩
  rw [hn] at hl5 c3
  have HN := Lib.hid hn
  clear hF hT he
  rw [hn] at HF ⊢
  clear hn
  go_enter Try.func43, Try.ntmps43
  go_wp2_with fail
  generalize hW : World.alloc (World.alloc (World.setCell w _ _) _) _ = W
  have hsX : (w.setCell ⟨b, 2, none⟩ (.int .i64 at_)).heap.size = w.heap.size := by simp
  have hFW : FrAt W base b { f with last := at_ } (.slice A n c) hs := by rw [← hW]; exact ((HF.out.setLast at_).below ((Below.refl _ _).alloc (Nat.le_refl _) _)).below ((Below.refl _ _).alloc (Nat.le_refl _) _)
  have hKW : Keep (mine b (.slice A n c) hs) w W := by rw [← hW]; exact ((Keep.touch ((Touch.refl b w).set 2 _) (.inl rfl)).thenBelow ((Below.refl _ _).alloc (Nat.le_refl _) _)).thenBelow ((Below.refl _ _).alloc (Nat.le_refl _) _)
  have hbx : W.rangeAt w.heap.size 0 d.cells := by
    rw [← hW]
    refine rangeAt_below ?_ ((Below.refl _ _).alloc (Nat.le_refl _) _)
    intro j v hv
    rw [Nat.zero_add, cell_of_row _ _ j _ _ (0, 0) (by rw [← hsX]; exact heap_alloc_new _ _), ← hv]
    simp [DS.cells]
  have hq : W.rangeAt (w.heap.size + 1) 0 [.int .u64 d.sender, .int .i64 d.sport] := by
    rw [← hW]
    intro j v hv
    rw [Nat.zero_add, cell_of_row _ _ j _ _ (0, 0) (by rw [show w.heap.size + 1 = ((w.setCell ⟨b, 2, none⟩ (.int .i64 at_)).alloc _).heap.size from by simp]; exact heap_alloc_new _ _), ← hv]
    simp [DS.cells]
  have hsz : w.heap.size + 1 < W.heap.size := by rw [← hW]; simp
  have hidx := index_any hFW.own hFW.hlen (by show f.list.length ≤ 1000; rw [HN.out]; omega) (isB d.sender d.sport) 62 #[.pointer (some ⟨w.heap.size + 1, 0, none⟩)] cut_enters (fun i r h w' h1 h2 hb => from_any r h _ d.sender d.sport w' (cell_below hb (hq 0 _ rfl)) (cell_below hb (hq 1 _ rfl)))
  have HIDX := Lib.hid hidx
  have HFW := Lib.hid hFW
  have HKW := Lib.hid hKW
  have HBX := Lib.hid hbx
  have HQ := Lib.hid hq
  clear hW hsX hFW hKW hbx hq hidx c2 c3 f2 d0 d1 d2 d3 d4
  refine HIDX.out.mono ?_
  rintro e w1 ⟨rfl, hb1⟩
  have HF1 := Lib.hid (HFW.out.below hb1)
  have HK1 := Lib.hid (HKW.out.thenBelow hb1)
  have HBX1 := Lib.hid (rangeAt_below HBX.out hb1)
  have HQ1 := Lib.hid (rangeAt_below HQ.out hb1)
  have hs1 : w.heap.size + 1 < w1.heap.size := Nat.lt_of_lt_of_le hsz hb1.size
  clear hb1 HFW HKW HBX HQ HIDX hsz
  obtain ⟨z, hz⟩ : ∃ z, idxF (isB d.sender d.sport) { f with last := at_ }.list = z := ⟨_, rfl⟩
  rw [hz]
  have HZ := Lib.hid hz
  clear hz
  go_upto_if 53 with fail
  go_cut [8] (fun v8 wx => ∃ (s : Nat) (lv1 : Value) (hs1 : List Value), v8 = .int .i64 s ∧ s = midN f d ∧ FrI wx base b { f with last := at_, list := midL f d } lv1 hs1 s ∧ wx.rangeAt w.heap.size 0 d.cells ∧ Keep (mine b (.slice A n c) hs) w wx ∧ (∀ g, mine b lv1 hs1 g → mine b (.slice A n c) hs g ∨ w.heap.size ≤ g))
  case first =>
    rcases hfi : f.list.findIdx? (isB d.sender d.sport) with _ | i
    · obtain rfl : z = -1 := by rw [← HZ.out]; exact idx_miss hfi
      have em : midN f d = (roomL f.list).length := by rw [midN, hfi]
      have el : midL f d = roomL f.list ++ [⟨d.sender, d.sport, .zero, []⟩] := by rw [midL, hfi]
      have EM := Lib.hid em
      have EL := Lib.hid el
      have C3 := HF1.out.cell 3
      clear hfi em el
      go_upto_if 59 with fail
      go_cut [59] (fun _ wx => ∃ (A2 : Option Addr) (c2 : Nat) (hs2 : List Value), FrAt wx base b { f with last := at_, list := roomL f.list } (.slice A2 (roomL f.list).length c2) hs2 ∧ wx.rangeAt w.heap.size 0 d.cells ∧ wx.rangeAt (w.heap.size + 1) 0 [.int .u64 d.sender, .int .i64 d.sport] ∧ Keep (mine b (.slice A n c) hs) w wx ∧ (∀ g, mine b (.slice A2 (roomL f.list).length c2) hs2 g → mine b (.slice A n c) hs g))
      case first =>
        by_cases h5 : n = 5
        · subst h5
          clear C3
          go_wp2_with fail
          refine (fdrop_any HF1.out (by show f.list.length ≤ 1000; rw [HN.out]; omega) (by show 0 < f.list.length; rw [HN.out]; omega)).mono ?_
          rintro e w2 ⟨rfl, lv2, hF2, hob, hk2⟩
          have er : roomL f.list = f.list.eraseIdx (oldF f.list) := by rw [roomL, if_pos HN.out]
          have ER := Lib.hid er
          have HF2 := Lib.hid (And.intro hF2 (And.intro hob hk2))
          clear er hF2 hob hk2
          go_wp2_with fail
          go_meet
          case rel =>
            obtain ⟨hF2, hob, hk2⟩ := HF2.out
            obtain ⟨A2, c2, rfl⟩ : ∃ A2 c2, lv2 = .slice A2 (roomL f.list).length c2 := by
              rw [ER.out]
              rcases hF2.form with ⟨rfl, e⟩ | ⟨g, cap, rfl, _⟩
              · exact ⟨none, 0, by rw [show f.list.eraseIdx (oldF f.list) = [] from e]; rfl⟩
              · exact ⟨_, _, rfl⟩
            have hbk : ∀ (q : Nat) (cs : List Value), q < w1.heap.size → w.heap.size ≤ q → w1.rangeAt q 0 cs → w2.rangeAt q 0 cs := fun q cs hq1 hq2 hr j v hv => hk2.cell (hr j v hv) (by
              rintro (e | e)
              · have e : q = b := e
                omega
              · have := HF.out.own.lt q e
                omega)
            refine ⟨A2, c2, _, by rw [ER.out] at *; exact hF2, hbk _ _ (by omega) (Nat.le_refl _) HBX1.out, hbk _ _ hs1 (by omega) HQ1.out, HK1.out.trans hk2 (fun g hg => .inl (hg.elim .inl (fun e => .inr (.inl e)))), fun g hg => mine_sub hob (skipAt _) (fun i x h => erase_at _ _ i x h) g hg⟩
        · have d5 : ((n : Int) == 5) = false := by simp; omega
          have er : roomL f.list = f.list := by rw [roomL, if_neg (by rw [HN.out]; exact h5)]
          have ER := Lib.hid er
          clear er
          go_wp2_with fail
          go_meet
          case rel => exact ⟨A, c, hs, by rw [ER.out]; simpa [HN.out] using HF1.out, HBX1.out, HQ1.out, HK1.out, fun g hg => by rw [ER.out, HN.out] at hg; exact hg⟩
      case rest =>
        obtain ⟨A2, c2, hs2, hF2, hbx2, hq2, hk2, hm2⟩ := hcut
        have hlm := room_len f.list (by rw [HN.out]; exact hl5)
        obtain ⟨i0, hi0, hz0, hz1, hz2⟩ := info_parts infoRecB
        have HF2 := Lib.hid hF2
        have HBX2 := Lib.hid hbx2
        have HK2 := Lib.hid hk2
        have HM2 := Lib.hid hm2
        have C3 := hF2.cell 3
        have q0 : wc.drew.cell? ⟨w.heap.size + 1, 0, none⟩ = some (.int .u64 d.sender) := hq2 0 _ rfl
        have q1 : wc.drew.cell? ⟨w.heap.size + 1, 1, none⟩ = some (.int .i64 d.sport) := hq2 1 _ rfl
        obtain ⟨m, hm⟩ : ∃ m, (roomL f.list).length = m := ⟨_, rfl⟩
        rw [hm] at hlm EM C3 HF2 HM2
        have HM := Lib.hid hm
        clear hF2 hbx2 hq2 hk2 hm2 hm C3 HF1 HBX1 HQ1 HK1
        have D3 : wc.cell? ⟨b, 3, none⟩ = some (.slice A2 m c2) := HF2.out.cell 3
        have E3 : wc.drew.cell? ⟨b, 3, none⟩ = some (.slice A2 m c2) := D3
        have hbc := HF2.out.lt
        have hsc : base ≤ wc.drew.heap.size := Nat.le_of_lt (Nat.lt_of_le_of_lt HF2.out.le HF2.out.lt)
        have HOW := Lib.hid (show wc.ownsRow base 117 14 (.slice A2 m c2) m (rowsF (roomL f.list) hs2) from by have := HF2.out.own; rw [show ({ f with last := at_, list := roomL f.list } : Fr).list.length = m from HM.out] at this; exact this)
        go_upto_region 18 with fail
        go_region_law (
                       refine step_append_own2 rfl (.tmp 71) (.tmp 74) 98 rfl base 117 i0 (Rc.zero.v (.slice none 0 0)) 14 128 Try.underlying98 hi0 hz0 hz1 hz2 rfl (by decide) (.slice A2 m c2) m _ (by simp [Act.eval, Act.put]) (World.ownsRow.drew (World.ownsRow.alloc HOW.out _)) ⟨wc.heap.size, 0, none⟩ 1 1 ((⟨d.sender, d.sport, .zero, []⟩ : Rc).cells (.slice none 0 0)) (by simp [Act.eval, Act.put]) rfl (fun j u hu => by rw [Addr.add_mid, Nat.zero_add, cell_of_row _ _ j _ _ (0, 0) (show (wc.alloc _).drew.heap[wc.heap.size]? = _ from heap_alloc_new wc _), ← hu]; simp [Rc.cells, DS.zero]) (by simp [Rc.cells, Value.oneCell']) (by unfold maxLen; omega) (by omega) (Nat.le_trans hsc (show wc.heap.size ≤ (wc.alloc _).heap.size from by simp)) ?_
                       intro v' w' hown hgrow hfr
                       obtain ⟨g', c', rfl, D3', F3', HA⟩ := push_facts HF2.out hown hgrow hfr
                       clear hown hgrow hfr)
        all_goals go_wp2_with fail
        all_goals go_meet
        all_goals
          (case rel =>
            obtain ⟨hown, hk, hh, hfr⟩ := HA.out
            have hF2 := HF2.out
            have hlb : (Value.slice A2 m c2).ownBlock ≠ some b := hF2.lb
            have hgb : g' ≠ b := fun e => by
              rcases hfr with h | h
              · exact hlb (by rw [h, e])
              · omega
            have hk2 : Keep (fun g => g = b ∨ (Value.slice A2 m c2).ownBlock = some g) wc (w'.setCell ⟨b, 3, none⟩ (.slice (some ⟨g', 0, none⟩) (m + 1) c')) := (hk.wide (fun g hg => .inr hg)).thenTouch ((Touch.refl b w').set 3 _) (.inl (.inl rfl))
            have hmn : (roomL f.list).length = m := HM.out
            have hFI := hF2.push (c := d.sender) (m := d.sport) hk2 (by rw [heap_set hh]; rfl) (by
              show World.ownsRow _ base 117 14 _ ((roomL f.list).length + 1) _
              rw [hmn]
              exact ownsRow_keep hown (Keep.touch (M := fun x => x = b) ((Touch.refl b w').set 3 _) rfl) (fun x hx e => by injection hx with hx; exact hgb (hx.trans e))) ⟨g', rfl, hfr⟩
            refine ⟨m, _, _, rfl, EM.out.symm, by rw [EL.out]; have e := hFI; rw [show ({ f with last := at_, list := roomL f.list } : Fr).list.length = m from hmn] at e; exact e, fun j v hv => hk2.cell (HBX2.out j v hv) ?_, HK2.out.trans hk2 (fun g hg => .inl (HM2.out g (hg.elim .inl (fun e => .inr (.inl e))))), ?_⟩
            · rintro (e | e)
              · have e : w.heap.size = b := e
                omega
              · rcases HM2.out w.heap.size (.inr (.inl e)) with e2 | e2 | ⟨i, x, hx, e2⟩
                · omega
                · have := HF.out.own.lt w.heap.size e2; omega
                · have := HF.out.mine_ge w.heap.size (.inr (.inr ⟨i, x, hx, e2⟩)); omega
            · have hsw : w.heap.size ≤ wc.heap.size := HK2.out.size
              rintro g (rfl | hg | ⟨i, x, hx, hg⟩)
              · exact .inl (.inl rfl)
              · have hg2 : g' = g := by injection hg
                clear hg
                have hg := hg2
                rcases hfr with h | h
                · exact .inl (HM2.out g (.inr (.inl (by rw [h, hg]))))
                · exact .inr (by omega)
              · rw [List.getElem?_append] at hx
                split at hx
                · exact .inl (HM2.out g (.inr (.inr ⟨i, x, hx, hg⟩)))
                · have hm2 := List.mem_of_getElem? hx
                  simp at hm2
                  subst hm2
                  simp [Value.ownBlock] at hg)
    · obtain rfl : z = (i : Int) := by rw [← HZ.out]; exact idx_hit hfi
      have dz : decide ((i : Int) < 0) = false := by simp
      have em : midN f d = i := by rw [midN, hfi]
      have el : midL f d = f.list := by rw [midL, hfi]
      have EM := Lib.hid em
      have EL := Lib.hid el
      clear hfi em el
      go_wp2_with fail
      go_meet
      case rel => exact ⟨i, _, _, rfl, EM.out.symm, by rw [EL.out]; exact HF1.out.toI i, HBX1.out, HK1.out, fun g hg => .inl hg⟩
  case rest =>
    obtain ⟨s, lv1, hs1, rfl, hsm, hFI, hbx, hk, hmn⟩ := hcut
    obtain ⟨r, hr, hr8⟩ := mid_at f d HT.out
    rw [← hsm] at hr
    have hln := mid_len f d (by rw [HN.out]; exact hl5)
    obtain ⟨x, hx⟩ : ∃ x, hs1[s]? = some x := ⟨_, List.getElem?_eq_getElem (by rw [hFI.hlen]; exact (List.getElem?_eq_some_iff.1 hr).1)⟩
    have hex := hFI.each s r x hr hx
    obtain ⟨A1, c1, rfl⟩ : ∃ A1 c1, x = .slice A1 r.heard.length c1 := by
      rcases owns_ints hex.1 with ⟨e, e2⟩ | ⟨g, c, e, _⟩
      · exact ⟨none, 0, by rw [e, e2]; rfl⟩
      · exact ⟨_, _, e⟩
    have hsl := (List.getElem?_eq_some_iff.1 hr).1
    rcases hFI.own.2 with ⟨_, e⟩ | ⟨g, cap, cur, rfl, hbg, hg, hle, hcm, hsz, htk⟩
    · have e : (midL f d).length = 0 := e
      omega
    have hrg : wc.rangeAt g (s * 14) (r.cells (.slice A1 r.heard.length c1)) := by
      rcases owns_rec hFI.own rfl hFI.hlen with ⟨e, _⟩ | ⟨g', cap', e, _, _, _, _, h⟩
      · exact absurd e (by simp)
      · injection e with e1 _ _
        injection e1 with e1
        injection e1 with e1 _ _
        subst e1
        exact h s r _ hr hx
    have x13 : wc.cell? ⟨g, s * 14 + 13, none⟩ = some (.slice A1 r.heard.length c1) := hrg 13 _ rfl
    have C3 : wc.cell? ⟨b, 3, none⟩ = some (.slice (some ⟨g, 0, none⟩) (midL f d).length cap) := cell_of_row wc b 3 _ _ (0, 0) hFI.head
    have hgl : g < wc.heap.size := (Array.getElem?_eq_some_iff.1 hg).1
    have hxg : (Value.slice A1 r.heard.length c1).ownBlock ≠ some g := hex.2.2.2
    have HX := Lib.hid (show ∀ w2, Touch g wc w2 → w2.ownsRow base 3 1 (.slice A1 r.heard.length c1) r.heard.length (intsV r.heard) from fun w2 h => ownsRow_keep hex.1 (Keep.touch (M := fun q => q = g) h rfl) (fun q hq e => hxg (by rw [hq, e])))
    have hbc : base ≤ wc.heap.size := Nat.le_trans hbg (Nat.le_of_lt hgl)
    have hos : s * 14 + 14 ≤ cur.size := by
      have hle : (midL f d).length ≤ cap := hle
      rw [hsz]; omega
    have hxg2 := Lib.hid hxg
    have hFI2 : FrI wc base b { f with last := at_, list := midL f d } (.slice (some ⟨g, 0, none⟩) (midL f d).length cap) hs1 s := hFI
    have hmn2 : ∀ q, mine b (.slice (some ⟨g, 0, none⟩) (midL f d).length cap) hs1 q → mine b (.slice A n c) hs q ∨ w.heap.size ≤ q := hmn
    have hmi := Lib.hid (And.intro hFI2 (And.intro hk hmn2))
    have HR := Lib.hid hr
    have HXX := Lib.hid hx
    have HG := Lib.hid hg
    have HOS := Lib.hid hos
    have HBX := Lib.hid hbx
    have HSM := Lib.hid hsm
    obtain ⟨k, hkk⟩ : ∃ k, r.heard.length = k := ⟨_, rfl⟩
    obtain ⟨N, hNN⟩ : ∃ N, (midL f d).length = N := ⟨_, rfl⟩
    obtain ⟨i0, hi0, hz0, hz1, hz2⟩ := info_parts infoInt
    rw [hkk] at x13 HX hxg2 HXX hr8
    rw [hNN] at C3 hmi hln
    have hsN : s < N := by rw [← hNN]; exact hsl
    have hs0 : (0 : Int) ≤ (s : Int) := by omega
    have hs9 : (s : Int) < (N : Int) := by omega
    have HKK := Lib.hid hkk
    have HNN := Lib.hid hNN
    clear hFI hk hmn hFI2 hmn2 hr hx hg hos hbx hsm hkk hNN hex hsl hsz htk hle hcm hrg hxg
    go_wp2_with (first | (refine load_ds HBX.out _ (by rfl) rfl rfl ?_) | (refine store_set (o := s * 14 + 2) (o2 := s * 14 + 13) HG.out (by have := HOS.out; omega) (by omega) x13 _ _ (by rfl) rfl rfl rfl ?_; intro w2 x13b h2) | (at_builtin; refine wpList_append_own2 rfl _ _ 57 rfl base 3 i0 (.int .i64 0) 1 8 Try.underlying57 hi0 hz0 hz1 hz2 rfl (by decide) _ _ _ rfl (World.ownsRow.alloc (HX.out w2 h2.out.2) _) ⟨w2.heap.size, 0, none⟩ 1 1 [.int .i64 at_] rfl rfl (fun j u hu => by rw [Addr.add_mid, Nat.zero_add, cell_of_row _ _ j _ _ (0, 0) (heap_alloc_new w2 _), ← hu]; simp) (by simp [Value.oneCell']) (by unfold maxLen; omega) (by omega) (by have := h2.out.2.size; simp; omega) ?_))
    intro v' w3 hown3 hgrow3 hfr3
    obtain ⟨K1, hK1⟩ : ∃ K1, k + 1 = K1 := ⟨_, rfl⟩
    rw [hK1] at hown3
    obtain ⟨g3, c3, rfl, y13, f13, HA⟩ := times_facts h2.out.2 hgl h2.out.1 x13b hxg2.out hown3 (by omega) hgrow3 hfr3
    have HK1 := Lib.hid hK1
    clear hown3 hgrow3 hfr3 x13 x13b C3 hK1
    go_upto_region 22 with fail
    have hC : s * 14 + 13 < (setList cur (s * 14 + 2) d.cells).size := by rw [setList_size]; have := HOS.out; omega
    have hst := stored_facts HA.out hxg2.out hgl hC
    generalize hW4 : w3.setCell ⟨g, s * 14 + 13, none⟩ (.slice (some ⟨g3, 0, none⟩) K1 c3) = w4 at hst ⊢
    obtain ⟨z13, hg3g, HB⟩ := hst
    have g13 : w4.frozen? ⟨g, s * 14 + 13, none⟩ = false := frozen_of_row w4 g _ _ _ HB.out.2.2.1
    clear hW4 y13 f13 HA hC
    by_cases h8 : 8 < K1
    · have d8 : decide (8 < (K1 : Int)) = true := by simp; omega
      have hpl : (r.heard ++ [at_]).length = K1 := by rw [List.length_append, HKK.out, ← HK1.out]; rfl
      have hpu : pushT r.heard at_ = (r.heard ++ [at_]).drop 1 := by rw [pushT, if_pos (by rw [hpl]; exact h8)]
      have HPU := Lib.hid hpu
      have HPL := Lib.hid hpl
      have hdel := tdel_any (t := r.heard ++ [at_]) (by rw [hpl, intsV, List.map_append]; exact HB.out.1) (by rw [hpl]; omega)
      rw [hpl] at hdel
      have HDEL := Lib.hid hdel
      clear hpl hpu hdel
      go_wp2_with fail
      refine HDEL.out.mono ?_
      rintro e w5 ⟨g5, c5, e5, rfl, hown5, ht5⟩
      have e5g : g3 = g5 := by injection e5 with e1 _ _; injection e1 with e1; injection e1
      subst e5g
      have hxq := HB.out.2.2.2
      have hh5 := (ht5.block g (Array.getElem?_eq_some_iff.1 HB.out.2.2.1).1 (fun e => hg3g e.symm)).trans HB.out.2.2.1
      have hk5 := HB.out.2.1.trans (Keep.touch (M := fun q => q = g3) ht5 rfl) (fun q hq => by
        rcases hxq with h | h
        · exact .inl (.inr (by rw [h, hq]))
        · exact .inr (by rw [hq]; exact h))
      have t13 : w5.cell? ⟨g, s * 14 + 13, none⟩ = some (.slice (some ⟨g3, 0, none⟩) K1 c3) := ht5.cell' z13 (fun e => hg3g e.symm)
      have h13 : w5.frozen? ⟨g, s * 14 + 13, none⟩ = false := frozen_of_row w5 g _ _ _ hh5
      have hC : s * 14 + 13 < ((setList cur (s * 14 + 2) d.cells).setIfInBounds (s * 14 + 13) (.slice (some ⟨g3, 0, none⟩) K1 c3)).size := by rw [Array.size_setIfInBounds, setList_size]; have := HOS.out; omega
      have HST := Lib.hid (stored_facts ⟨hown5, hk5, hh5, hxq⟩ hxg2.out hgl hC)
      clear hown5 ht5 hxq hh5 hk5 hC e5 z13 g13
      go_wp2_with fail
      go_ret
      obtain ⟨hFI, hk, hmn⟩ := hmi.out
      obtain ⟨_, _, hHB⟩ := HST.out
      have hHB := hHB
      rw [Array.setIfInBounds_setIfInBounds] at hHB
      refine ⟨rfl, ?_⟩
      have hdl : ((r.heard ++ [at_]).drop 1).length = K1 - 1 := by rw [List.length_drop, HPL.out]
      have he := hear_end hFI HR.out HXX.out rfl HG.out d at_ hHB.2.2.1 (hHB.2.1.wide (fun q hq => hq.elim (fun e => .inl (by rw [e]; rfl)) .inr)) (by rw [HPU.out, hdl]; exact hHB.1) ⟨g3, rfl, hHB.2.2.2⟩ hk hmn
      rw [hearF, ← HSM.out]
      exact he
    · have d8 : decide (8 < (K1 : Int)) = false := by simp; omega
      have hpl : (r.heard ++ [at_]).length = K1 := by rw [List.length_append, HKK.out, ← HK1.out]; rfl
      have hpu : pushT r.heard at_ = r.heard ++ [at_] := by rw [pushT, if_neg (by rw [hpl]; exact h8)]
      have HPU := Lib.hid hpu
      have HPL := Lib.hid hpl
      clear hpl hpu
      go_wp2_with fail
      go_ret
      obtain ⟨hFI, hk, hmn⟩ := hmi.out
      refine ⟨rfl, ?_⟩
      have he := hear_end hFI HR.out HXX.out rfl HG.out d at_ HB.out.2.2.1 (HB.out.2.1.wide (fun q hq => hq.elim (fun e => .inl (by rw [e]; rfl)) .inr)) (by rw [HPU.out, HPL.out, intsV, List.map_append]; exact HB.out.1) ⟨g3, rfl, HB.out.2.2.2⟩ hk hmn
      rw [hearF, ← HSM.out]
      exact he
end Go.Proofs.Ytfbmlpdomfchpaa
