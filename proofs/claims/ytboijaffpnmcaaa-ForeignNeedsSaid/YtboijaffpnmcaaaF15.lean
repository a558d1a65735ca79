/- slices.DeleteFunc of records: the walk. -/
import Derived.WalkKit
import Derived.LoopTactic
import Derived.Outline
import Derived.Lib.Hide
import Derived.Test.YtboijaffpnmcaaaF14
namespace Go.Proofs.Ytboijaffpnmcaaa
open Go.RowKit
set_option linter.unusedVariables false
set_option linter.unusedSimpArgs false

/-- How the records lie in the midst of the loop: j have been looked at. -/
structure MidDel (p : Rc → Bool) (l : List Rc) (hs : List Value) (g cap : Nat) (w wr : World) (j : Nat) : Prop where
  keep : Keep (fun q => q = g) w wr
  row : ∃ cur, wr.heap[g]? = some (.cells cur 57 (0, 0)) ∧ cur.size = cap * 14
  left : ∀ q r x, (keptTo p l hs j)[q]? = some (r, x) → wr.rangeAt g (q * 14) (r.cells x)
  right : ∀ q r x, j ≤ q → l[q]? = some r → hs[q]? = some x → wr.rangeAt g (q * 14) (r.cells x)
  less : (keptTo p l hs j).length < j
theorem MidDel.below {p : Rc → Bool} {l : List Rc} {hs : List Value} {g cap : Nat} {w wr w' : World} {j : Nat} (h : MidDel p l hs g cap w wr j) (k : Below wr.heap.size wr w') : MidDel p l hs g cap w w' j := by
  obtain ⟨cur, hc, hs⟩ := h.row
  exact ⟨h.keep.thenBelow k, ⟨cur, (k.block g (Array.getElem?_eq_some_iff.1 hc).1).trans hc, hs⟩, fun q r x e => rangeAt_below (h.left q r x e) k, fun q r x hj e1 e2 => rangeAt_below (h.right q r x hj e1 e2) k, h.less⟩
theorem MidDel.skip {p : Rc → Bool} {l : List Rc} {hs : List Value} {g cap : Nat} {w wr : World} {j : Nat} (h : MidDel p l hs g cap w wr j) {r : Rc} {x : Value} (h1 : l[j]? = some r) (h2 : hs[j]? = some x) (hp : p r = true) : MidDel p l hs g cap w wr (j + 1) ∧ (keptTo p l hs (j + 1)).length = (keptTo p l hs j).length := by
  have e := kept_next (p := p) h1 h2
  rw [if_pos hp, List.append_nil] at e
  exact ⟨⟨h.keep, h.row, by rw [e]; exact h.left, fun q r x hj => h.right q r x (by omega), by rw [e]; have := h.less; omega⟩, by rw [e]⟩
theorem MidDel.move {p : Rc → Bool} {l : List Rc} {hs : List Value} {g cap : Nat} {w wr w' : World} {j i : Nat} (h : MidDel p l hs g cap w wr j) (hi : (keptTo p l hs j).length = i) {r : Rc} {x : Value} (h1 : l[j]? = some r) (h2 : hs[j]? = some x) (hp : p r = false) (hjc : j < cap) {cur : Array Value} (hg : wr.heap[g]? = some (.cells cur 57 (0, 0)))
    (hg' : w'.heap[g]? = some (.cells (setList cur (i * 14) (r.cells x)) 57 (0, 0))) (ht : Touch g wr w') : MidDel p l hs g cap w w' (j + 1) ∧ (keptTo p l hs (j + 1)).length = i + 1 := by
  have e := kept_next (p := p) h1 h2
  rw [if_neg (by rw [hp]; simp)] at e
  have hl := h.less
  obtain ⟨cur0, hc, hs0⟩ := h.row
  rw [hg] at hc
  injection hc with hc
  injection hc with hc _ _
  subst hc
  have hsz : i * 14 + (r.cells x).length ≤ cur.size := by rw [rec_len, hs0]; omega
  refine ⟨⟨h.keep.thenTouch ht (.inl rfl), ⟨_, hg', by rw [setList_size]; exact hs0⟩, fun q a y hq => ?_, fun q a y hj e1 e2 => ?_, by rw [e, List.length_append]; simp; omega⟩, by rw [e, List.length_append, hi]; rfl⟩
  · rw [e, List.getElem?_append] at hq
    split at hq
    · exact range_set hg hg' hsz (h.left q a y hq) (.inl (by rw [rec_len]; omega))
    · rename_i hn
      have hq2 := (List.getElem?_eq_some_iff.1 hq).1
      simp at hq2
      have hqi : q = i := by omega
      subst hqi
      rw [hi, Nat.sub_self] at hq
      simp at hq
      obtain ⟨rfl, rfl⟩ := hq
      exact range_new hg' hsz
  · exact range_set hg hg' hsz (h.right q a y (by omega) e1 e2) (.inr (by rw [rec_len]; omega))
set_option maxRecDepth 100000 in
set_option maxHeartbeats 4000000 in
theorem rdelf_any {w : World} {v : Value} {l : List Rc} {hs : List Value} {base : Nat} (hown : w.ownsRow base 57 14 v l.length (rowsF l hs)) (hlen : hs.length = l.length) (hbig : l.length ≤ 1000) (hsl : ∀ (i : Nat) (x : Value), hs[i]? = some x → ∃ A n c, x = Value.slice A n c) (p : Rc → Bool) (F : FuncId) (caps : Array Value) (eg : ∀ args w, (callFunc F args).run Try.prog w = .ok (.enter F args) w)
    (hp : ∀ (i : Nat) (r : Rc) (h : Value) (w' : World), l[i]? = some r → hs[i]? = some h → Keep (fun q => v.ownBlock = some q) w w' → Calls Try.prog F (#[r.v h] ++ caps) w' fun e w'' => e = .returned (.bool (p r)) ∧ Below w'.heap.size w' w'') :
    Calls Try.prog 25 #[v, .func (.func F) #[] caps] w fun e w' => ∃ v', e = .returned v' ∧ w'.ownsRow base 57 14 v' (keptL p l hs).length (rowsF ((keptL p l hs).map (·.1)) ((keptL p l hs).map (·.2))) ∧ v'.ownBlock = v.ownBlock ∧ Keep (fun q => v.ownBlock = some q) w w' := by
  have hidx := index_any hown hlen hbig p F caps eg (fun i r h w' h1 h2 hb => hp i r h w' h1 h2 (.of hb))
  have HIDX := Lib.hid hidx
  have HOWN := Lib.hid hown
  have HP := Lib.hid hp
  have HLEN := Lib.hid hlen
  have HSL := Lib.hid hsl
  obtain ⟨A, c, rfl⟩ : ∃ A c, v = .slice A l.length c := by
    rcases hown.2 with ⟨e, hn⟩ | ⟨g, cap, cur, e, _⟩
    · exact ⟨none, 0, by rw [e, hn]⟩
    · exact ⟨_, _, e⟩
  clear hidx hown hp hlen hsl
  rcases hfi : l.findIdx? p with _ | i
  · have HN := Lib.hid (show ∀ a ∈ l, p a = false from by simpa using List.findIdx?_eq_none_iff.1 hfi)
    have HF := Lib.hid (idx_miss hfi)
    clear hfi
    go_enter Try.func25, Try.ntmps25
    go_wp2_with fail
    refine HIDX.out.mono ?_
    rintro e w1 ⟨rfl, hb1⟩
    rw [HF.out]
    have HB1 := Lib.hid hb1
    clear hb1 HIDX HF
    go_wp2_with fail
    go_ret
    obtain ⟨h1, h2⟩ := kept_none HLEN.out HN.out
    have e3 : (keptL p l hs).length = l.length := by rw [← congrArg List.length h1]; simp
    refine ⟨_, rfl, ?_, rfl, .of HB1.out⟩
    rw [h1, h2, e3]
    exact ownsRow_below HOWN.out HB1.out
  · obtain ⟨hil, hpi, hno⟩ := List.findIdx?_eq_some_iff_getElem.1 hfi
    have HF := Lib.hid (idx_hit hfi)
    obtain ⟨n, hn⟩ : ∃ n, l.length = n := ⟨_, rfl⟩
    have hown := HOWN.out
    rcases hown.2 with ⟨_, e⟩ | ⟨g, cap, cur, e, hbg, hg, hle, hcm, hsz, htk⟩
    · omega
    have e1 : A = some ⟨g, 0, none⟩ := by injection e
    have e2 : c = cap := by injection e
    subst e1 e2
    have hrg := owns_rec hown rfl HLEN.out
    have HRG := Lib.hid (show ∀ i r x, l[i]? = some r → hs[i]? = some x → w.rangeAt g (i * 14) (r.cells x) from by
      rcases hrg with ⟨e, _⟩ | ⟨g', cap', e, _, _, _, _, h⟩
      · exact absurd e (by simp)
      · injection e with e1 _ _
        injection e1 with e1
        injection e1 with e1 _ _
        subst e1
        exact h)
    unfold maxLen at hcm
    have hgl : g < w.heap.size := (Array.getElem?_eq_some_iff.1 hg).1
    have HR0 := Lib.hid (show ∃ cur, w.heap[g]? = some (.cells cur 57 (0, 0)) ∧ cur.size = c * 14 from ⟨cur, hg, hsz⟩)
    have HK0 := Lib.hid (show keptTo p l hs (i + 1) = (l.zip hs).take i from by
      refine kept_first (List.getElem?_eq_getElem hil) (List.getElem?_eq_getElem (by rw [HLEN.out]; exact hil)) hpi fun j a hj ha => ?_
      obtain ⟨h1, rfl⟩ := List.getElem?_eq_some_iff.1 ha
      simpa using hno j hj)
    have HM0 := Lib.hid (show MidDel p l hs g c w w (i + 1) from ⟨.refl _ _, HR0.out, fun q r x hq => by
      rw [HK0.out, List.getElem?_take] at hq
      split at hq
      · rw [List.getElem?_zip_eq_some] at hq
        exact HRG.out q r x hq.1 hq.2
      · exact absurd hq (by simp), fun q r x _ => HRG.out q r x, by rw [HK0.out, List.length_take]; omega⟩)
    have HL0 := Lib.hid (show (keptTo p l hs (i + 1)).length = i from by rw [HK0.out, List.length_take, List.length_zip, HLEN.out]; have := hil; simp only [Nat.min_self]; omega)
    have HBG := Lib.hid hbg
    rw [hn] at hil hle hbig
    have HN := Lib.hid hn
    clear hfi hpi hno hown e htk hsz hg hrg hbg HR0 HK0 HRG
    rw [hn] at HIDX HP ⊢
    have HPP := HP
    clear hn HP
    go_enter Try.func25, Try.ntmps25
    go_wp2_with fail
    refine HIDX.out.mono ?_
    rintro e w1 ⟨rfl, hb1⟩
    rw [HF.out]
    have HB1 := Lib.hid hb1
    have HM1 := Lib.hid (HM0.out.below hb1)
    have hi1 : ((i : Int) == -1) = false := by simp <;> omega
    clear hb1 HIDX HF HM0
    go_wp2_with fail
    go_loopw [5, 6] (fun vi vj wr => ∃ (a j : Nat), j ≤ n ∧ vi = .int .i64 a ∧ vj = .int .i64 j ∧ a = (keptTo p l hs j).length ∧ MidDel p l hs g c w wr j) (fun _ vj _ => n - (intOf vj).toNat)
    case atStart => exact ⟨i, i + 1, by omega, rfl, rfl, HL0.out.symm, HM1.out⟩
    case round =>
      obtain ⟨a, j, hj, rfl, rfl, ha, hM⟩ := hrel
      have hal := hM.less
      rw [← ha] at hal
      have HM := Lib.hid hM
      have HA := Lib.hid ha
      clear hM ha HM1 HL0
      have ha0 : (0 : Int) ≤ (a : Int) := by omega
      have ha1 : (a : Int) < (n : Int) := by omega
      by_cases hlt : j < n
      · have hj0 : (0 : Int) ≤ (j : Int) := by omega
        have hj1 : (j : Int) < (n : Int) := by omega
        obtain ⟨r, hr⟩ : ∃ r, l[j]? = some r := ⟨_, List.getElem?_eq_getElem (by rw [HN.out]; exact hlt)⟩
        obtain ⟨x, hx⟩ : ∃ x, hs[j]? = some x := ⟨_, List.getElem?_eq_getElem (by rw [HLEN.out, HN.out]; exact hlt)⟩
        obtain ⟨xa, xn, xc, rfl⟩ := HSL.out j x hx
        have HRJ := Lib.hid (HM.out.right j r _ (Nat.le_refl _) hr hx)
        have HR := Lib.hid hr
        have HX := Lib.hid hx
        clear hr hx
        go_upto_region 8 with (refine load_rec HRJ.out _ (by rfl) rfl rfl ?_)
        generalize hW1 : wr.alloc _ = W1
        have hbW : Below wr.heap.size wr W1 := by rw [← hW1]; exact (Below.refl _ _).alloc (Nat.le_refl _) _
        have hbx : W1.rangeAt wr.heap.size 0 (r.cells (.slice xa xn xc)) := by
          rw [← hW1]
          intro t v hv
          rw [Nat.zero_add, cell_of_row _ _ t _ _ (0, 0) (heap_alloc_new wr _), ← hv]
          simp [Rc.cells]
        have HMW := Lib.hid (HM.out.below hbW)
        have HBX := Lib.hid hbx
        obtain ⟨B, hB⟩ : ∃ B, wr.heap.size = B := ⟨_, rfl⟩
        rw [hB] at HBX ⊢
        have HCALL := Lib.hid (HPP.out j r _ W1 HR.out HX.out (HMW.out.keep.wide (fun q hq => by rw [show q = g from hq]; rfl)))
        clear hW1 hbW hbx HM HRJ hB
        go_wp2_with (refine load_rec HBX.out _ (by rfl) rfl rfl ?_)
        refine HCALL.out.mono ?_
        rintro e w2 ⟨rfl, hb2⟩
        have HM2 := Lib.hid (HMW.out.below hb2)
        have HBX2 := Lib.hid (rangeAt_below HBX.out hb2)
        clear hb2 HMW HBX HCALL
        cases hpr : p r
        · obtain ⟨cur, hcur, hcs⟩ := HM2.out.row
          have HCUR := Lib.hid hcur
          have hsz : a * 14 + 14 ≤ cur.size := by rw [hcs]; omega
          have HSZ := Lib.hid hsz
          have HPR := Lib.hid hpr
          clear hcur hcs hsz hpr
          go_wp2_with (first | (refine load_rec HBX2.out _ (by rfl) rfl rfl ?_) | (refine store_rec_k (r := r) (h := .slice xa xn xc) rfl HCUR.out HSZ.out _ _ (by rfl) rfl rfl rfl ?_; intro w3 h3))
          go_roundw
          case rel =>
            obtain ⟨h1, h2⟩ := HM2.out.move HA.out.symm HR.out HX.out HPR.out (by omega) HCUR.out h3.out.1 h3.out.2
            exact ⟨a + 1, j + 1, by omega, by go_num, by go_num, h2.symm, h1⟩
          case measure => simp [intOf]; omega
        · have HPR := Lib.hid hpr
          clear hpr
          go_wp2_with fail
          go_roundw
          case rel =>
            obtain ⟨h1, h2⟩ := HM2.out.skip HR.out HX.out HPR.out
            exact ⟨a, j + 1, by omega, rfl, by go_num, by rw [h2]; exact HA.out, h1⟩
          case measure => simp [intOf]; omega
      · obtain rfl : j = n := by omega
        obtain ⟨cur, hcur, hcs⟩ := HM.out.row
        obtain ⟨m, hm⟩ : ∃ m, j - a = m + 1 := ⟨j - a - 1, by omega⟩
        obtain ⟨zs, hzl, hclr⟩ := run_clear_recs wr 0 g (a * 14) m (c - a) (fun q hq => by
          rw [cell_of_row wr g _ _ _ (0, 0) hcur, Array.getElem?_eq_getElem (by rw [hcs]; omega)]; rfl) (fun q => frozen_of_row wr g _ _ _ hcur)
        have hh := heap_sets zs (a * 14) wr cur hcur
        have ht := touch_sets zs (a * 14) wr (Touch.refl g wr)
        generalize hW2 : wr.setCells g (a * 14) zs = W2 at hclr hh ht
        have hca : ¬ c = a := by omega
        have hac : a ≤ c := by omega
        have haj : a ≤ j := by omega
        have hb1 : (a : Int) ≤ (j : Int) := by omega
        have hb2 : (j : Int) ≤ (c : Int) := by omega
        have hb3 : (a : Int) ≤ (c : Int) := by omega
        have HFIN := Lib.hid (And.intro hh (And.intro ht (And.intro hcs (And.intro hzl hcur))))
        have HMM := Lib.hid hm
        clear hW2 hh ht hcs hzl hcur
        go_wp2_with fail
        go_ret
        obtain ⟨hh, ht, hcs, hzl, hcur⟩ := HFIN.out
        have hlen := HLEN.out
        have e : keptTo p l hs j = keptL p l hs := by rw [← HN.out]; exact kept_all hlen
        have hla : (keptL p l hs).length = a := by rw [← e]; exact HA.out.symm
        have hkk : Keep (fun q => (Value.slice (some ⟨g, 0, none⟩) j c).ownBlock = some q) w W2 := (HM.out.keep.thenTouch ht (.inl rfl)).wide (fun q hq => by rw [show q = g from hq]; rfl)
        have hl1 : ((keptL p l hs).map (·.2)).length = ((keptL p l hs).map (·.1)).length := by simp
        have hl2 : ((keptL p l hs).map (·.1)).length = a := by rw [List.length_map, hla]
        have hrows := rows_of hh (l := (keptL p l hs).map (·.1)) (hs := (keptL p l hs).map (·.2)) hl1 (by rw [hl2, setList_size, hcs]; omega) (fun q r x h1 h2 => by
          have hq : q < a := by rw [← hl2]; exact (List.getElem?_eq_some_iff.1 h1).1
          have hk : (keptTo p l hs j)[q]? = some (r, x) := by
            rw [e]
            rw [List.getElem?_map, Option.map_eq_some_iff] at h1 h2
            obtain ⟨y, hy, rfl⟩ := h1
            obtain ⟨y2, hy2, rfl⟩ := h2
            rw [hy] at hy2
            injection hy2 with hy2
            subst hy2
            exact hy
          exact range_set hcur hh (by rw [hzl, hcs]; omega) (HM.out.left q r x hk) (.inl (by rw [rec_len]; omega)))
        refine ⟨_, rfl, ⟨by rw [rows_len _ _ hl1, hl2, hla], .inr ⟨g, c, _, by show Value.slice (some ⟨g, 0, none⟩) a c = _; rw [hla], HBG.out, hh, by rw [hla]; omega, by unfold maxLen; omega, by rw [setList_size, hcs], ?_⟩⟩, rfl, hkk⟩
        rw [hl2] at hrows
        rw [hla]
        exact hrows
end Go.Proofs.Ytboijaffpnmcaaa
