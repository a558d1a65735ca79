/- slices.Delete of one record: the walk. -/
import Derived.WalkKit
import Derived.LoopTactic
import Derived.Outline
import Derived.Lib.Hide
import Derived.Deep.RegionLaw
import Derived.Test.YtboijaffpnmcaaaF8
namespace Go.Proofs.Ytboijaffpnmcaaa
open Go.RowKit
set_option linter.unusedVariables false
set_option linter.unusedSimpArgs false

theorem del_cells (cur : Array Value) (xs news zs : List Value) (n m i cap : Nat) (hn : n = m + 1) (hi : i < n) (hsz : cur.size = cap * 14) (hle : n ≤ cap) (hxl : xs.length = n * 14) (htk : cur.toList.take (n * 14) = xs) (hnews : news = xs.drop ((i + 1) * 14)) (hz : zs.length = 14) :
    (setList (setList cur (i * 14) news) (m * 14) zs).toList.take (m * 14) = xs.take (i * 14) ++ news := by
  have hnl : news.length = (m - i) * 14 := by rw [hnews, List.length_drop, hxl]; omega
  have hc : ∀ j, j < n * 14 → cur[j]? = xs[j]? := fun j hj => by rw [← htk, List.getElem?_take, if_pos hj, Array.getElem?_toList]
  apply List.ext_getElem?
  intro j
  rw [List.getElem?_take, Array.getElem?_toList]
  by_cases hj : j < m * 14
  · rw [if_pos hj, setList_get _ _ _ _ (by rw [setList_size, hz]; omega), if_neg (by omega), setList_get _ _ _ _ (by rw [hnl]; omega)]
    by_cases h1 : i * 14 ≤ j
    · rw [if_pos ⟨h1, by rw [hnl]; omega⟩, List.getElem?_append_right (by rw [List.length_take]; omega), List.length_take, show min (i * 14) xs.length = i * 14 from by omega]
    · rw [if_neg (by omega), List.getElem?_append_left (by rw [List.length_take]; omega), List.getElem?_take, if_pos (by omega), hc _ (by omega)]
  · rw [if_neg hj, List.getElem?_eq_none (by rw [List.length_append, List.length_take, hnl]; omega)]
theorem rows_erase (l : List Rc) (hs : List Value) (i : Nat) (h : hs.length = l.length) : rowsF (l.eraseIdx i) (hs.eraseIdx i) = (rowsF l hs).take (i * 14) ++ (rowsF l hs).drop ((i + 1) * 14) := by
  rw [List.eraseIdx_eq_take_drop_succ, List.eraseIdx_eq_take_drop_succ, rows_append _ _ _ _ (by simp [h]), rows_take _ _ _ h, rows_drop _ _ _ h]

set_option maxRecDepth 100000 in
set_option maxHeartbeats 4000000 in
theorem rdel_any {w : World} {v : Value} {l : List Rc} {hs : List Value} {base : Nat} (hown : w.ownsRow base 57 14 v l.length (rowsF l hs)) (hlen : hs.length = l.length) (hbig : l.length ≤ 1000) (i : Nat) (hi : i < l.length) (hone : ∀ u ∈ rowsF l hs, u.oneCell' = true) :
    Calls Try.prog 28 #[v, .int .i64 i, .int .i64 (i + 1)] w fun e w' => ∃ v', e = .returned v' ∧ w'.ownsRow base 57 14 v' (l.length - 1) (rowsF (l.eraseIdx i) (hs.eraseIdx i)) ∧ v'.ownBlock = v.ownBlock ∧ ∃ b, v.ownBlock = some b ∧ Touch b w w' := by
  obtain ⟨i0, hi0, hz0, hz1, hz2⟩ := info_parts infoRecB
  have hrl := rows_len l hs hlen
  rcases hown.2 with ⟨_, hn0⟩ | ⟨g, cap, cur, rfl, hbg, hg, hle, hcm, hcs, htk⟩
  · omega
  obtain ⟨n, hn⟩ : ∃ n, l.length = n := ⟨_, rfl⟩
  rw [hn] at hle htk hi hbig hrl
  rw [hn]
  unfold maxLen at hcm
  obtain ⟨xs, hxs⟩ : ∃ xs, rowsF l hs = xs := ⟨_, rfl⟩
  rw [hxs] at htk hone hrl
  obtain ⟨news, hnews⟩ : ∃ news, news = xs.drop ((i + 1) * 14) := ⟨_, rfl⟩
  have hnl : news.length = (n - (i + 1)) * 14 := by rw [hnews, List.length_drop, hrl]; omega
  have hcell : ∀ j, j < n * 14 → w.drew.cell? ⟨g, j, none⟩ = xs[j]? := fun j hj => by
    have e : w.drew.cell? ⟨g, j, none⟩ = w.cell? ⟨g, j, none⟩ := rfl
    rw [e, cell_of_row w g j _ _ (0, 0) hg, ← htk, List.getElem?_take, if_pos hj, Array.getElem?_toList]
  have hfree : ∀ j, w.drew.frozen? ⟨g, j, none⟩ = false := fun j => frozen_of_row w g j _ _ hg
  obtain ⟨A, hA, hsrc⟩ : ∃ A : Addr, (if cap = i + 1 then some (⟨g, 0, none⟩ : Addr) else some ⟨g, (i + 1) * 14, none⟩) = some A ∧ Hid (∀ t u, news[t]? = some u → w.drew.cell? (A.add t) = some u) := by
    by_cases h : cap = i + 1
    · refine ⟨⟨g, 0, none⟩, by simp [h], fun t u hu => ?_⟩
      have h0 : news.length = 0 := by rw [hnl]; omega
      rw [List.length_eq_zero_iff.1 h0] at hu
      simp at hu
    · refine ⟨⟨g, (i + 1) * 14, none⟩, by simp [h], fun t u hu => ?_⟩
      have ht : t < news.length := (List.getElem?_eq_some_iff.1 hu).1
      rw [show (Addr.add ⟨g, (i + 1) * 14, none⟩ t) = ⟨g, (i + 1) * 14 + t, none⟩ from by simp [Addr.add], hcell _ (by rw [hnl] at ht; omega), ← hu, hnews, List.getElem?_drop]
  have s1 := Lib.hid (show news.length = (n - (i + 1)) * 14 from hnl)
  have s2 := Lib.hid (show ∀ u ∈ news, u.oneCell' = true from fun u hu => hone u (by rw [hnews] at hu; exact List.mem_of_mem_drop hu))
  have s3 := Lib.hid (show ∀ t, t < news.length → (w.drew.cell? ⟨g, 0 + i * 14 + t, none⟩).isSome = true ∧ w.drew.frozen? ⟨g, 0 + i * 14 + t, none⟩ = false from fun t ht => by
    rw [hnl] at ht
    refine ⟨?_, hfree _⟩
    rw [hcell _ (by omega), List.getElem?_eq_getElem (by rw [hrl]; omega)]
    rfl)
  have HF := Lib.hid hfree
  have HC := Lib.hid hcell
  have HG := Lib.hid hg
  have HN := Lib.hid hn
  have HXS := Lib.hid hxs
  have HNW := Lib.hid hnews
  have HTK := Lib.hid htk
  have HRL := Lib.hid hrl
  have hi1 : (i : Int) < (n : Int) := by omega
  have hi2 : (0 : Int) ≤ (i : Int) := by omega
  have hni : ((i : Int) == (i : Int) + 1) = false := by simp; omega
  have hic : i ≤ cap := by omega
  have hjc : i + 1 ≤ cap := by omega
  have hjn : i + 1 ≤ n := by omega
  have hb1 : (0 : Int) ≤ (i : Int) + 1 := by omega
  have hb2 : (i : Int) + 1 ≤ (n : Int) := by omega
  obtain ⟨m, hm⟩ : ∃ m, n = m + 1 := ⟨n - 1, by omega⟩
  have HL := Lib.hid hlen
  have HNL := Lib.hid hnl
  have HM := Lib.hid hm
  clear hm hown hlen hone hfree hcell hg hn hxs hnews htk hrl hnl
  go_enter Try.func28, Try.ntmps28
  go_wp2_with fail
  go_region_law (refine step_append_room rfl (.tmp 22) (.tmp 25) 50 rfl 57 i0 14 Try.underlying50 hi0 hz1 g 0 i cap (by simp [Act.eval, Act.put]) A (n - (i + 1)) (cap - (i + 1)) news (by simp [Act.eval, Act.put]) s1.out hsrc.out s2.out (by omega) s3.out ?_)
  rw [show i + (n - (i + 1)) = m from by have := HM.out; omega]
  have hm := HM.out
  have hfree2 : ∀ j, j < 14 → (w.drew.setCells g (i * 14) news).frozen? ⟨g, m * 14 + j, none⟩ = false := fun j _ => by
    rw [frozen_of_row _ _ _ _ _ (heap_sets news (i * 14) w.drew cur HG.out)]
  have hcell2 : ∀ j, j < 14 → ((w.drew.setCells g (i * 14) news).cell? ⟨g, m * 14 + j, none⟩).isSome = true := fun j hj => by
    rw [cell_of_row _ _ _ _ _ _ (heap_sets news (i * 14) w.drew cur HG.out), Array.getElem?_eq_getElem (by rw [setList_size, hcs]; omega)]
    rfl
  have hclr := run_clear_rec (w.drew.setCells g (i * 14) news) 0 g (m * 14) (cap - m) hcell2 hfree2
  have hh := heap_sets (Rc.zero.cells (.slice none 0 0)) (m * 14) _ _ (heap_sets news (i * 14) w.drew cur HG.out)
  have ht := touch_sets (b := g) (u := w) (Rc.zero.cells (.slice none 0 0)) (m * 14) _ (touch_sets news (i * 14) w.drew ((Touch.refl g w).drewN 1))
  generalize hW2 : (w.drew.setCells g (i * 14) news).setCells g (m * 14) (Rc.zero.cells (.slice none 0 0)) = W2 at hclr hh ht
  generalize hW : w.drew.setCells g (i * 14) news = W at hclr ⊢
  have HH := Lib.hid hh
  have HT := Lib.hid ht
  have hcm1 : ¬ cap = m := by omega
  have hmn : n - m = 1 := by omega
  have hb3 : (0 : Int) ≤ (m : Int) := by omega
  have hb4 : (m : Int) ≤ (n : Int) := by omega
  have hb5 : (n : Int) ≤ (cap : Int) := by omega
  have hb6 : m ≤ cap := by omega
  have hb7 : m ≤ n := by omega
  clear hm hh ht hcell2 hfree2
  go_wp2_with fail
  go_ret
  refine ⟨_, rfl, ?_, rfl, g, rfl, HT.out⟩
  have hm := HM.out
  have hn := HN.out
  have hnm1 : n - 1 = m := by omega
  rw [hnm1]
  refine ⟨by rw [rows_len _ _ (by rw [List.length_eraseIdx, List.length_eraseIdx, HL.out])]; rw [List.length_eraseIdx, if_pos (by omega)]; omega, Or.inr ⟨g, cap, _, rfl, hbg, HH.out, by omega, by unfold maxLen; omega, by rw [setList_size, setList_size]; exact hcs, ?_⟩⟩
  rw [rows_erase l hs i HL.out, HXS.out, ← HNW.out]
  exact del_cells cur xs news _ n m i cap hm hi hcs hle HRL.out HTK.out HNW.out (rec_len _ _)
end Go.Proofs.Ytboijaffpnmcaaa
