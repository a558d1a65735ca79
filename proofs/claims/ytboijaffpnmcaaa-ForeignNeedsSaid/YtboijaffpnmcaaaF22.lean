/- Plain laws of the records: no two with one sender; a message's set is qualified when one message is enough. -/
import Derived.Test.YtboijaffpnmcaaaF21
namespace Go.Proofs.Ytboijaffpnmcaaa
open Go.RowKit
set_option linter.unusedVariables false
set_option linter.unusedSimpArgs false

def Rc.key (r : Rc) : Int × Int := (r.clock, r.num)
structure Fr.Uniq (f : Fr) : Prop where
  own : ∀ r ∈ f.list, r.set.sender = r.clock ∧ r.set.sport = r.num
  keys : (f.list.map Rc.key).Nodup
theorem pushT_new (h : List Int) (t : Int) : t ∈ pushT h t := by
  unfold pushT
  split
  · rename_i hl
    simp only [List.length_append, List.length_cons, List.length_nil] at hl
    rw [List.drop_append_of_le_length (by omega)]
    simp
  · simp
/-- The record that Hear writes is that of the sender. -/
theorem mid_key (f : Fr) (d : DS) : ∃ r, (midL f d)[midN f d]? = some r ∧ r.clock = d.sender ∧ r.num = d.sport := by
  unfold midL midN
  split <;> rename_i h
  · obtain ⟨hi, hp, _⟩ := List.findIdx?_eq_some_iff_getElem.1 h
    simp only [isB, Bool.and_eq_true, beq_iff_eq] at hp
    exact ⟨_, List.getElem?_eq_getElem hi, hp⟩
  · exact ⟨⟨d.sender, d.sport, .zero, []⟩, by simp, rfl, rfl⟩
theorem room_sub (l : List Rc) : (roomL l).Sublist l := by
  unfold roomL
  split
  · exact List.eraseIdx_sublist _ _
  · exact List.Sublist.refl _
theorem mid_keys {f : Fr} (h : f.Uniq) (d : DS) : ((midL f d).map Rc.key).Nodup := by
  unfold midL
  split <;> rename_i hf
  · exact h.keys
  · rw [List.map_append, List.nodup_append]
    refine ⟨List.Nodup.sublist ((room_sub f.list).map _) h.keys, by simp, fun a ha b hb e => ?_⟩
    simp at hb
    subst hb
    obtain ⟨r, hr, rfl⟩ := List.mem_map.1 ha
    have := List.findIdx?_eq_none_iff.1 hf r (room_mem hr)
    simp only [Rc.key, Prod.mk.injEq] at e
    simp [isB, e.1, e.2] at this
theorem Fr.Uniq.heard {f : Fr} (h : f.Uniq) (d : DS) (t : Int) : (hearS f d t).Uniq := by
  unfold hearS
  split
  · obtain ⟨r, hr, hc, hn⟩ := mid_key f d
    have hs : (midN f d) < (midL f d).length := (List.getElem?_eq_some_iff.1 hr).1
    have es : (hearF f d t).list = (midL f d).set (midN f d) ⟨r.clock, r.num, d, pushT r.heard t⟩ := by
      show setAt _ _ _ _ = _
      rw [setAt, hr]
    refine ⟨fun a ha => ?_, ?_⟩
    · rw [es] at ha
      obtain ⟨j, hj⟩ := List.mem_iff_getElem?.1 ha
      by_cases e : j = midN f d
      · subst e
        rw [List.getElem?_set_self hs] at hj
        injection hj with hj
        subst hj
        exact ⟨hc.symm, hn.symm⟩
      · rw [List.getElem?_set_ne (fun h => e h.symm)] at hj
        have hm := List.mem_of_getElem? hj
        unfold midL at hm hj
        unfold midN at e
        split at hm <;> rename_i hf
        · exact h.own a hm
        · rw [hf] at e hj
          simp only at e hj
          rcases List.mem_append.1 hm with hm | hm
          · exact h.own a (room_mem hm)
          · exfalso
            have hjl := (List.getElem?_eq_some_iff.1 hj).1
            simp only [List.length_append, List.length_cons, List.length_nil] at hjl
            have hjl2 : j < (roomL f.list).length := by omega
            rw [List.getElem?_append_left hjl2] at hj
            have hmem := List.mem_of_getElem? hj
            simp at hm
            subst hm
            have := List.findIdx?_eq_none_iff.1 hf _ (room_mem hmem)
            simp [isB] at this
    · rw [es, List.map_set]
      have hg : ((midL f d).map Rc.key)[midN f d]? = some (Rc.key ⟨r.clock, r.num, d, pushT r.heard t⟩) := by
        rw [List.getElem?_map, hr]; rfl
      have : ((midL f d).map Rc.key).set (midN f d) (Rc.key ⟨r.clock, r.num, d, pushT r.heard t⟩) = (midL f d).map Rc.key := by
        obtain ⟨h1, h2⟩ := List.getElem?_eq_some_iff.1 hg
        rw [← h2, List.set_getElem_self]
      rw [this]
      exact mid_keys h d
  · exact h
theorem runS_uniq (l : List Op35) : ∀ (f : Fr), f.Uniq → (runS f l).Uniq := by
  induction l with
  | nil => exact fun f h => h
  | cons o l ih => exact fun f h => ih _ (h.heard o.set o.at_)
theorem newF_uniq (a b : Int) : (newF a b).Uniq := ⟨fun r hr => by simp [newF] at hr, by simp [newF]⟩
/-- Two of the qualified have different senders. -/
theorem qual_apart {f : Fr} (h : f.Uniq) {t : Int} {j m : Nat} {a b : DS} (hj : (qualF f t)[j]? = some a) (hm : (qualF f t)[m]? = some b) (hjm : j < m) : (a.sender == b.sender) = false ∨ (a.sender == b.sender) = true ∧ (a.sport == b.sport) = false := by
  have key : ¬ (a.sender = b.sender ∧ a.sport = b.sport) := by
    unfold qualF at hj hm
    rw [List.getElem?_map, Option.map_eq_some_iff] at hj hm
    obtain ⟨x, hx, rfl⟩ := hj
    obtain ⟨y, hy, rfl⟩ := hm
    have hnd : ((f.list.filter (qualB f t)).map Rc.key).Nodup := List.Nodup.sublist (List.filter_sublist.map _) h.keys
    obtain ⟨hxl, hxe⟩ := List.getElem?_eq_some_iff.1 hx
    obtain ⟨hyl, hye⟩ := List.getElem?_eq_some_iff.1 hy
    have ox := h.own x (List.mem_filter.1 (List.mem_of_getElem? hx)).1
    have oy := h.own y (List.mem_filter.1 (List.mem_of_getElem? hy)).1
    rintro ⟨e1, e2⟩
    have ek : x.key = y.key := by
      simp only [Rc.key, Prod.mk.injEq]
      exact ⟨by rw [← ox.1, ← oy.1, e1], by rw [← ox.2, ← oy.2, e2]⟩
    have := (List.getElem_inj (h₀ := by simpa using hxl) (h₁ := by simpa using hyl) hnd (i := j) (j := m)).1 (by simp only [List.getElem_map]; rw [hxe, hye]; exact ek)
    omega
  by_cases e1 : a.sender = b.sender
  · exact .inr ⟨by simpa using e1, by simpa using fun e2 => key ⟨e1, e2⟩⟩
  · exact .inl (by simpa using e1)
theorem heard_found {f : Fr} (hw : 1 ≤ f.window) (hn : f.need = 1) {d : DS} {t : Int} (he : hearE f d t = 0) : d ∈ qualF (hearS f d t) t := by
  rw [hearS, if_pos he]
  obtain ⟨r, hr, _, _⟩ := mid_key f d
  have hs : (midN f d) < (midL f d).length := (List.getElem?_eq_some_iff.1 hr).1
  have es : (hearF f d t).list = (midL f d).set (midN f d) ⟨r.clock, r.num, d, pushT r.heard t⟩ := by
    show setAt _ _ _ _ = _
    rw [setAt, hr]
  unfold qualF
  rw [List.mem_map]
  refine ⟨⟨r.clock, r.num, d, pushT r.heard t⟩, List.mem_filter.2 ⟨by rw [es]; exact List.mem_set hs _, ?_⟩, rfl⟩
  unfold qualB
  rw [decide_eq_true_eq]
  show f.need ≤ ((recentF f.window t t (pushT r.heard t) : Nat) : Int)
  have h1 : 0 < recentF f.window t t (pushT r.heard t) := by
    unfold recentF
    rw [List.countP_pos_iff]
    refine ⟨t, pushT_new _ _, ?_⟩
    simp only [decide_eq_true_eq]
    split <;> omega
  omega
end Go.Proofs.Ytboijaffpnmcaaa
