/- Plain laws of the records: what has been heard lies in the past; after a window all is forgotten. -/
import Derived.Test.YtboijaffpnmcaaaF19
namespace Go.Proofs.Ytboijaffpnmcaaa
open Go.RowKit
set_option linter.unusedVariables false
set_option linter.unusedSimpArgs false

def Fr.Past (f : Fr) : Prop := ∀ r ∈ f.list, ∀ t ∈ r.heard, t ≤ f.last
theorem pushT_mem {h : List Int} {t u : Int} (hu : u ∈ pushT h t) : u ∈ h ∨ u = t := by
  have : u ∈ h ++ [t] := by
    unfold pushT at hu
    split at hu
    · exact List.mem_of_mem_drop hu
    · exact hu
  simpa using this
theorem mid_mem {f : Fr} {d : DS} {a : Rc} (ha : a ∈ midL f d) : a ∈ f.list ∨ a = ⟨d.sender, d.sport, .zero, []⟩ := by
  unfold midL at ha
  split at ha
  · exact .inl ha
  · rw [List.mem_append] at ha
    rcases ha with ha | ha
    · exact .inl (room_mem ha)
    · exact .inr (by simpa using ha)
theorem Fr.Past.heard {f : Fr} (h : f.Past) (d : DS) (t : Int) : (hearS f d t).Past := by
  unfold hearS
  split
  · rename_i he
    have hd := hear_ok he
    simp at hd
    intro r hr u hu
    show u ≤ t
    have hold : ∀ a ∈ midL f d, ∀ u ∈ a.heard, u ≤ t := fun a ha u hu => by
      rcases mid_mem ha with ha | rfl
      · have := h a ha u hu; omega
      · simp at hu
    rcases setAt_mem hr with hr | ⟨a, ha, rfl⟩
    · exact hold r hr u hu
    · rcases pushT_mem hu with hu | rfl
      · exact hold a ha u hu
      · exact Int.le_refl _
  · exact h
theorem runS_past (l : List Op35) : ∀ (f : Fr), f.Past → (runS f l).Past := by
  induction l with
  | nil => exact fun f h => h
  | cons o l ih => exact fun f h => ih _ (h.heard o.set o.at_)
theorem newF_past (a b : Int) : (newF a b).Past := fun r hr => by simp [newF] at hr
theorem recent_none {f : Fr} (h : f.Past) (hw : 0 ≤ f.window) {r : Rc} (hr : r ∈ f.list) : recentF f.window f.last (f.last + f.window) r.heard = 0 := by
  unfold recentF
  rw [List.countP_eq_zero]
  intro t ht
  have := h r hr t ht
  simp only [decide_eq_true_eq]
  split <;> omega
theorem qual_none {f : Fr} (h : f.Past) (hw : 0 ≤ f.window) (hn : 1 ≤ f.need) : qualF f (f.last + f.window) = [] := by
  unfold qualF
  rw [List.map_eq_nil_iff, List.filter_eq_nil_iff]
  intro r hr
  rw [qualB, recent_none h hw hr]
  simp only [decide_eq_true_eq]
  omega
theorem forget_none {f : Fr} (h : f.Past) (hw : 0 ≤ f.window) : (forgetF f (f.last + f.window)).list = [] := by
  show f.list.filter _ = []
  rw [List.filter_eq_nil_iff]
  intro r hr
  rw [staleB, recent_none h hw hr]
  simp
theorem qual_empty {f : Fr} (h : f.list = []) (t : Int) : qualF f t = [] := by unfold qualF; rw [h]; rfl
end Go.Proofs.Ytboijaffpnmcaaa
