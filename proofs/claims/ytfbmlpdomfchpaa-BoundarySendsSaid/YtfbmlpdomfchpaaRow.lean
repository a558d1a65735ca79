/- How arguments that are flat structs, and slices of them, are opened: whatever reads as data of a type whose cells are whole numbers and bools has the form that its type says. -/
import Derived.WalkKit
import Derived.ProofKit
import Derived.OpenShut
import Derived.ChangeOld
import Derived.Below
import Derived.ChangeArms
import Derived.DataReads
import Derived.Deep.Slices
import Derived.Carry
import Derived.Test.YtfbmlpdomfchpaaProg
namespace Go.Proofs.Ytfbmlpdomfchpaa
open Go.ChangeShapes Go.WideShapes Go.ChangeAt Go.RowKit Go.Deep
set_option linter.unusedVariables false
set_option linter.unusedSimpArgs false

/-- The cells of a flat type: 'some k': a whole number of kind k; 'none': a bool. -/
def fieldCells (g : TypeId → Option (List (Option IntKind))) (P : Program) : List Field → Nat → Option (List (Option IntKind))
  | [], _ => some []
  | f :: fs, o => if f.offset = o then
      match g f.type with
      | some a => if P.cellsOf f.type = a.length then (fieldCells g P fs (o + a.length)).map (a ++ ·) else none
      | none => none
    else none
def leafs (P : Program) : Nat → TypeId → Option (List (Option IntKind))
  | 0, _ => none
  | n + 1, t =>
    match P.underlying t with
    | some (.int k) => some [some k]
    | some .bool => some [none]
    | some (.struct fs) => match fieldCells (leafs P n) P fs.toList 0 with
      | some l => if P.cellsOf t = l.length then some l else none
      | none => none
    | _ => none
def Fits : Option IntKind → Value → Prop
  | some k, v => ∃ m : Int, v = .int k m ∧ (Lit.int k m).wf = true
  | none, v => ∃ b : Bool, v = .bool b
def FitsAll : List (Option IntKind) → List Value → Prop
  | [], [] => True
  | k :: ks, v :: vs => Fits k v ∧ FitsAll ks vs
  | _, _ => False

section
variable {H : Type} {enc : TypeId × Value → H} {P : Program} {w : World} {base : Nat} {spare : Nat → Bool} {held : Bool}
theorem fitsAll_append : ∀ {a c : List (Option IntKind)} {b d : List Value}, FitsAll a b → FitsAll c d → FitsAll (a ++ c) (b ++ d)
  | [], _, [], _, _, k => k
  | _ :: _, _, _ :: _, _, h, k => ⟨h.1, fitsAll_append h.2 k⟩
  | [], _, _ :: _, _, h, _ => h.elim
  | _ :: _, _, [], _, h, _ => h.elim
theorem fitsAll_length : ∀ {a : List (Option IntKind)} {b : List Value}, FitsAll a b → a.length = b.length
  | [], [], _ => rfl
  | _ :: _, _ :: _, h => by simp [fitsAll_length h.2]
  | [], _ :: _, h => h.elim
  | _ :: _, [], h => h.elim
theorem fieldCells_fits {g : TypeId → Option (List (Option IntKind))} {m : Nat} {cs : List Value}
    (ih : ∀ (t : TypeId) (l : List (Option IntKind)) (cs : List Value) (x : DataW H × List MemPlace), g t = some l → DataW.trod enc P w base spare held m t cs = some x → FitsAll l cs) :
    ∀ (fs : List Field) (o : Nat) (l : List (Option IntKind)), fieldCells g P fs o = some l → o ≤ cs.length →
      (∀ f ∈ fs, ∃ x, DataW.trod enc P w base spare held m f.type ((cs.drop f.offset).take (P.cellsOf f.type)) = some x) → FitsAll l ((cs.drop o).take l.length)
  | [], o, l, h, _, _ => by
    simp only [fieldCells, Option.some.injEq] at h
    subst h
    exact True.intro
  | f :: fs, o, l, h, ho, hx => by
    simp only [fieldCells] at h
    by_cases h1 : f.offset = o
    · rw [if_pos h1] at h
      cases hg : g f.type with
      | none => rw [hg] at h; simp at h
      | some a =>
        rw [hg] at h
        simp only at h
        by_cases h2 : P.cellsOf f.type = a.length
        · rw [if_pos h2] at h
          cases hr : fieldCells g P fs (o + a.length) with
          | none => rw [hr] at h; simp at h
          | some r =>
            rw [hr] at h
            simp only [Option.map_some, Option.some.injEq] at h
            subst h
            obtain ⟨x, hx0⟩ := hx f (by simp)
            rw [h1, h2] at hx0
            have k1 := ih _ _ _ _ hg hx0
            have hl := fitsAll_length k1
            simp only [List.length_take, List.length_drop] at hl
            have k2 := fieldCells_fits ih fs (o + a.length) r hr (by omega) (fun f hf => hx f (by simp [hf]))
            have e : (cs.drop o).take (a ++ r).length = (cs.drop o).take a.length ++ (cs.drop (o + a.length)).take r.length := by
              rw [List.length_append, List.take_add, List.drop_drop]
            rw [e]
            exact fitsAll_append k1 k2
        · rw [if_neg h2] at h; simp at h
    · rw [if_neg h1] at h; simp at h
theorem leafs_fits : ∀ (n : Nat) (m : Nat) (t : TypeId) (l : List (Option IntKind)) (cs : List Value) (x : DataW H × List MemPlace), leafs P n t = some l → DataW.trod enc P w base spare held m t cs = some x → FitsAll l cs
  | 0, _, _, _, _, _, h, _ => by simp [leafs] at h
  | n + 1, m, t, l, cs, x, h, hx => by
    simp only [leafs] at h
    cases hu : P.underlying t with
    | none => rw [hu] at h; simp at h
    | some d =>
      rw [hu] at h
      cases d with
      | int k =>
        simp only [Option.some.injEq] at h
        subst h
        obtain ⟨n', rfl, _, hw⟩ := DataW.trod_int hu hx
        exact ⟨⟨n', rfl, hw⟩, True.intro⟩
      | bool =>
        simp only [Option.some.injEq] at h
        subst h
        obtain ⟨b, rfl, _⟩ := DataW.trod_bool hu hx
        exact ⟨⟨b, rfl⟩, True.intro⟩
      | struct fs =>
        simp only at h
        cases hf : fieldCells (leafs P n) P fs.toList 0 with
        | none => rw [hf] at h; simp at h
        | some r =>
          rw [hf] at h
          simp only at h
          by_cases hc : P.cellsOf t = r.length
          · rw [if_pos hc] at h
            simp only [Option.some.injEq] at h
            subst h
            obtain ⟨xs, m', hm, _, hcl, hxl, hget⟩ := DataW.trod_struct hu hx
            have k := fieldCells_fits (cs := cs) (fun t l cs x h1 h2 => leafs_fits n m' t l cs x h1 h2) fs.toList 0 r hf (by omega) (fun f hf => by
              obtain ⟨i, hi, he⟩ := List.getElem_of_mem hf
              have h3 := hget i f (by rw [← Array.getElem?_toList, List.getElem?_eq_getElem hi, he])
              exact ⟨xs[i]'(by simpa [hxl] using hi), by rw [h3, List.getElem?_eq_getElem]⟩)
            rw [List.drop_zero, ← hc, ← hcl, List.take_length] at k
            exact k
          · rw [if_neg hc] at h; simp at h
      | _ => simp at h
/-- An argument that is a flat struct. -/
theorem open_flat {t : TypeId} {v : Value} {d : DataW H} {p : List MemPlace} {n : Nat} {l : List (Option IntKind)} (hl : leafs P n t = some l) (h : DataW.Trod enc P w base spare held t v d p) : FitsAll l v.cells.toList := by
  obtain ⟨m, hm⟩ := h
  exact leafs_fits n m t l _ _ hl hm
/-- An argument that is a slice of flat structs: nil, or its elements' cells lie where it says. -/
theorem open_flats {t e : TypeId} {fuel : Nat} {cs : List Value} {x : DataW H × List MemPlace} {n : Nat} {l : List (Option IntKind)} (ht : P.underlying t = some (.slice e)) (hl : leafs P n e = some l) (hc : P.cellsOf e = l.length)
    (h : DataW.trod enc P w base spare held fuel t cs = some x) :
    cs = [.slice none 0 0] ∨ ∃ (a : Addr) (len cap : Nat), cs = [.slice (some a) len cap] ∧ len ≤ cap ∧ cap ≤ maxLen ∧
      ∀ i, i < len → ∃ ds : List Value, FitsAll l ds ∧ ∀ j, j < l.length → w.cell? (a.add (i * l.length + j)) = ds[j]? := by
  rcases open_slice ht h with ⟨rfl, _⟩ | ⟨a, len, cap, m, k, D, Pl, rfl, hb, hlc, hm, hmm, rfl, hx⟩
  · exact .inl rfl
  · refine .inr ⟨a, len, cap, rfl, hlc, hm, fun i hi => ?_⟩
    obtain ⟨ds, h1, h2⟩ := hx i (by rw [hmm]; split <;> omega)
    obtain ⟨_, hdl, hcell⟩ := World.cells?_some h1
    refine ⟨ds, leafs_fits n k e l ds _ hl h2, fun j hj => ?_⟩
    rw [← hcell j (by rw [hc]; exact hj), ← hc, Go.Deep.add_add]
end
end Go.Proofs.Ytfbmlpdomfchpaa
