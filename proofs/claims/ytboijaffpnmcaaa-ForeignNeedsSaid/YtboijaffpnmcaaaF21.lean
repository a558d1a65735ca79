/- Plain laws of the best data set. -/
import Derived.Test.YtboijaffpnmcaaaF20
namespace Go.Proofs.Ytboijaffpnmcaaa
open Go.RowKit
set_option linter.unusedVariables false
set_option linter.unusedSimpArgs false

theorem fold_least : ∀ (l : List DS) (b : DS), (l.foldl (fun b d => if lessB d b = true then d else b) b = b ∨ l.foldl (fun b d => if lessB d b = true then d else b) b ∈ l) ∧ lessB b (l.foldl (fun b d => if lessB d b = true then d else b) b) = false ∧ ∀ d ∈ l, lessB d (l.foldl (fun b d => if lessB d b = true then d else b) b) = false
  | [], b => ⟨.inl rfl, less_irrefl b, fun d hd => by simp at hd⟩
  | a :: t, b => by
    rw [List.foldl_cons]
    cases h : lessB a b
    · rw [if_neg (by simp)]
      obtain ⟨h1, h2, h3⟩ := fold_least t b
      refine ⟨h1.imp_right (List.mem_cons_of_mem _), h2, fun d hd => ?_⟩
      rcases List.mem_cons.1 hd with rfl | hd
      · exact not_less_trans h h2
      · exact h3 d hd
    · rw [if_pos rfl]
      obtain ⟨h1, h2, h3⟩ := fold_least t a
      refine ⟨.inr ?_, not_less_trans (less_asymm h) h2, fun d hd => ?_⟩
      · rcases h1 with h1 | h1
        · rw [h1]; simp
        · exact List.mem_cons_of_mem _ h1
      · rcases List.mem_cons.1 hd with rfl | hd
        · exact h2
        · exact h3 d hd
theorem best_mem {l : List DS} (h : l ≠ []) : bestR l ∈ l := by
  rw [bestR, if_neg h]
  cases l with
  | nil => exact absurd rfl h
  | cons a t =>
    have := (fold_least (a :: t) a).1
    unfold bestL
    rcases this with h1 | h1
    · rw [show (a :: t).headD .zero = a from rfl, h1]; simp
    · exact h1
theorem best_least {l : List DS} {d : DS} (h : d ∈ l) : lessB d (bestR l) = false := by
  rw [bestR, if_neg (fun e => by rw [e] at h; simp at h)]
  exact (fold_least l _).2.2 d h
def foundTo (l : List DS) (x : DS) (k : Nat) : Bool := (l.take k).any (fun d => decide (d = x))
theorem found_next {l : List DS} {x d : DS} {k : Nat} (h : l[k]? = some d) : foundTo l x (k + 1) = (foundTo l x k || decide (d = x)) := by
  unfold foundTo
  rw [List.take_add_one, h]
  simp
theorem found_all {l : List DS} {x : DS} (h : x ∈ l) : foundTo l x l.length = true := by
  unfold foundTo
  rw [List.take_length, List.any_eq_true]
  exact ⟨x, h, by simp⟩
end Go.Proofs.Ytboijaffpnmcaaa
