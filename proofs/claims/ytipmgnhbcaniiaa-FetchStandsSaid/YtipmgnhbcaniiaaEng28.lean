/-
  Rows of one's own, element by element: plain facts.
-/
import Derived.Test.YtipmgnhbcaniiaaEng27
set_option linter.unusedSimpArgs false
set_option linter.unusedVariables false
namespace Go.Eng
open Go Go.RowKit

theorem overL_set {α : Type} {enc : α → List Value} {sz : Nat} (hl : ∀ x, (enc x).length = sz) : ∀ (l : List α) (k : Nat) (x : α), k < l.length → overL (k * sz) (enc x) (l.flatMap enc) = (l.set k x).flatMap enc
  | [], k, x, h => by simp at h
  | y :: r, 0, x, h => by
    simp only [overL, Nat.zero_mul, List.take_zero, List.nil_append, Nat.zero_add, hl, List.set_cons_zero, List.flatMap_cons]
    rw [List.drop_append_of_le_length (by rw [hl]; exact Nat.le_refl _), List.drop_of_length_le (by rw [hl]; exact Nat.le_refl _), List.nil_append]
  | y :: r, k + 1, x, h => by
    have ih := overL_set hl r k x (by simpa using h)
    simp only [overL, hl] at ih ⊢
    simp only [List.set_cons_succ, List.flatMap_cons, ← ih]
    rw [Nat.add_mul, Nat.one_mul, Nat.add_comm (k * sz) sz, List.take_append, List.drop_append, hl, List.take_of_length_le (by rw [hl]; omega), List.drop_of_length_le (by rw [hl]; omega)]
    rw [show sz + k * sz - sz = k * sz by omega, show sz + k * sz + sz - sz = k * sz + sz by omega]
    simp [List.append_assoc, Nat.add_comm]

theorem repZ_flat {α : Type} {enc : α → List Value} (x : α) : ∀ n, repZ n (enc x) = (List.replicate n x).flatMap enc
  | 0 => rfl
  | n + 1 => by rw [repZ, List.replicate_succ, List.flatMap_cons, repZ_flat x n]

/-- A row filled up to a place. -/
def fillTo {α : Type} (f : Nat → α) (z : α) (n k : Nat) : List α := (List.range n).map fun j => if j < k then f j else z

section
variable {n : Nat} {F : Frame0} {C : List Nat} {O : Own} {nl : Nat} {V : Vw} {K : Act → World → Prop}

end
end Go.Eng
