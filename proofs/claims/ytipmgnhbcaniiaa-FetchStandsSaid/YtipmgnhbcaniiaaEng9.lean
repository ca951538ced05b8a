/-
  Plain facts on lists.
-/
import Derived.Test.YtipmgnhbcaniiaaEng8
set_option linter.unusedSimpArgs false
set_option linter.unusedVariables false
namespace Go.Eng

/-- A walk from the front: what stood for all ahead stands for one more. -/
theorem ahead_succ {α : Type} {l : List α} {k : Nat} {R : α → Prop} {x : α} (hx : l[k]? = some x) (h : ∀ j y, j < k → l[j]? = some y → R y) (hr : R x) : ∀ j y, j < k + 1 → l[j]? = some y → R y := by
  intro j y hj hy
  by_cases e : j = k
  · subst e; rw [hx] at hy; cases hy; exact hr
  · exact h j y (by omega) hy

theorem all_of_ahead {α : Type} {pr : α → Bool} {l : List α} (h : ∀ j y, j < l.length → l[j]? = some y → pr y = true) : l.all pr = true := by
  rw [List.all_eq_true]
  intro x hx
  obtain ⟨j, hj, rfl⟩ := List.getElem_of_mem hx
  exact h j _ hj (by simp)

theorem all_no {α : Type} {pr : α → Bool} {l : List α} {k : Nat} {x : α} (hx : l[k]? = some x) (hp : pr x = false) : l.all pr = false := by
  rw [← Bool.not_eq_true, List.all_eq_true]
  intro h
  have := h x (List.mem_of_getElem? hx)
  rw [hp] at this
  cases this

theorem take_succ_at {α : Type} {l : List α} {k : Nat} {x : α} (hx : l[k]? = some x) : l.take (k + 1) = l.take k ++ [x] := by
  obtain ⟨hlt, rfl⟩ := List.getElem?_eq_some_iff.1 hx
  exact List.take_succ_eq_append_getElem hlt

end Go.Eng
