/-
  Plain facts on lists.
-/
import Derived.Test.YtmjdihpdlfidmaaEng8
set_option linter.unusedSimpArgs false
set_option linter.unusedVariables false
namespace Go.Eng

theorem findIdx?_at {α : Type} {pr : α → Bool} {l : List α} {k : Nat} {x : α} (hx : l[k]? = some x) (hp : pr x = true) (h : ∀ j y, j < k → l[j]? = some y → pr y = false) : l.findIdx? pr = some k := by
  obtain ⟨hlt, hge⟩ := List.getElem?_eq_some_iff.1 hx
  rw [List.findIdx?_eq_some_iff_getElem]
  refine ⟨hlt, by rw [hge]; exact hp, fun j hj => ?_⟩
  have := h j l[j] hj (by simp)
  simp [this]

theorem findIdx?_no {α : Type} {pr : α → Bool} {l : List α} (h : ∀ j y, j < l.length → l[j]? = some y → pr y = false) : l.findIdx? pr = none := by
  rw [List.findIdx?_eq_none_iff]
  intro x hx
  obtain ⟨j, hj, rfl⟩ := List.getElem_of_mem hx
  exact h j _ hj (by simp)

theorem any_findIdx {α : Type} (pr : α → Bool) (l : List α) : (l.findIdx? pr).isSome = l.any pr := by
  rw [Bool.eq_iff_iff, List.findIdx?_isSome]

/-- A walk from the front: what stood for all ahead stands for one more. -/
theorem ahead_succ {α : Type} {l : List α} {k : Nat} {R : α → Prop} {x : α} (hx : l[k]? = some x) (h : ∀ j y, j < k → l[j]? = some y → R y) (hr : R x) : ∀ j y, j < k + 1 → l[j]? = some y → R y := by
  intro j y hj hy
  by_cases e : j = k
  · subst e; rw [hx] at hy; cases hy; exact hr
  · exact h j y (by omega) hy

theorem any_of_at {α : Type} {pr : α → Bool} {l : List α} {k : Nat} {x : α} (hx : l[k]? = some x) (hp : pr x = true) : l.any pr = true := by
  rw [List.any_eq_true]
  exact ⟨x, List.mem_of_getElem? hx, hp⟩

theorem any_no {α : Type} {pr : α → Bool} {l : List α} (h : ∀ j y, j < l.length → l[j]? = some y → pr y = false) : l.any pr = false := by
  rw [← Bool.not_eq_true, List.any_eq_true]
  rintro ⟨x, hx, hp⟩
  obtain ⟨j, hj, rfl⟩ := List.getElem_of_mem hx
  have h' := h j _ hj (List.getElem?_eq_getElem hj)
  rw [hp] at h'
  cases h'

theorem take_succ_at {α : Type} {l : List α} {k : Nat} {x : α} (hx : l[k]? = some x) : l.take (k + 1) = l.take k ++ [x] := by
  obtain ⟨hlt, rfl⟩ := List.getElem?_eq_some_iff.1 hx
  exact List.take_succ_eq_append_getElem hlt

end Go.Eng
