/-
  Rows of one's own, element by element: plain facts.
-/
import Derived.Test.YtikdaehmaaogdaaEng27
set_option linter.unusedSimpArgs false
set_option linter.unusedVariables false
namespace Go.Eng
open Go Go.RowKit

theorem overL_set {α : Type} {enc : α → List Value} {sz : Nat} (hl : ∀ x, (enc x).length = sz) : ∀ (l : List α) (k : Nat) (x : α), k < l.length → overL (k * sz) (enc x) (l.flatMap enc) = (l.set k x).flatMap enc
  | [], k, x, h => by simp at h
  | y :: r, 0, x, h => by
    simp only [overL, Nat.zero_mul, List.take_zero, List.nil_append, Nat.zero_add, hl, List.set_cons_zero, List.flatMap_cons]
    rw [List.drop_append_of_le_length (by rw [hl]; exact Nat.le_refl _), List.drop_of_length_le (by rw [hl]; exact Nat.le_refl _), List.nil_append]
  | y :: r, k + 1, x, h => by
    have ih := overL_set hl r k x (by simpa using h)
    simp only [overL, hl] at ih ⊢
    simp only [List.set_cons_succ, List.flatMap_cons, ← ih]
    rw [Nat.add_mul, Nat.one_mul, Nat.add_comm (k * sz) sz, List.take_append, List.drop_append, hl, List.take_of_length_le (by rw [hl]; omega), List.drop_of_length_le (by rw [hl]; omega)]
    rw [show sz + k * sz - sz = k * sz by omega, show sz + k * sz + sz - sz = k * sz + sz by omega]
    simp [List.append_assoc, Nat.add_comm]

theorem repZ_flat {α : Type} {enc : α → List Value} (x : α) : ∀ n, repZ n (enc x) = (List.replicate n x).flatMap enc
  | 0 => rfl
  | n + 1 => by rw [repZ, List.replicate_succ, List.flatMap_cons, repZ_flat x n]

/-- A row filled up to a place. -/
def fillTo {α : Type} (f : Nat → α) (z : α) (n k : Nat) : List α := (List.range n).map fun j => if j < k then f j else z

theorem fillTo_length {α : Type} (f : Nat → α) (z : α) (n k : Nat) : (fillTo f z n k).length = n := by simp [fillTo]
theorem fillTo_zero {α : Type} (f : Nat → α) (z : α) (n : Nat) : fillTo f z n 0 = List.replicate n z := by
  apply List.ext_getElem
  · simp [fillTo]
  · intro i h1 h2; simp [fillTo]
theorem fillTo_all {α : Type} (f : Nat → α) (z : α) (n : Nat) : fillTo f z n n = (List.range n).map f := by
  apply List.ext_getElem
  · simp [fillTo]
  · intro i h1 h2
    simp [fillTo] at h1 ⊢
    exact fun h => absurd h1 (by omega)
theorem fillTo_set {α : Type} (f : Nat → α) (z : α) (n k : Nat) (h : k < n) : (fillTo f z n k).set k (f k) = fillTo f z n (k + 1) := by
  apply List.ext_getElem
  · simp [fillTo]
  · intro i h1 h2
    simp only [fillTo, List.getElem_set, List.getElem_map, List.getElem_range]
    by_cases hi : k = i
    · subst hi; simp
    · rw [if_neg hi]
      by_cases h3 : i < k
      · rw [if_pos h3, if_pos (by omega)]
      · rw [if_neg h3, if_neg (by omega)]

section
variable {n : Nat} {F : Frame0} {C : List Nat} {O : Own} {nl : Nat} {V : Vw} {K : Act → World → Prop}

/-- Where a block of one's own stands. -/
theorem k_pin (l : Nat) (hl : Nat.blt l nl = true) (h : ∀ b, KJ K n F C ((nl, .pin l b) :: O) (nl + 1) V) : KJ K n F C O nl V := by
  constructor
  intro E a w hd hf hm
  exact (h (E.ρ l)).out E a w hd (hf.env (fun _ _ => ⟨rfl, rfl⟩) (Nat.le_succ nl)) (hm.addPin l (E.ρ l) rfl (by simpa using hl))

/-- A slot that has a plain pointer into a block of one's own. -/
theorem k_unptr (t p l b off : Nat) (ht : opv F [] (.tmp t) = some (.a (.v (.pointer (some ⟨b, off, none⟩))))) (hp : lk O p = some (.pin l b)) (hc : (Nat.blt t n && !(memN t C)) = true)
    (h : KJ K n ((t, ⟨[], true, .a (.ptr l off)⟩) :: F) C O nl V) : KJ K n F C O nl V := by
  constructor
  intro E a w hd hf hm
  simp only [Bool.and_eq_true, blt_iff, Bool.not_eq_true'] at hc
  obtain ⟨h1, h2⟩ := hm.pin _ _ _ hp
  refine h.out E a w hd ?_ hm
  obtain ⟨h3, _⟩ := opv_sound hf (p := []) rfl ht
  have hlt : t < a.tmps.size := by rw [hf.size]; exact hc.1
  have hp := hf.put (d := t) (p := []) (g := true) (s := .a (.ptr l off)) hc.1 hc.2 rfl (fun q hq => by cases hq) (fun _ => by simp [SV.ok, A.ok, blt_iff, h2])
  simp only [if_true] at hp
  have hv : (SV.a (A.ptr l off)).den E = a.tmps.getD t undef := by
    have : a.eval (.tmp t) = a.tmps.getD t undef := rfl
    rw [← this, h3, SV.den, A.den, SV.den, A.den, h1]
  have hsame : (a.put (some t) ((SV.a (A.ptr l off)).den E)).tmps = a.tmps := by
    have hv2 : a.tmps[t]? = some (a.tmps.getD t undef) := by simp [hlt]
    rw [hv]
    simp only [Act.put]
    apply Array.ext_getElem?
    intro i
    rw [Array.getElem?_setIfInBounds]
    by_cases hi : t = i
    · subst hi; rw [if_pos rfl, if_pos hlt, hv2]
    · simp [hi]
  rw [hsame] at hp
  exact hp
end
end Go.Eng
