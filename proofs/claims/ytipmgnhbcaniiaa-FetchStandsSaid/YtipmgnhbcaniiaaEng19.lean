/-
  What a call does to memory that was handed in, told in the caller's labels.
-/
import Derived.Test.YtipmgnhbcaniiaaEng18
set_option linter.unusedSimpArgs false
set_option linter.unusedVariables false
namespace Go.Eng
open Go Go.RowKit

theorem setRow_same {w : World} {g : Nat} {cs : Array Value} {t : TypeId} {fr : Nat × Nat} (h : w.heap[g]? = some (.cells cs t fr)) : w.setRow g cs = w := by
  have hh : (w.setRow g cs).heap = w.heap := by
    apply Array.ext_getElem?
    intro k
    by_cases hk : k = g
    · subst hk; rw [setRow_heap w _ _ _ _ _ h, h]
    · rw [setRow_other w _ _ _ hk]
  unfold World.setRow at hh ⊢
  simp only at hh
  rw [hh]

section
variable {n : Nat} {O : Own} {nl : Nat} {V : Vw} {E : Env} {w w' : World}

end
end Go.Eng

namespace Go.Eng
open Go Go.RowKit
section
variable {n : Nat} {F : Frame0} {C : List Nat} {O : Own} {nl : Nat} {V : Vw} {K : Act → World → Prop}

/-- A cell that has a nil slice has a row that is empty. -/
theorem k_nilO (l i e sz : Nat) {cs : List A} {e0 : Nat} (hl : lk O l = some (.lit cs e0)) (hi : cs[i]? = some (.v (.slice none 0 0)))
    (h : KJ K n F C ((l, .lit (cs.set i (.row nl)) e0) :: (nl, .row e sz 0 []) :: O) (nl + 1) V) : KJ K n F C O nl V := by
  constructor
  intro E a w hdf hf hm
  have ag : E.agree nl (E.setκ nl (.slice none 0 0)) := Env.agree_setκ E _
  have hm' := hm.newRow (v := .slice none 0 0) (e := e) (sz := sz) (Below.refl _ _) (World.ownsRow_nil w w.heap.size e sz)
  have hlt := hm.lab _ _ hl
  have hl' : lk ((nl, Cel.row e sz 0 []) :: O) l = some (.lit cs e0) := by rw [lk_other _ _ (by omega)]; exact hl
  have hok : allOk (nl + 1) (cs.set i (.row nl)) = true := by
    rw [allOk_iff]
    intro x hx
    rcases List.mem_or_eq_of_mem_set hx with h | h
    · exact allOk_iff.1 (allOk_mono (Nat.le_succ nl) (hm.labs _ _ _ hl)) x h
    · subst h; simp [A.ok, blt_iff]
  have hs := hm'.set (cs' := cs.set i (.row nl)) hl' hok
  have heq : (cs.set i (.row nl)).map (A.den (E.setκ nl (.slice none 0 0))) = cs.map (A.den (E.setκ nl (.slice none 0 0))) := by
    rw [List.map_set]
    apply List.ext_getElem?
    intro j
    rw [List.getElem?_set]
    by_cases hj : i = j
    · subst hj
      simp only [List.length_map, if_true]
      have hlt := (List.getElem?_eq_some_iff.1 hi).1
      rw [if_pos hlt, List.getElem?_map, hi]
      simp [A.den, Env.setκ]
    · simp [hj]
  have h0 := hm'.lit _ _ _ hl'
  rw [heq, setRow_same h0] at hs
  exact h.out _ a w hdf (hf.env ag (Nat.le_succ nl)) hs

/-- A row of one's own lies in memory that the function's caller does not know. -/
theorem Mem.rowFresh {E : Env} {w w' : World} (hm : Mem E O nl V w') (hle : (vw w).le V) {l e sz m : Nat} {xs : List Value} (hl : lk O l = some (.row e sz m xs)) : w'.ownsRow w.heap.size e sz (E.κ l) m xs := by
  have hr := hm.row _ _ _ _ _ hl
  refine ⟨hr.1, ?_⟩
  rcases hr.2 with h | ⟨g, cap, cur, h1, _, h2⟩
  · exact .inl h
  · refine .inr ⟨g, cap, cur, h1, ?_, h2⟩
    have hoff := hm.off l _ g hl (by simp [blk, h1, Value.ownBlock])
    rcases Nat.lt_or_ge g w.heap.size with hlt | hge
    · have : (vw w).get g = some w.heap[g] := by simp [vw, hlt]
      rw [hle.get _ _ this] at hoff
      cases hoff
    · exact hge
end
end Go.Eng
