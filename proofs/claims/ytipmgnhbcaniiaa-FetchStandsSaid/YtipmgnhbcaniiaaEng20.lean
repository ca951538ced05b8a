/-
  A row that a call has made, as one that nobody writes.
-/
import Derived.Test.YtipmgnhbcaniiaaEng19
set_option linter.unusedSimpArgs false
set_option linter.unusedVariables false
namespace Go.Eng
open Go Go.RowKit

theorem ownsRow_vext {w w' : World} {V : Vw} {e sz m : Nat} {v : Value} {xs : List Value} (hV : V.le (vw w)) (hb : Below w.heap.size w w') (hr : w'.ownsRow w.heap.size e sz v m xs) :
    ∃ V', Vext w.heap.size V V' w' ∧ IsSl V' v sz m xs := by
  refine ⟨⟨fun k => if v.ownBlock = some k then w'.heap[k]? else V.get k, V.os, V.tape, V.output⟩, ⟨⟨fun k o hk => ?_, rfl, rfl, rfl⟩, fun k o hk => ?_⟩, ?_⟩
  · have hlt : k < w.heap.size := (Array.getElem?_eq_some_iff.1 (hV.get k o hk)).1
    show (if _ then _ else _) = _
    rw [if_neg]
    · exact hk
    · intro h
      have := (hr.lt k h).1
      omega
  · change (if _ then _ else _) = _ at hk
    by_cases h : v.ownBlock = some k
    · rw [if_pos h] at hk
      exact ⟨hk, .inr (hr.lt k h).1⟩
    · rw [if_neg h] at hk
      have h1 := hV.get k o hk
      have hlt : k < w.heap.size := (Array.getElem?_eq_some_iff.1 h1).1
      exact ⟨(hb.block k hlt).trans h1, .inl hk⟩
  · exact ownsRow_sl (ownsRow_mono hr) (fun k hk => by show (if _ then _ else _) = _; rw [if_pos hk])

theorem Vext.same {w w' : World} {V : Vw} (hV : V.le (vw w)) (hb : Below w.heap.size w w') : Vext w.heap.size V V w' :=
  ⟨Vw.le.refl _, fun k o hk => by
    have h1 := hV.get k o hk
    exact ⟨(hb.block k (Array.getElem?_eq_some_iff.1 h1).1).trans h1, .inl hk⟩⟩
end Go.Eng
