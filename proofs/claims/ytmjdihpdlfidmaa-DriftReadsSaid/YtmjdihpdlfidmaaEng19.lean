/-
  What a call does to memory that was handed in, told in the caller's labels.
-/
import Derived.Test.YtmjdihpdlfidmaaEng18
set_option linter.unusedSimpArgs false
set_option linter.unusedVariables false
namespace Go.Eng
open Go Go.RowKit

theorem setRow_same {w : World} {g : Nat} {cs : Array Value} {t : TypeId} {fr : Nat × Nat} (h : w.heap[g]? = some (.cells cs t fr)) : w.setRow g cs = w := by
  have hh : (w.setRow g cs).heap = w.heap := by
    apply Array.ext_getElem?
    intro k
    by_cases hk : k = g
    · subst hk; rw [setRow_heap w _ _ _ _ _ h, h]
    · rw [setRow_other w _ _ _ hk]
  unfold World.setRow at hh ⊢
  simp only at hh
  rw [hh]

section
variable {n : Nat} {O : Own} {nl : Nat} {V : Vw} {E : Env} {w w' : World}

/-- A row of one's own that a call has made grow, and the block where it stands. -/
theorem Mem.regrow (hm : Mem E O nl V w) {lo r e0 e sz m n' : Nat} {cs cs' : List A} {xs xs' : List Value} {v' : Value} (hlo : lk O lo = some (.lit cs e0)) (hr : lk O r = some (.row e sz n' xs))
    (ht : Touch (fun k => k = E.ρ lo ∨ (E.κ r).ownBlock = some k) w w') (hok : allOk (nl + 1) cs' = true) (hv : w'.heap[E.ρ lo]? = some (.cells (cs'.map (A.den (E.setκ nl v'))).toArray e0 (0, 0)))
    (hown : w'.ownsRow 0 e sz v' m xs') (hbk : v'.ownBlock = (E.κ r).ownBlock ∨ ∀ k, v'.ownBlock = some k → w.heap.size ≤ k) :
    Mem (E.setκ nl v') ((lo, .lit cs' e0) :: (nl, .row e sz m xs') :: (r, .gone) :: O) (nl + 1) V w' := by
  have h0 := hm.lit _ _ _ hlo
  have hlt0 : E.ρ lo < w.heap.size := (Array.getElem?_eq_some_iff.1 h0).1
  have hne : lo ≠ r := fun h => by rw [h, hr] at hlo; cases hlo
  have hsep : (E.κ r).ownBlock ≠ some (E.ρ lo) := fun h => hne (hm.sep lo r _ _ (E.ρ lo) hlo hr rfl (by simpa [blk] using h))
  have hvne : v'.ownBlock ≠ some (E.ρ lo) := fun h => by
    rcases hbk with hb | hb
    · exact hsep (hb ▸ h)
    · have := hb _ h; omega
  have hlo_lt := hm.lab _ _ hlo
  have hr_lt := hm.lab _ _ hr
  -- the world without the block's change
  have hrowb : ∀ b0, (w'.setRow (E.ρ lo) (cs.map (A.den E)).toArray).ownsRow b0 e sz v' m xs' ↔ w'.ownsRow b0 e sz v' m xs' := by
    intro b0
    have hb : ∀ k, v'.ownBlock = some k → (w'.setRow (E.ρ lo) (cs.map (A.den E)).toArray).heap[k]? = w'.heap[k]? := fun k hk => setRow_other w' _ _ _ (fun h => hvne (h ▸ hk))
    constructor
    · rintro ⟨h1, h2⟩
      refine ⟨h1, ?_⟩
      rcases h2 with h2 | ⟨g, cap, cur, h3, h4, h5, h6⟩
      · exact .inl h2
      · exact .inr ⟨g, cap, cur, h3, h4, by rw [← hb g (by simp [h3, Value.ownBlock])]; exact h5, h6⟩
    · rintro ⟨h1, h2⟩
      refine ⟨h1, ?_⟩
      rcases h2 with h2 | ⟨g, cap, cur, h3, h4, h5, h6⟩
      · exact .inl h2
      · exact .inr ⟨g, cap, cur, h3, h4, by rw [hb g (by simp [h3, Value.ownBlock])]; exact h5, h6⟩
  have hgb : ∀ k, k < w.heap.size → some k ≠ (E.κ r).ownBlock → (w'.setRow (E.ρ lo) (cs.map (A.den E)).toArray).heap[k]? = w.heap[k]? := by
    intro k hk hkr
    by_cases hkl : k = E.ρ lo
    · subst hkl; rw [setRow_heap w' _ _ _ _ _ hv, h0]
    · rw [setRow_other w' _ _ _ hkl]; exact ht.block k hk (fun h => h.elim hkl (fun h => hkr h.symm))
  have hag : E.agree nl (E.setκ nl v') := Env.agree_setκ E v'
  have hmap : cs.map (A.den E) = cs.map (A.den (E.setκ nl v')) := (A.map_agree hag (hm.labs _ _ _ hlo)).symm
  have hm1 : Mem (E.setκ nl v') ((nl, .row e sz m xs') :: (r, .gone) :: O) (nl + 1) V (w'.setRow (E.ρ lo) (cs.map (A.den E)).toArray) := by
    rcases hbk with hb | hb
    · exact hm.grow hr ((hrowb 0).2 hown) ⟨ht.os, ht.tape, ht.output, by simpa using ht.size, hgb⟩ (.inl hb)
    · exact hm.growF hr ((hrowb 0).2 hown) ⟨ht.os, ht.tape, ht.output, by simpa using ht.size, hgb⟩ hb
  have hl1 : lk ((nl, Cel.row e sz m xs') :: (r, .gone) :: O) lo = some (.lit cs e0) := by
    rw [lk_other _ _ (by omega), lk_other _ _ (Ne.symm hne)]
    exact hlo
  have := hm1.set (cs' := cs') hl1 hok
  have e1 : (E.setκ nl v').ρ lo = E.ρ lo := rfl
  rw [e1, setRow_setRow, setRow_same hv] at this
  exact this

end
end Go.Eng

namespace Go.Eng
open Go Go.RowKit
section
variable {n : Nat} {F : Frame0} {C : List Nat} {O : Own} {nl : Nat} {V : Vw} {K : Act → World → Prop}

/-- A cell that has a nil slice has a row that is empty. -/
theorem k_nilO (l i e sz : Nat) {cs : List A} {e0 : Nat} (hl : lk O l = some (.lit cs e0)) (hi : cs[i]? = some (.v (.slice none 0 0)))
    (h : KJ K n F C ((l, .lit (cs.set i (.row nl)) e0) :: (nl, .row e sz 0 []) :: O) (nl + 1) V) : KJ K n F C O nl V := by
  constructor
  intro E a w hdf hf hm
  have ag : E.agree nl (E.setκ nl (.slice none 0 0)) := Env.agree_setκ E _
  have hm' := hm.newRow (v := .slice none 0 0) (e := e) (sz := sz) (Below.refl _ _) (World.ownsRow_nil w w.heap.size e sz)
  have hlt := hm.lab _ _ hl
  have hl' : lk ((nl, Cel.row e sz 0 []) :: O) l = some (.lit cs e0) := by rw [lk_other _ _ (by omega)]; exact hl
  have hok : allOk (nl + 1) (cs.set i (.row nl)) = true := by
    rw [allOk_iff]
    intro x hx
    rcases List.mem_or_eq_of_mem_set hx with h | h
    · exact allOk_iff.1 (allOk_mono (Nat.le_succ nl) (hm.labs _ _ _ hl)) x h
    · subst h; simp [A.ok, blt_iff]
  have hs := hm'.set (cs' := cs.set i (.row nl)) hl' hok
  have heq : (cs.set i (.row nl)).map (A.den (E.setκ nl (.slice none 0 0))) = cs.map (A.den (E.setκ nl (.slice none 0 0))) := by
    rw [List.map_set]
    apply List.ext_getElem?
    intro j
    rw [List.getElem?_set]
    by_cases hj : i = j
    · subst hj
      simp only [List.length_map, if_true]
      have hlt := (List.getElem?_eq_some_iff.1 hi).1
      rw [if_pos hlt, List.getElem?_map, hi]
      simp [A.den, Env.setκ]
    · simp [hj]
  have h0 := hm'.lit _ _ _ hl'
  rw [heq, setRow_same h0] at hs
  exact h.out _ a w hdf (hf.env ag (Nat.le_succ nl)) hs

/-- A row of one's own lies in memory that the function's caller does not know. -/
theorem Mem.rowFresh {E : Env} {w w' : World} (hm : Mem E O nl V w') (hle : (vw w).le V) {l e sz m : Nat} {xs : List Value} (hl : lk O l = some (.row e sz m xs)) : w'.ownsRow w.heap.size e sz (E.κ l) m xs := by
  have hr := hm.row _ _ _ _ _ hl
  refine ⟨hr.1, ?_⟩
  rcases hr.2 with h | ⟨g, cap, cur, h1, _, h2⟩
  · exact .inl h
  · refine .inr ⟨g, cap, cur, h1, ?_, h2⟩
    have hoff := hm.off l _ g hl (by simp [blk, h1, Value.ownBlock])
    rcases Nat.lt_or_ge g w.heap.size with hlt | hge
    · have : (vw w).get g = some w.heap[g] := by simp [vw, hlt]
      rw [hle.get _ _ this] at hoff
      cases hoff
    · exact hge
end
end Go.Eng
