/-
  Methods of a record of one's own that has three rows: what such a method is handed, and what it leaves, in the caller's labels.
-/
import Derived.Test.YtmjdihpdlfidmaaEng34
import Derived.Lib.AppendZeros
set_option linter.unusedSimpArgs false
set_option linter.unusedVariables false
namespace Go.Eng
open Go Go.RowKit

structure Rw where
  e : Nat
  sz : Nat
  n : Nat
  xs : List Value

abbrev Rw.cel (r : Rw) : Cel := .row r.e r.sz r.n r.xs

abbrev bkO (e0 : Nat) (gs : List Value) (R1 R2 R3 : Rw) : Own := [(0, .lit (.row 1 :: .row 2 :: .row 3 :: gs.map .v) e0), (1, R1.cel), (2, R2.cel), (3, R3.cel)]

def bkE (E : Env) (lo a b c : Nat) : Env := ⟨fun _ => E.ρ lo, fun l => if l = 1 then E.κ a else if l = 2 then E.κ b else E.κ c⟩

def bkV (w : World) (E : Env) (lo a b c : Nat) : Vw :=
  ⟨fun k => if k = E.ρ lo ∨ (E.κ a).ownBlock = some k ∨ (E.κ b).ownBlock = some k ∨ (E.κ c).ownBlock = some k then none else w.heap[k]?, w.os, w.tape, w.output⟩

def bkL (lo a b c l : Nat) : Nat := if l = 0 then lo else if l = 1 then a else if l = 2 then b else c

section
variable {O : Own} {nl : Nat} {V : Vw} {E : Env} {w w' : World}

abbrev bkE' (E E' : Env) (nl : Nat) : Env := ((E.setκ nl (E'.κ 1)).setκ (nl + 1) (E'.κ 2)).setκ (nl + 2) (E'.κ 3)
abbrev bkO' (O : Own) (lo a b c nl e0 : Nat) (gs : List Value) (R1 R2 R3 : Rw) : Own :=
  (lo, .lit (.row nl :: .row (nl + 1) :: .row (nl + 2) :: gs.map .v) e0) :: (nl, R1.cel) :: (nl + 1, R2.cel) :: (nl + 2, R3.cel) :: (a, .gone) :: (b, .gone) :: (c, .gone) :: O

end

section
variable {P : Program} {tt : List (Nat × TI)} {ops : Array Oper} {Q : Exit → Act → World → Prop} {o : Oper} {rest : List Oper}
  {n : Nat} {F : Frame0} {C : List Nat} {O : Own} {nl : Nat} {V : Vw} {K : Act → World → Prop}

/-- What a method of such a record is: what it is handed, what it answers and leaves. -/
def BookSpec (P : Program) (f e0 : Nat) (gs : List Value) (ss : List SV) (R1 R2 R3 : Rw) {σ : Type} (Φ : σ → Prop) (ret : σ → Value) (Q1 Q2 Q3 : σ → Rw) : Prop :=
  ∀ E w V, Mem E (bkO e0 gs R1 R2 R3) 4 V w → Calls P f (ss.map (SV.den E)).toArray w fun ex w' => ∃ x, ex = .returned (ret x) ∧ Φ x ∧ w.heap.size ≤ w'.heap.size ∧ ∃ E', E'.ρ 0 = E.ρ 0 ∧ Mem E' (bkO e0 gs (Q1 x) (Q2 x) (Q3 x)) 4 V w'

end

section
variable {P : Program} {tt : List (Nat × TI)} {ops : Array Oper} {Q : Exit → Act → World → Prop} {o : Oper} {rest : List Oper}
  {n : Nat} {F : Frame0} {C : List Nat} {O : Own} {nl : Nat} {V : Vw} {K : Act → World → Prop} {E : Env} {w w' : World}

theorem Vw.le.none {V V' : Vw} (hle : V.le V') {k : Nat} (h : V'.get k = Option.none) : V.get k = Option.none := by
  cases hv : V.get k with
  | none => rfl
  | some o => rw [hle.get _ _ hv] at h; cases h

end
section
variable {P : Program} {tt : List (Nat × TI)} {ops : Array Oper} {Q : Exit → Act → World → Prop} {o : Oper} {rest : List Oper}
  {n : Nat} {F : Frame0} {C : List Nat} {O : Own} {nl : Nat} {V : Vw} {K : Act → World → Prop} {E : Env} {w w' : World}

/-- What a method leaves: its answer, and the record in the caller's sight. -/
def BkPost (E : Env) (lo e0 : Nat) (gs : List Value) (Ψ : Value → Prop) (Q1 Q2 Q3 : Rw) (V : Vw) (w : World) (ex : Ending) (w' : World) : Prop :=
  ∃ v, ex = .returned v ∧ Ψ v ∧ w.heap.size ≤ w'.heap.size ∧ ∃ E', E'.ρ 0 = E.ρ lo ∧ Mem E' (bkO e0 gs Q1 Q2 Q3) 4 V w'

end
/-! Drawn regions: operations that look at no memory are taken at any time. -/
section
variable {P : Program} {md : Region.Mode} {ops : Array Oper} {Q : Exit → Act → World → Prop} {sp : List Nat} {M : World → Prop}

end

def takeR (ops : Array Oper) (sp : List Nat) (listed : Array Bool) (i : Nat) : Bool :=
  (Region.ready .any ops listed).contains i && Region.free .any ops listed i && Region.noSelect ops && !(memN i sp)

section
variable {P : Program} {ops : Array Oper} {Q : Exit → Act → World → Prop} {sp : List Nat} {O0 : Own} {nl0 : Nat} {V0 : Vw} {fuel : Nat} {listed : List Bool} {o : Oper} {n : Nat} {F : Frame0} {C : List Nat} {O : Own} {nl : Nat} {V : Vw}

end
section
variable {P : Program} {tt : List (Nat × TI)} {ops : Array Oper} {Q : Exit → Act → World → Prop} {o : Oper} {rest : List Oper}
  {n : Nat} {F : Frame0} {C : List Nat} {O : Own} {nl : Nat} {V : Vw} {K : Act → World → Prop} {sp : List Nat} {O0 : Own} {nl0 : Nat} {V0 : Vw} {fuel : Nat} {listed : List Bool}

end
section
variable {P : Program} {tt : List (Nat × TI)} {ops : Array Oper} {Q : Exit → Act → World → Prop} {o : Oper} {rest : List Oper}
  {n : Nat} {F : Frame0} {C : List Nat} {O : Own} {nl : Nat} {V : Vw} {K : Act → World → Prop}

end
section
variable {P : Program} {tt : List (Nat × TI)} {ops : Array Oper} {Q : Exit → Act → World → Prop} {o : Oper} {rest : List Oper}
  {n : Nat} {F : Frame0} {C : List Nat} {O : Own} {nl : Nat} {V : Vw} {K : Act → World → Prop}

/-- A slice written out in place, of what is one's own. -/
def evalBsA (tt : List (Nat × TI)) (F : Frame0) (O : Own) (p : List (Nat × Bool)) : Op → Option (Nat × List A × Nat)
  | .buildSlice t len parts => match lk tt t with
    | some ⟨_, _, _, _, .slice e⟩ => match lk tt e with
      | some ti => bif Nat.ble (len * ti.size) 16777216 && Nat.beq ti.zero.length ti.size then
          (match buildL F O p (elFlds e ti.size len 0) parts.toList ((repZ len ti.zero).map .v) with
            | some cs => some (len, cs, e)
            | none => none) else none
      | none => none
    | _ => none
  | _ => none

end
/-! A record made by a call, in the caller's labels. -/

abbrev bkN (O : Own) (nl e0 : Nat) (gs : List Value) (R1 R2 R3 : Rw) : Own :=
  (nl, .lit (.row (nl + 1) :: .row (nl + 2) :: .row (nl + 3) :: gs.map .v) e0) :: (nl + 1, R1.cel) :: (nl + 2, R2.cel) :: (nl + 3, R3.cel) :: O

abbrev bkEN (E E' : Env) (nl : Nat) : Env := (((E.setρ nl (E'.ρ 0)).setκ (nl + 1) (E'.κ 1)).setκ (nl + 2) (E'.κ 2)).setκ (nl + 3) (E'.κ 3)

section
variable {P : Program} {n : Nat} {F : Frame0} {C : List Nat} {O : Own} {nl : Nat} {V : Vw} {E E' : Env} {w w' : World} {o : Oper}

/-! All new memory seen. -/

def Vw.grown (V : Vw) (w w' : World) : Vw := ⟨fun k => if k < w.heap.size then V.get k else w'.heap[k]?, V.os, V.tape, V.output⟩

theorem Vw.le.lt (hV : V.le (vw w)) {k : Nat} {ob : Obj} (h : V.get k = some ob) : k < w.heap.size := by
  have := hV.get _ _ h
  exact (Array.getElem?_eq_some_iff.1 this).1

theorem Vext.grown (hV : V.le (vw w)) (hb : Below w.heap.size w w') : Vext w.heap.size V (V.grown w w') w' := by
  refine ⟨⟨fun k ob h => ?_, rfl, rfl, rfl⟩, fun k ob h => ?_⟩
  · simp only [Vw.grown]
    rw [if_pos (hV.lt h)]; exact h
  · simp only [Vw.grown] at h
    split at h
    · rename_i hlt
      exact ⟨by rw [hb.block k hlt]; exact hV.get _ _ h, .inl h⟩
    · exact ⟨h, .inr (by omega)⟩

theorem SlOf.grown {α : Type} {enc : α → List Value} {L : List α} {e sz : Nat} {v : Value} (V : Vw) (h : w'.ownsRow w.heap.size e sz v L.length (L.flatMap enc)) (he : ∀ x, (enc x).length = sz) : SlOf (V.grown w w') enc sz v L :=
  ⟨ownsRow_sl ⟨h.1, h.2.imp id (fun ⟨g, cap, cur, a, _, c⟩ => ⟨g, cap, cur, a, Nat.zero_le _, c⟩)⟩ (fun k hk => by
    simp only [Vw.grown]
    rw [if_neg]
    have := (h.lt k hk).1
    omega), he⟩
end
section
variable {P : Program} {tt : List (Nat × TI)} {n : Nat} {F : Frame0} {C : List Nat} {O : Own} {nl : Nat} {V : Vw} {o : Oper}

/-- An array written out in place. -/
def evalBar (tt : List (Nat × TI)) (F : Frame0) (O : Own) (p : List (Nat × Bool)) : Op → Option (List A)
  | .build t parts => match lk tt t with
    | some ⟨_, _, z, _, .arr m e⟩ => match lk tt e with
      | some ti => buildL F O p (elFlds e ti.size m 0) parts.toList (z.map .v)
      | none => none
    | _ => none
  | _ => none

end
end Go.Eng
