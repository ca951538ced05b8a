/-
  Ranges over functions. Code in a round's frame, or behind such a range (a mark among the deferred calls): the forms of code in that mode; regions go over from the plain walk.
-/
import Derived.Test.YtipmgnhbcaniiaaEng31
import Derived.RangeFuncFrom
import Derived.RangeFuncCalls
import Derived.OrdersIn
set_option linter.unusedSimpArgs false
set_option linter.unusedVariables false
namespace Go.Eng
open Go Go.RowKit

/-- The widest fence, in a round or not. -/
def Rd (ro : Option Nat) : Fence := { Fence.wide with round := ro }

/-- A post that is told what is deferred. -/
abbrev PostD := List Deferred → Exit → Act → World → Prop

def QH (Q : PostD) : Exit → Act → World → Prop := fun e a w => Q a.defers e { a with defers := [] } w

def RX (P : Program) (ro : Option Nat) (m : Nat) (ds : List Deferred) (c : Code) (Q : PostD) : Act → World → Prop := fun a w => c.wpIn (Rd ro) m P (QH Q) { a with defers := ds } w

def RQ (ds : List Deferred) (Q : PostD) : Exit → Act → World → Prop := fun e a w => Q (a.defers ++ ds) e { a with defers := [] } w

def NoOut (Q : PostD) : Prop := ∀ ds a w, ¬ Q ds .outgrown a w

def noDef : List Oper → Bool
  | [] => true
  | o :: r => (match o.op with | .defer _ => false | _ => true) && noDef r

/-- The same, with more deferred. -/
def Act.more (a : Act) (ds : List Deferred) : Act := { a with defers := a.defers ++ ds }

section
variable {P : Program} {ops : Array Oper} {ro : Option Nat} {m : Nat} {Q0 Q1 : Exit → Act → World → Prop} {ds : List Deferred}

end

section
variable {P : Program} {tt : List (Nat × TI)} {ops : Array Oper} {Q : PostD} {o : Oper} {rest : List Oper} {ro : Option Nat} {m : Nat} {ds : List Deferred}
  {n : Nat} {F : Frame0} {C : List Nat} {O : Own} {nl : Nat} {V : Vw} {K : Act → World → Prop}

/-! A loop in this mode. -/

open Classical in
noncomputable def leastM (p : Nat → Prop) : Nat := if h : ∃ j, p j ∧ ∀ i, p i → j ≤ i then Classical.choose h else 0

/-! Entering and leaving. -/

def postR (m : Nat) (P : Program) (fn : Func) (R : Ending → World → Prop) : PostD := fun ds e a w => bodyPostM (Rd none) m P fn R e { a with defers := ds } w

/-- The block for the rounds' deferred calls. -/
def markD (D : Nat) : List Deferred := [{ target := .collected D, args := #[] }]

end
end Go.Eng
