/-
  Functions that defer one closure which recovers: their bodies walked with what is deferred beside the state; the closure's body walked behind its recover; leaving.
-/
import Derived.Test.YtipmgnhbcaniiaaEng40
import Derived.Recover
set_option linter.unusedSimpArgs false
set_option linter.unusedVariables false
set_option linter.unusedSectionVars false
namespace Go.Eng
open Go Go.RowKit

section
variable {P : Program} {ops : Array Oper} {Q0 Q1 : Exit → Act → World → Prop} {ds : List Deferred}

end

section
variable {P : Program} {tt : List (Nat × TI)} {ops : Array Oper} {Q : PostD} {o : Oper} {rest : List Oper} {ds : List Deferred}
  {n : Nat} {F : Frame0} {C : List Nat} {O : Go.Eng.Own} {nl : Nat} {V : Vw}

/-- Code with this deferred. -/
def PX (P : Program) (ds : List Deferred) (c : Code) (Q : PostD) : Act → World → Prop := fun a w => c.wp P (QH Q) { a with defers := ds } w

def postP (P : Program) (fn : Func) (R : Ending → World → Prop) : PostD := fun ds e a w => bodyPostD P fn R e { a with defers := ds } w

/-- A recovering closure's body, entered in the caller's labels. -/
def postQ (P : Program) (fn : Func) (R : World → Prop) : Exit → Act → World → Prop
  | .normal, a, w | .ret, a, w => a.defers = [] ∧ (∃ v, (results fn a.tmps).run P w = .ok v w) ∧ R w
  | _, _, _ => False

/-! Leaving. -/

/-! Interface values, panics. -/

/-! Leaving, the closure walked in its caller's labels. -/

def InlK (E : Env) (nl : Nat) (G : Go.Eng.Own → Nat → Vw → Prop) (w' : World) : Prop := ∃ E' O1 nl1 V1, E.agree nl E' ∧ nl ≤ nl1 ∧ Mem E' O1 nl1 V1 w' ∧ G O1 nl1 V1

/-- What is asked of the memory that the closure leaves. -/
def LeaveG (tt : List (Nat × TI)) (F : Frame0) (fn : Func) (R : Ending → World → Prop) (O1 : Go.Eng.Own) (nl1 : Nat) (V1 : Vw) : Prop :=
  ∃ ssr, evalRes tt F O1 fn.results.toList = some ssr ∧ ∀ E w, Mem E O1 nl1 V1 w → R (.returned (retV (ssr.map (SV.den E)))) w

end
end Go.Eng
