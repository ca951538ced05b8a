/-
  Structs compared; where a value is yielded whatever is known.
-/
import Derived.Test.YtipmgnhbcaniiaaEng17
import Derived.Laws.StructEq
set_option linter.unusedSimpArgs false
set_option linter.unusedVariables false
namespace Go.Eng
open Go Go.RowKit

section
variable {P : Program} {tt : List (Nat × TI)} {o : Oper} {n : Nat} {F : Frame0} {C : List Nat} {O : Own} {nl : Nat} {V : Vw}

def evalSq (F : Frame0) (p : List (Nat × Bool)) : Op → Option (BinOp × Nat × SV × SV × Operand × Operand)
  | .binOp op t x y _ => match opv F p x, opv F p y with
    | some a, some b => some (op, t, a, b, x, y)
    | _, _ => none
  | _ => none

end
end Go.Eng
