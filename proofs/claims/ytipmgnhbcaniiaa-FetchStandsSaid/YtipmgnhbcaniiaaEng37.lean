/-
  Maps from numbers to values of one cell, seen as memory that is told anew at each write.
-/
import Derived.Test.YtipmgnhbcaniiaaEng36
set_option linter.unusedSimpArgs false
set_option linter.unusedVariables false
namespace Go.Eng
open Go Go.RowKit

def mvEs : List (Int × Value) → Nat → List MapEntry
  | [], _ => []
  | (k, v) :: r, n => ⟨.int .i64 k, v, n⟩ :: mvEs r (n + 1)

def mvOb (es : List (Int × Value)) : Obj := .map (mvEs es 0).toArray es.length

def mvGet : List (Int × Value) → Int → Option Value
  | [], _ => none
  | (a, x) :: r, k => if a = k then some x else mvGet r k

def mvPut : List (Int × Value) → Int → Value → List (Int × Value)
  | [], k, v => [(k, v)]
  | (a, x) :: r, k, v => if a = k then (a, v) :: r else (a, x) :: mvPut r k v

section
variable {P : Program} {tt : List (Nat × TI)} {ops : Array Oper} {Q : Exit → Act → World → Prop} {o : Oper} {rest : List Oper}
  {n : Nat} {F : Frame0} {C : List Nat} {O : Own} {nl : Nat} {V : Vw} {K : Act → World → Prop}

def evalLkV (F : Frame0) (p : List (Nat × Bool)) : Op → Option (Nat × Nat × Int × Bool)
  | .lookup t x y c => match opv F p x, opv F p y with
    | some (.a (.v (.map (some b)))), some (.a (.v (.int .i64 k))) => some (t, b, k, c)
    | _, _ => none
  | _ => none

def evalMuV (F : Frame0) (p : List (Nat × Bool)) : Op → Option (Nat × Nat × Int × Value)
  | .mapUpdate t x y z => match opv F p x, opv F p y, opv F p z with
    | some (.a (.v (.map (some b)))), some (.a (.v (.int .i64 k))), some (.a (.v v)) => some (t, b, k, v)
    | _, _, _ => none
  | _ => none

end
end Go.Eng
