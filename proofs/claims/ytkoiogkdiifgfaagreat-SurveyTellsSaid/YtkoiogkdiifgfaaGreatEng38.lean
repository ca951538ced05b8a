/-
 Function values that have arguments already: methods of values.
-/
import Derived.Test.YtkoiogkdiifgfaaGreatEng37
set_option linter.unusedSimpArgs false
set_option linter.unusedVariables false
namespace Go.Eng
open Go Go.RowKit
section
variable{P:Program}{tt:List (Nat×TI)}{ops:Array Oper}{Q:Exit→Act→World→Prop}{o:Oper}{rest:List Oper}
 {n:Nat} {F:z05} {C:List Nat} {O:Own} {nl:Nat} {V:Vw} {K:Act→World→Prop}
end
end Go.Eng
