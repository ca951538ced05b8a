/-
 Function values that have arguments already: methods of values.
-/
import Derived.Test.YtlafboeohojcbaaGreatEng37
set_option linter.unusedSimpArgs false
set_option linter.unusedVariables false
namespace Go.Eng
open Go Go.RowKit
def CallsB (P : Program) (fv : Value) (args : List Value) (w : World) (R : Ending → World → Prop) : Prop :=
 ∃ f first caps, fv = .func (.func f) first caps ∧ FnOk P f ∧ Calls P f (first.toList ++ args ++ caps.toList).toArray w R
theorem CallsFn.b {P : Program} {fv : Value} {args : List Value} {w : World} {R : Ending → World → Prop} (h : CallsFn P fv args w R) : CallsB P fv args w R :=
 let ⟨f, caps, h1, h2, h3⟩ := h
 ⟨f, #[], caps, h1, h2, h3⟩
section
variable {P : Program} {tt : List (Nat × TI)} {ops : Array Oper} {Q : Exit → Act → World → Prop} {o : Oper} {rest : List Oper}
 {n : Nat} {F : Frame0} {C : List Nat} {O : Own} {nl : Nat} {V : Vw} {K : Act → World → Prop}
def plainSV : SV → Option Value
 | .a (.v x) => some x
 | .agg cs => (plainL cs).map fun l => .agg l.toArray
 | _ => none
def evalMb (F : Frame0) (p : List (Nat × Bool)) : Op → Option (Nat × Value)
 | .makeFunc (.func f) first caps => match first.toList, caps.toList with
  | [x], [] => match opv F p x with
   | some s => (plainSV s).map fun v => (f, v)
   | none => none
  | _, _ => none
 | _ => none
end
end Go.Eng
