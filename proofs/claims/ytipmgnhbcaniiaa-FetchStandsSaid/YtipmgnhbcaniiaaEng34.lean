/-
  Rows of one's own made shorter: pieces put in within their room, cells cleared.
-/
import Derived.Test.YtipmgnhbcaniiaaEng33
set_option linter.unusedSimpArgs false
set_option linter.unusedVariables false
namespace Go.Eng
open Go Go.RowKit

section
variable {P : Program} {tt : List (Nat × TI)} {ops : Array Oper} {Q : Exit → Act → World → Prop} {o : Oper} {rest : List Oper}
  {n : Nat} {F : Frame0} {C : List Nat} {O : Own} {nl : Nat} {V : Vw} {K : Act → World → Prop}

def evalClB (F : Frame0) (p : List (Nat × Bool)) : Op → Option (Nat × SV)
  | .call ⟨.builtin .clear, args, ts⟩ => match args.toList, ts.toList with
    | [x], [t] => (opv F p x).map fun s => (t, s)
    | _, _ => none
  | _ => none

def capTo : Value → Nat → Value
  | .slice a n _, c => .slice a n c
  | v, _ => v

/-- A piece with a bound of its capacity. -/
def evalSl4 (tt : List (Nat × TI)) (F : Frame0) (p : List (Nat × Bool)) : Op → Option (Value × Int × Int × Int × Nat)
  | .slice t x (some lo) (some hi) (some mx) => match opv F p x, opv F p lo, opv F p hi, opv F p mx, lk tt t with
    | some (.a (.v v)), some (.a (.v (.int _ l))), some (.a (.v (.int _ h))), some (.a (.v (.int _ m))), some ⟨_, _, _, _, .slice e⟩ => match lk tt e with
      | some ti => some (v, l, h, m, ti.size)
      | none => none
    | _, _, _, _, _ => none
  | _ => none

end
end Go.Eng
