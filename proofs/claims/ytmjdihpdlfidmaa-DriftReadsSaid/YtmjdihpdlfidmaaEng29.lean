/-
  A slice that is read, cut off at its length, and what is appended to it; a slice compared with nil.
-/
import Derived.Test.YtmjdihpdlfidmaaEng28
set_option linter.unusedSimpArgs false
set_option linter.unusedVariables false
namespace Go.Eng
open Go Go.RowKit

section
variable {P : Program} {tt : List (Nat × TI)} {ops : Array Oper} {Q : Exit → Act → World → Prop} {o : Oper} {rest : List Oper}
  {n : Nat} {F : Frame0} {C : List Nat} {O : Own} {nl : Nat} {V : Vw} {K : Act → World → Prop}

/-- A piece from the front with a bound of its capacity. -/
def evalSl3 (tt : List (Nat × TI)) (F : Frame0) (p : List (Nat × Bool)) : Op → Option (Value × Int × Int × Nat)
  | .slice t x none (some hi) (some mx) => match opv F p x, opv F p hi, opv F p mx, lk tt t with
    | some (.a (.v v)), some (.a (.v (.int _ h))), some (.a (.v (.int _ m))), some ⟨_, _, _, _, .slice e⟩ => match lk tt e with
      | some ti => some (v, h, m, ti.size)
      | none => none
    | _, _, _, _ => none
  | _ => none

/-- What is appended to a slice that is read: the slice, what is appended, the elements' type, size and bytes. -/
def evalAppV (tt : List (Nat × TI)) (F : Frame0) (p : List (Nat × Bool)) : Op → Option (Value × SV × Nat × Nat × Nat)
  | .call ⟨.builtin .append, args, ts⟩ => match args.toList, ts.toList with
    | [s, x], [t, t2] => match opv F p s, opv F p x, lk tt t, lk tt t2 with
      | some (.a (.v v)), some xs, some ⟨_, _, _, _, .slice e⟩, some t2i => match lk tt e with
        | some ti => bif sliceOrStr t2i.kind && Nat.blt 0 ti.bytes && Nat.beq ti.zero.length ti.size then some (v, xs, e, ti.size, ti.bytes) else none
        | _ => none
      | _, _, _, _ => none
    | _, _ => none
  | _ => none

end
end Go.Eng
