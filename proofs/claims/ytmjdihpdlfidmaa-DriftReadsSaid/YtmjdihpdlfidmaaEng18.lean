/-
  Structs compared; where a value is yielded whatever is known.
-/
import Derived.Test.YtmjdihpdlfidmaaEng17
import Derived.Laws.StructEq
set_option linter.unusedSimpArgs false
set_option linter.unusedVariables false
namespace Go.Eng
open Go Go.RowKit

section
variable {P : Program} {tt : List (Nat × TI)} {o : Oper} {n : Nat} {F : Frame0} {C : List Nat} {O : Own} {nl : Nat} {V : Vw}

def evalSq (F : Frame0) (p : List (Nat × Bool)) : Op → Option (BinOp × Nat × SV × SV × Operand × Operand)
  | .binOp op t x y _ => match opv F p x, opv F p y with
    | some a, some b => some (op, t, a, b, x, y)
    | _, _ => none
  | _ => none

/-- A comparison whose result is known by a law of its type. -/
theorem y_seq {p : List (Nat × Bool)} {g : Bool} {op : BinOp} {t : Nat} {sx sy : SV} {ox oy : Operand} (v : Value) (hv : evalSq F p o.op = some (op, t, sx, sy, ox, oy))
    (hq : ∀ E w, (do eqGuard op t ox oy (sx.den E) (sy.den E); binOp op t (sx.den E) (sy.den E) : Sem Value).run P w = .ok v w) : Yld P o n F C O nl V p g (.a (.v v)) := by
  intro hgt E a w hf hgv hm
  refine ⟨?_, rfl⟩
  unfold Yv execOp
  cases hop : o.op with
  | binOp op' t' x y z =>
    simp only [hop, evalSq] at hv
    split at hv
    · rename_i a' b' hx hy
      simp only [Option.some.injEq, Prod.mk.injEq] at hv
      obtain ⟨rfl, rfl, rfl, rfl, rfl, rfl⟩ := hv
      obtain ⟨h1, _⟩ := opv_sound hf hgv hx
      obtain ⟨h2, _⟩ := opv_sound hf hgv hy
      have := hq E w
      simp only [h1, h2]
      rw [Sem.run_bind, this]
      simp [SV.den, A.den]
    · cases hv
  | _ => simp [hop, evalSq] at hv
end
end Go.Eng
