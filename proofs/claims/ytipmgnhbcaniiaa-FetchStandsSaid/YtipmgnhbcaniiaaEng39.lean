/-
  Function values walked in place; ranges over functions whose loop variable has a block of its own in each round.
-/
import Derived.Test.YtipmgnhbcaniiaaEng38
import Derived.Test.YtipmgnhbcaniiaaEng33
import Derived.Scope
set_option linter.unusedSimpArgs false
set_option linter.unusedVariables false
set_option linter.unusedSectionVars false
namespace Go.Eng
open Go Go.RowKit

section
variable {P : Program} {tt : List (Nat × TI)} {ops : Array Oper} {Q : Exit → Act → World → Prop} {o : Oper} {rest : List Oper} {n : Nat} {F : Frame0} {C : List Nat} {O : Go.Eng.Own} {nl : Nat} {V : Vw}

end

section
variable {P : Program} {m : Nat} {Q : PostD} {n : Nat} {F : Frame0} {C : List Nat} {O : Go.Eng.Own} {nl : Nat} {V : Vw}

/-- The end of a round: off the body's end, or by the jump jx; what the view had is there. -/
def RC {α σ τ : Type} (nl : Nat) (Vf : Vw) (sz : Nat) (Ox : σ → Go.Eng.Own) (Inv : List α → σ → Prop) (Oy : τ → Go.Eng.Own) (InvX : List α → τ → Prop) (jx : Code) (pre : List α) : PostD := fun _ e _ w =>
  match e with
  | .normal => ∃ s E, Inv pre s ∧ Mem E ((nl, .size sz) :: Ox s) (nl + 1) Vf w
  | .ret => jx = .ret ∧ ∃ y E, InvX pre y ∧ Mem E ((nl, .size sz) :: Oy y) (nl + 1) Vf w
  | .exit id => jx = .exit id ∧ ∃ y E, InvX pre y ∧ Mem E ((nl, .size sz) :: Oy y) (nl + 1) Vf w
  | _ => False

/-- An iterator's promise; R: what it has laid itself, which no round writes. -/
def SeqR {α : Type} (m : Nat) (P : Program) (g : Nat) (lb : Array Value) (encs : α → Array Value) (V : Vw) (S Sp : List α → Prop) (N : Nat) (w : World) : Prop :=
  ∀ (l : Nat) (J : (Nat → Prop) → List α → World → Prop) (Jx : List α → World → Prop) (W : World), Below w.heap.size w W →
    (∀ R pre A B row, J R pre A → A.grownBy B row → (∀ r, row = some r → W.heap.size ≤ r ∧ ∃ o : Obj, A.heap[r]? = some o ∧ o.isWalk = true) → J (fun k => R k ∨ (A.heap.size ≤ k ∧ k < B.heap.size)) pre B) →
    (∀ R R' pre A, J R pre A → (∀ k, R' k → R k) → J R' pre A) → AbidesFrom W.heap.size Jx →
    (∀ R pre x W1, J R pre W1 → pre.length < N → YieldAt (Rd none) (m - 1) P l (encs x) W1 fun e W' =>
      (e = .returned (.bool true) ∧ J R (pre ++ [x]) W' ∧ (V.le (vw W1) → V.le (vw W')) ∧ ∀ k o, R k → W1.heap[k]? = some o → W'.heap[k]? = some o) ∨ (e = .returned (.bool false) ∧ Jx (pre ++ [x]) W')) →
    J (fun _ => False) [] W →
    CallsIn (Rd none) m P g (#[.func (.yield l) #[] #[]] ++ lb) W fun e W' => (∃ v, e = .returned v) ∧ ((∃ xs, S xs ∧ ∃ R, J R xs W') ∨ (∃ pre, Sp pre ∧ Jx pre W'))

/-- Behind the assignment to the loop's variable: the body's walk from there, whatever else the view has. -/
def RA (P : Program) (l m : Nat) (body : Code) (V Vf : Vw) (nl sz : Nat) (QB : Vw → Nat → PostD) : PostD := fun ds e a w =>
  ds = [] ∧ e = .normal ∧ ∃ E n F C O nl' V', Frm E n F C nl' a.tmps ∧ Mem E O nl' V' w ∧ lk O nl = some (.size sz) ∧ Vf.le V' ∧
    ∀ Vg k, V.le Vg → KJ (RX P (some l) m [] body (QB Vg k)) n F C ((nl, .size k) :: O) nl' Vg

end
end Go.Eng
