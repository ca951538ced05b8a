/-
  Ranges over functions. Code in a round's frame, or behind such a range (a mark among the deferred calls): the forms of code in that mode; regions go over from the plain walk.
-/
import Derived.Test.YtmjdihpdlfidmaaEng31
import Derived.RangeFuncFrom
import Derived.RangeFuncCalls
import Derived.OrdersIn
set_option linter.unusedSimpArgs false
set_option linter.unusedVariables false
namespace Go.Eng
open Go Go.RowKit

/-- The widest fence, in a round or not. -/
def Rd (ro : Option Nat) : Fence := { Fence.wide with round := ro }

/-- A post that is told what is deferred. -/
abbrev PostD := List Deferred → Exit → Act → World → Prop

def QH (Q : PostD) : Exit → Act → World → Prop := fun e a w => Q a.defers e { a with defers := [] } w

def RX (P : Program) (ro : Option Nat) (m : Nat) (ds : List Deferred) (c : Code) (Q : PostD) : Act → World → Prop := fun a w => c.wpIn (Rd ro) m P (QH Q) { a with defers := ds } w

def RQ (ds : List Deferred) (Q : PostD) : Exit → Act → World → Prop := fun e a w => Q (a.defers ++ ds) e { a with defers := [] } w

def NoOut (Q : PostD) : Prop := ∀ ds a w, ¬ Q ds .outgrown a w

def noDef : List Oper → Bool
  | [] => true
  | o :: r => (match o.op with | .defer _ => false | _ => true) && noDef r

/-- The same, with more deferred. -/
def Act.more (a : Act) (ds : List Deferred) : Act := { a with defers := a.defers ++ ds }

theorem Act.more_put (a : Act) (ds : List Deferred) (d : Option Tmp) (v : Value) : (Act.more a ds).put d v = Act.more (a.put d v) ds := by cases d <;> rfl
theorem Act.more_eval (a : Act) (ds : List Deferred) : (Act.more a ds).eval = a.eval := by
  funext x
  cases x <;> rfl

section
variable {P : Program} {ops : Array Oper} {ro : Option Nat} {m : Nat} {Q0 Q1 : Exit → Act → World → Prop} {ds : List Deferred}

end

section
variable {P : Program} {tt : List (Nat × TI)} {ops : Array Oper} {Q : PostD} {o : Oper} {rest : List Oper} {ro : Option Nat} {m : Nat} {ds : List Deferred}
  {n : Nat} {F : Frame0} {C : List Nat} {O : Own} {nl : Nat} {V : Vw} {K : Act → World → Prop}

theorem rq_in (e : Exit) (a : Act) (w : World) (h : RQ ds Q e a w) : QH Q e (Act.more a ds) w := h

theorem noOut_rq (hno : NoOut Q) (a : Act) (w : World) : ¬ RQ ds Q .outgrown a w := hno _ _ _

theorem rq {e : Exit} (h : KJ (Q ds e) n F C O nl V) : KJ (RQ ds Q e) n F C O nl V :=
  ⟨fun E a w hd hf hm => by
    have := h.out E a w hd hf hm
    obtain ⟨t, d⟩ := a
    cases hd
    exact this⟩

theorem act_eta {a : Act} (hd : a.defers = []) : ({ a with defers := ds } : Act) = Act.more a ds := by
  obtain ⟨t, d⟩ := a
  cases hd
  rfl

theorem qh_eta {e : Exit} {a : Act} {w : World} (hd : a.defers = []) (h : Q ds e a w) : QH Q e { a with defers := ds } w := by
  obtain ⟨t, d⟩ := a
  cases hd
  exact h

/-! A loop in this mode. -/

open Classical in
noncomputable def leastM (p : Nat → Prop) : Nat := if h : ∃ j, p j ∧ ∀ i, p i → j ≤ i then Classical.choose h else 0

/-! Entering and leaving. -/

def postR (m : Nat) (P : Program) (fn : Func) (R : Ending → World → Prop) : PostD := fun ds e a w => bodyPostM (Rd none) m P fn R e { a with defers := ds } w

theorem results_run {tt : List (Nat × TI)} {E : Env} {a : Act} {w : World} {fn : Func} {ss : List SV} (htt : TTok P tt) (hr : evalRes tt F O fn.results.toList = some ss) (hf : Frm E n F C nl a.tmps) (hm : Mem E O nl V w) :
    (results fn a.tmps).run P w = .ok (retV (ss.map (SV.den E))) w ∧ ∀ s ∈ ss, s.ok nl = true := by
  obtain ⟨h1, h2⟩ := evalRes_sound htt hf hm hr
  refine ⟨?_, h2⟩
  unfold results
  rw [show fn.results = fn.results.toList.toArray by simp]
  have h1' := h1
  unfold resOne at h1'
  simp only [List.mapM_toArray, Sem.run_bind, Sem.run_map]
  erw [h1']
  simp only [Result.andThen_ok, Sem.run_pure]
  congr 1
  generalize ss.map (SV.den E) = l
  match l with
  | [] => rfl
  | [v] => rfl
  | v :: u :: r => simp [retV]

/-- The block for the rounds' deferred calls. -/
def markD (D : Nat) : List Deferred := [{ target := .collected D, args := #[] }]

end
end Go.Eng
