/-
  Loops whose kept slots and own memory are read off the state; small helpers for templates.
-/
import Derived.Test.YtipmgnhbcaniiaaEng20
set_option linter.unusedSimpArgs false
set_option linter.unusedVariables false
namespace Go.Eng
open Go Go.RowKit

def keepL (F : Frame0) : List Nat → List (Nat × SV) → Option (List (Nat × SV))
  | [], acc => some acc
  | t :: ts, acc => match opv F [] (.tmp t) with
    | some x => keepL F ts ((t, x) :: acc)
    | none => none

/-- What is owned, each label once, without some labels. -/
def restO : Own → List Nat → Own → Option Own
  | [], _, acc => some acc
  | (l, c) :: r, seen, acc => bif memN l seen then restO r seen acc else (match c with
    | .gone => restO r (l :: seen) acc
    | c => restO r (l :: seen) ((l, c) :: acc))

section
variable {P : Program} {Q : Exit → Act → World → Prop} {n : Nat} {F : Frame0} {C : List Nat} {O : Own} {nl : Nat} {V : Vw}

/-- A loop: what does not turn in it is read off the state. -/
theorem c_loopK {c : Code} {σ : Type} (ts ls : List Nat) {K0 : List (Nat × SV)} {O0 : Own} (hk : keepL F ts [] = some K0) (ho : restO O ls [] = some O0)
    (Fx : σ → List (Nat × SV)) (Ox : σ → Own) (I : σ → Prop) (μ : σ → Nat) (x0 : σ)
    (h0 : I x0) (hs : SubF F (Fx x0 ++ K0)) (hO : SubO O (Ox x0 ++ O0)) (hok : (okSlots nl (Fx x0 ++ K0) && okCels nl (Ox x0 ++ O0)) = true)
    (round : ∀ x, I x → KJ (c.wp P (Exit.then (fun a w => ∃ x', (AtX n (fun x => Fx x ++ K0) (fun x => Ox x ++ O0) nl (fun _ => V) x' a w ∧ I x') ∧ μ x' < μ x) Q)) n (mkF (Fx x ++ K0)) [] (Ox x ++ O0) nl V) :
    KJ ((Code.loop c).wp P Q) n F C O nl V :=
  c_loop (fun x => Fx x ++ K0) (fun x => Ox x ++ O0) nl (fun _ => V) I μ x0 h0 hs hO hok (Vw.le.refl _) round

/-- A loop in which the view may grow. -/
theorem c_loopV {c : Code} {σ : Type} (ts ls : List Nat) {K0 : List (Nat × SV)} {O0 : Own} (hk : keepL F ts [] = some K0) (ho : restO O ls [] = some O0)
    (Fx : σ → List (Nat × SV)) (Ox : σ → Own) (Vx : σ → Vw) (I : σ → Prop) (μ : σ → Nat) (x0 : σ)
    (h0 : I x0) (hs : SubF F (Fx x0 ++ K0)) (hO : SubO O (Ox x0 ++ O0)) (hok : (okSlots nl (Fx x0 ++ K0) && okCels nl (Ox x0 ++ O0)) = true) (hV : (Vx x0).le V)
    (round : ∀ x, I x → KJ (c.wp P (Exit.then (fun a w => ∃ x', (AtX n (fun x => Fx x ++ K0) (fun x => Ox x ++ O0) nl Vx x' a w ∧ I x') ∧ μ x' < μ x) Q)) n (mkF (Fx x ++ K0)) [] (Ox x ++ O0) nl (Vx x)) :
    KJ ((Code.loop c).wp P Q) n F C O nl V :=
  c_loop (fun x => Fx x ++ K0) (fun x => Ox x ++ O0) nl Vx I μ x0 h0 hs hO hok hV round

end

theorem SlOf.at {α : Type} {V : Vw} {enc : α → List Value} {sz : Nat} {v : Value} {l : List α} (_ : SlOf V enc sz v l) {k : Nat} (h : k < l.length) : ∃ x, l[k]? = some x :=
  ⟨_, List.getElem?_eq_getElem h⟩

theorem lt_of_at {α : Type} {l : List α} {k : Nat} {x : α} (h : l[k]? = some x) : k < l.length := (List.getElem?_eq_some_iff.1 h).1

end Go.Eng
