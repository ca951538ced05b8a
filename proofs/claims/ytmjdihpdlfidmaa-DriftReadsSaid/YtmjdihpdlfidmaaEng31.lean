/-
  Maps from numbers to truth, seen as memory that is told anew at each write: a set of numbers.
-/
import Derived.Test.YtmjdihpdlfidmaaEng30
set_option linter.unusedSimpArgs false
set_option linter.unusedVariables false
namespace Go.Eng
open Go Go.RowKit

def mapEs : List Int → Nat → List MapEntry
  | [], _ => []
  | k :: r, n => ⟨.int .i64 k, .bool true, n⟩ :: mapEs r (n + 1)

def mapOb (ks : List Int) : Obj := .map (mapEs ks 0).toArray ks.length

section
variable {P : Program} {tt : List (Nat × TI)} {ops : Array Oper} {Q : Exit → Act → World → Prop} {o : Oper} {rest : List Oper}
  {n : Nat} {F : Frame0} {C : List Nat} {O : Own} {nl : Nat} {V : Vw} {K : Act → World → Prop}

def evalLk (F : Frame0) (p : List (Nat × Bool)) : Op → Option (Nat × Nat × Int)
  | .lookup t x y false => match opv F p x, opv F p y with
    | some (.a (.v (.map (some b)))), some (.a (.v (.int .i64 k))) => some (t, b, k)
    | _, _ => none
  | _ => none

def evalMkMap : Op → Option Nat
  | .makeMap t none => some t
  | _ => none

def evalMu (F : Frame0) (p : List (Nat × Bool)) : Op → Option (Nat × Nat × Int)
  | .mapUpdate t x y z => match opv F p x, opv F p y, opv F p z with
    | some (.a (.v (.map (some b)))), some (.a (.v (.int .i64 k))), some (.a (.v (.bool true))) => some (t, b, k)
    | _, _, _ => none
  | _ => none

end
section
variable {P : Program} {ops : Array Oper} {Q : Exit → Act → World → Prop} {n : Nat} {F : Frame0} {C : List Nat} {O : Own} {nl : Nat} {V : Vw} {sp : List Nat} {O0 : Own} {nl0 : Nat} {V0 : Vw} {fuel : Nat} {listed : List Bool}

theorem h_three (i j k : Nat) (hr : Region.ready .any ops listed.toArray = [i, j, k]) (h1 : HI P ops Q sp O0 nl0 V0 fuel listed n F C O nl V i) (h2 : HI P ops Q sp O0 nl0 V0 fuel listed n F C O nl V j) (h3 : HI P ops Q sp O0 nl0 V0 fuel listed n F C O nl V k) : HJ P ops Q sp O0 nl0 V0 (fuel + 1) listed n F C O nl V :=
  h_ready [i, j, k] hr rfl (fun q hq => by
    simp only [List.mem_cons, List.not_mem_nil, or_false] at hq
    rcases hq with rfl | rfl | rfl
    · exact h1
    · exact h2
    · exact h3)

end
end Go.Eng
