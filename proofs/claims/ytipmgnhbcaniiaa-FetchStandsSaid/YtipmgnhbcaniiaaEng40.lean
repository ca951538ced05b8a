/-
  Ranges over maps from int: the walk's record lies in the view; the order is whichever.
-/
import Derived.Test.YtipmgnhbcaniiaaEng39
import Derived.Test.YtipmgnhbcaniiaaEng37
import Derived.Maps.RangeRun
import Derived.Lib.BufferMore
set_option linter.unusedSimpArgs false
set_option linter.unusedVariables false
set_option linter.unusedSectionVars false
namespace Go.Eng
open Go Go.RowKit

section
variable {P : Program} {tt : List (Nat × TI)} {o : Oper} {n : Nat} {F : Frame0} {C : List Nat} {O : Go.Eng.Own} {nl : Nat} {V : Vw}

/-- The record of a range over the map b, which had m entries when it began. -/
abbrev itOb (b m : Nat) (seen : Array Nat) (c : Nat) : Obj := .mapIter (some b) m seen c

def evalRg (F : Frame0) (p : List (Nat × Bool)) : Op → Option (Nat × Nat)
  | .range t x => match opv F p x with
    | some (.a (.v (.map (some b)))) => some (t, b)
    | _ => none
  | _ => none

def evalNx (F : Frame0) (p : List (Nat × Bool)) : Op → Option Nat
  | .next x false => match opv F p x with
    | some (.a (.v (.pointer (some ⟨r, 0, none⟩)))) => some r
    | _ => none
  | _ => none

def evalEn (F : Frame0) (p : List (Nat × Bool)) : Op → Option Nat
  | .entry x => match opv F p x with
    | some (.a (.v (.pointer (some ⟨r, 0, none⟩)))) => some r
    | _ => none
  | _ => none

end

section
variable {P : Program} {ops : Array Oper} {ro : Option Nat} {m : Nat} {Q : PostD} {ds : List Deferred} {n : Nat} {F : Frame0} {nl : Nat} {V : Vw}

end

section
variable {P : Program} {tt : List (Nat × TI)} {o : Oper} {n : Nat} {F : Frame0} {C : List Nat} {O : Go.Eng.Own} {nl : Nat} {V : Vw}
end

/-! Maps whose values are slices of eight strings, each in a block of its own. -/

abbrev slV (b : Nat) : Value := .slice (some ⟨b, 0, none⟩) 8 8
abbrev pcOb (ty : Nat) (p : List ByteArray) : Obj := .cells (p.map Value.string).toArray ty (0, 0)

structure MpR (ty : Nat) (V : Vw) (es : List (Int × Value)) (T : Int → Option (List ByteArray)) : Prop where
  none_ : ∀ n, T n = none → mvGet es n = none
  some_ : ∀ n p, T n = some p → ∃ b, mvGet es n = some (slV b) ∧ V.get b = some (pcOb ty p) ∧ p.length = 8

theorem MpR.mono {ty : Nat} {V V' : Vw} {es : List (Int × Value)} {T : Int → Option (List ByteArray)} (h : MpR ty V es T) (hle : V.le V') : MpR ty V' es T :=
  ⟨h.none_, fun n p hp => by obtain ⟨b, h1, h2, h3⟩ := h.some_ n p hp; exact ⟨b, h1, hle.get _ _ h2, h3⟩⟩

/-- A map of pieces that is being made: its blocks are new since V0, no two are one. -/
structure MpF (ty : Nat) (V0 V : Vw) (es : List (Int × Value)) (T : Int → Option (List ByteArray)) : Prop where
  r : MpR ty V es T
  fresh : ∀ n b, mvGet es n = some (slV b) → V0.get b = none
  inj : ∀ n m b, mvGet es n = some (slV b) → mvGet es m = some (slV b) → n = m
  nodup : (es.map (·.1)).Nodup

def no8 : List ByteArray := List.replicate 8 ByteArray.empty

/-- One piece more. -/
def pcS (f : Int → Option (List ByteArray)) (blk k : Int) (t : ByteArray) : Int → Option (List ByteArray) := fun n => if n = blk then some (((f n).getD no8).set k.toNat t) else f n

end Go.Eng
