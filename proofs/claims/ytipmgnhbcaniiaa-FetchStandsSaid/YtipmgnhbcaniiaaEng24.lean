/-
  Arrays in memory of one's own; calls that come back with new blocks, or write a receiver; regions whose last store reads what stood.
-/
import Derived.Test.YtipmgnhbcaniiaaEng23
set_option linter.unusedSimpArgs false
set_option linter.unusedVariables false
namespace Go.Eng
open Go Go.RowKit

section
variable {P : Program} {tt : List (Nat × TI)} {o : Oper} {n : Nat} {F : Frame0} {C : List Nat} {O : Own} {nl : Nat} {V : Vw}

/-- What the view has is there without a block of one's own. -/
theorem Mem.leDel {E : Env} {w : World} (hm : Mem E O nl V w) {l e : Nat} {cs : List A} (hl : lk O l = some (.lit cs e)) : V.le ((vw w).del (E.ρ l)) := by
  refine ⟨fun k ob hk => ?_, hm.os, hm.tape, hm.output⟩
  show (if _ then _ else _) = _
  by_cases h : k = E.ρ l
  · have := hm.off l _ (E.ρ l) hl rfl
    rw [← h, hk] at this
    cases this
  · rw [if_neg h]; exact hm.get k ob hk

/-! Arrays. -/

/-- The operands of an indexing of an array in memory: the label, the place, the index, how many, an element's size. -/
def evalAi (tt : List (Nat × TI)) (F : Frame0) (p : List (Nat × Bool)) : Op → Option (Nat × Nat × Int × Nat × Nat)
  | .indexAddr t x i => match opv F p x, opv F p i, lk tt t with
    | some (.a (.ptr l off)), some (.a (.v (.int _ k))), some ⟨_, _, _, _, .arr m e⟩ => match lk tt e with
      | some ti => some (l, off, k, m, ti.size)
      | none => none
    | _, _, _ => none
  | _ => none

/-- A load of one cell of memory of one's own. -/
def evalAl (tt : List (Nat × TI)) (F : Frame0) (p : List (Nat × Bool)) : Op → Option (Nat × Nat)
  | .load t x => match opv F p x, lk tt t with
    | some (.a (.ptr l off)), some ti => bif Nat.beq ti.size 1 && !ti.agg then some (l, off) else none
    | _, _ => none
  | _ => none

/-- A store of one cell into memory of one's own. -/
def evalAs (tt : List (Nat × TI)) (F : Frame0) (p : List (Nat × Bool)) : Op → Option (Nat × Nat × Value)
  | .store t y x => match opv F p y, opv F p x, lk tt t with
    | some (.a (.ptr l off)), some (.a (.v v)), some ti => bif Nat.beq ti.size 1 && !ti.agg then some (l, off, v) else none
    | _, _, _ => none
  | _ => none

/-- A region whose operations 'sp' write what others read, behind them all. -/
theorem c_heldS {Q : Exit → Act → World → Prop} {id : Nat} {l : List Oper} {O0 : Own} (sp : List Nat) (hmix : P.follows .mixedOrders = true)
    (ho : restO O [] [] = some O0) (hO : SubO O O0) (hok : okCels nl O0 = true)
    (h : TJ P l.toArray Q sp O0 l.length (List.replicate l.length false) n F C O nl V) : KJ ((Code.region id l.toArray true).wp P Q) n F C O nl V :=
  c_held sp O0 hmix hO hok h
end
end Go.Eng
