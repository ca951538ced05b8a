/-
  A method whose receiver's block is handed in.
-/
import Derived.Test.YtipmgnhbcaniiaaEng16
set_option linter.unusedSimpArgs false
set_option linter.unusedVariables false
namespace Go.Eng
open Go Go.RowKit

theorem den_plain (E : Env) : ∀ l : List Value, (l.map A.v).map (A.den E) = l ∧ ∀ nl, allOk nl (l.map A.v) = true
  | [] => ⟨rfl, fun _ => rfl⟩
  | x :: r => by
    have := den_plain E r
    exact ⟨by simp [A.den, this.1], fun nl => by simp [allOk, A.ok, this.2]⟩

abbrev E1 (b : Nat) : Env := E0.setρ 0 b
abbrev O1 (w : World) (b e : Nat) (vs : List Value) : Own := [(2, .size w.heap.size), (1, .pin 0 b), (0, .lit (vs.map .v) e)]

theorem mem1 {w : World} {b e : Nat} {vs : List Value} (hb : w.heap[b]? = some (.cells vs.toArray e (0, 0))) : Mem (E1 b) (O1 w b e vs) 3 ((vw w).del b) w :=
  (((mem0 E0 0 w).addLit (b := b) (e := e) (cs := vs.map .v) (by rw [(den_plain _ _).1]; exact hb) ((den_plain E0 _).2 _)).addPin 0 b (by simp [Env.setρ]) (by omega)).addSize

section
variable {P : Program} {n : Nat} {O : Own} {nl : Nat} {V : Vw} {E : Env} {w : World}

theorem back1 {w' : World} {b e : Nat} {cs : List A} (hm : Mem E O nl V w') (hle : ((vw w).del b).le V) (h2 : lk O 2 = some (.size w.heap.size)) (h1 : lk O 1 = some (.pin 0 b)) (h0 : lk O 0 = some (.lit cs e)) :
    Touch (· = b) w w' ∧ w'.heap[b]? = some (.cells (cs.map (A.den E)).toArray e (0, 0)) := by
  refine ⟨hm.touch hle (fun k o hk hS => by simp only [Vw.del, vw]; rw [if_neg hS]; exact hk) ⟨rfl, rfl, rfl⟩ (hm.big _ _ h2), ?_⟩
  rw [← (hm.pin _ _ _ h1).1]
  exact hm.lit _ _ _ h0

theorem below1 {w' : World} {b e : Nat} {vs : List Value} (hb : w.heap[b]? = some (.cells vs.toArray e (0, 0))) (hm : Mem E O nl V w') (hle : ((vw w).del b).le V) (h2 : lk O 2 = some (.size w.heap.size)) (h1 : lk O 1 = some (.pin 0 b)) (h0 : lk O 0 = some (.lit (vs.map .v) e)) :
    Below w.heap.size w w' := by
  obtain ⟨ht, hv⟩ := back1 hm hle h2 h1 h0
  rw [(den_plain _ _).1] at hv
  refine ht.below (fun k _ hk => ?_)
  rw [show k = b from hk, hv, hb]

/-- Entering a method: the receiver is label 0. -/
theorem enter1 {f : Nat} {fn : Func} {c : Code} {R : Ending → World → Prop} {b e : Nat} {vs : List Value} (ss : List SV) (hb : w.heap[b]? = some (.cells vs.toArray e (0, 0))) (hfn : P.funcs[f]? = some fn) (hc : fn.body = some c) (hn : fn.ntmps = n)
    (hok : allOk' 3 ss = true) (hle : Nat.ble ss.length n = true)
    (h : KJ (c.wp P (bodyPost P fn R)) n (argF ss 0) [] (O1 w b e vs) 3 ((vw w).del b)) : Calls P f (ss.map (SV.den (E1 b))).toArray w R :=
  enter ss hfn hc hn (mem1 hb) hok hle h

end
end Go.Eng
