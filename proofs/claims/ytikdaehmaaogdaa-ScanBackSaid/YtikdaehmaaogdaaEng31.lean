/-
  Maps from numbers to truth, seen as memory that is told anew at each write: a set of numbers.
-/
import Derived.Test.YtikdaehmaaogdaaEng30
set_option linter.unusedSimpArgs false
set_option linter.unusedVariables false
namespace Go.Eng
open Go Go.RowKit

theorem Vw.put_le {V V' : Vw} {b : Nat} {ob : Obj} (h : V.le V') (hb : V.get b = none) : V.le (V'.put b ob) :=
  ⟨fun k o hk => by
    show (if _ then _ else _) = _
    rw [if_neg (fun e => by rw [e, hb] at hk; cases hk)]
    exact h.get k o hk, h.os, h.tape, h.output⟩

theorem Vw.put_get (V : Vw) (b : Nat) (ob : Obj) : (V.put b ob).get b = some ob := by show (if _ then _ else _) = _; rw [if_pos rfl]

def mapEs : List Int → Nat → List MapEntry
  | [], _ => []
  | k :: r, n => ⟨.int .i64 k, .bool true, n⟩ :: mapEs r (n + 1)

def mapOb (ks : List Int) : Obj := .map (mapEs ks 0).toArray ks.length

section
variable {P : Program} {tt : List (Nat × TI)} {ops : Array Oper} {Q : Exit → Act → World → Prop} {o : Oper} {rest : List Oper}
  {n : Nat} {F : Frame0} {C : List Nat} {O : Own} {nl : Nat} {V : Vw} {K : Act → World → Prop}

def evalLk (F : Frame0) (p : List (Nat × Bool)) : Op → Option (Nat × Nat × Int)
  | .lookup t x y false => match opv F p x, opv F p y with
    | some (.a (.v (.map (some b)))), some (.a (.v (.int .i64 k))) => some (t, b, k)
    | _, _ => none
  | _ => none

def evalMkMap : Op → Option Nat
  | .makeMap t none => some t
  | _ => none

/-- An empty set in new memory. -/
theorem s_mkMap {p : List (Nat × Bool)} {t : Nat} (hv : evalMkMap o.op = some t) :
    StepTo P o p n F C O nl V (σ := Nat) (fun b => V.get b = none) (fun b => .a (.v (.map (some b)))) (fun _ => O) nl (fun b => V.put b (mapOb [])) := by
  constructor
  intro E a w hf hgv hm K Q hK
  unfold Oper.wp execOp
  cases hop : o.op with
  | makeMap t' r =>
    cases r with
    | some r => simp [hop, evalMkMap] at hv
    | none =>
      have hno : V.get w.heap.size = none := by
        cases hq : V.get w.heap.size with
        | none => rfl
        | some ob =>
          have := (Array.getElem?_eq_some_iff.1 (hm.get _ _ hq)).1
          omega
      have hr : (Instr.makeMap t' none).run P w = .ok (.map (some w.heap.size)) (w.alloc (mapOb [])) := by
        simp [Instr.makeMap, mapOb, mapEs]
      simp only [Option.map_none, Sem.run_bind, hr, Result.andThen_ok, Sem.run_pure]
      exact hK w.heap.size E _ hno (fun _ _ => ⟨rfl, rfl⟩) (hm.ext (alloc_below w _) (hm.vext _)) rfl
  | _ => simp [hop, evalMkMap] at hv

theorem Mem.putV {E : Env} {w : World} (hm : Mem E O nl V w) {b : Nat} {o0 : Obj} (hb : V.get b = some o0) (ob : Obj) : Mem E O nl (V.put b ob) { w with heap := w.heap.setIfInBounds b ob } := by
  have hlt : b < w.heap.size := (Array.getElem?_eq_some_iff.1 (hm.get _ _ hb)).1
  have hoth : ∀ k, k ≠ b → (w.heap.setIfInBounds b ob)[k]? = w.heap[k]? := fun k h => by rw [Array.getElem?_setIfInBounds_ne (Ne.symm h)]
  have hnb : ∀ {l c k}, lk O l = some c → blk E l c = some k → k ≠ b := fun {l c k} hl hk e => by
    have := hm.off l c k hl hk
    rw [e, hb] at this
    cases this
  refine ⟨?_, ?_, hm.sep, ?_, ?_, hm.os, hm.tape, hm.output, hm.lab, hm.labs, hm.pin, ?_, hm.kp⟩
  · intro l cs e hl
    show (w.heap.setIfInBounds b ob)[E.ρ l]? = _
    rw [hoth _ (hnb hl rfl)]
    exact hm.lit l cs e hl
  · intro l e sz m xs hl
    have hr := hm.row l e sz m xs hl
    refine ⟨hr.1, ?_⟩
    rcases hr.2 with h | ⟨g, cap, cur, h1, h2, h3, h4⟩
    · exact .inl h
    · refine .inr ⟨g, cap, cur, h1, h2, ?_, h4⟩
      show (w.heap.setIfInBounds b ob)[g]? = _
      rw [hoth _ (hnb hl (by simp [blk, h1, Value.ownBlock]))]
      exact h3
  · intro k ob' hk
    show (w.heap.setIfInBounds b ob)[k]? = _
    simp only [Vw.put] at hk
    by_cases h : k = b
    · rw [if_pos h] at hk
      subst h
      rw [← hk]
      simp [hlt]
    · rw [if_neg h] at hk
      rw [hoth _ h]
      exact hm.get k ob' hk
  · intro l c k hl hk
    have := hnb hl hk
    show (if _ then _ else _) = _
    rw [if_neg this]
    exact hm.off l c k hl hk
  · intro l k hl
    show k ≤ (w.heap.setIfInBounds b ob).size
    rw [Array.size_setIfInBounds]
    exact hm.big l k hl

def evalMu (F : Frame0) (p : List (Nat × Bool)) : Op → Option (Nat × Nat × Int)
  | .mapUpdate t x y z => match opv F p x, opv F p y, opv F p z with
    | some (.a (.v (.map (some b)))), some (.a (.v (.int .i64 k))), some (.a (.v (.bool true))) => some (t, b, k)
    | _, _, _ => none
  | _ => none

end
section
variable {P : Program} {ops : Array Oper} {Q : Exit → Act → World → Prop} {n : Nat} {F : Frame0} {C : List Nat} {O : Own} {nl : Nat} {V : Vw} {sp : List Nat} {O0 : Own} {nl0 : Nat} {V0 : Vw} {fuel : Nat} {listed : List Bool}

theorem h_three (i j k : Nat) (hr : Region.ready .any ops listed.toArray = [i, j, k]) (h1 : HI P ops Q sp O0 nl0 V0 fuel listed n F C O nl V i) (h2 : HI P ops Q sp O0 nl0 V0 fuel listed n F C O nl V j) (h3 : HI P ops Q sp O0 nl0 V0 fuel listed n F C O nl V k) : HJ P ops Q sp O0 nl0 V0 (fuel + 1) listed n F C O nl V :=
  h_ready [i, j, k] hr rfl (fun q hq => by
    simp only [List.mem_cons, List.not_mem_nil, or_false] at hq
    rcases hq with rfl | rfl | rfl
    · exact h1
    · exact h2
    · exact h3)

end
end Go.Eng
