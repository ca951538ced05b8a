/-
  Function values that have arguments already: methods of values.
-/
import Derived.Test.YtikdaehmaaogdaaEng37
set_option linter.unusedSimpArgs false
set_option linter.unusedVariables false
namespace Go.Eng
open Go Go.RowKit

/-- What a call of a function value does that may have arguments already. -/
def CallsB (P : Program) (fv : Value) (args : List Value) (w : World) (R : Ending → World → Prop) : Prop :=
  ∃ f first caps, fv = .func (.func f) first caps ∧ FnOk P f ∧ Calls P f (first.toList ++ args ++ caps.toList).toArray w R

theorem CallsFn.b {P : Program} {fv : Value} {args : List Value} {w : World} {R : Ending → World → Prop} (h : CallsFn P fv args w R) : CallsB P fv args w R :=
  let ⟨f, caps, h1, h2, h3⟩ := h
  ⟨f, #[], caps, h1, h2, h3⟩

section
variable {P : Program} {tt : List (Nat × TI)} {ops : Array Oper} {Q : Exit → Act → World → Prop} {o : Oper} {rest : List Oper}
  {n : Nat} {F : Frame0} {C : List Nat} {O : Own} {nl : Nat} {V : Vw} {K : Act → World → Prop}

theorem evalCB_sound {E : Env} {a : Act} {p : List (Nat × Bool)} {fv : Value} {ss : List SV} (hf : Frm E n F C nl a.tmps) (hg : gval F p = true) (h : evalCF F p o.op = some (fv, ss)) (w : World)
    {R : Ending → World → Prop} (hc : CallsB P fv (ss.map (SV.den E)) w R) :
    ∃ f args, (execOp a.eval o).run P w = .ok (.enter f args) w ∧ Calls P f args w R := by
  unfold execOp
  cases hop : o.op with
  | call c =>
    obtain ⟨callee, args, ts⟩ := c
    cases callee with
    | value x =>
      simp only [hop, evalCF] at h
      split at h
      · rename_i fv' ss' hx ha
        simp only [Option.some.injEq, Prod.mk.injEq] at h
        obtain ⟨rfl, rfl⟩ := h
        obtain ⟨h1, _⟩ := evalArgs_sound hf hg ha
        obtain ⟨h3, _⟩ := opv_sound hf hg hx
        obtain ⟨f, first, caps, rfl, ⟨fn, hfn, hnm, hbody⟩, hcalls⟩ := hc
        have hargs : first ++ args.map a.eval ++ caps = (first.toList ++ ss'.map (SV.den E) ++ caps.toList).toArray := by
          apply Array.ext'
          simp only [Array.toList_append, Array.toList_map, h1]
        have hx' : a.eval x = .func (.func f) first caps := h3
        exact ⟨f, _, by simp only [resolve, hx', Deferred.ofValue, Sem.run_bind, Sem.run_pure, Result.andThen_ok, invoke, callFunc, run_program, hfn, hnm, hbody, Bool.false_eq_true, if_false, hargs], hcalls⟩
      · simp at h
    | _ => simp [hop, evalCF] at h
  | _ => simp [hop, evalCF] at h

theorem o_callB {p : List (Nat × Bool)} {g : Bool} {C' : List Nat} {d : Nat} {fv : Value} {ss : List SV} (s : SV)
    (hg : gd ops F C o.guard = some (p, g, C')) (hv : evalCF F p o.op = some (fv, ss)) (hd : o.dst = some d) (hc : (Nat.blt d n && !(memN d C')) = true) (hs : s.ok nl = true)
    (hcall : g = true → ∀ E w, Mem E O nl V w → CallsB P fv (ss.map (SV.den E)) w fun e w' => e = .returned (s.den E) ∧ Below w.heap.size w w')
    (next : KJ (wpList P ops Q rest) n ((d, ⟨p, g, s⟩) :: F) C' O nl V) : KJ (wpList P ops Q (o :: rest)) n F C O nl V := by
  constructor
  intro E a w hdf hf hm
  obtain ⟨h1, h2, h3, h4⟩ := gd_sound hf hg
  simp only [Bool.and_eq_true, blt_iff, Bool.not_eq_true'] at hc
  unfold wpList
  rw [h1]
  cases g with
  | true =>
    simp only [if_true]
    left
    obtain ⟨f, args, hr, hcl⟩ := evalCB_sound h2 h3.symm hv w (hcall rfl E w hm)
    unfold Oper.wp
    rw [hr, Oper.upon_enter]
    refine hcl.mono ?_
    rintro e w' ⟨rfl, hb⟩
    show wpList P ops Q rest (a.put o.dst _) w'
    rw [hd]
    refine next.out E _ w' (by simp [Act.put, hdf]) ?_ (hm.keep hb)
    have := Frm.put (p := p) (g := true) h2 hc.1 hc.2 h3 h4 (fun _ => hs)
    simpa using this
  | false =>
    simp only [Bool.false_eq_true, if_false, hd]
    refine next.out E _ w (by simp [Act.put, hdf]) ?_ hm
    have := Frm.put (p := p) (g := false) (s := s) h2 hc.1 hc.2 h3 h4 (by simp)
    simpa using this

def plainSV : SV → Option Value
  | .a (.v x) => some x
  | .agg cs => (plainL cs).map fun l => .agg l.toArray
  | _ => none

theorem plainSV_den {E : Env} {s : SV} {x : Value} (h : plainSV s = some x) : s.den E = x := by
  cases s with
  | a y => cases y <;> simp [plainSV] at h; subst h; rfl
  | agg cs =>
    simp only [plainSV, Option.map_eq_some_iff] at h
    obtain ⟨l, hl, rfl⟩ := h
    simp only [SV.den, plainL_some hl]
  | tup cs => simp [plainSV] at h

/-- A method of a value, made a function value. -/
def evalMb (F : Frame0) (p : List (Nat × Bool)) : Op → Option (Nat × Value)
  | .makeFunc (.func f) first caps => match first.toList, caps.toList with
    | [x], [] => match opv F p x with
      | some s => (plainSV s).map fun v => (f, v)
      | none => none
    | _, _ => none
  | _ => none

theorem y_mkb {p : List (Nat × Bool)} {g : Bool} {f : Nat} {v : Value} (hv : evalMb F p o.op = some (f, v)) : Yld P o n F C O nl V p g (.a (.v (.func (.func f) #[v] #[]))) := by
  intro hgt E a w hf hgv hm
  refine ⟨?_, rfl⟩
  unfold Yv execOp
  cases hop : o.op with
  | makeFunc fn first caps =>
    simp only [hop] at hv
    cases fn with
    | func f' =>
      simp only [evalMb] at hv
      split at hv
      · rename_i x hfi hca
        split at hv
        · rename_i s hs
          simp only [Option.map_eq_some_iff, Prod.mk.injEq] at hv
          obtain ⟨u, hu, rfl, rfl⟩ := hv
          obtain ⟨h1, _⟩ := opv_sound hf hgv hs
          rw [plainSV_den hu] at h1
          have e1 : first = #[x] := by simpa using congrArg List.toArray hfi
          have e2 : caps = #[] := by simpa using congrArg List.toArray hca
          subst e1 e2
          simp [Instr.makeFunc, SV.den, A.den, h1]
        · simp at hv
      · simp at hv
    | _ => simp [evalMb] at hv
  | _ => simp [hop, evalMb] at hv
end

/-- Another row of one's own is seen where a row is handed on. -/
theorem Mem.rowSeen {α : Type} {enc : α → List Value} {E : Env} {O : Own} {nl : Nat} {V : Vw} {w : World} {L : List α} (hm : Mem E O nl V w) {l q e e' sz sz' m : Nat} {xs : List Value} (hl : lk O l = some (.row e sz m xs)) (hq : lk O q = some (.row e' sz' L.length (L.flatMap enc))) (hne : q ≠ l) (he : ∀ x, (enc x).length = sz') :
    SlOf ((vw w).delO (E.κ l).ownBlock) enc sz' (E.κ q) L := by
  refine ⟨ownsRow_sl (hm.row _ _ _ _ _ hq) (fun k hk => ?_), he⟩
  cases hv : (E.κ l).ownBlock with
  | none => rfl
  | some b =>
    simp only [Vw.delO, Vw.del, vw]
    rw [if_neg]
    intro e
    exact hne (hm.sep _ _ _ _ b hq hl (by simpa [blk, e] using hk) (by simpa [blk] using hv))
end Go.Eng
