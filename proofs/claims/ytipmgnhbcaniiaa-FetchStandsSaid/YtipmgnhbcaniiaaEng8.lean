/-
  Function values; pointers to memory that nobody writes; slices written out in place.
-/
import Derived.Test.YtipmgnhbcaniiaaEng7
set_option linter.unusedSimpArgs false
set_option linter.unusedVariables false
namespace Go.Eng
open Go Go.RowKit

abbrev I (n : Int) : Value := .int .i64 n
abbrev I8 (n : Int) : Value := .int .i8 n

theorem wrapI {n : Int} (h0 : -9223372036854775808 ≤ n) (h1 : n ≤ 9223372036854775807) : IntKind.i64.wrap n = n := IntWalk.i64_in n ⟨h0, h1⟩

/-- What a call of a function value does. -/
def CallsFn (P : Program) (fv : Value) (args : List Value) (w : World) (R : Ending → World → Prop) : Prop :=
  ∃ f caps, fv = .func (.func f) #[] caps ∧ FnOk P f ∧ Calls P f (args ++ caps.toList).toArray w R

theorem CallsFn.mono {P : Program} {fv : Value} {args : List Value} {w : World} {R R' : Ending → World → Prop} (h : CallsFn P fv args w R) (hr : ∀ e w', R e w' → R' e w') : CallsFn P fv args w R' :=
  let ⟨f, caps, h1, h2, h3⟩ := h
  ⟨f, caps, h1, h2, h3.mono hr⟩

section
variable {P : Program} {tt : List (Nat × TI)} {ops : Array Oper} {Q : Exit → Act → World → Prop} {o : Oper} {rest : List Oper}
  {n : Nat} {F : Frame0} {C : List Nat} {O : Own} {nl : Nat} {V : Vw} {K : Act → World → Prop}

/-- A call of a function value: which, with what. -/
def evalCF (F : Frame0) (p : List (Nat × Bool)) : Op → Option (Value × List SV)
  | .call ⟨.value x, args, _⟩ => match opv F p x, evalArgs F p args.toList with
    | some (.a (.v fv)), some ss => some (fv, ss)
    | _, _ => none
  | _ => none

theorem evalCF_sound {E : Env} {a : Act} {p : List (Nat × Bool)} {fv : Value} {ss : List SV} (hf : Frm E n F C nl a.tmps) (hg : gval F p = true) (h : evalCF F p o.op = some (fv, ss)) (w : World)
    {R : Ending → World → Prop} (hc : CallsFn P fv (ss.map (SV.den E)) w R) :
    ∃ f args, (execOp a.eval o).run P w = .ok (.enter f args) w ∧ Calls P f args w R := by
  unfold execOp
  cases hop : o.op with
  | call c =>
    obtain ⟨callee, args, ts⟩ := c
    cases callee with
    | value x =>
      simp only [hop, evalCF] at h
      split at h
      · rename_i fv' ss' hx ha
        simp only [Option.some.injEq, Prod.mk.injEq] at h
        obtain ⟨rfl, rfl⟩ := h
        obtain ⟨h1, _⟩ := evalArgs_sound hf hg ha
        obtain ⟨h3, _⟩ := opv_sound hf hg hx
        obtain ⟨f, caps, rfl, ⟨fn, hfn, hnm, hbody⟩, hcalls⟩ := hc
        have hargs : args.map a.eval ++ caps = (ss'.map (SV.den E) ++ caps.toList).toArray := by
          apply Array.ext'
          simp only [Array.toList_append, Array.toList_map, h1]
        have hx' : a.eval x = .func (.func f) #[] caps := h3
        exact ⟨f, _, by simp only [resolve, hx', Deferred.ofValue, Sem.run_bind, Sem.run_pure, Result.andThen_ok, invoke, callFunc, run_program, hfn, hnm, hbody, Bool.false_eq_true, if_false, Array.empty_append, hargs], hcalls⟩
      · simp at h
    | _ => simp [hop, evalCF] at h
  | _ => simp [hop, evalCF] at h

theorem o_callF {p : List (Nat × Bool)} {g : Bool} {C' : List Nat} {d : Nat} {fv : Value} {ss : List SV} (s : SV)
    (hg : gd ops F C o.guard = some (p, g, C')) (hv : evalCF F p o.op = some (fv, ss)) (hd : o.dst = some d) (hc : (Nat.blt d n && !(memN d C')) = true) (hs : s.ok nl = true)
    (hcall : g = true → ∀ E w, Mem E O nl V w → CallsFn P fv (ss.map (SV.den E)) w fun e w' => e = .returned (s.den E) ∧ Below w.heap.size w w')
    (next : KJ (wpList P ops Q rest) n ((d, ⟨p, g, s⟩) :: F) C' O nl V) : KJ (wpList P ops Q (o :: rest)) n F C O nl V := by
  constructor
  intro E a w hdf hf hm
  obtain ⟨h1, h2, h3, h4⟩ := gd_sound hf hg
  simp only [Bool.and_eq_true, blt_iff, Bool.not_eq_true'] at hc
  unfold wpList
  rw [h1]
  cases g with
  | true =>
    simp only [if_true]
    left
    obtain ⟨f, args, hr, hcl⟩ := evalCF_sound h2 h3.symm hv w (hcall rfl E w hm)
    unfold Oper.wp
    rw [hr, Oper.upon_enter]
    refine hcl.mono ?_
    rintro e w' ⟨rfl, hb⟩
    show wpList P ops Q rest (a.put o.dst _) w'
    rw [hd]
    refine next.out E _ w' (by simp [Act.put, hdf]) ?_ (hm.keep hb)
    have := Frm.put (p := p) (g := true) h2 hc.1 hc.2 h3 h4 (fun _ => hs)
    simpa using this
  | false =>
    simp only [Bool.false_eq_true, if_false, hd]
    refine next.out E _ w (by simp [Act.put, hdf]) ?_ hm
    have := Frm.put (p := p) (g := false) (s := s) h2 hc.1 hc.2 h3 h4 (by simp)
    simpa using this

/-- A load behind a pointer to memory that nobody writes. -/
def evalLp (tt : List (Nat × TI)) (F : Frame0) (p : List (Nat × Bool)) : Op → Option (Nat × Nat × Nat × Bool)
  | .load t x => match opv F p x, lk tt t with
    | some (.a (.v (.pointer (some ⟨b, off, none⟩)))), some ti => some (b, off, ti.size, ti.agg)
    | _, _ => none
  | _ => none

end
end Go.Eng
