/-
  Builtins on slices whose blocks are one's own and known by number: copies, appends; a library function without a body.
-/
import Derived.Test.YtipmgnhbcaniiaaEng29
import Derived.Lib.AppendZerosOnto
import Derived.Lib.Overlaps
set_option linter.unusedSimpArgs false
set_option linter.unusedVariables false
namespace Go.Eng
open Go Go.RowKit

section
variable {P : Program} {tt : List (Nat × TI)} {ops : Array Oper} {Q : Exit → Act → World → Prop} {o : Oper} {rest : List Oper}
  {n : Nat} {F : Frame0} {C : List Nat} {O : Own} {nl : Nat} {V : Vw} {K : Act → World → Prop}

theorem allOk_plain (nl : Nat) (l : List Value) : allOk nl (l.map A.v) = true := (den_plain E0 l).2 nl

def evalCpB (F : Frame0) (p : List (Nat × Bool)) : Op → Option (Nat × Nat × SV × SV)
  | .call ⟨.builtin .copy, args, ts⟩ => match args.toList, ts.toList with
    | [x, y], [t, t2] => match opv F p x, opv F p y with
      | some s, some s2 => some (t, t2, s, s2)
      | _, _ => none
    | _, _ => none
  | _ => none

def evalApB (F : Frame0) (p : List (Nat × Bool)) : Op → Option (Nat × Nat × SV × SV)
  | .call ⟨.builtin .append, args, ts⟩ => match args.toList, ts.toList with
    | [x, y], [t, t2] => match opv F p x, opv F p y with
      | some s, some s2 => some (t, t2, s, s2)
      | _, _ => none
    | _, _ => none
  | _ => none

/-- The type of a row and what its elements are. -/
def sliceTI (tt : List (Nat × TI)) (t : Nat) : Option (Nat × TI) :=
  match lk tt t with
  | some ⟨_, _, _, _, .slice e⟩ => (lk tt e).map fun ti => (e, ti)
  | _ => none

def evalCap (tt : List (Nat × TI)) (F : Frame0) (p : List (Nat × Bool)) : Op → Option Nat
  | .call ⟨.builtin .cap, args, ts⟩ => match args.toList, ts.toList with
    | [x], [t] => match opv F p x, lk tt t with
      | some (.a (.v (.slice _ _ c))), some ⟨_, _, _, _, .slice _⟩ => some c
      | _, _ => none
    | _, _ => none
  | _ => none

def evalLenP (tt : List (Nat × TI)) (F : Frame0) (p : List (Nat × Bool)) : Op → Option Nat
  | .call ⟨.builtin .len, args, ts⟩ => match args.toList, ts.toList with
    | [x], [t] => match opv F p x, lk tt t with
      | some (.a (.v (.slice _ c _))), some ⟨_, _, _, _, .slice _⟩ => some c
      | _, _ => none
    | _, _ => none
  | _ => none

/-- The length of a slice that is known by number. -/
theorem y_lenP (htt : TTok P tt) {p : List (Nat × Bool)} {g : Bool} {c : Nat} (hv : evalLenP tt F p o.op = some c) : Yld P o n F C O nl V p g (.a (.v (.int .i64 c))) := by
  intro hgt E a w hf hgv hm
  refine ⟨?_, rfl⟩
  unfold Yv execOp
  cases hop : o.op with
  | call cl =>
    obtain ⟨callee, args, ts⟩ := cl
    simp only [hop] at hv
    cases callee with
    | builtin b =>
      cases b with
      | len =>
        simp only [evalLenP] at hv
        split at hv
        · rename_i x t hargs hts
          have ha : args = #[x] := by simpa using congrArg List.toArray hargs
          have ht : ts = #[t] := by simpa using congrArg List.toArray hts
          subst ha ht
          split at hv
          · rename_i a1 c1 n1 sz by' z fl e hx hti
            simp only [Option.some.injEq] at hv
            subst hv
            obtain ⟨h1, _⟩ := opv_sound hf hgv hx
            obtain ⟨dd, hdd, hk, _⟩ := (htt _ _ hti).und
            have hdb : dd = .slice e := by cases dd <;> simp [kindOf] at hk; rw [hk]
            subst hdb
            have e1 : a.eval x = .slice a1 c1 n1 := h1
            simp [resolve, invoke, builtin, Builtin.len_, Builtin.lenOf, e1, run_underlying hdd, SV.den, A.den, goInt]
          · simp at hv
        · simp at hv
      | _ => simp [evalLenP] at hv
    | _ => simp [evalLenP] at hv
  | _ => simp [hop, evalLenP] at hv

def evalX (F : Frame0) (p : List (Nat × Bool)) : Op → Option (Nat × List SV)
  | .call ⟨.value (.func f), args, _⟩ => match evalArgs F p args.toList with
    | some ss => some (f, ss)
    | none => none
  | _ => none

end
end Go.Eng
