/-
  A slice that is read, cut off at its length, and what is appended to it; a slice compared with nil.
-/
import Derived.Test.YtikdaehmaaogdaaEng28
set_option linter.unusedSimpArgs false
set_option linter.unusedVariables false
namespace Go.Eng
open Go Go.RowKit

section
variable {P : Program} {tt : List (Nat × TI)} {ops : Array Oper} {Q : Exit → Act → World → Prop} {o : Oper} {rest : List Oper}
  {n : Nat} {F : Frame0} {C : List Nat} {O : Own} {nl : Nat} {V : Vw} {K : Act → World → Prop}

/-- A piece from the front with a bound of its capacity. -/
def evalSl3 (tt : List (Nat × TI)) (F : Frame0) (p : List (Nat × Bool)) : Op → Option (Value × Int × Int × Nat)
  | .slice t x none (some hi) (some mx) => match opv F p x, opv F p hi, opv F p mx, lk tt t with
    | some (.a (.v v)), some (.a (.v (.int _ h))), some (.a (.v (.int _ m))), some ⟨_, _, _, _, .slice e⟩ => match lk tt e with
      | some ti => some (v, h, m, ti.size)
      | none => none
    | _, _, _, _ => none
  | _ => none

theorem y_sl3 (htt : TTok P tt) {p : List (Nat × Bool)} {g : Bool} {ad : Option Addr} {len cap : Nat} {hi mx : Int} {sz : Nat}
    (hv : evalSl3 tt F p o.op = some (.slice ad len cap, hi, mx, sz)) (hb : g = true → 0 ≤ hi ∧ hi ≤ mx ∧ mx ≤ cap) :
    Yld P o n F C O nl V p g (.a (.v (.slice ad hi.toNat mx.toNat))) := by
  intro hgt E a w hf hgv hm
  refine ⟨?_, rfl⟩
  unfold Yv execOp
  cases hop : o.op with
  | slice t x lo' hi' mx' =>
    cases lo' with
    | some lo' => simp [hop, evalSl3] at hv
    | none =>
    cases hi' with
    | none => simp [hop, evalSl3] at hv
    | some hi' =>
    cases mx' with
    | none => simp [hop, evalSl3] at hv
    | some mx' =>
    simp only [hop, evalSl3] at hv
    split at hv
    · rename_i v' k1 h k2 m sz' by_ z fl e hx hh hm2 hti
      split at hv
      · rename_i ti hte
        simp only [Option.some.injEq, Prod.mk.injEq] at hv
        obtain ⟨rfl, rfl, rfl, rfl⟩ := hv
        obtain ⟨h1, _⟩ := opv_sound hf hgv hx
        obtain ⟨h2, _⟩ := opv_sound hf hgv hh
        obtain ⟨h3, _⟩ := opv_sound hf hgv hm2
        obtain ⟨dd, hdd, hk, _⟩ := (htt _ _ hti).und
        have hdb : dd = .slice e := by cases dd <;> simp [kindOf] at hk; rw [hk]
        subst hdb
        obtain ⟨b0, b1, b2⟩ := hb hgt
        have e1 : a.eval x = .slice ad len cap := h1
        have e2 : a.eval hi' = .int k1 h := h2
        have e3 : a.eval mx' = .int k2 m := h3
        have q1 : (h.toNat : Int) = h := Int.toNat_of_nonneg b0
        have q2 : (m.toNat : Int) = m := Int.toNat_of_nonneg (by omega)
        have hrun : (Instr.slice t (.slice ad len cap) none (some (.int k1 h)) (some (.int k2 m))).run P w = .ok (.slice ad h.toNat m.toNat) w := by
          simp only [Instr.slice, Instr.sliceBounds, Sem.run_bind, run_underlying hdd, Result.andThen_ok, Sem.run_pure, (htt _ _ hte).sizeOf]
          simp [run_sliceBound, (by omega : 0 ≤ m), (by omega : m ≤ (cap : Int)), b0, q2, b1, Addr.add, (htt _ _ hte).sizeOf]
        simp only [Option.map_some, Option.map_none, e1, e2, e3, Instr.sliceAt, Sem.run_bind, run_underlying hdd, Result.andThen_ok, hrun, Sem.run_pure, SV.den, A.den]
      · simp at hv
    · simp at hv
  | _ => simp [hop, evalSl3] at hv

/-- What is appended to a slice that is read: the slice, what is appended, the elements' type, size and bytes. -/
def evalAppV (tt : List (Nat × TI)) (F : Frame0) (p : List (Nat × Bool)) : Op → Option (Value × SV × Nat × Nat × Nat)
  | .call ⟨.builtin .append, args, ts⟩ => match args.toList, ts.toList with
    | [s, x], [t, t2] => match opv F p s, opv F p x, lk tt t, lk tt t2 with
      | some (.a (.v v)), some xs, some ⟨_, _, _, _, .slice e⟩, some t2i => match lk tt e with
        | some ti => bif sliceOrStr t2i.kind && Nat.blt 0 ti.bytes && Nat.beq ti.zero.length ti.size then some (v, xs, e, ti.size, ti.bytes) else none
        | _ => none
      | _, _, _, _ => none
    | _, _ => none
  | _ => none

end
end Go.Eng
