/-
  Maps from numbers to values of one cell, seen as memory that is told anew at each write.
-/
import Derived.Test.YtikdaehmaaogdaaGreatEng36
set_option linter.unusedSimpArgs false
set_option linter.unusedVariables false
namespace Go.Eng
open Go Go.RowKit

def mvEs : List (Int × Value) → Nat → List MapEntry
  | [], _ => []
  | (k, v) :: r, n => ⟨.int .i64 k, v, n⟩ :: mvEs r (n + 1)

def mvOb (es : List (Int × Value)) : Obj := .map (mvEs es 0).toArray es.length

def mvGet : List (Int × Value) → Int → Option Value
  | [], _ => none
  | (a, x) :: r, k => if a = k then some x else mvGet r k

def mvPut : List (Int × Value) → Int → Value → List (Int × Value)
  | [], k, v => [(k, v)]
  | (a, x) :: r, k, v => if a = k then (a, v) :: r else (a, x) :: mvPut r k v

theorem mv_none (kd : IntKind) (k : Int) (v : Value) : ∀ (es : List (Int × Value)) (n i : Nat), mvGet es k = none → Instr.findNow (.int kd) (.int .i64 k) (mvEs es n) i = some none ∧ mvEs (mvPut es k v) n = mvEs es n ++ [⟨.int .i64 k, v, n + es.length⟩] ∧ (mvPut es k v).length = es.length + 1
  | [], n, i, _ => by simp [mvEs, mvPut, Instr.findNow]
  | (a, x) :: r, n, i, h => by
    simp only [mvGet] at h
    by_cases e : a = k
    · rw [if_pos e] at h; cases h
    · rw [if_neg e] at h
      obtain ⟨h1, h2, h3⟩ := mv_none kd k v r (n + 1) (i + 1) h
      have hb : (k == a) = false := by simp; exact fun q => e q.symm
      refine ⟨?_, ?_, ?_⟩
      · rw [mvEs]; simp [Instr.findNow, Instr.sameNow, hb, h1]
      · simp only [mvPut, if_neg e, mvEs, h2, List.cons_append, List.length_cons]
        congr 3
        simp; omega
      · simp only [mvPut, if_neg e, List.length_cons, h3]

theorem mv_some (kd : IntKind) (k : Int) (v : Value) : ∀ (es : List (Int × Value)) (n i : Nat) (x : Value), mvGet es k = some x → ∃ j e, Instr.findNow (.int kd) (.int .i64 k) (mvEs es n) i = some (some (i + j, x)) ∧ (mvEs es n)[j]? = some e ∧ e.key = .int .i64 k ∧
    (mvEs es n).modify j (fun e => { e with key := .int .i64 k, val := v }) = mvEs (mvPut es k v) n
  | [], n, i, x, h => by simp [mvGet] at h
  | (a, y) :: r, n, i, x, h => by
    simp only [mvGet] at h
    by_cases e : a = k
    · subst e
      rw [if_pos rfl] at h
      cases h
      refine ⟨0, _, ?_, rfl, rfl, ?_⟩
      · simp [mvEs, Instr.findNow, Instr.sameNow]
      · simp [mvEs, mvPut]
    · rw [if_neg e] at h
      obtain ⟨j, en, h1, h2, h3, h4⟩ := mv_some kd k v r (n + 1) (i + 1) x h
      have hb : (k == a) = false := by simp; exact fun q => e q.symm
      refine ⟨j + 1, en, ?_, ?_, h3, ?_⟩
      · rw [mvEs]
        simp only [Instr.findNow, Instr.sameNow, beq_self_eq_true, Bool.true_and, if_true, hb, h1]
        rw [show i + 1 + j = i + (j + 1) by omega]
      · simpa [mvEs] using h2
      · simp only [mvEs, mvPut, if_neg e, List.modify_succ_cons, h4]

section
variable {P : Program} {tt : List (Nat × TI)} {ops : Array Oper} {Q : Exit → Act → World → Prop} {o : Oper} {rest : List Oper}
  {n : Nat} {F : Frame0} {C : List Nat} {O : Own} {nl : Nat} {V : Vw} {K : Act → World → Prop}

theorem run_lookup_mv {w : World} {t kt et b : Nat} {kd : IntKind} {k : Int} {es : List (Int × Value)} {z : Value} (c : Bool) (ht : P.underlying t = some (.map kt et)) (hk : P.underlying kt = some (.int kd)) (hz : (zeroValue et).run P w = .ok z w)
    (hb : w.heap[b]? = some (mvOb es)) : (Instr.lookup t (.map (some b)) (.int .i64 k) c).run P w = .ok (if c = true then .tuple #[(mvGet es k).getD z, .bool (mvGet es k).isSome] else (mvGet es k).getD z) w := by
  have hg : (getObj b).run P w = .ok (mvOb es) w := by simp [getObj, Sem.run, hb, mvOb]
  have hc : ∀ e, (Instr.checkKey e 10000 kt (.int .i64 k)).run P w = .ok () w := fun e => by rw [show (10000 : Nat) = 9999 + 1 from rfl, Instr.checkKey]; simp [run_underlying hk]
  cases hm : mvGet es k with
  | some x =>
    obtain ⟨j, e, hj, _⟩ := mv_some kd k x es 0 0 x hm
    have h1 : (Instr.findKey kt (.int .i64 k) (mvEs es 0)).run P w = .ok (some (0 + j, x)) w := by simp [Instr.findKey, run_underlying hk, hj]
    cases c <;> simp [Instr.lookup, run_underlying ht, hg, mvOb, hc, h1]
  | none =>
    have hj := (mv_none kd k z es 0 0 hm).1
    have h1 : (Instr.findKey kt (.int .i64 k) (mvEs es 0)).run P w = .ok none w := by simp [Instr.findKey, run_underlying hk, hj]
    cases c <;> simp [Instr.lookup, run_underlying ht, hg, mvOb, hc, h1, hz]

def evalLkV (F : Frame0) (p : List (Nat × Bool)) : Op → Option (Nat × Nat × Int × Bool)
  | .lookup t x y c => match opv F p x, opv F p y with
    | some (.a (.v (.map (some b)))), some (.a (.v (.int .i64 k))) => some (t, b, k, c)
    | _, _ => none
  | _ => none

theorem lkV_run {p : List (Nat × Bool)} {g : Bool} {t kt et b : Nat} {kd : IntKind} {k : Int} {c : Bool} {z : Value} (es : List (Int × Value)) (hv : evalLkV F p o.op = some (t, b, k, c)) (ht : P.underlying t = some (.map kt et)) (hk : P.underlying kt = some (.int kd)) (hz : ∀ w, (zeroValue et).run P w = .ok z w)
    (hb : g = true → V.get b = some (mvOb es)) (hgt : g = true) {E : Env} {a : Act} {w : World} (hf : Frm E n F C nl a.tmps) (hgv : gval F p = true) (hm : Mem E O nl V w) :
    Yv P o a w (if c = true then .tuple #[(mvGet es k).getD z, .bool (mvGet es k).isSome] else (mvGet es k).getD z) := by
  unfold Yv execOp
  cases hop : o.op with
  | lookup t' x y ok =>
    simp only [hop, evalLkV] at hv
    split at hv
    · rename_i b' k' hx hy
      simp only [Option.some.injEq, Prod.mk.injEq] at hv
      obtain ⟨rfl, rfl, rfl, rfl⟩ := hv
      obtain ⟨h1, _⟩ := opv_sound hf hgv hx
      obtain ⟨h2, _⟩ := opv_sound hf hgv hy
      have e1 : a.eval x = .map (some b') := h1
      have e2 : a.eval y = .int .i64 k' := h2
      simp only [e1, e2, Sem.run_bind, run_lookup_mv ok ht hk (hz w) (hm.get _ _ (hb hgt)), Result.andThen_ok, Sem.run_pure]
    · simp at hv
  | _ => simp [hop, evalLkV] at hv

theorem y_lkpV2 {p : List (Nat × Bool)} {g : Bool} {t kt et b : Nat} {kd : IntKind} {k : Int} {z : Value} (es : List (Int × Value)) (x : Value) (r : Bool) (hv : evalLkV F p o.op = some (t, b, k, true)) (ht : P.underlying t = some (.map kt et)) (hk : P.underlying kt = some (.int kd)) (hz : ∀ w, (zeroValue et).run P w = .ok z w)
    (hb : g = true → V.get b = some (mvOb es)) (hx : g = true → (mvGet es k).getD z = x ∧ (mvGet es k).isSome = r) : Yld P o n F C O nl V p g (.tup [.v x, .v (.bool r)]) := by
  intro hgt E a w hf hgv hm
  refine ⟨?_, rfl⟩
  have := lkV_run es hv ht hk hz hb hgt hf hgv hm
  rw [if_pos rfl, (hx hgt).1, (hx hgt).2] at this
  exact this

/-- An empty map in new memory. -/
theorem s_mkMapV {p : List (Nat × Bool)} {t : Nat} (hv : evalMkMap o.op = some t) :
    StepTo P o p n F C O nl V (σ := Nat) (fun b => V.get b = none) (fun b => .a (.v (.map (some b)))) (fun _ => O) nl (fun b => V.put b (mvOb [])) := s_mkMap hv

def evalMuV (F : Frame0) (p : List (Nat × Bool)) : Op → Option (Nat × Nat × Int × Value)
  | .mapUpdate t x y z => match opv F p x, opv F p y, opv F p z with
    | some (.a (.v (.map (some b)))), some (.a (.v (.int .i64 k))), some (.a (.v v)) => some (t, b, k, v)
    | _, _, _ => none
  | _ => none

end
end Go.Eng
