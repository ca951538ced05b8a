/-
 Maps from numbers to values of one cell, seen as memory that is told anew at each write.
-/
import Derived.Test.YtlafboeohojcbaaGreatEng36
set_option linter.unusedSimpArgs false
set_option linter.unusedVariables false
namespace Go.Eng
open Go Go.RowKit
def mvEs : List (Int × Value) → Nat → List MapEntry
 | [], _ => []
 | (k, v) :: r, n => ⟨.int .i64 k, v, n⟩ :: mvEs r (n + 1)
def mvOb (es : List (Int × Value)) : Obj := .map (mvEs es 0).toArray es.length
def mvGet : List (Int × Value) → Int → Option Value
 | [], _ => none
 | (a, x) :: r, k => if a = k then some x else mvGet r k
def mvPut : List (Int × Value) → Int → Value → List (Int × Value)
 | [], k, v => [(k, v)]
 | (a, x) :: r, k, v => if a = k then (a, v) :: r else (a, x) :: mvPut r k v
theorem mvGet_put (k : Int) (v : Value) (k' : Int) : ∀ es, mvGet (mvPut es k v) k' = if k = k' then some v else mvGet es k'
 | [] => by simp [mvPut, mvGet]
 | (a, x) :: r => by
  have ih := mvGet_put k v k' r
  simp only [mvPut]
  by_cases h : a = k
  ·
   subst h
   rw [if_pos rfl]
   simp only [mvGet]
   by_cases h2 : a = k' <;> simp [h2]
  ·
   rw [if_neg h]
   simp only [mvGet]
   by_cases h2 : a = k'
   ·
    subst h2
    rw [if_pos rfl, if_neg (fun e => h e.symm), if_pos rfl]
   · rw [if_neg h2, ih, if_neg h2]
theorem mvPut_len (k : Int) (v : Value) : ∀ es, (mvGet es k).isSome = true → (mvPut es k v).length = es.length
 | [], h => by simp [mvGet] at h
 | (a, x) :: r, h => by
  simp only [mvPut]
  by_cases e : a = k
  · rw [if_pos e]; rfl
  ·
   rw [if_neg e]
   simp only [mvGet, if_neg e] at h
   simp [mvPut_len k v r h]
theorem mv_none (kd : IntKind) (k : Int) (v : Value) : ∀ (es : List (Int × Value)) (n i : Nat), mvGet es k = none → Instr.findNow (.int kd) (.int .i64 k) (mvEs es n) i = some none ∧ mvEs (mvPut es k v) n = mvEs es n ++ [⟨.int .i64 k, v, n + es.length⟩] ∧ (mvPut es k v).length = es.length + 1
 | [], n, i, _ => by simp [mvEs, mvPut, Instr.findNow]
 | (a, x) :: r, n, i, h => by
  simp only [mvGet] at h
  by_cases e : a = k
  · rw [if_pos e] at h; cases h
  ·
   rw [if_neg e] at h
   obtain ⟨h1, h2, h3⟩ := mv_none kd k v r (n + 1) (i + 1) h
   have hb : (k == a) = false := by simp; exact fun q => e q.symm
   refine ⟨?_, ?_, ?_⟩
   · rw [mvEs]; simp [Instr.findNow, Instr.sameNow, hb, h1]
   ·
    simp only [mvPut, if_neg e, mvEs, h2, List.cons_append, List.length_cons]
    congr 3
    simp; omega
   · simp only [mvPut, if_neg e, List.length_cons, h3]
theorem mv_some (kd : IntKind) (k : Int) (v : Value) : ∀ (es : List (Int × Value)) (n i : Nat) (x : Value), mvGet es k = some x → ∃ j e, Instr.findNow (.int kd) (.int .i64 k) (mvEs es n) i = some (some (i + j, x)) ∧ (mvEs es n)[j]? = some e ∧ e.key = .int .i64 k ∧
  (mvEs es n).modify j (fun e => { e with key := .int .i64 k, val := v }) = mvEs (mvPut es k v) n
 | [], n, i, x, h => by simp [mvGet] at h
 | (a, y) :: r, n, i, x, h => by
  simp only [mvGet] at h
  by_cases e : a = k
  ·
   subst e
   rw [if_pos rfl] at h
   cases h
   refine ⟨0, _, ?_, rfl, rfl, ?_⟩
   · simp [mvEs, Instr.findNow, Instr.sameNow]
   · simp [mvEs, mvPut]
  ·
   rw [if_neg e] at h
   obtain ⟨j, en, h1, h2, h3, h4⟩ := mv_some kd k v r (n + 1) (i + 1) x h
   have hb : (k == a) = false := by simp; exact fun q => e q.symm
   refine ⟨j + 1, en, ?_, ?_, h3, ?_⟩
   ·
    rw [mvEs]
    simp only [Instr.findNow, Instr.sameNow, beq_self_eq_true, Bool.true_and, if_true, hb, h1]
    rw [show i + 1 + j = i + (j + 1) by omega]
   · simpa [mvEs] using h2
   · simp only [mvEs, mvPut, if_neg e, List.modify_succ_cons, h4]
section
variable {P : Program} {tt : List (Nat × TI)} {ops : Array Oper} {Q : Exit → Act → World → Prop} {o : Oper} {rest : List Oper}
 {n : Nat} {F : Frame0} {C : List Nat} {O : Own} {nl : Nat} {V : Vw} {K : Act → World → Prop}
theorem run_lookup_mv {w : World} {t kt et b : Nat} {kd : IntKind} {k : Int} {es : List (Int × Value)} {z : Value} (c : Bool) (ht : P.underlying t = some (.map kt et)) (hk : P.underlying kt = some (.int kd)) (hz : (zeroValue et).run P w = .ok z w)
  (hb : w.heap[b]? = some (mvOb es)) : (Instr.lookup t (.map (some b)) (.int .i64 k) c).run P w = .ok (if c = true then .tuple #[(mvGet es k).getD z, .bool (mvGet es k).isSome] else (mvGet es k).getD z) w := by
 have hg : (getObj b).run P w = .ok (mvOb es) w := by simp [getObj, Sem.run, hb, mvOb]
 have hc : ∀ e, (Instr.checkKey e 10000 kt (.int .i64 k)).run P w = .ok () w := fun e => by rw [show (10000 : Nat) = 9999 + 1 from rfl, Instr.checkKey]; simp [run_underlying hk]
 cases hm : mvGet es k with
 | some x =>
  obtain ⟨j, e, hj, _⟩ := mv_some kd k x es 0 0 x hm
  have h1 : (Instr.findKey kt (.int .i64 k) (mvEs es 0)).run P w = .ok (some (0 + j, x)) w := by simp [Instr.findKey, run_underlying hk, hj]
  cases c <;> simp [Instr.lookup, run_underlying ht, hg, mvOb, hc, h1]
 | none =>
  have hj := (mv_none kd k z es 0 0 hm).1
  have h1 : (Instr.findKey kt (.int .i64 k) (mvEs es 0)).run P w = .ok none w := by simp [Instr.findKey, run_underlying hk, hj]
  cases c <;> simp [Instr.lookup, run_underlying ht, hg, mvOb, hc, h1, hz]
def evalLkV (F : Frame0) (p : List (Nat × Bool)) : Op → Option (Nat × Nat × Int × Bool)
 | .lookup t x y c => match opv F p x, opv F p y with
  | some (.a (.v (.map (some b)))), some (.a (.v (.int .i64 k))) => some (t, b, k, c)
  | _, _ => none
 | _ => none
theorem lkV_run {p : List (Nat × Bool)} {g : Bool} {t kt et b : Nat} {kd : IntKind} {k : Int} {c : Bool} {z : Value} (es : List (Int × Value)) (hv : evalLkV F p o.op = some (t, b, k, c)) (ht : P.underlying t = some (.map kt et)) (hk : P.underlying kt = some (.int kd)) (hz : ∀ w, (zeroValue et).run P w = .ok z w)
  (hb : g = true → V.get b = some (mvOb es)) (hgt : g = true) {E : Env} {a : Act} {w : World} (hf : Frm E n F C nl a.tmps) (hgv : gval F p = true) (hm : Mem E O nl V w) :
  Yv P o a w (if c = true then .tuple #[(mvGet es k).getD z, .bool (mvGet es k).isSome] else (mvGet es k).getD z) := by
 unfold Yv execOp
 cases hop : o.op with
 | lookup t' x y ok =>
  simp only [hop, evalLkV] at hv
  split at hv
  ·
   rename_i b' k' hx hy
   simp only [Option.some.injEq, Prod.mk.injEq] at hv
   obtain ⟨rfl, rfl, rfl, rfl⟩ := hv
   obtain ⟨h1, _⟩ := opv_sound hf hgv hx
   obtain ⟨h2, _⟩ := opv_sound hf hgv hy
   have e1 : a.eval x = .map (some b') := h1
   have e2 : a.eval y = .int .i64 k' := h2
   simp only [e1, e2, Sem.run_bind, run_lookup_mv ok ht hk (hz w) (hm.get _ _ (hb hgt)), Result.andThen_ok, Sem.run_pure]
  · simp at hv
 | _ => simp [hop, evalLkV] at hv
theorem y_lkpV {p : List (Nat × Bool)} {g : Bool} {t kt et b : Nat} {kd : IntKind} {k : Int} {z : Value} (es : List (Int × Value)) (x : Value) (hv : evalLkV F p o.op = some (t, b, k, false)) (ht : P.underlying t = some (.map kt et)) (hk : P.underlying kt = some (.int kd)) (hz : ∀ w, (zeroValue et).run P w = .ok z w)
  (hb : g = true → V.get b = some (mvOb es)) (hx : g = true → (mvGet es k).getD z = x) : Yld P o n F C O nl V p g (.a (.v x)) := by
 intro hgt E a w hf hgv hm
 refine ⟨?_, rfl⟩
 have := lkV_run es hv ht hk hz hb hgt hf hgv hm
 rw [if_neg (by simp), hx hgt] at this
 exact this
theorem y_lkpV2 {p : List (Nat × Bool)} {g : Bool} {t kt et b : Nat} {kd : IntKind} {k : Int} {z : Value} (es : List (Int × Value)) (x : Value) (r : Bool) (hv : evalLkV F p o.op = some (t, b, k, true)) (ht : P.underlying t = some (.map kt et)) (hk : P.underlying kt = some (.int kd)) (hz : ∀ w, (zeroValue et).run P w = .ok z w)
  (hb : g = true → V.get b = some (mvOb es)) (hx : g = true → (mvGet es k).getD z = x ∧ (mvGet es k).isSome = r) : Yld P o n F C O nl V p g (.tup [.v x, .v (.bool r)]) := by
 intro hgt E a w hf hgv hm
 refine ⟨?_, rfl⟩
 have := lkV_run es hv ht hk hz hb hgt hf hgv hm
 rw [if_pos rfl, (hx hgt).1, (hx hgt).2] at this
 exact this
theorem s_mkMapV {p : List (Nat × Bool)} {t : Nat} (hv : evalMkMap o.op = some t) :
  StepTo P o p n F C O nl V (σ := Nat) (fun b => V.get b = none) (fun b => .a (.v (.map (some b)))) (fun _ => O) nl (fun b => V.put b (mvOb [])) := s_mkMap hv
theorem run_mapUpdate_mv {w : World} {t kt et b : Nat} {kd : IntKind} {k : Int} {v : Value} {es : List (Int × Value)} (ht : P.underlying t = some (.map kt et)) (hk : P.underlying kt = some (.int kd))
  (hb : w.heap[b]? = some (mvOb es)) : (Instr.mapUpdate t (.map (some b)) (.int .i64 k) v).run P w = .ok () { w with heap := w.heap.setIfInBounds b (mvOb (mvPut es k v)) } := by
 have hg : (getObj b).run P w = .ok (mvOb es) w := by simp [getObj, Sem.run, hb, mvOb]
 have hc : ∀ e, (Instr.checkKey e 10000 kt (.int .i64 k)).run P w = .ok () w := fun e => by rw [show (10000 : Nat) = 9999 + 1 from rfl, Instr.checkKey]; simp [run_underlying hk]
 have hs : ∀ ob, (setObj b ob).run P w = .ok () { w with heap := w.heap.setIfInBounds b ob } := fun ob => by simp [setObj, Sem.run, hb, mvOb]
 have hst : (Instr.keyThatStays (.int .i64 k) (.int .i64 k)).run P w = .ok (.int .i64 k) w := by simp [Instr.keyThatStays, Instr.sameBits]
 cases hm : mvGet es k with
 | some x =>
  obtain ⟨j, e, hj, he, hek, hmod⟩ := mv_some kd k v es 0 0 x hm
  have h1 : (Instr.findKey kt (.int .i64 k) (mvEs es 0)).run P w = .ok (some (0 + j, x)) w := by simp [Instr.findKey, run_underlying hk, hj]
  rw [Nat.zero_add] at h1
  have hkey : (((mvEs es 0).toArray[j]?).map (·.key)).getD (.int .i64 k) = .int .i64 k := by simp [he, hek]
  have hob : Obj.map ((mvEs es 0).toArray.modify j fun e => { e with key := .int .i64 k, val := v }) es.length = mvOb (mvPut es k v) := by
   rw [mvOb, mvPut_len k v es (by rw [hm]; rfl), ← hmod]
   congr 1
   apply Array.ext'
   simp
  rw [← hob]
  simp only [mvOb] at hg
  have hstays : (Instr.keyThatStays ((((mvEs es 0).toArray[j]?).map (·.key)).getD (.int .i64 k)) (.int .i64 k)).run P w = .ok (.int .i64 k) w := by rw [hkey]; exact hst
  unfold Instr.mapUpdate
  simp only [Sem.run_bind, run_underlying ht, Result.andThen_ok, hg, hc, h1, hstays, hs]
 | none =>
  obtain ⟨hj, hpe, hpl⟩ := mv_none kd k v es 0 0 hm
  have h1 : (Instr.findKey kt (.int .i64 k) (mvEs es 0)).run P w = .ok none w := by simp [Instr.findKey, run_underlying hk, hj]
  have hob : Obj.map ((mvEs es 0).toArray.push ⟨.int .i64 k, v, es.length⟩) (es.length + 1) = mvOb (mvPut es k v) := by
   rw [mvOb, hpe, hpl]
   simp
  rw [← hob]
  simp only [mvOb] at hg
  unfold Instr.mapUpdate
  simp only [Sem.run_bind, run_underlying ht, Result.andThen_ok, hg, hc, h1, hs]
def evalMuV (F : Frame0) (p : List (Nat × Bool)) : Op → Option (Nat × Nat × Int × Value)
 | .mapUpdate t x y z => match opv F p x, opv F p y, opv F p z with
  | some (.a (.v (.map (some b)))), some (.a (.v (.int .i64 k))), some (.a (.v v)) => some (t, b, k, v)
  | _, _, _ => none
 | _ => none
theorem s_mapPut {p : List (Nat × Bool)} {t kt et b : Nat} {kd : IntKind} {k : Int} {v : Value} (es : List (Int × Value)) (hv : evalMuV F p o.op = some (t, b, k, v)) (hd : o.dst = none) (ht : P.underlying t = some (.map kt et)) (hk : P.underlying kt = some (.int kd))
  (hb : V.get b = some (mvOb es)) : StepTo P o p n F C O nl V (σ := Unit) (fun _ => True) (fun _ => .a (.v undef)) (fun _ => O) nl (fun _ => V.put b (mvOb (mvPut es k v))) := by
 constructor
 intro E a w hf hgv hm K Q hK
 unfold Oper.wp execOp
 cases hop : o.op with
 | mapUpdate t' x y z =>
  simp only [hop, evalMuV] at hv
  split at hv
  ·
   rename_i b' k' v' hx hy hz
   simp only [Option.some.injEq, Prod.mk.injEq] at hv
   obtain ⟨rfl, rfl, rfl, rfl⟩ := hv
   obtain ⟨h1, _⟩ := opv_sound hf hgv hx
   obtain ⟨h2, _⟩ := opv_sound hf hgv hy
   obtain ⟨h3, _⟩ := opv_sound hf hgv hz
   have e1 : a.eval x = .map (some b') := h1
   have e2 : a.eval y = .int .i64 k' := h2
   have e3 : a.eval z = v' := h3
   simp only [e1, e2, e3, Sem.run_bind, run_mapUpdate_mv ht hk (hm.get _ _ hb), Result.andThen_ok, Sem.run_pure]
   have := hK () E _ trivial (fun _ _ => ⟨rfl, rfl⟩) (hm.putV hb _) rfl
   show K (a.put o.dst undef) _
   exact this
  · simp at hv
 | _ => simp [hop, evalMuV] at hv
end
end Go.Eng
