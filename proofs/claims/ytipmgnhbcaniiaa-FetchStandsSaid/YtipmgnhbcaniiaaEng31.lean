/-
  Maps from numbers to truth, seen as memory that is told anew at each write: a set of numbers.
-/
import Derived.Test.YtipmgnhbcaniiaaEng30
set_option linter.unusedSimpArgs false
set_option linter.unusedVariables false
namespace Go.Eng
open Go Go.RowKit

theorem Vw.put_le {V V' : Vw} {b : Nat} {ob : Obj} (h : V.le V') (hb : V.get b = none) : V.le (V'.put b ob) :=
  ⟨fun k o hk => by
    show (if _ then _ else _) = _
    rw [if_neg (fun e => by rw [e, hb] at hk; cases hk)]
    exact h.get k o hk, h.os, h.tape, h.output⟩

theorem Vw.put_mono {V W : Vw} {b : Nat} {o1 o2 : Obj} (h : (V.put b o1).le W) : (V.put b o2).le (W.put b o2) :=
  ⟨fun k o hk => by
    simp only [Vw.put] at hk
    show (if _ then _ else _) = _
    by_cases hkb : k = b
    · rw [if_pos hkb] at hk ⊢; exact hk
    · rw [if_neg hkb] at hk ⊢
      exact h.get k o (by show (if _ then _ else _) = _; rw [if_neg hkb]; exact hk), h.os, h.tape, h.output⟩

theorem Vw.put_get (V : Vw) (b : Nat) (ob : Obj) : (V.put b ob).get b = some ob := by show (if _ then _ else _) = _; rw [if_pos rfl]

def mapEs : List Int → Nat → List MapEntry
  | [], _ => []
  | k :: r, n => ⟨.int .i64 k, .bool true, n⟩ :: mapEs r (n + 1)

def mapOb (ks : List Int) : Obj := .map (mapEs ks 0).toArray ks.length

theorem mapEs_snoc (k : Int) : ∀ (ks : List Int) (n : Nat), mapEs (ks ++ [k]) n = mapEs ks n ++ [⟨.int .i64 k, .bool true, n + ks.length⟩]
  | [], n => by simp [mapEs]
  | a :: r, n => by
    rw [List.cons_append, mapEs, mapEs_snoc k r (n + 1), mapEs, List.cons_append, List.length_cons, show n + 1 + r.length = n + (r.length + 1) by omega]

theorem findNow_set (kd : IntKind) (k : Int) : ∀ (ks : List Int) (n i : Nat), (k ∈ ks → ∃ j, Instr.findNow (.int kd) (.int .i64 k) (mapEs ks n) i = some (some (j, .bool true))) ∧ (¬ k ∈ ks → Instr.findNow (.int kd) (.int .i64 k) (mapEs ks n) i = some none)
  | [], n, i => ⟨fun h => (by simp at h), fun _ => rfl⟩
  | a :: r, n, i => by
    have ih := findNow_set kd k r (n + 1) (i + 1)
    by_cases h : k = a
    · subst h
      refine ⟨fun _ => ⟨i, ?_⟩, fun hn => absurd (by simp) hn⟩
      simp [mapEs, Instr.findNow, Instr.sameNow]
    · have hs : Instr.findNow (.int kd) (.int .i64 k) (mapEs (a :: r) n) i = Instr.findNow (.int kd) (.int .i64 k) (mapEs r (n + 1)) (i + 1) := by
        rw [mapEs]
        have hb : (k == a) = false := by simp [h]
        simp [Instr.findNow, Instr.sameNow, hb]
      rw [hs]
      exact ⟨fun hm => ih.1 (by simpa [h] using hm), fun hm => ih.2 (by simpa [h] using hm)⟩

section
variable {P : Program} {tt : List (Nat × TI)} {ops : Array Oper} {Q : Exit → Act → World → Prop} {o : Oper} {rest : List Oper}
  {n : Nat} {F : Frame0} {C : List Nat} {O : Own} {nl : Nat} {V : Vw} {K : Act → World → Prop}

theorem run_lookup_set {w : World} {t kt et b : Nat} {kd : IntKind} {k : Int} {ks : List Int} (ht : P.underlying t = some (.map kt et)) (hk : P.underlying kt = some (.int kd)) (hz : (zeroValue et).run P w = .ok (.bool false) w)
    (hb : w.heap[b]? = some (mapOb ks)) : (Instr.lookup t (.map (some b)) (.int .i64 k) false).run P w = .ok (.bool (decide (k ∈ ks))) w := by
  have hg : (getObj b).run P w = .ok (mapOb ks) w := by simp [getObj, Sem.run, hb, mapOb]
  have hf := findNow_set kd k ks 0 0
  have hc : ∀ e, (Instr.checkKey e 10000 kt (.int .i64 k)).run P w = .ok () w := fun e => by rw [show (10000 : Nat) = 9999 + 1 from rfl, Instr.checkKey]; simp [run_underlying hk]
  by_cases hm : k ∈ ks
  · obtain ⟨j, hj⟩ := hf.1 hm
    have h1 : (Instr.findKey kt (.int .i64 k) (mapEs ks 0)).run P w = .ok (some (j, .bool true)) w := by simp [Instr.findKey, run_underlying hk, hj]
    simp [Instr.lookup, run_underlying ht, hg, mapOb, hc, h1, hm]
  · have h1 : (Instr.findKey kt (.int .i64 k) (mapEs ks 0)).run P w = .ok none w := by simp [Instr.findKey, run_underlying hk, hf.2 hm]
    simp [Instr.lookup, run_underlying ht, hg, mapOb, hc, h1, hm, hz]

def evalLk (F : Frame0) (p : List (Nat × Bool)) : Op → Option (Nat × Nat × Int)
  | .lookup t x y false => match opv F p x, opv F p y with
    | some (.a (.v (.map (some b)))), some (.a (.v (.int .i64 k))) => some (t, b, k)
    | _, _ => none
  | _ => none

/-- Whether a number is in the set. -/
theorem y_lkp {p : List (Nat × Bool)} {g : Bool} {t kt et b : Nat} {kd : IntKind} {k : Int} (ks : List Int) (hv : evalLk F p o.op = some (t, b, k)) (ht : P.underlying t = some (.map kt et)) (hk : P.underlying kt = some (.int kd)) (hz : ∀ w, (zeroValue et).run P w = .ok (.bool false) w)
    (hb : g = true → V.get b = some (mapOb ks)) : Yld P o n F C O nl V p g (.a (.v (.bool (decide (k ∈ ks))))) := by
  intro hgt E a w hf hgv hm
  refine ⟨?_, rfl⟩
  unfold Yv execOp
  cases hop : o.op with
  | lookup t' x y ok =>
    cases ok with
    | true => simp [hop, evalLk] at hv
    | false =>
      simp only [hop, evalLk] at hv
      split at hv
      · rename_i b' k' hx hy
        simp only [Option.some.injEq, Prod.mk.injEq] at hv
        obtain ⟨rfl, rfl, rfl⟩ := hv
        obtain ⟨h1, _⟩ := opv_sound hf hgv hx
        obtain ⟨h2, _⟩ := opv_sound hf hgv hy
        have e1 : a.eval x = .map (some b') := h1
        have e2 : a.eval y = .int .i64 k' := h2
        simp only [e1, e2, Sem.run_bind, run_lookup_set ht hk (hz w) (hm.get _ _ (hb hgt)), Result.andThen_ok, Sem.run_pure, SV.den, A.den]
      · simp at hv
  | _ => simp [hop, evalLk] at hv

def evalMkMap : Op → Option Nat
  | .makeMap t none => some t
  | _ => none

/-- An empty set in new memory. -/
theorem s_mkMap {p : List (Nat × Bool)} {t : Nat} (hv : evalMkMap o.op = some t) :
    StepTo P o p n F C O nl V (σ := Nat) (fun b => V.get b = none) (fun b => .a (.v (.map (some b)))) (fun _ => O) nl (fun b => V.put b (mapOb [])) := by
  constructor
  intro E a w hf hgv hm K Q hK
  unfold Oper.wp execOp
  cases hop : o.op with
  | makeMap t' r =>
    cases r with
    | some r => simp [hop, evalMkMap] at hv
    | none =>
      have hno : V.get w.heap.size = none := by
        cases hq : V.get w.heap.size with
        | none => rfl
        | some ob =>
          have := (Array.getElem?_eq_some_iff.1 (hm.get _ _ hq)).1
          omega
      have hr : (Instr.makeMap t' none).run P w = .ok (.map (some w.heap.size)) (w.alloc (mapOb [])) := by
        simp [Instr.makeMap, mapOb, mapEs]
      simp only [Option.map_none, Sem.run_bind, hr, Result.andThen_ok, Sem.run_pure]
      exact hK w.heap.size E _ hno (fun _ _ => ⟨rfl, rfl⟩) (hm.ext (alloc_below w _) (hm.vext _)) rfl
  | _ => simp [hop, evalMkMap] at hv

theorem Mem.putV {E : Env} {w : World} (hm : Mem E O nl V w) {b : Nat} {o0 : Obj} (hb : V.get b = some o0) (ob : Obj) : Mem E O nl (V.put b ob) { w with heap := w.heap.setIfInBounds b ob } := by
  have hlt : b < w.heap.size := (Array.getElem?_eq_some_iff.1 (hm.get _ _ hb)).1
  have hoth : ∀ k, k ≠ b → (w.heap.setIfInBounds b ob)[k]? = w.heap[k]? := fun k h => by rw [Array.getElem?_setIfInBounds_ne (Ne.symm h)]
  have hnb : ∀ {l c k}, lk O l = some c → blk E l c = some k → k ≠ b := fun {l c k} hl hk e => by
    have := hm.off l c k hl hk
    rw [e, hb] at this
    cases this
  refine ⟨?_, ?_, hm.sep, ?_, ?_, hm.os, hm.tape, hm.output, hm.lab, hm.labs, hm.pin, ?_, hm.kp⟩
  · intro l cs e hl
    show (w.heap.setIfInBounds b ob)[E.ρ l]? = _
    rw [hoth _ (hnb hl rfl)]
    exact hm.lit l cs e hl
  · intro l e sz m xs hl
    have hr := hm.row l e sz m xs hl
    refine ⟨hr.1, ?_⟩
    rcases hr.2 with h | ⟨g, cap, cur, h1, h2, h3, h4⟩
    · exact .inl h
    · refine .inr ⟨g, cap, cur, h1, h2, ?_, h4⟩
      show (w.heap.setIfInBounds b ob)[g]? = _
      rw [hoth _ (hnb hl (by simp [blk, h1, Value.ownBlock]))]
      exact h3
  · intro k ob' hk
    show (w.heap.setIfInBounds b ob)[k]? = _
    simp only [Vw.put] at hk
    by_cases h : k = b
    · rw [if_pos h] at hk
      subst h
      rw [← hk]
      simp [hlt]
    · rw [if_neg h] at hk
      rw [hoth _ h]
      exact hm.get k ob' hk
  · intro l c k hl hk
    have := hnb hl hk
    show (if _ then _ else _) = _
    rw [if_neg this]
    exact hm.off l c k hl hk
  · intro l k hl
    show k ≤ (w.heap.setIfInBounds b ob).size
    rw [Array.size_setIfInBounds]
    exact hm.big l k hl

theorem run_mapUpdate_set {w : World} {t kt et b : Nat} {kd : IntKind} {k : Int} {ks : List Int} (ht : P.underlying t = some (.map kt et)) (hk : P.underlying kt = some (.int kd)) (hn : ¬ k ∈ ks)
    (hb : w.heap[b]? = some (mapOb ks)) : (Instr.mapUpdate t (.map (some b)) (.int .i64 k) (.bool true)).run P w = .ok () { w with heap := w.heap.setIfInBounds b (mapOb (ks ++ [k])) } := by
  have hg : (getObj b).run P w = .ok (mapOb ks) w := by simp [getObj, Sem.run, hb, mapOb]
  have hf := findNow_set kd k ks 0 0
  have hc : ∀ e, (Instr.checkKey e 10000 kt (.int .i64 k)).run P w = .ok () w := fun e => by rw [show (10000 : Nat) = 9999 + 1 from rfl, Instr.checkKey]; simp [run_underlying hk]
  have h1 : (Instr.findKey kt (.int .i64 k) (mapEs ks 0)).run P w = .ok none w := by simp [Instr.findKey, run_underlying hk, hf.2 hn]
  have hs : ∀ ob, (setObj b ob).run P w = .ok () { w with heap := w.heap.setIfInBounds b ob } := fun ob => by simp [setObj, Sem.run, hb, mapOb]
  have he : ((mapEs ks 0).toArray.push ⟨.int .i64 k, .bool true, ks.length⟩) = (mapEs (ks ++ [k]) 0).toArray := by rw [mapEs_snoc]; simp
  have hob : Obj.map ((mapEs ks 0).toArray.push ⟨.int .i64 k, .bool true, ks.length⟩) (ks.length + 1) = mapOb (ks ++ [k]) := by rw [he]; simp [mapOb]
  rw [← hob]
  simp only [mapOb] at hg
  simp [Instr.mapUpdate, run_underlying ht, hg, hc, h1, hs]

def evalMu (F : Frame0) (p : List (Nat × Bool)) : Op → Option (Nat × Nat × Int)
  | .mapUpdate t x y z => match opv F p x, opv F p y, opv F p z with
    | some (.a (.v (.map (some b)))), some (.a (.v (.int .i64 k))), some (.a (.v (.bool true))) => some (t, b, k)
    | _, _, _ => none
  | _ => none

/-- A number put into the set. -/
theorem s_mapSet {p : List (Nat × Bool)} {t kt et b : Nat} {kd : IntKind} {k : Int} (ks : List Int) (hv : evalMu F p o.op = some (t, b, k)) (hd : o.dst = none) (ht : P.underlying t = some (.map kt et)) (hk : P.underlying kt = some (.int kd)) (hn : ¬ k ∈ ks)
    (hb : V.get b = some (mapOb ks)) : StepTo P o p n F C O nl V (σ := Unit) (fun _ => True) (fun _ => .a (.v undef)) (fun _ => O) nl (fun _ => V.put b (mapOb (ks ++ [k]))) := by
  constructor
  intro E a w hf hgv hm K Q hK
  unfold Oper.wp execOp
  cases hop : o.op with
  | mapUpdate t' x y z =>
    simp only [hop, evalMu] at hv
    split at hv
    · rename_i b' k' hx hy hz
      simp only [Option.some.injEq, Prod.mk.injEq] at hv
      obtain ⟨rfl, rfl, rfl⟩ := hv
      obtain ⟨h1, _⟩ := opv_sound hf hgv hx
      obtain ⟨h2, _⟩ := opv_sound hf hgv hy
      obtain ⟨h3, _⟩ := opv_sound hf hgv hz
      have e1 : a.eval x = .map (some b') := h1
      have e2 : a.eval y = .int .i64 k' := h2
      have e3 : a.eval z = .bool true := h3
      simp only [e1, e2, e3, Sem.run_bind, run_mapUpdate_set ht hk hn (hm.get _ _ hb), Result.andThen_ok, Sem.run_pure]
      have := hK () E _ trivial (fun _ _ => ⟨rfl, rfl⟩) (hm.putV hb _) rfl
      show K (a.put o.dst undef) _
      exact this
    · simp at hv
  | _ => simp [hop, evalMu] at hv
end
section
variable {P : Program} {ops : Array Oper} {Q : Exit → Act → World → Prop} {n : Nat} {F : Frame0} {C : List Nat} {O : Own} {nl : Nat} {V : Vw} {sp : List Nat} {O0 : Own} {nl0 : Nat} {V0 : Vw} {fuel : Nat} {listed : List Bool}

theorem h_three (i j k : Nat) (hr : Region.ready .any ops listed.toArray = [i, j, k]) (h1 : HI P ops Q sp O0 nl0 V0 fuel listed n F C O nl V i) (h2 : HI P ops Q sp O0 nl0 V0 fuel listed n F C O nl V j) (h3 : HI P ops Q sp O0 nl0 V0 fuel listed n F C O nl V k) : HJ P ops Q sp O0 nl0 V0 (fuel + 1) listed n F C O nl V :=
  h_ready [i, j, k] hr rfl (fun q hq => by
    simp only [List.mem_cons, List.not_mem_nil, or_false] at hq
    rcases hq with rfl | rfl | rfl
    · exact h1
    · exact h2
    · exact h3)

theorem h_four (i j k l : Nat) (hr : Region.ready .any ops listed.toArray = [i, j, k, l]) (h1 : HI P ops Q sp O0 nl0 V0 fuel listed n F C O nl V i) (h2 : HI P ops Q sp O0 nl0 V0 fuel listed n F C O nl V j) (h3 : HI P ops Q sp O0 nl0 V0 fuel listed n F C O nl V k) (h4 : HI P ops Q sp O0 nl0 V0 fuel listed n F C O nl V l) : HJ P ops Q sp O0 nl0 V0 (fuel + 1) listed n F C O nl V :=
  h_ready [i, j, k, l] hr rfl (fun q hq => by
    simp only [List.mem_cons, List.not_mem_nil, or_false] at hq
    rcases hq with rfl | rfl | rfl | rfl
    · exact h1
    · exact h2
    · exact h3
    · exact h4)
end
end Go.Eng
