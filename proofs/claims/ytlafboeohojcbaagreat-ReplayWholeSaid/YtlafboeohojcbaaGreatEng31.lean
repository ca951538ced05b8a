import Derived.Test.YtlafboeohojcbaaGreatEng27
import Derived.Lib.AppendZerosOnto
import Derived.Lib.Overlaps
/-
 Rows of one's own, element by element: plain facts.
-/
set_option linter.unusedSimpArgs false
set_option linter.unusedVariables false
namespace Go.Eng
open Go Go.RowKit
theorem overL_set {α : Type} {enc : α → List Value} {sz : Nat} (hl : ∀ x, (enc x).length = sz) : ∀ (l : List α) (k : Nat) (x : α), k < l.length → overL (k * sz) (enc x) (l.flatMap enc) = (l.set k x).flatMap enc
 | [], k, x, h => by simp at h
 | y :: r, 0, x, h => by
  simp only [overL, Nat.zero_mul, List.take_zero, List.nil_append, Nat.zero_add, hl, List.set_cons_zero, List.flatMap_cons]
  rw [List.drop_append_of_le_length (by rw [hl]; exact Nat.le_refl _), List.drop_of_length_le (by rw [hl]; exact Nat.le_refl _), List.nil_append]
 | y :: r, k + 1, x, h => by
  have ih := overL_set hl r k x (by simpa using h)
  simp only [overL, hl] at ih ⊢
  simp only [List.set_cons_succ, List.flatMap_cons, ← ih]
  rw [Nat.add_mul, Nat.one_mul, Nat.add_comm (k * sz) sz, List.take_append, List.drop_append, hl, List.take_of_length_le (by rw [hl]; omega), List.drop_of_length_le (by rw [hl]; omega)]
  rw [show sz + k * sz - sz = k * sz by omega, show sz + k * sz + sz - sz = k * sz + sz by omega]
  simp [List.append_assoc, Nat.add_comm]
theorem repZ_flat {α : Type} {enc : α → List Value} (x : α) : ∀ n, repZ n (enc x) = (List.replicate n x).flatMap enc
 | 0 => rfl
 | n + 1 => by rw [repZ, List.replicate_succ, List.flatMap_cons, repZ_flat x n]
def fillTo {α : Type} (f : Nat → α) (z : α) (n k : Nat) : List α := (List.range n).map fun j => if j < k then f j else z
theorem fillTo_length {α : Type} (f : Nat → α) (z : α) (n k : Nat) : (fillTo f z n k).length = n := by simp [fillTo]
theorem fillTo_zero {α : Type} (f : Nat → α) (z : α) (n : Nat) : fillTo f z n 0 = List.replicate n z := by
 apply List.ext_getElem
 · simp [fillTo]
 · intro i h1 h2; simp [fillTo]
theorem fillTo_all {α : Type} (f : Nat → α) (z : α) (n : Nat) : fillTo f z n n = (List.range n).map f := by
 apply List.ext_getElem
 · simp [fillTo]
 ·
  intro i h1 h2
  simp [fillTo] at h1 ⊢
  exact fun h => absurd h1 (by omega)
theorem fillTo_set {α : Type} (f : Nat → α) (z : α) (n k : Nat) (h : k < n) : (fillTo f z n k).set k (f k) = fillTo f z n (k + 1) := by
 apply List.ext_getElem
 · simp [fillTo]
 ·
  intro i h1 h2
  simp only [fillTo, List.getElem_set, List.getElem_map, List.getElem_range]
  by_cases hi : k = i
  · subst hi; simp
  ·
   rw [if_neg hi]
   by_cases h3 : i < k
   · rw [if_pos h3, if_pos (by omega)]
   · rw [if_neg h3, if_neg (by omega)]
section
variable {n : Nat} {F : Frame0} {C : List Nat} {O : Own} {nl : Nat} {V : Vw} {K : Act → World → Prop}
end
end Go.Eng

/-
 A slice that is read, cut off at its length, and what is appended to it; a slice compared with nil.
-/
set_option linter.unusedSimpArgs false
set_option linter.unusedVariables false
namespace Go.Eng
open Go Go.RowKit
section
variable {P : Program} {tt : List (Nat × TI)} {ops : Array Oper} {Q : Exit → Act → World → Prop} {o : Oper} {rest : List Oper}
 {n : Nat} {F : Frame0} {C : List Nat} {O : Own} {nl : Nat} {V : Vw} {K : Act → World → Prop}
def evalSl3 (tt : List (Nat × TI)) (F : Frame0) (p : List (Nat × Bool)) : Op → Option (Value × Int × Int × Nat)
 | .slice t x none (some hi) (some mx) => match opv F p x, opv F p hi, opv F p mx, lk tt t with
  | some (.a (.v v)), some (.a (.v (.int _ h))), some (.a (.v (.int _ m))), some ⟨_, _, _, _, .slice e⟩ => match lk tt e with
   | some ti => some (v, h, m, ti.size)
   | none => none
  | _, _, _, _ => none
 | _ => none
theorem y_sl3 (htt : TTok P tt) {p : List (Nat × Bool)} {g : Bool} {ad : Option Addr} {len cap : Nat} {hi mx : Int} {sz : Nat}
  (hv : evalSl3 tt F p o.op = some (.slice ad len cap, hi, mx, sz)) (hb : g = true → 0 ≤ hi ∧ hi ≤ mx ∧ mx ≤ cap) :
  Yld P o n F C O nl V p g (.a (.v (.slice ad hi.toNat mx.toNat))) := by
 intro hgt E a w hf hgv hm
 refine ⟨?_, rfl⟩
 unfold Yv execOp
 cases hop : o.op with
 | slice t x lo' hi' mx' =>
  cases lo' with
  | some lo' => simp [hop, evalSl3] at hv
  | none =>
  cases hi' with
  | none => simp [hop, evalSl3] at hv
  | some hi' =>
  cases mx' with
  | none => simp [hop, evalSl3] at hv
  | some mx' =>
  simp only [hop, evalSl3] at hv
  split at hv
  ·
   rename_i v' k1 h k2 m sz' by_ z fl e hx hh hm2 hti
   split at hv
   ·
    rename_i ti hte
    simp only [Option.some.injEq, Prod.mk.injEq] at hv
    obtain ⟨rfl, rfl, rfl, rfl⟩ := hv
    obtain ⟨h1, _⟩ := opv_sound hf hgv hx
    obtain ⟨h2, _⟩ := opv_sound hf hgv hh
    obtain ⟨h3, _⟩ := opv_sound hf hgv hm2
    obtain ⟨dd, hdd, hk, _⟩ := (htt _ _ hti).und
    have hdb : dd = .slice e := by cases dd <;> simp [kindOf] at hk; rw [hk]
    subst hdb
    obtain ⟨b0, b1, b2⟩ := hb hgt
    have e1 : a.eval x = .slice ad len cap := h1
    have e2 : a.eval hi' = .int k1 h := h2
    have e3 : a.eval mx' = .int k2 m := h3
    have q1 : (h.toNat : Int) = h := Int.toNat_of_nonneg b0
    have q2 : (m.toNat : Int) = m := Int.toNat_of_nonneg (by omega)
    have hrun : (Instr.slice t (.slice ad len cap) none (some (.int k1 h)) (some (.int k2 m))).run P w = .ok (.slice ad h.toNat m.toNat) w := by
     simp only [Instr.slice, Instr.sliceBounds, Sem.run_bind, run_underlying hdd, Result.andThen_ok, Sem.run_pure, (htt _ _ hte).sizeOf]
     simp [run_sliceBound, (by omega : 0 ≤ m), (by omega : m ≤ (cap : Int)), b0, q2, b1, Addr.add, (htt _ _ hte).sizeOf]
    simp only [Option.map_some, Option.map_none, e1, e2, e3, Instr.sliceAt, Sem.run_bind, run_underlying hdd, Result.andThen_ok, hrun, Sem.run_pure, SV.den, A.den]
   · simp at hv
  · simp at hv
 | _ => simp [hop, evalSl3] at hv
def evalAppV (tt : List (Nat × TI)) (F : Frame0) (p : List (Nat × Bool)) : Op → Option (Value × SV × Nat × Nat × Nat)
 | .call ⟨.builtin .append, args, ts⟩ => match args.toList, ts.toList with
  | [s, x], [t, t2] => match opv F p s, opv F p x, lk tt t, lk tt t2 with
   | some (.a (.v v)), some xs, some ⟨_, _, _, _, .slice e⟩, some t2i => match lk tt e with
    | some ti => bif sliceOrStr t2i.kind && Nat.blt 0 ti.bytes && Nat.beq ti.zero.length ti.size then some (v, xs, e, ti.size, ti.bytes) else none
    | _ => none
   | _, _, _, _ => none
  | _, _ => none
 | _ => none
end
end Go.Eng

/-
 Builtins on slices whose blocks are one's own and known by number: copies, appends; a library function without a body.
-/
set_option linter.unusedSimpArgs false
set_option linter.unusedVariables false
namespace Go.Eng
open Go Go.RowKit
section
variable {P : Program} {tt : List (Nat × TI)} {ops : Array Oper} {Q : Exit → Act → World → Prop} {o : Oper} {rest : List Oper}
 {n : Nat} {F : Frame0} {C : List Nat} {O : Own} {nl : Nat} {V : Vw} {K : Act → World → Prop}
theorem allOk_plain (nl : Nat) (l : List Value) : allOk nl (l.map A.v) = true := (den_plain E0 l).2 nl
def evalCpB (F : Frame0) (p : List (Nat × Bool)) : Op → Option (Nat × Nat × SV × SV)
 | .call ⟨.builtin .copy, args, ts⟩ => match args.toList, ts.toList with
  | [x, y], [t, t2] => match opv F p x, opv F p y with
   | some s, some s2 => some (t, t2, s, s2)
   | _, _ => none
  | _, _ => none
 | _ => none
def evalApB (F : Frame0) (p : List (Nat × Bool)) : Op → Option (Nat × Nat × SV × SV)
 | .call ⟨.builtin .append, args, ts⟩ => match args.toList, ts.toList with
  | [x, y], [t, t2] => match opv F p x, opv F p y with
   | some s, some s2 => some (t, t2, s, s2)
   | _, _ => none
  | _, _ => none
 | _ => none
def sliceTI (tt : List (Nat × TI)) (t : Nat) : Option (Nat × TI) :=
 match lk tt t with
 | some ⟨_, _, _, _, .slice e⟩ => (lk tt e).map fun ti => (e, ti)
 | _ => none
def evalCap (tt : List (Nat × TI)) (F : Frame0) (p : List (Nat × Bool)) : Op → Option Nat
 | .call ⟨.builtin .cap, args, ts⟩ => match args.toList, ts.toList with
  | [x], [t] => match opv F p x, lk tt t with
   | some (.a (.v (.slice _ _ c))), some ⟨_, _, _, _, .slice _⟩ => some c
   | _, _ => none
  | _, _ => none
 | _ => none
def evalLenP (tt : List (Nat × TI)) (F : Frame0) (p : List (Nat × Bool)) : Op → Option Nat
 | .call ⟨.builtin .len, args, ts⟩ => match args.toList, ts.toList with
  | [x], [t] => match opv F p x, lk tt t with
   | some (.a (.v (.slice _ c _))), some ⟨_, _, _, _, .slice _⟩ => some c
   | _, _ => none
  | _, _ => none
 | _ => none
theorem y_lenP (htt : TTok P tt) {p : List (Nat × Bool)} {g : Bool} {c : Nat} (hv : evalLenP tt F p o.op = some c) : Yld P o n F C O nl V p g (.a (.v (.int .i64 c))) := by
 intro hgt E a w hf hgv hm
 refine ⟨?_, rfl⟩
 unfold Yv execOp
 cases hop : o.op with
 | call cl =>
  obtain ⟨callee, args, ts⟩ := cl
  simp only [hop] at hv
  cases callee with
  | builtin b =>
   cases b with
   | len =>
    simp only [evalLenP] at hv
    split at hv
    ·
     rename_i x t hargs hts
     have ha : args = #[x] := by simpa using congrArg List.toArray hargs
     have ht : ts = #[t] := by simpa using congrArg List.toArray hts
     subst ha ht
     split at hv
     ·
      rename_i a1 c1 n1 sz by' z fl e hx hti
      simp only [Option.some.injEq] at hv
      subst hv
      obtain ⟨h1, _⟩ := opv_sound hf hgv hx
      obtain ⟨dd, hdd, hk, _⟩ := (htt _ _ hti).und
      have hdb : dd = .slice e := by cases dd <;> simp [kindOf] at hk; rw [hk]
      subst hdb
      have e1 : a.eval x = .slice a1 c1 n1 := h1
      simp [resolve, invoke, builtin, Builtin.len_, Builtin.lenOf, e1, run_underlying hdd, SV.den, A.den, goInt]
     · simp at hv
    · simp at hv
   | _ => simp [evalLenP] at hv
  | _ => simp [evalLenP] at hv
 | _ => simp [hop, evalLenP] at hv
def evalX (F : Frame0) (p : List (Nat × Bool)) : Op → Option (Nat × List SV)
 | .call ⟨.value (.func f), args, _⟩ => match evalArgs F p args.toList with
  | some ss => some (f, ss)
  | none => none
 | _ => none
end
end Go.Eng

/-
 Maps from numbers to truth, seen as memory that is told anew at each write: a set of numbers.
-/
set_option linter.unusedSimpArgs false
set_option linter.unusedVariables false
namespace Go.Eng
open Go Go.RowKit
theorem Vw.put_le {V V' : Vw} {b : Nat} {ob : Obj} (h : V.le V') (hb : V.get b = none) : V.le (V'.put b ob) :=
 ⟨fun k o hk => by
  show (if _ then _ else _) = _
  rw [if_neg (fun e => by rw [e, hb] at hk; cases hk)]
  exact h.get k o hk, h.os, h.tape, h.output⟩
theorem Vw.put_get (V : Vw) (b : Nat) (ob : Obj) : (V.put b ob).get b = some ob := by show (if _ then _ else _) = _; rw [if_pos rfl]
def mapEs : List Int → Nat → List MapEntry
 | [], _ => []
 | k :: r, n => ⟨.int .i64 k, .bool true, n⟩ :: mapEs r (n + 1)
def mapOb (ks : List Int) : Obj := .map (mapEs ks 0).toArray ks.length
section
variable {P : Program} {tt : List (Nat × TI)} {ops : Array Oper} {Q : Exit → Act → World → Prop} {o : Oper} {rest : List Oper}
 {n : Nat} {F : Frame0} {C : List Nat} {O : Own} {nl : Nat} {V : Vw} {K : Act → World → Prop}
def evalLk (F : Frame0) (p : List (Nat × Bool)) : Op → Option (Nat × Nat × Int)
 | .lookup t x y false => match opv F p x, opv F p y with
  | some (.a (.v (.map (some b)))), some (.a (.v (.int .i64 k))) => some (t, b, k)
  | _, _ => none
 | _ => none
def evalMkMap : Op → Option Nat
 | .makeMap t none => some t
 | _ => none
theorem s_mkMap {p : List (Nat × Bool)} {t : Nat} (hv : evalMkMap o.op = some t) :
  StepTo P o p n F C O nl V (σ := Nat) (fun b => V.get b = none) (fun b => .a (.v (.map (some b)))) (fun _ => O) nl (fun b => V.put b (mapOb [])) := by
 constructor
 intro E a w hf hgv hm K Q hK
 unfold Oper.wp execOp
 cases hop : o.op with
 | makeMap t' r =>
  cases r with
  | some r => simp [hop, evalMkMap] at hv
  | none =>
   have hno : V.get w.heap.size = none := by
    cases hq : V.get w.heap.size with
    | none => rfl
    | some ob =>
     have := (Array.getElem?_eq_some_iff.1 (hm.get _ _ hq)).1
     omega
   have hr : (Instr.makeMap t' none).run P w = .ok (.map (some w.heap.size)) (w.alloc (mapOb [])) := by
    simp [Instr.makeMap, mapOb, mapEs]
   simp only [Option.map_none, Sem.run_bind, hr, Result.andThen_ok, Sem.run_pure]
   exact hK w.heap.size E _ hno (fun _ _ => ⟨rfl, rfl⟩) (hm.ext (alloc_below w _) (hm.vext _)) rfl
 | _ => simp [hop, evalMkMap] at hv
theorem Mem.putV {E : Env} {w : World} (hm : Mem E O nl V w) {b : Nat} {o0 : Obj} (hb : V.get b = some o0) (ob : Obj) : Mem E O nl (V.put b ob) { w with heap := w.heap.setIfInBounds b ob } := by
 have hlt : b < w.heap.size := (Array.getElem?_eq_some_iff.1 (hm.get _ _ hb)).1
 have hoth : ∀ k, k ≠ b → (w.heap.setIfInBounds b ob)[k]? = w.heap[k]? := fun k h => by rw [Array.getElem?_setIfInBounds_ne (Ne.symm h)]
 have hnb : ∀ {l c k}, lk O l = some c → blk E l c = some k → k ≠ b := fun {l c k} hl hk e => by
  have := hm.off l c k hl hk
  rw [e, hb] at this
  cases this
 refine ⟨?_, ?_, hm.sep, ?_, ?_, hm.os, hm.tape, hm.output, hm.lab, hm.labs, hm.pin, ?_, hm.kp⟩
 ·
  intro l cs e hl
  show (w.heap.setIfInBounds b ob)[E.ρ l]? = _
  rw [hoth _ (hnb hl rfl)]
  exact hm.lit l cs e hl
 ·
  intro l e sz m xs hl
  have hr := hm.row l e sz m xs hl
  refine ⟨hr.1, ?_⟩
  rcases hr.2 with h | ⟨g, cap, cur, h1, h2, h3, h4⟩
  · exact .inl h
  ·
   refine .inr ⟨g, cap, cur, h1, h2, ?_, h4⟩
   show (w.heap.setIfInBounds b ob)[g]? = _
   rw [hoth _ (hnb hl (by simp [blk, h1, Value.ownBlock]))]
   exact h3
 ·
  intro k ob' hk
  show (w.heap.setIfInBounds b ob)[k]? = _
  simp only [Vw.put] at hk
  by_cases h : k = b
  ·
   rw [if_pos h] at hk
   subst h
   rw [← hk]
   simp [hlt]
  ·
   rw [if_neg h] at hk
   rw [hoth _ h]
   exact hm.get k ob' hk
 ·
  intro l c k hl hk
  have := hnb hl hk
  show (if _ then _ else _) = _
  rw [if_neg this]
  exact hm.off l c k hl hk
 ·
  intro l k hl
  show k ≤ (w.heap.setIfInBounds b ob).size
  rw [Array.size_setIfInBounds]
  exact hm.big l k hl
def evalMu (F : Frame0) (p : List (Nat × Bool)) : Op → Option (Nat × Nat × Int)
 | .mapUpdate t x y z => match opv F p x, opv F p y, opv F p z with
  | some (.a (.v (.map (some b)))), some (.a (.v (.int .i64 k))), some (.a (.v (.bool true))) => some (t, b, k)
  | _, _, _ => none
 | _ => none
end
section
variable {P : Program} {ops : Array Oper} {Q : Exit → Act → World → Prop} {n : Nat} {F : Frame0} {C : List Nat} {O : Own} {nl : Nat} {V : Vw} {sp : List Nat} {O0 : Own} {nl0 : Nat} {V0 : Vw} {fuel : Nat} {listed : List Bool}
theorem h_three (i j k : Nat) (hr : Region.ready .any ops listed.toArray = [i, j, k]) (h1 : HI P ops Q sp O0 nl0 V0 fuel listed n F C O nl V i) (h2 : HI P ops Q sp O0 nl0 V0 fuel listed n F C O nl V j) (h3 : HI P ops Q sp O0 nl0 V0 fuel listed n F C O nl V k) : HJ P ops Q sp O0 nl0 V0 (fuel + 1) listed n F C O nl V :=
 h_ready [i, j, k] hr rfl (fun q hq => by
  simp only [List.mem_cons, List.not_mem_nil, or_false] at hq
  rcases hq with rfl | rfl | rfl
  · exact h1
  · exact h2
  · exact h3)
theorem h_four (i j k l : Nat) (hr : Region.ready .any ops listed.toArray = [i, j, k, l]) (h1 : HI P ops Q sp O0 nl0 V0 fuel listed n F C O nl V i) (h2 : HI P ops Q sp O0 nl0 V0 fuel listed n F C O nl V j) (h3 : HI P ops Q sp O0 nl0 V0 fuel listed n F C O nl V k) (h4 : HI P ops Q sp O0 nl0 V0 fuel listed n F C O nl V l) : HJ P ops Q sp O0 nl0 V0 (fuel + 1) listed n F C O nl V :=
 h_ready [i, j, k, l] hr rfl (fun q hq => by
  simp only [List.mem_cons, List.not_mem_nil, or_false] at hq
  rcases hq with rfl | rfl | rfl | rfl
  · exact h1
  · exact h2
  · exact h3
  · exact h4)
end
end Go.Eng
