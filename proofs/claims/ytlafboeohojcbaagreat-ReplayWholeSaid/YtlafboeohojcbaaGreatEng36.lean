import Derived.Test.YtlafboeohojcbaaGreatEng33
import Derived.Lib.AppendZeros
/-
 Rows of one's own made shorter: pieces put in within their room, cells cleared.
-/
set_option linter.unusedSimpArgs false
set_option linter.unusedVariables false
namespace Go.Eng
open Go Go.RowKit
section
variable {P : Program} {tt : List (Nat × TI)} {ops : Array Oper} {Q : Exit → Act → World → Prop} {o : Oper} {rest : List Oper}
 {n : Nat} {F : Frame0} {C : List Nat} {O : Own} {nl : Nat} {V : Vw} {K : Act → World → Prop}
def evalClB (F : Frame0) (p : List (Nat × Bool)) : Op → Option (Nat × SV)
 | .call ⟨.builtin .clear, args, ts⟩ => match args.toList, ts.toList with
  | [x], [t] => (opv F p x).map fun s => (t, s)
  | _, _ => none
 | _ => none
def capTo : Value → Nat → Value
 | .slice a n _, c => .slice a n c
 | v, _ => v
def evalSl4 (tt : List (Nat × TI)) (F : Frame0) (p : List (Nat × Bool)) : Op → Option (Value × Int × Int × Int × Nat)
 | .slice t x (some lo) (some hi) (some mx) => match opv F p x, opv F p lo, opv F p hi, opv F p mx, lk tt t with
  | some (.a (.v v)), some (.a (.v (.int _ l))), some (.a (.v (.int _ h))), some (.a (.v (.int _ m))), some ⟨_, _, _, _, .slice e⟩ => match lk tt e with
   | some ti => some (v, l, h, m, ti.size)
   | none => none
  | _, _, _, _, _ => none
 | _ => none
end
end Go.Eng

/-
 Methods of a record of one's own that has three rows: what such a method is handed, and what it leaves, in the caller's labels.
-/
set_option linter.unusedSimpArgs false
set_option linter.unusedVariables false
namespace Go.Eng
open Go Go.RowKit
structure Rw where
 e : Nat
 sz : Nat
 n : Nat
 xs : List Value
abbrev Rw.cel (r : Rw) : Cel := .row r.e r.sz r.n r.xs
abbrev bkO (e0 : Nat) (gs : List Value) (R1 R2 R3 : Rw) : Own := [(0, .lit (.row 1 :: .row 2 :: .row 3 :: gs.map .v) e0), (1, R1.cel), (2, R2.cel), (3, R3.cel)]
def bkE (E : Env) (lo a b c : Nat) : Env := ⟨fun _ => E.ρ lo, fun l => if l = 1 then E.κ a else if l = 2 then E.κ b else E.κ c⟩
def bkV (w : World) (E : Env) (lo a b c : Nat) : Vw :=
 ⟨fun k => if k = E.ρ lo ∨ (E.κ a).ownBlock = some k ∨ (E.κ b).ownBlock = some k ∨ (E.κ c).ownBlock = some k then none else w.heap[k]?, w.os, w.tape, w.output⟩
def bkL (lo a b c l : Nat) : Nat := if l = 0 then lo else if l = 1 then a else if l = 2 then b else c
section
variable {O : Own} {nl : Nat} {V : Vw} {E : Env} {w w' : World}
abbrev bkE' (E E' : Env) (nl : Nat) : Env := ((E.setκ nl (E'.κ 1)).setκ (nl + 1) (E'.κ 2)).setκ (nl + 2) (E'.κ 3)
abbrev bkO' (O : Own) (lo a b c nl e0 : Nat) (gs : List Value) (R1 R2 R3 : Rw) : Own :=
 (lo, .lit (.row nl :: .row (nl + 1) :: .row (nl + 2) :: gs.map .v) e0) :: (nl, R1.cel) :: (nl + 1, R2.cel) :: (nl + 2, R3.cel) :: (a, .gone) :: (b, .gone) :: (c, .gone) :: O
end
section
variable {P : Program} {tt : List (Nat × TI)} {ops : Array Oper} {Q : Exit → Act → World → Prop} {o : Oper} {rest : List Oper}
 {n : Nat} {F : Frame0} {C : List Nat} {O : Own} {nl : Nat} {V : Vw} {K : Act → World → Prop}
def BookSpec (P : Program) (f e0 : Nat) (gs : List Value) (ss : List SV) (R1 R2 R3 : Rw) {σ : Type} (Φ : σ → Prop) (ret : σ → Value) (Q1 Q2 Q3 : σ → Rw) : Prop :=
 ∀ E w V, Mem E (bkO e0 gs R1 R2 R3) 4 V w → Calls P f (ss.map (SV.den E)).toArray w fun ex w' => ∃ x, ex = .returned (ret x) ∧ Φ x ∧ w.heap.size ≤ w'.heap.size ∧ ∃ E', E'.ρ 0 = E.ρ 0 ∧ Mem E' (bkO e0 gs (Q1 x) (Q2 x) (Q3 x)) 4 V w'
end
section
variable {P : Program} {tt : List (Nat × TI)} {ops : Array Oper} {Q : Exit → Act → World → Prop} {o : Oper} {rest : List Oper}
 {n : Nat} {F : Frame0} {C : List Nat} {O : Own} {nl : Nat} {V : Vw} {K : Act → World → Prop} {E : Env} {w w' : World}
theorem Vw.le.none {V V' : Vw} (hle : V.le V') {k : Nat} (h : V'.get k = Option.none) : V.get k = Option.none := by
 cases hv : V.get k with
 | none => rfl
 | some o => rw [hle.get _ _ hv] at h; cases h
end
section
variable {P : Program} {tt : List (Nat × TI)} {ops : Array Oper} {Q : Exit → Act → World → Prop} {o : Oper} {rest : List Oper}
 {n : Nat} {F : Frame0} {C : List Nat} {O : Own} {nl : Nat} {V : Vw} {K : Act → World → Prop} {E : Env} {w w' : World}
def BkPost (E : Env) (lo e0 : Nat) (gs : List Value) (Ψ : Value → Prop) (Q1 Q2 Q3 : Rw) (V : Vw) (w : World) (ex : Ending) (w' : World) : Prop :=
 ∃ v, ex = .returned v ∧ Ψ v ∧ w.heap.size ≤ w'.heap.size ∧ ∃ E', E'.ρ 0 = E.ρ lo ∧ Mem E' (bkO e0 gs Q1 Q2 Q3) 4 V w'
end
/-! Drawn regions: operations that look at no memory are taken at any time. -/
section
variable {P : Program} {md : Region.Mode} {ops : Array Oper} {Q : Exit → Act → World → Prop} {sp : List Nat} {M : World → Prop}
theorem wpAnyG_firstR {i : Nat} {oi : Oper} {v : Value} (hi : ops[i]? = some oi) (hsel : ∀ (j : Nat) (o : Oper) cs b, ops[j]? = some o → o.op ≠ .select cs b)
  (hQ : ∀ c a w, Q (.panic c) (a.put oi.dst v) w → Q (.panic c) a w) (hisp : i ∉ sp) :
  ∀ (fuel : Nat) (listed : Array Bool) (a : Act) (w : World),
   (∀ j oj, ops[j]? = some oj → j ≠ i → listed.getD j true = false → (∀ e ∈ oj.after, Region.binds md e = true → e.on ≠ i) → oi.apart ops oj = true) →
   i ∈ Region.ready md ops listed → YieldsIf P ops (fun _ => True) oi v a → (spoiledB sp listed = false → M w) →
   wpAnyG P md ops Q sp M fuel (listed.setIfInBounds i true) (a.put oi.dst v) w → wpAnyG P md ops Q sp M (fuel + 1) listed a w := by
 intro fuel
 induction fuel with
 | zero =>
  intro listed a w _ hr hy hM H
  refine ⟨fun h => (by rw [h] at hr; cases hr), fun j hj => ?_⟩
  by_cases hji : j = i
  · subst hji; exact hy.wpOp hi trivial ⟨fun hs => hM (by rwa [spoiled_set hisp] at hs), H⟩
  ·
   have := ready_mono hj hji
   rw [H.1] at this
   cases this
 | succ fuel ih =>
  intro listed a w hfree hr hy hM H
  refine ⟨fun h => (by rw [h] at hr; cases hr), fun j hj => ?_⟩
  by_cases hji : j = i
  · subst hji; exact hy.wpOp hi trivial ⟨fun hs => hM (by rwa [spoiled_set hisp] at hs), H⟩
  ·
   have h1 := H.2 j (ready_mono hj hji)
   obtain ⟨hjun, oj, hoj, hall⟩ := mem_ready.1 hj
   have hnot : ∀ e ∈ oj.after, Region.binds md e = true → e.on ≠ i := fun e he hb heq => by
    have h1 := hall e he hb
    have h0 := (mem_ready.1 hr).1
    rw [heq] at h1
    rcases Nat.lt_or_ge i listed.size with h' | h'
    · simp [h'] at h0 h1; rw [h0] at h1; cases h1
    · simp [Array.getElem?_eq_none h'] at h1
   have h2 := wpOp_putIf hoj (hfree j oj hoj hji hjun hnot) (fun cs b => hsel i oi cs b hi) (fun cs b => hsel j oj cs b hoj) hQ hy h1
   have hfree' : ∀ k ok, ops[k]? = some ok → k ≠ i → (listed.setIfInBounds j true).getD k true = false →
     (∀ e ∈ ok.after, Region.binds md e = true → e.on ≠ i) → oi.apart ops ok = true := fun k ok hk hki hun hno => by
    refine hfree k ok hk hki ?_ hno
    by_cases hjk : j = k
    · subst hjk; exact hjun
    · rw [getD_set_ne true hjk] at hun; exact hun
   refine wpOp_mono (fun a' w' h3 => ?_) h2
   have hM' : spoiledB sp (listed.setIfInBounds j true) = false → M w' := fun hs => h3.2.1 (by
    rw [Array.setIfInBounds_comm _ _ (Ne.symm hji), spoiled_set hisp]; exact hs)
   refine ⟨hM', ih (listed.setIfInBounds j true) a' w' hfree' (ready_mono hr (Ne.symm hji)) h3.1 hM' ?_⟩
   rw [Array.setIfInBounds_comm _ _ hji]
   exact h3.2.2
end
def takeR (ops : Array Oper) (sp : List Nat) (listed : Array Bool) (i : Nat) : Bool :=
 (Region.ready .any ops listed).contains i && Region.free .any ops listed i && Region.noSelect ops && !(memN i sp)
section
variable {P : Program} {ops : Array Oper} {Q : Exit → Act → World → Prop} {sp : List Nat} {O0 : Own} {nl0 : Nat} {V0 : Vw} {fuel : Nat} {listed : List Bool} {o : Oper} {n : Nat} {F : Frame0} {C : List Nat} {O : Own} {nl : Nat} {V : Vw}
theorem t_takeR (i : Nat) {p : List (Nat × Bool)} {g : Bool} {C' : List Nat} {s : SV} {d : Nat} (hi : ops[i]? = some o)
  (htk : takeR ops sp listed.toArray i = true)
  (hg : gd ops F C o.guard = some (p, g, C')) (hd : o.dst = some d) (hc : (Nat.blt d n && !(memN d C')) = true)
  (hy : ∀ V', Yld P o n F C' [] nl V' p g s) (hs : s.ok nl = true)
  (next : TJ P ops Q sp O0 fuel (setL listed i) n ((d, ⟨p, g, s⟩) :: F) C' O nl V) : TJ P ops Q sp O0 (fuel + 1) listed n F C O nl V := by
 simp only [takeR, Bool.and_eq_true, Bool.not_eq_true'] at htk
 obtain ⟨⟨⟨hr, hfr⟩, hsel⟩, hns⟩ := htk
 constructor
 intro E a w hdf hf hm hm0
 obtain ⟨h1, h2, h3, h4⟩ := gd_sound hf hg
 simp only [Bool.and_eq_true, blt_iff, Bool.not_eq_true'] at hc
 refine wpAnyG_firstR (v := if g then s.den E else undef) hi (Region.noSelect_spec hsel) (fun c a w h => h.elim) (fun hm => by rw [memN_iff.2 hm] at hns; cases hns) fuel listed.toArray a w (Region.free_spec hi hfr) (by simpa using hr) ?_ (fun _ => hm0) ?_
 ·
  cases g with
  | true =>
   refine .inl ⟨h1, fun w' _ => ?_⟩
   have := (hy (vw w') rfl E a w' h2 h3.symm (mem0 E nl w')).1
   simpa [Yv] using this
  | false => exact .inr ⟨h1, by simp⟩
 ·
  rw [← setL_eq, hd]
  exact next.out E _ w (by simp [Act.put, hdf]) (Frm.put (p := p) (g := g) h2 hc.1 hc.2 h3 h4 (fun _ => hs)) hm hm0
theorem h_takeR (i : Nat) {p : List (Nat × Bool)} {g : Bool} {C' : List Nat} {s : SV} {d : Nat} (hi : ops[i]? = some o)
  (htk : takeR ops sp listed.toArray i = true)
  (hg : gd ops F C o.guard = some (p, g, C')) (hd : o.dst = some d) (hc : (Nat.blt d n && !(memN d C')) = true)
  (hy : ∀ V', Yld P o n F C' [] nl V' p g s) (hs : s.ok nl = true)
  (next : HJ P ops Q sp O0 nl0 V0 fuel (setL listed i) n ((d, ⟨p, g, s⟩) :: F) C' O nl V) : HJ P ops Q sp O0 nl0 V0 (fuel + 1) listed n F C O nl V := by
 simp only [takeR, Bool.and_eq_true, Bool.not_eq_true'] at htk
 obtain ⟨⟨⟨hr, hfr⟩, hsel⟩, hns⟩ := htk
 constructor
 intro E0 E a w hag hdf hf hm hM
 obtain ⟨h1, h2, h3, h4⟩ := gd_sound hf hg
 simp only [Bool.and_eq_true, blt_iff, Bool.not_eq_true'] at hc
 refine wpAnyG_firstR (v := if g then s.den E else undef) hi (Region.noSelect_spec hsel) (fun c a w h => h.elim) (fun hm => by rw [memN_iff.2 hm] at hns; cases hns) fuel listed.toArray a w (Region.free_spec hi hfr) (by simpa using hr) ?_ hM ?_
 ·
  cases g with
  | true =>
   refine .inl ⟨h1, fun w' _ => ?_⟩
   have := (hy (vw w') rfl E a w' h2 h3.symm (mem0 E nl w')).1
   simpa [Yv] using this
  | false => exact .inr ⟨h1, by simp⟩
 ·
  rw [← setL_eq, hd]
  exact next.out E0 E _ w hag (by simp [Act.put, hdf]) (Frm.put (p := p) (g := g) h2 hc.1 hc.2 h3 h4 (fun _ => hs)) hm (fun hs => hM (spoiled_sub hs))
end
section
variable {P : Program} {tt : List (Nat × TI)} {ops : Array Oper} {Q : Exit → Act → World → Prop} {o : Oper} {rest : List Oper}
 {n : Nat} {F : Frame0} {C : List Nat} {O : Own} {nl : Nat} {V : Vw} {K : Act → World → Prop} {sp : List Nat} {O0 : Own} {nl0 : Nat} {V0 : Vw} {fuel : Nat} {listed : List Bool}
end
section
variable {P : Program} {tt : List (Nat × TI)} {ops : Array Oper} {Q : Exit → Act → World → Prop} {o : Oper} {rest : List Oper}
 {n : Nat} {F : Frame0} {C : List Nat} {O : Own} {nl : Nat} {V : Vw} {K : Act → World → Prop}
end
section
variable {P : Program} {tt : List (Nat × TI)} {ops : Array Oper} {Q : Exit → Act → World → Prop} {o : Oper} {rest : List Oper}
 {n : Nat} {F : Frame0} {C : List Nat} {O : Own} {nl : Nat} {V : Vw} {K : Act → World → Prop}
def evalBsA (tt : List (Nat × TI)) (F : Frame0) (O : Own) (p : List (Nat × Bool)) : Op → Option (Nat × List A × Nat)
 | .buildSlice t len parts => match lk tt t with
  | some ⟨_, _, _, _, .slice e⟩ => match lk tt e with
   | some ti => bif Nat.ble (len * ti.size) 16777216 && Nat.beq ti.zero.length ti.size then
     (match buildL F O p (elFlds e ti.size len 0) parts.toList ((repZ len ti.zero).map .v) with
      | some cs => some (len, cs, e)
      | none => none) else none
   | none => none
  | _ => none
 | _ => none
end
/-! A record made by a call, in the caller's labels. -/
abbrev bkN (O : Own) (nl e0 : Nat) (gs : List Value) (R1 R2 R3 : Rw) : Own :=
 (nl, .lit (.row (nl + 1) :: .row (nl + 2) :: .row (nl + 3) :: gs.map .v) e0) :: (nl + 1, R1.cel) :: (nl + 2, R2.cel) :: (nl + 3, R3.cel) :: O
abbrev bkEN (E E' : Env) (nl : Nat) : Env := (((E.setρ nl (E'.ρ 0)).setκ (nl + 1) (E'.κ 1)).setκ (nl + 2) (E'.κ 2)).setκ (nl + 3) (E'.κ 3)
section
variable {P : Program} {n : Nat} {F : Frame0} {C : List Nat} {O : Own} {nl : Nat} {V : Vw} {E E' : Env} {w w' : World} {o : Oper}
/-! All new memory seen. -/
def Vw.grown (V : Vw) (w w' : World) : Vw := ⟨fun k => if k < w.heap.size then V.get k else w'.heap[k]?, V.os, V.tape, V.output⟩
theorem Vw.le.lt (hV : V.le (vw w)) {k : Nat} {ob : Obj} (h : V.get k = some ob) : k < w.heap.size := by
 have := hV.get _ _ h
 exact (Array.getElem?_eq_some_iff.1 this).1
theorem Vext.grown (hV : V.le (vw w)) (hb : Below w.heap.size w w') : Vext w.heap.size V (V.grown w w') w' := by
 refine ⟨⟨fun k ob h => ?_, rfl, rfl, rfl⟩, fun k ob h => ?_⟩
 ·
  simp only [Vw.grown]
  rw [if_pos (hV.lt h)]; exact h
 ·
  simp only [Vw.grown] at h
  split at h
  ·
   rename_i hlt
   exact ⟨by rw [hb.block k hlt]; exact hV.get _ _ h, .inl h⟩
  · exact ⟨h, .inr (by omega)⟩
theorem SlOf.grown {α : Type} {enc : α → List Value} {L : List α} {e sz : Nat} {v : Value} (V : Vw) (h : w'.ownsRow w.heap.size e sz v L.length (L.flatMap enc)) (he : ∀ x, (enc x).length = sz) : SlOf (V.grown w w') enc sz v L :=
 ⟨ownsRow_sl ⟨h.1, h.2.imp id (fun ⟨g, cap, cur, a, _, c⟩ => ⟨g, cap, cur, a, Nat.zero_le _, c⟩)⟩ (fun k hk => by
  simp only [Vw.grown]
  rw [if_neg]
  have := (h.lt k hk).1
  omega), he⟩
end
section
variable {P : Program} {tt : List (Nat × TI)} {n : Nat} {F : Frame0} {C : List Nat} {O : Own} {nl : Nat} {V : Vw} {o : Oper}
def evalBar (tt : List (Nat × TI)) (F : Frame0) (O : Own) (p : List (Nat × Bool)) : Op → Option (List A)
 | .build t parts => match lk tt t with
  | some ⟨_, _, z, _, .arr m e⟩ => match lk tt e with
   | some ti => buildL F O p (elFlds e ti.size m 0) parts.toList (z.map .v)
   | none => none
  | _ => none
 | _ => none
theorem y_bar (htt : TTok P tt) {p : List (Nat × Bool)} {g : Bool} {cs : List A} (hv : evalBar tt F O p o.op = some cs) : Yld P o n F C O nl V p g (.agg cs) := by
 intro hgt E a w hf hg hm
 unfold Yv execOp
 cases hop : o.op with
 | build t parts =>
  simp only [hop, evalBar] at hv
  split at hv
  ·
   rename_i sz by_ z flds m e hti
   split at hv
   ·
    rename_i ti hte
    have hT := htt _ _ hti
    obtain ⟨d, hd, hk, _⟩ := hT.und
    have hst : d = .array m e := by
     cases d <;> first | (simp [kindOf] at hk; obtain ⟨rfl, rfl⟩ := hk; rfl) | (simp [kindOf] at hk)
    subst hst
    obtain ⟨zv, hz, hzc⟩ := hT.zeroValue w
    obtain ⟨hfill, hok⟩ := fill_sound (E := E) hf hm hg (place := fun i => some (i * ti.size, ti.size)) (fun i q h => by rw [elFlds_get _ _ _ _ _ _ h]; simp) hv ((den_plain E z).2 nl)
    refine ⟨?_, by simpa [SV.ok] using hok⟩
    have hzc' : zv.cells = z.toArray := by apply Array.ext'; simpa using hzc
    rw [(den_plain E z).1] at hfill
    have hparts : (parts.map fun (q : Nat × Operand) => (q.1, a.eval q.2)).toList = parts.toList.map fun q => (q.1, a.eval q.2) := by simp
    have hrun : (Instr.build t (parts.map fun (q : Nat × Operand) => (q.1, a.eval q.2))).run P w = .ok (.agg (cs.map (A.den E)).toArray) w := by
     simp only [Instr.build, Sem.run_bind, hz, Result.andThen_ok, run_underlying hd, (htt _ _ hte).sizeOf, hzc', hparts, hfill, Sem.run_pure]
    have hrun' : (Instr.build t (parts.map fun x => match x with | (i, x) => (i, a.eval x))).run P w = .ok (.agg (cs.map (A.den E)).toArray) w := hrun
    simp only [Sem.run_bind, hrun', Result.andThen_ok, Sem.run_pure, SV.den]
   · simp at hv
  · simp at hv
 | _ => simp [hop, evalBar] at hv
end
end Go.Eng

/-
 What a call has made, taken over whole: its own memory in the caller's labels.
-/
set_option linter.unusedSimpArgs false
set_option linter.unusedVariables false
namespace Go.Eng
open Go Go.RowKit
def A.sh (d : Nat) : A → A
 | .v x => .v x
 | .ptr l o => .ptr (l + d) o
 | .fn f caps => .fn f (caps.map fun p => (p.1 + d, p.2))
 | .row l => .row (l + d)
 | .el x k => .el x k
 | .rel l k => .rel (l + d) k
def SV.sh (d : Nat) : SV → SV
 | .a x => .a (x.sh d)
 | .agg cs => .agg (cs.map (A.sh d))
 | .tup cs => .tup (cs.map (A.sh d))
def Cel.sh (d : Nat) : Cel → Cel
 | .lit cs e => .lit (cs.map (A.sh d)) e
 | .row e sz n xs => .row e sz n xs
 | .gone => .gone
 | .pin m b => .pin (m + d) b
 | .size k => .size k
 | .keep m b v => .keep (m + d) b v
def shO (d : Nat) : Own → Own
 | [] => []
 | (l, c) :: r => (l + d, c.sh d) :: shO d r
def joinE (E E' : Env) (nl : Nat) : Env := ⟨fun l => if l < nl then E.ρ l else E'.ρ (l - nl), fun l => if l < nl then E.κ l else E'.κ (l - nl)⟩
section
variable {P : Program} {n : Nat} {F : Frame0} {C : List Nat} {O O2 : Own} {nl k2 : Nat} {V : Vw} {E E' : Env} {w w' : World} {o : Oper}
def Makes (w : World) {σ : Type} (Φ : σ → Prop) (s : σ → SV) (O2 : σ → Own) (k2 : Nat) (ex : Ending) (w' : World) : Prop :=
 ∃ x E', ex = .returned ((s x).den E') ∧ Φ x ∧ (s x).ok k2 = true ∧ w.heap.size ≤ w'.heap.size ∧ Mem E' (O2 x) k2 (vw w) w'
end
end Go.Eng
