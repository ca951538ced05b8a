import Derived.Test.YtlafboeohojcbaaGreatEng40
import Derived.Recover
/-
 Functions that defer one closure which recovers: their bodies walked with what is deferred beside the state; the closure's body walked behind its recover; leaving.
-/
set_option linter.unusedSimpArgs false
set_option linter.unusedVariables false
set_option linter.unusedSectionVars false
namespace Go.Eng
open Go Go.RowKit
section
variable {P : Program} {ops : Array Oper} {Q0 Q1 : Exit → Act → World → Prop} {ds : List Deferred}
end
section
variable {P : Program} {tt : List (Nat × TI)} {ops : Array Oper} {Q : PostD} {o : Oper} {rest : List Oper} {ds : List Deferred}
 {n : Nat} {F : Frame0} {C : List Nat} {O : Go.Eng.Own} {nl : Nat} {V : Vw}
def PX (P : Program) (ds : List Deferred) (c : Code) (Q : PostD) : Act → World → Prop := fun a w => c.wp P (QH Q) { a with defers := ds } w
def postP (P : Program) (fn : Func) (R : Ending → World → Prop) : PostD := fun ds e a w => bodyPostD P fn R e { a with defers := ds } w
def postQ (P : Program) (fn : Func) (R : World → Prop) : Exit → Act → World → Prop
 | .normal, a, w | .ret, a, w => a.defers = [] ∧ (∃ v, (results fn a.tmps).run P w = .ok v w) ∧ R w
 | _, _, _ => False
/-! Leaving. -/
/-! Interface values, panics. -/
/-! Leaving, the closure walked in its caller's labels. -/
def InlK (E : Env) (nl : Nat) (G : Go.Eng.Own → Nat → Vw → Prop) (w' : World) : Prop := ∃ E' O1 nl1 V1, E.agree nl E' ∧ nl ≤ nl1 ∧ Mem E' O1 nl1 V1 w' ∧ G O1 nl1 V1
def LeaveG (tt : List (Nat × TI)) (F : Frame0) (fn : Func) (R : Ending → World → Prop) (O1 : Go.Eng.Own) (nl1 : Nat) (V1 : Vw) : Prop :=
 ∃ ssr, evalRes tt F O1 fn.results.toList = some ssr ∧ ∀ E w, Mem E O1 nl1 V1 w → R (.returned (retV (ssr.map (SV.den E)))) w
end
end Go.Eng

/-
 Calls that make memory of their own and show new memory besides; rows of one's own whose slices are known as plain values.
-/
set_option linter.unusedSimpArgs false
set_option linter.unusedVariables false
namespace Go.Eng
open Go Go.RowKit
def NewSl (base : Nat) (v : Value) : Prop := ∀ k, v.ownBlock = some k → base ≤ k
theorem NewSl.nil (base : Nat) (n c : Nat) : NewSl base (.slice none n c) := fun k h => by cases h
def NewIn (base : Nat) (W V : Vw) : Prop := ∀ k o, base ≤ k → W.get k = some o → V.get k = some o
theorem IsSl.newIn {base : Nat} {W V : Vw} {v : Value} {sz n : Nat} {xs : List Value} (h : IsSl W v sz n xs) (hn : NewSl base v) (hV : NewIn base W V) : IsSl V v sz n xs := by
 refine ⟨h.1, ?_⟩
 rcases h.2 with h1 | ⟨b, off, cap, cs, e, fz, h1, h2, h3, h4⟩
 · exact .inl h1
 · exact .inr ⟨b, off, cap, cs, e, fz, h1, hV _ _ (hn b (by rw [h1]; rfl)) h2, h3, h4⟩
theorem SlOf.newIn {α : Type} {base : Nat} {W V : Vw} {enc : α → List Value} {sz : Nat} {v : Value} {l : List α} (h : SlOf W enc sz v l) (hn : NewSl base v) (hV : NewIn base W V) : SlOf V enc sz v l :=
 ⟨h.sl.newIn hn hV, h.len⟩
theorem NewIn.grown {w w' : World} {V W : Vw} {E : Env} {O : Own} {nl : Nat} (hm : Mem E O nl W w') : NewIn w.heap.size W (V.grown w w') := by
 intro k o hk h
 simp only [Vw.grown]
 rw [if_neg (by omega)]
 exact hm.get _ _ h
section
variable {P : Program} {tt : List (Nat × TI)} {n : Nat} {F : Frame0} {C : List Nat} {O : Own} {nl : Nat} {V : Vw} {o : Oper}
theorem Mem.seen {E : Env} {w : World} {V' : Vw} (hm : Mem E O nl V w) (hle : V.le V') (hget : ∀ k o, V'.get k = some o → w.heap[k]? = some o) (hoff : ∀ l c k, lk O l = some c → blk E l c = some k → V'.get k = none) : Mem E O nl V' w :=
 ⟨hm.lit, hm.row, hm.sep, hget, hoff, hm.os.trans hle.os.symm, hm.tape.trans hle.tape.symm, hm.output.trans hle.output.symm, hm.lab, hm.labs, hm.pin, hm.big, hm.kp⟩
def Vw.over (V : Vw) (base : Nat) (W : Vw) : Vw := ⟨fun k => if k < base then V.get k else W.get k, V.os, V.tape, V.output⟩
def MakesV (w : World) {σ : Type} (Φ : σ → Vw → Prop) (s : σ → SV) (O2 : σ → Own) (k2 : Nat) (ex : Ending) (w' : World) : Prop :=
 ∃ x W E', ex = .returned ((s x).den E') ∧ (s x).ok k2 = true ∧ w.heap.size ≤ w'.heap.size ∧ Mem E' (O2 x) k2 W w' ∧ (vw w).le W ∧ ∀ V', NewIn w.heap.size W V' → Φ x V'
end
def VRow (V : Vw) (v : Value) (e sz m : Nat) (xs : List Value) : Prop :=
 xs.length = m * sz ∧ ((v = .slice none 0 0 ∧ m = 0) ∨ ∃ g cap cur, v = .slice (some ⟨g, 0, none⟩) m cap ∧ V.get g = some (.cells cur e (0, 0)) ∧ m ≤ cap ∧ cap ≤ maxLen ∧ cur.size = cap * sz ∧ cur.toList.take (m * sz) = xs)
theorem VRow.mono {V V' : Vw} (h : V.le V') {v : Value} {e sz m : Nat} {xs : List Value} (hs : VRow V v e sz m xs) : VRow V' v e sz m xs :=
 ⟨hs.1, hs.2.imp id fun ⟨g, cap, cur, h1, h2, h3⟩ => ⟨g, cap, cur, h1, h.get _ _ h2, h3⟩⟩
theorem VRow.newIn {base : Nat} {W V : Vw} {v : Value} {e sz m : Nat} {xs : List Value} (h : VRow W v e sz m xs) (hn : NewSl base v) (hV : NewIn base W V) : VRow V v e sz m xs :=
 ⟨h.1, h.2.imp id fun ⟨g, cap, cur, h1, h2, h3⟩ => ⟨g, cap, cur, h1, hV _ _ (hn g (by rw [h1]; rfl)) h2, h3⟩⟩
theorem VRow.del {V : Vw} {v : Value} {e sz m : Nat} {xs : List Value} {u : Option Nat} (h : VRow V v e sz m xs) (hd : ∀ k, v.ownBlock = some k → u ≠ some k) : VRow (V.delO u) v e sz m xs := by
 refine ⟨h.1, h.2.imp id fun ⟨g, cap, cur, h1, h2, h3⟩ => ⟨g, cap, cur, h1, ?_, h3⟩⟩
 have := hd g (by rw [h1]; rfl)
 cases u with
 | none => exact h2
 | some b =>
  show (if _ then _ else _) = _
  rw [if_neg (fun e => this (by rw [e]))]
  exact h2
theorem VRow.own {V : Vw} {v : Value} {e sz m : Nat} {xs : List Value} {w : World} (h : VRow V v e sz m xs) (hV : ∀ k o, V.get k = some o → w.heap[k]? = some o) : w.ownsRow 0 e sz v m xs :=
 ⟨h.1, h.2.imp id fun ⟨g, cap, cur, h1, h2, h3⟩ => ⟨g, cap, cur, h1, Nat.zero_le _, hV _ _ h2, h3⟩⟩
theorem VRow.sl {V : Vw} {v : Value} {e sz m : Nat} {xs : List Value} (h : VRow V v e sz m xs) : IsSl V v sz m xs := by
 refine ⟨h.1, ?_⟩
 rcases h.2 with ⟨rfl, h1⟩ | ⟨g, cap, cur, rfl, hg, hnc, _, hcs, htake⟩
 · exact .inl ⟨none, 0, rfl, h1⟩
 ·
  refine .inr ⟨g, 0, cap, cur, e, (0, 0), rfl, hg, ?_, ?_, hnc⟩
  ·
   rw [hcs]
   have := Nat.mul_le_mul_right sz hnc
   omega
  · rw [List.drop_zero, htake]
theorem VRow.seen {V : Vw} {v : Value} {e sz m k : Nat} {xs : List Value} (h : VRow V v e sz m xs) (hk : v.ownBlock = some k) : (V.get k).isSome = true := by
 rcases h.2 with ⟨rfl, h1⟩ | ⟨g, cap, cur, rfl, hg, _⟩
 · cases hk
 ·
  have : g = k := by simpa [Value.ownBlock] using hk
  rw [← this, hg]; rfl
section
variable {P : Program} {tt : List (Nat × TI)} {n : Nat} {F : Frame0} {C : List Nat} {O : Own} {nl : Nat} {V : Vw} {o : Oper}
end
end Go.Eng

/-
 Calls that write one block of one's own and make memory that is seen; what has come since, where one block was turned.
-/
set_option linter.unusedSimpArgs false
set_option linter.unusedVariables false
namespace Go.Eng
open Go Go.RowKit
theorem Vext.grownT {V : Vw} {w w' : World} {b : Nat} (hV : V.le ((vw w).del b)) (ht : Touch (· = b) w w') : Vext w.heap.size V (V.grown w w') w' := by
 have hget : ∀ k ob, V.get k = some ob → k ≠ b ∧ w.heap[k]? = some ob := fun k ob h => by
  have h1 := hV.get k ob h
  change (if _ then _ else _) = _ at h1
  split at h1
  · cases h1
  · rename_i hk; exact ⟨hk, h1⟩
 refine ⟨⟨fun k ob h => ?_, rfl, rfl, rfl⟩, fun k ob h => ?_⟩
 ·
  simp only [Vw.grown]
  have h2 := (Array.getElem?_eq_some_iff.1 (hget k ob h).2).1
  rw [if_pos h2]; exact h
 ·
  simp only [Vw.grown] at h
  split at h
  ·
   rename_i hlt
   obtain ⟨h1, h2⟩ := hget k ob h
   exact ⟨by rw [ht.block k hlt h1]; exact h2, .inl h⟩
  · exact ⟨h, .inr (by omega)⟩
section
variable {P : Program} {tt : List (Nat × TI)} {n : Nat} {F : Frame0} {C : List Nat} {O : Own} {nl : Nat} {V : Vw} {o : Oper}
theorem s_callWV {p : List (Nat × Bool)} {f : Nat} {ss : List SV} {σ : Type} (Φ : σ → Vw → Prop) (s : σ → SV) (l e : Nat) {cs : List A} (cs' : σ → List A) (hv : evalC F p o.op = some (f, ss)) (hok : FnOk P f)
  (hl : lk O l = some (.lit cs e)) (hcs : ∀ x, allOk nl (cs' x) = true) (hs : ∀ x, (s x).ok nl = true)
  (hcall : ∀ E w, Mem E O nl V w → w.heap[E.ρ l]? = some (.cells (cs.map (A.den E)).toArray e (0, 0)) → Calls P f (ss.map (SV.den E)).toArray w fun ex w' => ∃ x V', ex = .returned ((s x).den E) ∧ Touch (· = E.ρ l) w w' ∧
   w'.heap[E.ρ l]? = some (.cells ((cs' x).map (A.den E)).toArray e (0, 0)) ∧ Vext w.heap.size V V' w' ∧ Φ x V') :
  StepTo P o p n F C O nl V (σ := σ × Vw) (fun q => V.le q.2 ∧ Φ q.1 q.2) (fun q => s q.1) (fun q => (l, .lit (cs' q.1) e) :: O) nl (fun q => q.2) := by
 constructor
 intro E a w hf hgv hm K Q hK
 obtain ⟨hr, _⟩ := evalC_sound hf hgv hv hok w
 unfold Oper.wp
 rw [hr, Oper.upon_enter]
 refine (hcall E w hm (hm.lit _ _ _ hl)).mono ?_
 rintro ex w' ⟨x, V', rfl, ht, hget, hx, hΦ⟩
 exact hK (x, V') E w' ⟨hx.le, hΦ⟩ (fun _ _ => ⟨rfl, rfl⟩) (hm.regiveV hl (hcs x) ht hget hx) (hs x)
end
end Go.Eng

/-
 Calls that write one block that is seen, told by its number.
-/
set_option linter.unusedSimpArgs false
set_option linter.unusedVariables false
namespace Go.Eng
open Go Go.RowKit
theorem Vw.le_put {V V' : Vw} {b : Nat} {ob : Obj} (h : V.le V') (hb : V.get b = none) : V.le (V'.put b ob) := by
 refine ⟨fun k o hk => ?_, h.os, h.tape, h.output⟩
 show (if _ then _ else _) = _
 rw [if_neg (fun e => by subst e; rw [hb] at hk; cases hk)]
 exact h.get k o hk
section
variable {P : Program} {tt : List (Nat × TI)} {n : Nat} {F : Frame0} {C : List Nat} {O : Own} {nl : Nat} {V : Vw} {o : Oper}
theorem Mem.turned {E : Env} {w w' : World} (hm : Mem E O nl V w) {b : Nat} {ob ob' : Obj} (hb : V.get b = some ob) (ht : Touch (· = b) w w') (hb' : w'.heap[b]? = some ob') : Mem E O nl (V.put b ob') w' := by
 have hne : ∀ l c k, lk O l = some c → blk E l c = some k → k ≠ b := fun l c k hl hk e => by
  subst e
  have := hm.off l c k hl hk
  rw [hb] at this; cases this
 have hsame : ∀ l c k, lk O l = some c → blk E l c = some k → w'.heap[k]? = w.heap[k]? := fun l c k hl hk => ht.block k (hm.lt hl hk) (hne l c k hl hk)
 refine ⟨fun l cs e hl => ?_, fun l e sz m xs hl => ownsRow_block (hm.row _ _ _ _ _ hl) (fun k hk => hsame l _ k hl (by simpa [blk] using hk)), hm.sep, fun k o hk => ?_, fun l c k hl hk => ?_, ht.os.trans hm.os, ht.tape.trans hm.tape, ht.output.trans hm.output, hm.lab, hm.labs, hm.pin, fun l k hl => Nat.le_trans (hm.big l k hl) ht.size, hm.kp⟩
 ·
  rw [hsame l _ (E.ρ l) hl rfl]
  exact hm.lit l cs e hl
 ·
  change (if _ then _ else _) = _ at hk
  split at hk
  ·
   rename_i e
   subst e
   cases hk
   exact hb'
  ·
   rename_i e
   have h1 := hm.get k o hk
   rw [ht.block k (Array.getElem?_eq_some_iff.1 h1).1 e]
   exact h1
 ·
  show (if _ then _ else _) = _
  rw [if_neg (hne l c k hl hk)]
  exact hm.off l c k hl hk
theorem s_callVw {p : List (Nat × Bool)} {f : Nat} {ss : List SV} {σ : Type} (Φ : σ → Prop) (s : σ → SV) (b : Nat) (ob' : σ → Obj) {ob : Obj} (hb : V.get b = some ob) (hv : evalC F p o.op = some (f, ss)) (hok : FnOk P f) (hs : ∀ x, (s x).ok nl = true)
  (hcall : ∀ E w, Mem E O nl V w → Calls P f (ss.map (SV.den E)).toArray w fun ex w' => ∃ x, ex = .returned ((s x).den E) ∧ Touch (· = b) w w' ∧ w'.heap[b]? = some (ob' x) ∧ Φ x) :
  StepTo P o p n F C O nl V (σ := σ) Φ s (fun _ => O) nl (fun x => V.put b (ob' x)) := by
 constructor
 intro E a w hf hgv hm K Q hK
 obtain ⟨hr, _⟩ := evalC_sound hf hgv hv hok w
 unfold Oper.wp
 rw [hr, Oper.upon_enter]
 refine (hcall E w hm).mono ?_
 rintro ex w' ⟨x, rfl, ht, hget, hΦ⟩
 exact hK x E w' hΦ (fun _ _ => ⟨rfl, rfl⟩) (hm.turned hb ht hget) (hs x)
end
end Go.Eng
