/-
  Functions that defer one closure which recovers: their bodies walked with what is deferred beside the state; the closure's body walked behind its recover; leaving.
-/
import Derived.Test.YtmjdihpdlfidmaaEng40
import Derived.Recover
set_option linter.unusedSimpArgs false
set_option linter.unusedVariables false
set_option linter.unusedSectionVars false
namespace Go.Eng
open Go Go.RowKit

section
variable {P : Program} {ops : Array Oper} {Q0 Q1 : Exit → Act → World → Prop} {ds : List Deferred}

theorem oper_pl {o : Oper} (hQ : ∀ e a w, Q0 e a w → Q1 e (Act.more a ds) w) (hno : ∀ a w, ¬ Q0 .outgrown a w) {next next' : Act → World → Prop}
    (hn : ∀ a w, next a w → next' (Act.more a ds) w) {a : Act} {w : World} (h : o.wp P a w next Q0) : o.wp P (Act.more a ds) w next' Q1 := by
  unfold Oper.wp at h ⊢
  rw [Act.more_eval]
  have hp : ∀ v w, next (a.put o.dst v) w → next' ((Act.more a ds).put o.dst v) w := fun v w h => by rw [Act.more_put]; exact hn _ _ h
  generalize (execOp a.eval o).run P w = r at *
  cases r with
  | ok x w' =>
    cases x with
    | value v => exact hp _ _ h
    | skip => exact hp _ _ h
    | defer d =>
      have : ({ (Act.more a ds) with defers := d :: (Act.more a ds).defers } : Act).put o.dst undef = Act.more (({ a with defers := d :: a.defers } : Act).put o.dst undef) ds := by cases o.dst <;> rfl
      show next' _ _
      rw [this]
      exact hn _ _ h
    | enter f args =>
      refine Calls.mono h ?_
      rintro e w'' he
      cases e with
      | returned v => exact hp _ _ he
      | panicked ch => exact hQ _ _ _ he
      | outgrown => obtain ⟨a', w3, hq⟩ := he; exact (hno _ _ hq).elim
    | row r args =>
      refine Rows.mono h ?_
      intro v w'' he
      exact hp _ _ he
    | _ => exact h.elim
  | halt x w' =>
    cases x with
    | panic v => exact hQ _ _ _ h
    | _ => exact h.elim

theorem list_pl (hQ : ∀ e a w, Q0 e a w → Q1 e (Act.more a ds) w) (hno : ∀ a w, ¬ Q0 .outgrown a w) : ∀ (l : List Oper) (a : Act) (w : World), wpList P ops Q0 l a w → wpList P ops Q1 l (Act.more a ds) w
  | [], a, w, h => hQ _ _ _ h
  | o :: r, a, w, h => by
    unfold wpList at h ⊢
    show if Region.wanted o (yielded ops a.tmps) then _ else _
    by_cases hw : Region.wanted o (yielded ops a.tmps) = true
    · simp only [hw, if_true] at h ⊢
      rcases h with h | ⟨_, a', w', hq⟩
      · exact .inl (oper_pl hQ hno (fun a w h => list_pl hQ hno r a w h) h)
      · exact (hno _ _ hq).elim
    · simp only [hw, if_false] at h ⊢
      rw [Act.more_put]
      exact list_pl hQ hno r _ w h

theorem list_imp {l : List Oper} {a : Act} {w : World} (hq : ∀ e a w, Q0 e a w → Q1 e a w) (hno : ∀ a w, ¬ Q0 .outgrown a w) (h : wpList P ops Q0 l a w) : wpList P ops Q1 l a w := by
  have hm : ∀ a : Act, Act.more a [] = a := fun a => by cases a; simp [Act.more]
  have := list_pl (ds := []) (Q1 := Q1) (fun e a w h => by rw [hm]; exact hq e a w h) hno l a w h
  rwa [hm] at this

theorem wpOp_pl {i : Nat} (hQ : ∀ e a w, Q0 e a w → Q1 e (Act.more a ds) w) (hno : ∀ a w, ¬ Q0 .outgrown a w) {next next' : Act → World → Prop}
    (hn : ∀ a w, next a w → next' (Act.more a ds) w) {a : Act} {w : World} (h : wpOp P ops Q0 i next a w) : wpOp P ops Q1 i next' (Act.more a ds) w := by
  unfold wpOp at h ⊢
  cases ho : ops[i]? with
  | none => simp only [ho] at h ⊢; exact hn _ _ h
  | some o =>
    simp only [ho] at h ⊢
    show if Region.wanted o (yielded ops a.tmps) = true then _ else _
    by_cases hw : Region.wanted o (yielded ops a.tmps) = true
    · simp only [hw, if_true] at h ⊢
      rcases h with h | ⟨_, a', w', hq⟩
      · exact .inl (oper_pl hQ hno hn h)
      · exact (hno _ _ hq).elim
    · simp only [hw, if_false] at h ⊢
      rw [Act.more_put]
      exact hn _ _ h

theorem any_pl {md : Region.Mode} (hQ : ∀ e a w, Q0 e a w → Q1 e (Act.more a ds) w) (hno : ∀ a w, ¬ Q0 .outgrown a w) :
    ∀ (fuel : Nat) (listed : Array Bool) (a : Act) (w : World), wpAny P md ops Q0 fuel listed a w → wpAny P md ops Q1 fuel listed (Act.more a ds) w
  | 0, _, _, _, h => ⟨h.1, hQ _ _ _ h.2⟩
  | fuel + 1, _, _, _, h => ⟨fun hr => hQ _ _ _ (h.1 hr), fun i hi => wpOp_pl hQ hno (fun a w h => any_pl hQ hno fuel _ a w h) (h.2 i hi)⟩

/-- The operations behind a recover. -/
theorem ops_S {cs : List Frame} {Q : Exit → Act → List Frame → World → Prop} (hno : ∀ a w, ¬ Q .outgrown a cs w) : ∀ (l : List Oper) (js : List Nat) (a : Act) (w : World), js.map (fun i => ops[i]?) = l.map some →
    wpList P ops (fun e a w => Q e a cs w) l a w → wpOpsS P ops Q js a cs w
  | [], [], a, w, _, h => h
  | o :: r, j :: js, a, w, hj, h => by
    simp only [List.map_cons, List.cons.injEq] at hj
    unfold wpOpsS
    rw [hj.1]
    unfold wpList at h
    show if Region.wanted o (yielded ops a.tmps) = true then _ else _
    by_cases hw : Region.wanted o (yielded ops a.tmps) = true
    · simp only [hw, if_true] at h ⊢
      rcases h with h | ⟨_, a', w', hq⟩
      · unfold Oper.wp at h
        generalize (execOp a.eval o).run P w = x at h
        have ih := fun a w h => ops_S hno r js a w hj.2 h
        cases x with
        | ok y w' =>
          cases y with
          | value v => exact ih _ _ h
          | skip => exact ih _ _ h
          | defer d => exact ih _ _ h
          | enter f args =>
            refine Calls.mono h ?_
            rintro e w'' he
            cases e with
            | returned v => exact ih _ _ he
            | panicked ch => exact he
            | outgrown => obtain ⟨a', w3, hq⟩ := he; exact (hno _ _ hq).elim
          | row r args => exact Rows.mono h fun v w'' he => ih _ _ he
          | _ => exact h.elim
        | halt y w' =>
          cases y with
          | panic v => exact h
          | _ => exact h.elim
      · exact (hno _ _ hq).elim
    · simp only [hw, if_false] at h ⊢
      exact ops_S hno r js _ w hj.2 h
end

section
variable {P : Program} {tt : List (Nat × TI)} {ops : Array Oper} {Q : PostD} {o : Oper} {rest : List Oper} {ds : List Deferred}
  {n : Nat} {F : Frame0} {C : List Nat} {O : Go.Eng.Own} {nl : Nat} {V : Vw}

/-- Code with this deferred. -/
def PX (P : Program) (ds : List Deferred) (c : Code) (Q : PostD) : Act → World → Prop := fun a w => c.wp P (QH Q) { a with defers := ds } w

theorem p_seq {x y : Code} (h : KJ (PX P ds x (fun ds => Exit.then (PX P ds y Q) (Q ds))) n F C O nl V) : KJ (PX P ds (Code.seq x y) Q) n F C O nl V :=
  ⟨fun E a w hd hf hm => wp_seq (wp_mono (h.out E a w hd hf hm) (fun e a' w' hq => by cases e <;> exact hq))⟩

theorem p_region {id : Nat} {l : List Oper} (hno : NoOut Q) (h : KJ (wpList P l.toArray (RQ ds Q) l) n F C O nl V) : KJ (PX P ds (Code.region id l.toArray false) Q) n F C O nl V :=
  ⟨fun E a w hda hf hm => by
    have := list_pl (Q1 := QH Q) (ds := ds) (rq_in) (noOut_rq hno) l a w (h.out E a w hda hf hm)
    unfold PX
    rw [act_eta hda]
    exact wp_region_lit this⟩

theorem p_held {id : Nat} {l : List Oper} (hno : NoOut Q) (sp : List Nat) (O0 : Go.Eng.Own) (hmix : P.follows .mixedOrders = true) (hO : SubO O O0) (hok : okCels nl O0 = true)
    (h : TJ P l.toArray (RQ ds Q) sp O0 l.length (List.replicate l.length false) n F C O nl V) : KJ (PX P ds (Code.region id l.toArray true) Q) n F C O nl V := by
  constructor
  intro E a w hd hf hm
  have hm1 : Mem E O nl V { w with drawn := w.drawn + 1 } := hm.drawn _
  have h1 := h.out E a _ hd hf hm1 (hm1.weak hO hok (Vw.le.refl _))
  have h2 := wpAny_of_G (sp := sp) (M := fun w => Mem E O0 nl V w) _ _ _ _ h1
  have h3 := any_pl (Q1 := NoPanic (QH Q)) (ds := ds) (Q0 := NoPanic (RQ ds Q)) (fun e a w hq => by cases e <;> exact hq) (fun a w hq => hno _ _ _ hq) _ _ _ _ h2
  unfold PX
  rw [act_eta hd]
  exact wp_region_noPanic (wp_region_any hmix (by simpa using h3))

theorem p_ret (h : KJ (Q ds .ret) n F C O nl V) : KJ (PX P ds Code.ret Q) n F C O nl V :=
  ⟨fun E a w hd hf hm => wp_ret (qh_eta hd (h.out E a w hd hf hm))⟩

/-- One more is deferred. -/
theorem o_defer {d : Deferred} (hg : o.guard = none) (hdst : o.dst = none) (hr : ∀ (E : Env) (a : Act) (w : World), Frm E n F C nl a.tmps → Mem E O nl V w → (execOp a.eval o).run P w = .ok (.defer d) w)
    (h : KJ (Q (d :: ds) .normal) n F C O nl V) : KJ (wpList P ops (RQ ds Q) [o]) n F C O nl V :=
  ⟨fun E a w hd hf hm => by
    unfold wpList
    have hw : Region.wanted o (yielded ops a.tmps) = true := by simp [Region.wanted, hg]
    rw [hw]
    simp only [if_true]
    left
    unfold Oper.wp
    rw [hr E a w hf hm, Oper.upon_defer, hdst]
    have := h.out E a w hd hf hm
    obtain ⟨t, dd⟩ := a
    cases hd
    exact this⟩

def postP (P : Program) (fn : Func) (R : Ending → World → Prop) : PostD := fun ds e a w => bodyPostD P fn R e { a with defers := ds } w

theorem frmArgs {m : Nat} {E : Env} (ss : List SV) (hok : allOk' nl ss = true) (hle' : ss.length ≤ m) : Frm E m (argF ss 0) [] nl ((ss.map (SV.den E)).toArray ++ Array.replicate (m - (ss.map (SV.den E)).toArray.size) undef) := by
  refine ⟨by simp; omega, ?_, ?_, ?_⟩
  · intro t e ht
    obtain ⟨s, _, h2, rfl⟩ := lk_argF ss 0 t e ht
    simp only [Nat.sub_zero] at h2
    obtain ⟨hlt, hge⟩ := List.getElem?_eq_some_iff.1 h2
    simp [Array.getElem?_append, hlt, hge]
  · intro t e ht
    obtain ⟨s, _, h2, rfl⟩ := lk_argF ss 0 t e ht
    exact ⟨rfl, by simp⟩
  · intro t e ht _
    obtain ⟨s, _, h2, rfl⟩ := lk_argF ss 0 t e ht
    exact allOk'_iff.1 hok s (List.mem_of_getElem? h2)

theorem enterP {f : Nat} {fn : Func} {c : Code} {R : Ending → World → Prop} {w : World} {E : Env} (ss : List SV) (hfn : P.funcs[f]? = some fn) (hb : fn.body = some c) (hn : fn.ntmps = n)
    (hm : Mem E O nl V w) (hok : allOk' nl ss = true) (hle : Nat.ble ss.length n = true)
    (h : KJ (PX P [] c (postP P fn R)) n (argF ss 0) [] O nl V) : Calls P f (ss.map (SV.den E)).toArray w R := by
  refine calls_of_wp_defers hfn hb ?_
  have h1 := h.out E { tmps := (ss.map (SV.den E)).toArray ++ Array.replicate (fn.ntmps - (ss.map (SV.den E)).toArray.size) undef, defers := [] } w rfl
  refine wp_mono (h1 ?_ hm) (fun e a w hq => hq)
  have hle' : ss.length ≤ n := by simpa using hle
  subst hn
  exact frmArgs ss hok hle'

/-- A recovering closure's body, entered in the caller's labels. -/
def postQ (P : Program) (fn : Func) (R : World → Prop) : Exit → Act → World → Prop
  | .normal, a, w | .ret, a, w => a.defers = [] ∧ (∃ v, (results fn a.tmps).run P w = .ok v w) ∧ R w
  | _, _, _ => False

theorem enterS {f : Nat} {fn : Func} {id d : Nat} {oR : Oper} {l : List Oper} {y : Code} {R : World → Prop} {u u' : FrameMode} {x : Value} {w : World} {E : Env} (ss : List SV) (hfn : P.funcs[f]? = some fn)
    (hb : fn.body = some (.seq (.region id (oR :: l).toArray false) y)) (hn : fn.ntmps = n) (hm : Mem E O nl V w) (hok : allOk' nl ss = true) (hle : Nat.ble ss.length n = true)
    (hgR : oR.guard = none) (hdR : oR.dst = some d) (hdn : d < n) (hrR : ∀ ρ w, (execOp ρ oR).run P w = .ok .recover w)
    (hu : (u = .returning ∧ u' = .returning ∧ x = .nilIface) ∨ (∃ older, u = .panicking ({ v := x, recovered := false, goexit := false } :: older) ∧ u' = .panicking ({ v := x, recovered := true } :: older)))
    (h : KJ (wpList P (oR :: l).toArray (Exit.then (y.wp P (postQ P fn R)) (postQ P fn R)) l) n ((d, ⟨[], true, .a (.v x)⟩) :: argF ss 0) [] O nl V) :
    CallsD P f (ss.map (SV.den E)).toArray u w fun e u1 w' => (∃ v, e = .returned v) ∧ u1 = u' ∧ R w' := by
  refine callsD_of_wpS hfn hb fun c₀ cs hc => ?_
  let cs' : List Frame := { c₀ with mode := u' } :: cs
  have hpost : ∀ (e : Exit) (a : Act) (w : World), postQ P fn R e a w → bodyPostS P fn c₀ cs (fun e u1 w' => (∃ v, e = .returned v) ∧ u1 = u' ∧ R w') e a cs' w := by
    intro e a w hq
    cases e with
    | normal => obtain ⟨h1, ⟨v, h2⟩, h3⟩ := hq; exact ⟨h1, u', rfl, v, h2, ⟨v, rfl⟩, rfl, h3⟩
    | ret => obtain ⟨h1, ⟨v, h2⟩, h3⟩ := hq; exact ⟨h1, u', rfl, v, h2, ⟨v, rfl⟩, rfl, h3⟩
    | _ => exact hq.elim
  refine wpS_seq (wpS_region ?_)
  have hsz : (oR :: l).toArray.size = l.length + 1 := by simp
  rw [hsz, List.range_succ_eq_map]
  unfold wpOpsS
  have h0 : (oR :: l).toArray[0]? = some oR := rfl
  rw [h0]
  have hw : Region.wanted oR (yielded (oR :: l).toArray ((ss.map (SV.den E)).toArray ++ Array.replicate (fn.ntmps - (ss.map (SV.den E)).toArray.size) undef)) = true := by simp [Region.wanted, hgR]
  simp only [hw, if_true]
  rw [hrR]
  have hle' : ss.length ≤ n := by simpa using hle
  have hrec : (match recoverD (c₀ :: cs) with | some (v, cs1) => (v, cs1) | none => (.nilIface, c₀ :: cs)) = (x, cs') := by
    rcases hu with ⟨rfl, rfl, rfl⟩ | ⟨older, rfl, rfl⟩
    · simp only [recoverD, hc]
      show (Value.nilIface, c₀ :: cs) = (Value.nilIface, cs')
      simp only [cs']
      congr 2
      obtain ⟨⟩ := c₀
      cases hc
      rfl
    · simp only [recoverD, hc]
      rfl
  have hmain : wpOpsS P (oR :: l).toArray (Exit.thenS (y.wpS P (bodyPostS P fn c₀ cs (fun e u1 w' => (∃ v, e = .returned v) ∧ u1 = u' ∧ R w'))) (bodyPostS P fn c₀ cs (fun e u1 w' => (∃ v, e = .returned v) ∧ u1 = u' ∧ R w'))) (List.map Nat.succ (List.range l.length))
      (({ tmps := (ss.map (SV.den E)).toArray ++ Array.replicate (fn.ntmps - (ss.map (SV.den E)).toArray.size) undef, defers := [] } : Act).put oR.dst x) cs' w := by
    refine ops_S (fun a w hq => ?_) l _ _ _ ?_ ?_
    · obtain ⟨_, ⟨_, hq⟩, _⟩ := hq
      cases hq
    · rw [List.map_map]
      refine List.ext_getElem? fun i => ?_
      simp only [List.getElem?_map, Function.comp]
      by_cases hi : i < l.length
      · rw [List.getElem?_range hi]
        simp [List.getElem?_eq_getElem hi]
      · rw [List.getElem?_eq_none (by simpa using Nat.le_of_not_lt hi), List.getElem?_eq_none (by simpa using Nat.le_of_not_lt hi)]
        rfl
    · rw [hdR]
      have h1 := h.out E (({ tmps := (ss.map (SV.den E)).toArray ++ Array.replicate (fn.ntmps - (ss.map (SV.den E)).toArray.size) undef, defers := [] } : Act).put (some d) x) w rfl ?_ hm
      · refine list_imp ?_ (fun a w hq => hq.elim) h1
        intro e a w hq
        cases e with
        | normal => exact wpS_of_wp (wp_mono hq hpost)
        | exit i => exact hpost (.exit i) a w hq
        | goto i => exact hpost (.goto i) a w hq
        | ret => exact hpost .ret a w hq
        | panic c => exact hpost (.panic c) a w hq
        | outgrown => exact hpost .outgrown a w hq
      · subst hn
        exact Frm.put (p := []) (g := true) (s := .a (.v x)) (a := { tmps := (ss.map (SV.den E)).toArray ++ Array.replicate (fn.ntmps - (ss.map (SV.den E)).toArray.size) undef, defers := [] }) (frmArgs ss hok hle') hdn rfl rfl (by simp) (fun _ => rfl)
  revert hrec
  cases hq : recoverD (c₀ :: cs) with
  | none =>
    intro hrec
    obtain ⟨rfl, hcs⟩ := Prod.mk.inj hrec
    dsimp only
    rw [hcs]
    exact hmain
  | some p =>
    intro hrec
    obtain ⟨v, cs1⟩ := p
    obtain ⟨rfl, rfl⟩ := Prod.mk.inj hrec
    exact hmain

/-! Leaving. -/

/-- A call that panics. -/
theorem o_callP {p : List (Nat × Bool)} {g : Bool} {C' : List Nat} {Q0 : Exit → Act → World → Prop} {f : Nat} {ss : List SV} (ch : List PanicEntry) (hg : gd ops F C o.guard = some (p, g, C')) (hgt : g = true) (hv : evalC F p o.op = some (f, ss)) (hok : FnOk P f)
    (hcall : ∀ E w1, Mem E O nl V w1 → Calls P f (ss.map (SV.den E)).toArray w1 fun e w' => e = .panicked ch ∧ Below w1.heap.size w1 w')
    (h : KJ (Q0 (.panic ch)) n F C O nl V) : KJ (wpList P ops Q0 (o :: rest)) n F C O nl V := by
  subst hgt
  constructor
  intro E a w hdf hf hm
  obtain ⟨h1, h2, h3, h4⟩ := gd_sound hf hg
  unfold wpList
  rw [h1]
  simp only [if_true]
  left
  obtain ⟨hr, hss⟩ := evalC_sound h2 h3.symm hv hok w
  unfold Oper.wp
  rw [hr, Oper.upon_enter]
  refine (hcall E w hm).mono ?_
  rintro e w' ⟨rfl, hb⟩
  exact h.out E a w' hdf hf (hm.keep hb)

/-! Interface values, panics. -/

theorem y_mki {p : List (Nat × Bool)} {g : Bool} {t : Nat} {x : Operand} {s : SV} {v : Value} (hop : o.op = .makeInterface t x) (hv : opv F p x = some s) (hs : ∀ E, s.den E = v)
    (hrun : ∀ w, (Instr.makeInterface t v).run P w = .ok (.iface t v) w) : Yld P o n F C O nl V p g (.a (.v (.iface t v))) := by
  intro hgt E a w hf hgv hm
  refine ⟨?_, rfl⟩
  unfold Yv execOp
  rw [hop]
  simp only [(opv_sound hf hgv hv).1, hs]
  rw [Sem.run_bind, hrun]
  rfl

theorem y_tas {p : List (Nat × Bool)} {g : Bool} {t xt : Nat} {b : Bool} {x : Operand} {s s' : SV} {v r : Value} (hop : o.op = .typeAssert x xt t b) (hv : opv F p x = some s) (hs : ∀ E, s.den E = v)
    (hrun : ∀ w, (Instr.typeAssert v xt t b).run P w = .ok r w) (hs' : ∀ E, s'.den E = r) (hok : s'.ok nl = true) : Yld P o n F C O nl V p g s' := by
  intro hgt E a w hf hgv hm
  refine ⟨?_, hok⟩
  unfold Yv execOp
  rw [hop]
  simp only [(opv_sound hf hgv hv).1, hs, hs']
  rw [Sem.run_bind, hrun]
  rfl

theorem o_panic {Q0 : Exit → Act → World → Prop} {x : Operand} {s : SV} {t : Nat} {v : Value} (hop : o.op = .panic x) (hg : o.guard = none) (hv : opv F [] x = some s) (hs : ∀ E, s.den E = .iface t v)
    (h : KJ (Q0 (.panic [{ v := .iface t v, recovered := false }])) n F C O nl V) : KJ (wpList P ops Q0 (o :: rest)) n F C O nl V :=
  ⟨fun E a w hd hf hm => by
    unfold wpList
    have hw : Region.wanted o (yielded ops a.tmps) = true := by simp [Region.wanted, hg]
    rw [hw]
    simp only [if_true]
    left
    unfold Oper.wp execOp
    rw [hop]
    simp only [(opv_sound hf rfl hv).1, hs]
    exact h.out E a w hd hf hm⟩

/-! Leaving, the closure walked in its caller's labels. -/

def InlK (E : Env) (nl : Nat) (G : Go.Eng.Own → Nat → Vw → Prop) (w' : World) : Prop := ∃ E' O1 nl1 V1, E.agree nl E' ∧ nl ≤ nl1 ∧ Mem E' O1 nl1 V1 w' ∧ G O1 nl1 V1

/-- What is asked of the memory that the closure leaves. -/
def LeaveG (tt : List (Nat × TI)) (F : Frame0) (fn : Func) (R : Ending → World → Prop) (O1 : Go.Eng.Own) (nl1 : Nat) (V1 : Vw) : Prop :=
  ∃ ssr, evalRes tt F O1 fn.results.toList = some ssr ∧ ∀ E w, Mem E O1 nl1 V1 w → R (.returned (retV (ssr.map (SV.den E)))) w

theorem q_end {fnC : Func} {E0 : Env} {nl0 : Nat} {G : Go.Eng.Own → Nat → Vw → Prop} {ss : List SV} {e : Exit} (he : e = .normal ∨ e = .ret) (htt : TTok P tt) (hr : evalRes tt F O fnC.results.toList = some ss)
    (hk : KeepsIn E0 O nl0 nl0) (hnl : Nat.ble nl0 nl = true) (hG : G O nl V) : KJ (postQ P fnC (InlK E0 nl0 G) e) n F C O nl V := by
  constructor
  intro E a w hd hf hm
  obtain ⟨h3, h2⟩ := results_run htt hr hf hm
  have key : a.defers = [] ∧ (∃ v, (results fnC a.tmps).run P w = .ok v w) ∧ InlK E0 nl0 G w := ⟨hd, ⟨_, h3⟩, E, O, nl, V, hk.agree hm, by simpa using hnl, hm, hG⟩
  rcases he with rfl | rfl
  · exact key
  · exact key

theorem p_leaveI (htt : TTok P tt) {fn fnC : Func} {R : Ending → World → Prop} {fC m id d : Nat} {oR : Oper} {l : List Oper} {y : Code} {caps : Array Value} {u u' : FrameMode} {x : Value} {e : Exit} (ss : List SV)
    (he : ((e = .ret ∨ e = .normal) ∧ u = .returning) ∨ ∃ ch, e = .panic ch ∧ u = .panicking ch) (hs : settle u' = .returning)
    (hu : (u = .returning ∧ u' = .returning ∧ x = .nilIface) ∨ (∃ older, u = .panicking ({ v := x, recovered := false, goexit := false } :: older) ∧ u' = .panicking ({ v := x, recovered := true } :: older)))
    (hfnC : P.funcs[fC]? = some fnC) (hbC : fnC.body = some (.seq (.region id (oR :: l).toArray false) y)) (hnC : fnC.ntmps = m)
    (hcap : ∀ E w, Mem E O nl V w → (ss.map (SV.den E)).toArray = caps) (hss : allOk' nl ss = true) (hle : Nat.ble ss.length m = true)
    (hgR : oR.guard = none) (hdR : oR.dst = some d) (hdn : d < m) (hrR : ∀ ρ w, (execOp ρ oR).run P w = .ok .recover w)
    (hi : ∀ w, (invoke (.fn (.func fC) caps) #[]).run P w = .ok (.enter fC caps) w)
    (h : ∀ E, KJ (wpList P (oR :: l).toArray (Exit.then (y.wp P (postQ P fnC (InlK E nl (LeaveG tt F fn R)))) (postQ P fnC (InlK E nl (LeaveG tt F fn R)))) l) m ((d, ⟨[], true, .a (.v x)⟩) :: argF ss 0) [] (keepsOf E nl nl ++ O) (nl + nl) V) :
    KJ (postP P fn R [{ target := .fn (.func fC) caps, args := #[] }] e) n F C O nl V := by
  constructor
  intro E a w hda hf hm
  have key : Leaves P fn a.tmps R [{ target := .fn (.func fC) caps, args := #[] }] u w := by
    have hcd := enterS (R := InlK E nl (LeaveG tt F fn R)) (w := w) (E := E) ss hfnC hbC hnC (hm.addKeeps nl (Nat.le_refl _)) (allOk'_mono (by omega) hss) hle hgR hdR hdn hrR hu (h E)
    rw [hcap E w hm] at hcd
    refine leaves_cons ?_ (hi w) (hcd.mono ?_)
    · rcases he with ⟨_, rfl⟩ | ⟨ch, _, rfl⟩ <;> simp
    · rintro e1 u1 w' ⟨⟨v, rfl⟩, rfl, E', O1, nl1, V1, hag, hnl, hm', ssr, hr, hR⟩
      show Leaves P fn a.tmps R [] (settle u1) w'
      rw [hs]
      obtain ⟨h3, h2⟩ := results_run htt hr (hf.env hag hnl) hm'
      exact ⟨_, h3, hR E' w' hm'⟩
  rcases he with ⟨rfl | rfl, rfl⟩ | ⟨ch, rfl, rfl⟩
  · exact key
  · exact key
  · exact key

theorem o_deferF {x : Operand} {tys : Array TypeId} {s : SV} {f : Nat} {caps : Array Value} (hop : o.op = .defer { callee := .value x, args := #[], argTypes := tys }) (hg : o.guard = none) (hdst : o.dst = none) (hv : opv F [] x = some s)
    (hs : ∀ E w, Mem E O nl V w → s.den E = .func (.func f) #[] caps)
    (h : KJ (Q ({ target := .fn (.func f) caps, args := #[] } :: ds) .normal) n F C O nl V) : KJ (wpList P ops (RQ ds Q) [o]) n F C O nl V := by
  refine o_defer hg hdst (fun E a w hf hm => ?_) h
  unfold execOp
  rw [hop]
  simp only [resolve, (opv_sound hf rfl hv).1, hs E w hm]
  rw [Sem.run_bind]
  simp [Deferred.ofValue]
end
end Go.Eng
