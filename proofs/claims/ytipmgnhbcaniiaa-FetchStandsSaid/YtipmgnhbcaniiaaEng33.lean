/-
  Ranges over functions, further: an iterator's call of what it is handed; the range itself.
-/
import Derived.Test.YtipmgnhbcaniiaaEng32
import Derived.RangeFuncFrom
set_option linter.unusedSimpArgs false
set_option linter.unusedVariables false
namespace Go.Eng
open Go Go.RowKit

section
variable {P : Program} {tt : List (Nat × TI)} {ops : Array Oper} {Q : PostD} {o : Oper} {rest : List Oper} {ro : Option Nat} {m : Nat} {ds : List Deferred}
  {n : Nat} {F : Frame0} {C : List Nat} {O : Own} {nl : Nat} {V : Vw} {K : Act → World → Prop}

def spl : Nat → List Oper → List Oper → Option (List Oper × Oper × List Oper)
  | _, _, [] => none
  | 0, acc, o :: r => some (acc.reverse, o, r)
  | k + 1, acc, o :: r => spl k (o :: acc) r

/-- The post of what stands ahead of the call of a round, in one region. -/
def RY (P : Program) (ro : Option Nat) (m : Nat) (ops : Array Oper) (ds : List Deferred) (Q : PostD) (l : List Oper) : Exit → Act → World → Prop :=
  Exit.then (fun a w => wpListIn (Rd ro) m P ops (QH Q) l (Act.more a ds) w) (RQ ds Q)

/-! The range. -/

open Classical in
/-- All that lies there but for one's own. -/
noncomputable def fullV (E : Env) (O : Own) (w : World) : Vw := ⟨fun k => if ∃ l c, lk O l = some c ∧ blk E l c = some k then none else w.heap[k]?, w.os, w.tape, w.output⟩

def KpV (V : Vw) (W W' : World) : Prop := V.le (vw W) → V.le (vw W')

/-- The end of a round: off the body's end, or by the jump jx. -/
def RB {α σ τ : Type} (nl : Nat) (V Vf : Vw) (sz : Nat) (Ox : σ → Own) (Inv : List α → σ → Prop) (Oy : τ → Own) (InvX : List α → τ → Prop) (jx : Code) (pre : List α) : PostD := fun _ e _ w =>
  match e with
  | .normal => ∃ s E, Inv pre s ∧ Mem E ((nl, .size sz) :: Ox s) (nl + 1) V w ∧ Vf.le (vw w)
  | .ret => jx = .ret ∧ ∃ y E, InvX pre y ∧ Mem E ((nl, .size sz) :: Oy y) (nl + 1) V w ∧ Vf.le (vw w)
  | .exit id => jx = .exit id ∧ ∃ y E, InvX pre y ∧ Mem E ((nl, .size sz) :: Oy y) (nl + 1) V w ∧ Vf.le (vw w)
  | _ => False

theorem Mem.drop {E : Env} {w : World} {k : Nat} (hm : Mem E ((nl, .size k) :: O) (nl + 1) V w) (hok : okCels nl O = true) : Mem E O nl V w := by
  have h1 : ∀ {l : Nat} {c : Cel}, lk O l = some c → lk ((nl, Cel.size k) :: O) l = some c := fun {l c} h => by
    rw [lk_other _ _ (fun e => by have := (okCels_spec hok h).1; omega)]
    exact h
  refine ⟨fun l cs e h => hm.lit _ _ _ (h1 h), fun l e sz k xs h => hm.row _ _ _ _ _ (h1 h), fun l l' c c' k h h' => hm.sep l l' c c' k (h1 h) (h1 h'), hm.get, fun l c k h hb => hm.off l c k (h1 h) hb, hm.os, hm.tape, hm.output,
    fun l c h => (okCels_spec hok h).1, fun l cs e h => (okCels_spec hok h).2.1 cs e rfl, fun l m b h => ⟨(hm.pin _ _ _ (h1 h)).1, (okCels_spec hok h).2.2.1 m b rfl⟩, fun l k h => hm.big _ _ (h1 h),
    fun l m b v h => ⟨(hm.kp _ _ _ _ (h1 h)).1, (hm.kp _ _ _ _ (h1 h)).2.1, (okCels_spec hok h).2.2.2 m b v rfl⟩⟩

/-! What one has written out in plain values: blocks of known cells go over into the view, rows stay one's own. -/

def A.pl (E : Env) (x : A) : A := .v (x.den E)
def SV.pl (E : Env) : SV → SV
  | .a x => .a (x.pl E)
  | .agg cs => .agg (cs.map (A.pl E))
  | .tup xs => .tup (xs.map (A.pl E))

theorem SV.pl_den (E E' : Env) (x : SV) : (x.pl E).den E' = x.den E := by
  have h : ∀ cs : List A, (cs.map (A.pl E)).map (A.den E') = cs.map (A.den E) := fun cs => by
    rw [List.map_map]; rfl
  cases x with
  | a x => rfl
  | agg cs => simp only [SV.pl, SV.den, h]
  | tup cs => simp only [SV.pl, SV.den, h]

theorem SV.pl_ok (E : Env) (nl : Nat) (x : SV) : (x.pl E).ok nl = true := by
  have h : ∀ cs : List A, allOk nl (cs.map (A.pl E)) = true := fun cs => allOk_iff.2 (fun y hy => by
    obtain ⟨z, _, rfl⟩ := List.mem_map.1 hy
    rfl)
  cases x with
  | a x => rfl
  | agg cs => exact h cs
  | tup cs => exact h cs

def plF (E : Env) : List (Nat × SV) → List (Nat × SV)
  | [] => []
  | (t, x) :: r => (t, x.pl E) :: plF E r

theorem Frm.pl {E E' : Env} {nl' : Nat} {tmps : Array Value} (l : List (Nat × SV)) (hf : Frm E n (mkF l) [] nl tmps) : Frm E' n (mkF (plF E l)) [] nl' tmps := by
  have key : ∀ (l : List (Nat × SV)) {t : Nat} {e : Ent}, lk (mkF (plF E l)) t = some e → ∃ e0, lk (mkF l) t = some e0 ∧ e = ⟨e0.path, e0.g, e0.x.pl E⟩ := by
    intro l
    induction l with
    | nil => intro t e h; simp [plF, mkF, lk] at h
    | cons q r ih =>
      intro t e h
      obtain ⟨u, x⟩ := q
      simp only [plF, mkF, lk_cons] at h ⊢
      by_cases hu : u = t
      · simp only [hu, if_true, Option.some.injEq] at h ⊢
        exact ⟨_, rfl, h.symm⟩
      · simp only [hu, if_false] at h ⊢
        exact ih h
  have plain : ∀ (l : List (Nat × SV)) {t : Nat} {e : Ent}, lk (mkF l) t = some e → e.path = [] ∧ e.g = true := by
    intro l
    induction l with
    | nil => intro t e h; simp [mkF, lk] at h
    | cons q r ih =>
      intro t e h
      obtain ⟨u, x⟩ := q
      simp only [mkF, lk_cons] at h
      by_cases hu : u = t
      · simp only [hu, if_true, Option.some.injEq] at h
        subst h
        exact ⟨rfl, rfl⟩
      · simp only [hu, if_false] at h
        exact ih h
  refine ⟨hf.size, fun t e h => ?_, fun t e h => ?_, fun t e h hg => ?_⟩
  · obtain ⟨e0, h0, rfl⟩ := key l h
    rw [hf.val t e0 h0]
    simp only [SV.pl_den]
  · obtain ⟨e0, h0, rfl⟩ := key l h
    obtain ⟨h1, h2⟩ := plain l h0
    simp only [h1, h2]
    exact ⟨rfl, fun q hq => by cases hq⟩
  · obtain ⟨e0, h0, rfl⟩ := key l h
    exact SV.pl_ok E nl' _

/-- Of the blocks of which all cells are known, one. -/
def litB (E : Env) (O : Own) (k : Nat) : Prop := ∃ l cs e, lk O l = some (.lit cs e) ∧ E.ρ l = k

def isRowC : Cel → Bool
  | .row _ _ _ _ => true
  | _ => false

def rowsB (O : Own) : List Nat → Own → Option Own
  | [], acc => some acc
  | l :: ls, acc => match lk O l with
    | some (.row e sz m xs) => rowsB O ls ((l, .row e sz m xs) :: acc)
    | _ => none

def keepsL (E : Env) (base : Nat) : List Nat → Own
  | [] => []
  | l :: ls => (base + ls.length, .keep l (E.ρ l) (E.κ l)) :: keepsL E base ls

def allLt (nl : Nat) : List Nat → Bool
  | [] => true
  | l :: ls => Nat.blt l nl && allLt nl ls

/-- A slot that has a plain slice that is a row of one's own. -/
theorem k_unrow (t q l b : Nat) {v : Value} (ht : opv F [] (.tmp t) = some (.a (.v v))) (hp : lk O q = some (.keep l b v)) (hc : (Nat.blt t n && !(memN t C)) = true)
    (h : KJ K n ((t, ⟨[], true, .a (.row l)⟩) :: F) C O nl V) : KJ K n F C O nl V := by
  constructor
  intro E a w hd hf hm
  simp only [Bool.and_eq_true, blt_iff, Bool.not_eq_true'] at hc
  obtain ⟨h1, h2, h2'⟩ := hm.kp _ _ _ _ hp
  refine h.out E a w hd ?_ hm
  obtain ⟨h3, _⟩ := opv_sound hf (p := []) rfl ht
  have hlt : t < a.tmps.size := by rw [hf.size]; exact hc.1
  have hp := hf.put (d := t) (p := []) (g := true) (s := .a (.row l)) hc.1 hc.2 rfl (fun q hq => by cases hq) (fun _ => by simp [SV.ok, A.ok, blt_iff, h2'])
  simp only [if_true] at hp
  have hv : (SV.a (A.row l)).den E = a.tmps.getD t undef := by
    have : a.eval (.tmp t) = a.tmps.getD t undef := rfl
    rw [← this, h3]
    simp [SV.den, A.den, h2]
  rw [hv] at hp
  have hsame : (a.put (some t) (a.tmps.getD t undef)).tmps = a.tmps := by
    simp only [Act.put]
    apply Array.ext
    · simp
    · intro i hi1 hi2
      rw [Array.getElem_setIfInBounds]
      split
      · rename_i hit; subst hit; simp [Array.getD, hlt]
      · rfl
  rw [hsame] at hp
  exact hp

/-! The same, where some blocks of known cells stay one's own. -/

def selB (O : Own) : List Nat → Own → Option Own
  | [], acc => some acc
  | l :: ls, acc => match lk O l with
    | some c => selB O ls ((l, c) :: acc)
    | none => none

end
end Go.Eng
