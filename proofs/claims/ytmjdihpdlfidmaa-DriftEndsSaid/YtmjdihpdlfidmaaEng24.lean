/-
  Arrays in memory of one's own; calls that come back with new blocks, or write a receiver; regions whose last store reads what stood.
-/
import Derived.Test.YtmjdihpdlfidmaaEng23
set_option linter.unusedSimpArgs false
set_option linter.unusedVariables false
namespace Go.Eng
open Go Go.RowKit

section
variable {P : Program} {tt : List (Nat × TI)} {o : Oper} {n : Nat} {F : Frame0} {C : List Nat} {O : Own} {nl : Nat} {V : Vw}

/-- A block that has come in new memory, told under a new label. -/
theorem Mem.newBlk {E : Env} {w w' : World} (hm : Mem E O nl V w) (hb : Below w.heap.size w w') {b : Nat} (hsz : w.heap.size ≤ b) {cs : List A} {e : Nat} (hok : allOk nl cs = true)
    (hv : w'.heap[b]? = some (.cells (cs.map (A.den E)).toArray e (0, 0))) : Mem (E.setρ nl b) ((nl, .lit cs e) :: O) (nl + 1) V w' := by
  have hag : E.agree nl (E.setρ nl b) := E.agree_setρ _
  have hk := hm.keep hb
  have hold : ∀ {l c}, lk ((nl, Cel.lit cs e) :: O) l = some c → l ≠ nl → lk O l = some c := by
    intro l c hl hne
    rwa [lk_other _ _ (fun x => hne x.symm)] at hl
  have hnew : ∀ {c}, lk ((nl, Cel.lit cs e) :: O) nl = some c → c = .lit cs e := by
    intro c hl
    rw [lk_same] at hl
    exact (Option.some.inj hl).symm
  have hnewb : (E.setρ nl b).ρ nl = b := by simp [Env.setρ]
  have hbold : ∀ {l c k}, lk O l = some c → blk (E.setρ nl b) l c = some k → blk E l c = some k := by
    intro l c k hl hb
    rwa [blk_agree hag (hm.lab _ _ hl)] at hb
  refine ⟨?_, ?_, ?_, hk.get, ?_, hk.os, hk.tape, hk.output, ?_, ?_, ?_, ?_, ?_⟩
  · intro l cs' e' hl
    by_cases h : l = nl
    · subst h
      cases hnew hl
      rw [hnewb, A.map_agree hag hok]
      exact hv
    · have hl' := hold hl h
      have := hk.lit l cs' e' hl'
      rw [(hag l (hm.lab _ _ hl')).1, A.map_agree hag (hm.labs _ _ _ hl')]
      exact this
  · intro l e' sz m xs hl
    by_cases h : l = nl
    · subst h; cases hnew hl
    · have hl' := hold hl h
      rw [(hag l (hm.lab _ _ hl')).2]
      exact hk.row _ _ _ _ _ hl'
  · intro l l' c c' k hl hl' hb hb'
    by_cases h : l = nl
    · by_cases h' : l' = nl
      · rw [h, h']
      · exfalso
        subst h
        cases hnew hl
        have hlt := hm.lt (hold hl' h') (hbold (hold hl' h') hb')
        simp only [blk, hnewb, Option.some.injEq] at hb
        omega
    · by_cases h' : l' = nl
      · exfalso
        subst h'
        cases hnew hl'
        have hlt := hm.lt (hold hl h) (hbold (hold hl h) hb)
        simp only [blk, hnewb, Option.some.injEq] at hb'
        omega
      · exact hm.sep l l' c c' k (hold hl h) (hold hl' h') (hbold (hold hl h) hb) (hbold (hold hl' h') hb')
  · intro l c k hl hb
    by_cases h : l = nl
    · subst h
      cases hnew hl
      simp only [blk, hnewb, Option.some.injEq] at hb
      subst hb
      cases hv : V.get b with
      | none => rfl
      | some o =>
        have := (Array.getElem?_eq_some_iff.1 (hm.get _ _ hv)).1
        omega
    · exact hm.off l c k (hold hl h) (hbold (hold hl h) hb)
  · intro l c hl
    by_cases h : l = nl
    · omega
    · have := hm.lab _ _ (hold hl h); omega
  · intro l cs' e' hl
    by_cases h : l = nl
    · subst h
      cases hnew hl
      exact allOk_mono (by omega) hok
    · exact allOk_mono (by omega) (hm.labs _ _ _ (hold hl h))
  · intro l m b hl
    by_cases h : l = nl
    · subst h; cases hnew hl
    · obtain ⟨h1, h2⟩ := hm.pin _ _ _ (hold hl h)
      exact ⟨(hag m h2).1.trans h1, by omega⟩
  · intro l k hl
    by_cases h : l = nl
    · subst h; cases hnew hl
    · exact hk.big _ _ (hold hl h)
  · intro l m b v hl
    by_cases h : l = nl
    · subst h; cases hnew hl
    · obtain ⟨h1, h2, h3⟩ := hm.kp _ _ _ _ (hold hl h)
      exact ⟨(hag m h3).1.trans h1, (hag m h3).2.trans h2, by omega⟩

/-- What the view has is there without a block of one's own. -/
theorem Mem.leDel {E : Env} {w : World} (hm : Mem E O nl V w) {l e : Nat} {cs : List A} (hl : lk O l = some (.lit cs e)) : V.le ((vw w).del (E.ρ l)) := by
  refine ⟨fun k ob hk => ?_, hm.os, hm.tape, hm.output⟩
  show (if _ then _ else _) = _
  by_cases h : k = E.ρ l
  · have := hm.off l _ (E.ρ l) hl rfl
    rw [← h, hk] at this
    cases this
  · rw [if_neg h]; exact hm.get k ob hk

/-! Arrays. -/

/-- The operands of an indexing of an array in memory: the label, the place, the index, how many, an element's size. -/
def evalAi (tt : List (Nat × TI)) (F : Frame0) (p : List (Nat × Bool)) : Op → Option (Nat × Nat × Int × Nat × Nat)
  | .indexAddr t x i => match opv F p x, opv F p i, lk tt t with
    | some (.a (.ptr l off)), some (.a (.v (.int _ k))), some ⟨_, _, _, _, .arr m e⟩ => match lk tt e with
      | some ti => some (l, off, k, m, ti.size)
      | none => none
    | _, _, _ => none
  | _ => none

/-- A load of one cell of memory of one's own. -/
def evalAl (tt : List (Nat × TI)) (F : Frame0) (p : List (Nat × Bool)) : Op → Option (Nat × Nat)
  | .load t x => match opv F p x, lk tt t with
    | some (.a (.ptr l off)), some ti => bif Nat.beq ti.size 1 && !ti.agg then some (l, off) else none
    | _, _ => none
  | _ => none

/-- A store of one cell into memory of one's own. -/
def evalAs (tt : List (Nat × TI)) (F : Frame0) (p : List (Nat × Bool)) : Op → Option (Nat × Nat × Value)
  | .store t y x => match opv F p y, opv F p x, lk tt t with
    | some (.a (.ptr l off)), some (.a (.v v)), some ti => bif Nat.beq ti.size 1 && !ti.agg then some (l, off, v) else none
    | _, _, _ => none
  | _ => none

/-- A region whose operations 'sp' write what others read, behind them all. -/
theorem c_heldS {Q : Exit → Act → World → Prop} {id : Nat} {l : List Oper} {O0 : Own} (sp : List Nat) (hmix : P.follows .mixedOrders = true)
    (ho : restO O [] [] = some O0) (hO : SubO O O0) (hok : okCels nl O0 = true)
    (h : TJ P l.toArray Q sp O0 l.length (List.replicate l.length false) n F C O nl V) : KJ ((Code.region id l.toArray true).wp P Q) n F C O nl V :=
  c_held sp O0 hmix hO hok h
end
end Go.Eng
