/-
  Calls that write a block and leave a fresh row in it; stores into memory that the view has.
-/
import Derived.Test.YtipmgnhbcaniiaaEng24
import Derived.Laws.IdiomCopy
set_option linter.unusedSimpArgs false
set_option linter.unusedVariables false
namespace Go.Eng
open Go Go.RowKit

section
variable {P : Program} {tt : List (Nat × TI)} {o : Oper} {n : Nat} {F : Frame0} {C : List Nat} {O : Own} {nl : Nat} {V : Vw}

/-- A block of one's own that a call has written, a fresh row in it. -/
theorem Mem.regiveRow {E : Env} {w w' : World} (hm : Mem E O nl V w) {l e0 : Nat} {cs cs' : List A} (hl : lk O l = some (.lit cs e0)) (ht : Touch (· = E.ρ l) w w')
    {e sz m : Nat} {xs : List Value} {v : Value} (hown : w'.ownsRow w.heap.size e sz v m xs) (hok : allOk (nl + 1) cs' = true)
    (hv : w'.heap[E.ρ l]? = some (.cells (cs'.map (A.den (E.setκ nl v))).toArray e0 (0, 0))) : Mem (E.setκ nl v) ((l, .lit cs' e0) :: (nl, .row e sz m xs) :: O) (nl + 1) V w' := by
  have h0 := hm.lit _ _ _ hl
  have hlt : E.ρ l < w.heap.size := (Array.getElem?_eq_some_iff.1 h0).1
  have hb : Below w.heap.size w (w'.setRow (E.ρ l) (cs.map (A.den E)).toArray) := by
    refine ⟨ht.os, ht.tape, ht.output, by simpa using ht.size, fun k hk => ?_⟩
    by_cases hkl : k = E.ρ l
    · subst hkl; rw [setRow_heap w' _ _ _ _ _ hv, h0]
    · rw [setRow_other w' _ _ _ hkl]; exact ht.block k hk hkl
  have hown0 : (w'.setRow (E.ρ l) (cs.map (A.den E)).toArray).ownsRow w.heap.size e sz v m xs :=
    ownsRow_block hown fun k hk => setRow_other w' _ _ _ (fun h => by have := (hown.lt k hk).1; omega)
  have hl1 : lk ((nl, Cel.row e sz m xs) :: O) l = some (.lit cs e0) := by
    rw [lk_other _ _ (fun h => by have := hm.lab _ _ hl; omega)]; exact hl
  have := (hm.newRow hb hown0).set (cs' := cs') hl1 hok
  rwa [show (E.setκ nl v).ρ l = E.ρ l from rfl, setRow_setRow, setRow_same hv] at this

/-- A call that writes one block of one's own and leaves a fresh row in it. -/
theorem s_callWR {p : List (Nat × Bool)} {f : Nat} {ss : List SV} {σ : Type} (Φ : σ → Prop) (s : σ → SV) (l e0 e sz : Nat) (m : σ → Nat) (xs : σ → List Value) {cs : List A} (cs' : σ → List A) (hv : evalC F p o.op = some (f, ss)) (hok : FnOk P f)
    (hl : lk O l = some (.lit cs e0)) (hcs : ∀ x, allOk (nl + 1) (cs' x) = true) (hs : ∀ x, (s x).ok (nl + 1) = true)
    (hcall : ∀ E w, Mem E O nl V w → w.heap[E.ρ l]? = some (.cells (cs.map (A.den E)).toArray e0 (0, 0)) → Calls P f (ss.map (SV.den E)).toArray w fun ex w' => ∃ x v, ex = .returned ((s x).den (E.setκ nl v)) ∧ Touch (· = E.ρ l) w w' ∧
      w'.ownsRow w.heap.size e sz v (m x) (xs x) ∧ w'.heap[E.ρ l]? = some (.cells ((cs' x).map (A.den (E.setκ nl v))).toArray e0 (0, 0)) ∧ Φ x) :
    StepTo P o p n F C O nl V Φ s (fun x => (l, .lit (cs' x) e0) :: (nl, .row e sz (m x) (xs x)) :: O) (nl + 1) (fun _ => V) := by
  constructor
  intro E a w hf hgv hm K Q hK
  obtain ⟨hr, _⟩ := evalC_sound hf hgv hv hok w
  unfold Oper.wp
  rw [hr, Oper.upon_enter]
  refine (hcall E w hm (hm.lit _ _ _ hl)).mono ?_
  rintro ex w' ⟨x, v, rfl, ht, hown, hget, hΦ⟩
  exact hK x _ w' hΦ (Env.agree_setκ E v) (hm.regiveRow hl ht hown (hcs x) hget) (hs x)

theorem y_idxK (htt : TTok P tt) {p : List (Nat × Bool)} {g : Bool} {v : Value} {i : Int} {sz m : Nat} {xs : List Value} (k : Nat)
    (hv : evalIx tt F p o.op = some (v, i, sz)) (hk : i.toNat * sz = k) (hs : g = true → IsSl V v sz m xs) (hi : g = true → 0 ≤ i ∧ i < m) : Yld P o n F C O nl V p g (.a (.el v k)) := by
  subst hk
  exact y_idx htt hv hs hi

/-- A call that comes back with a row in new memory and nothing else. -/
theorem s_callRow {p : List (Nat × Bool)} {f : Nat} {ss : List SV} (e sz m : Nat) (xs : List Value) (hv : evalC F p o.op = some (f, ss)) (hok : FnOk P f)
    (hcall : ∀ E w, Mem E O nl V w → Calls P f (ss.map (SV.den E)).toArray w fun ex w' => ∃ v, ex = .returned v ∧ w'.ownsRow w.heap.size e sz v m xs ∧ Below w.heap.size w w') :
    StepTo P o p n F C O nl V (σ := Unit) (fun _ => True) (fun _ => .a (.row nl)) (fun _ => (nl, .row e sz m xs) :: O) (nl + 1) (fun _ => V) :=
  s_callR (fun _ => True) (fun _ => .a (.row nl)) e sz (fun _ => m) (fun _ => xs) hv hok (fun _ => by simp [SV.ok, A.ok, blt_iff]) fun E w hm => (hcall E w hm).mono fun ex w' ⟨v, he, h1, h2⟩ =>
    ⟨(), v, by rw [he]; simp [SV.den, A.den, Env.setκ], h1, h2, trivial⟩

/-- A row of one's own, read without a block of one's own. -/
theorem Mem.rowOfDel {α : Type} {enc : α → List Value} {E : Env} {w : World} (hm : Mem E O nl V w) {l e e0 sz : Nat} {cs : List A} {L : List α} (r : Nat) (hl : lk O l = some (.lit cs e0)) (hr : lk O r = some (.row e sz L.length (L.flatMap enc)))
    (he : ∀ x, (enc x).length = sz) : SlOf ((vw w).del (E.ρ l)) enc sz (E.κ r) L := by
  refine ⟨ownsRow_sl (hm.row _ _ _ _ _ hr) (fun k hk => ?_), he⟩
  show (if _ then _ else _) = _
  rw [if_neg]
  · rfl
  · intro h
    have := hm.sep r l _ _ k hr hl (by simpa [blk] using hk) (by simp [blk, h])
    subst this
    rw [hl] at hr
    cases hr

/-- A row of one's own lies in memory that the caller of a method does not know. -/
theorem Mem.rowFreshD {E : Env} {w w' : World} {b : Nat} (hm : Mem E O nl V w') (hle : ((vw w).del b).le V) {l0 e0 : Nat} {cs : List A} (h0 : lk O l0 = some (.lit cs e0)) (hb : E.ρ l0 = b) {l e sz m : Nat} {xs : List Value} (hl : lk O l = some (.row e sz m xs)) :
    w'.ownsRow w.heap.size e sz (E.κ l) m xs := by
  have hr := hm.row _ _ _ _ _ hl
  refine ⟨hr.1, ?_⟩
  rcases hr.2 with h | ⟨g, cap, cur, h1, _, h2⟩
  · exact .inl h
  · refine .inr ⟨g, cap, cur, h1, ?_, h2⟩
    have hbk : blk E l (.row e sz m xs) = some g := by simp [blk, h1, Value.ownBlock]
    have hoff := hm.off l _ g hl hbk
    have hne : g ≠ b := fun h => by
      have := hm.sep l l0 _ _ g hl h0 hbk (by simp [blk, hb, h])
      subst this
      rw [h0] at hl
      cases hl
    rcases Nat.lt_or_ge g w.heap.size with hlt | hge
    · have : ((vw w).del b).get g = some w.heap[g] := by
        show (if _ then _ else _) = _
        rw [if_neg hne]
        simp [vw, hlt]
      rw [hle.get _ _ this] at hoff
      cases hoff
    · exact hge

/-- A store of one cell of what the view has: the slice, the place, what is stored. -/
def evalVs (tt : List (Nat × TI)) (F : Frame0) (p : List (Nat × Bool)) : Op → Option (Value × Nat × Value)
  | .store t y x => match opv F p y, opv F p x, lk tt t with
    | some (.a (.el v k)), some (.a (.v u)), some ti => bif Nat.beq ti.size 1 && !ti.agg then some (v, k, u) else none
    | _, _, _ => none
  | _ => none

end
end Go.Eng
