/-
  Calls that write a block and leave a fresh row in it; stores into memory that the view has.
-/
import Derived.Test.YtmjdihpdlfidmaaEng24
import Derived.Laws.IdiomCopy
set_option linter.unusedSimpArgs false
set_option linter.unusedVariables false
namespace Go.Eng
open Go Go.RowKit

section
variable {P : Program} {tt : List (Nat × TI)} {o : Oper} {n : Nat} {F : Frame0} {C : List Nat} {O : Own} {nl : Nat} {V : Vw}

theorem y_idxK (htt : TTok P tt) {p : List (Nat × Bool)} {g : Bool} {v : Value} {i : Int} {sz m : Nat} {xs : List Value} (k : Nat)
    (hv : evalIx tt F p o.op = some (v, i, sz)) (hk : i.toNat * sz = k) (hs : g = true → IsSl V v sz m xs) (hi : g = true → 0 ≤ i ∧ i < m) : Yld P o n F C O nl V p g (.a (.el v k)) := by
  subst hk
  exact y_idx htt hv hs hi

/-- A call that comes back with a row in new memory and nothing else. -/
theorem s_callRow {p : List (Nat × Bool)} {f : Nat} {ss : List SV} (e sz m : Nat) (xs : List Value) (hv : evalC F p o.op = some (f, ss)) (hok : FnOk P f)
    (hcall : ∀ E w, Mem E O nl V w → Calls P f (ss.map (SV.den E)).toArray w fun ex w' => ∃ v, ex = .returned v ∧ w'.ownsRow w.heap.size e sz v m xs ∧ Below w.heap.size w w') :
    StepTo P o p n F C O nl V (σ := Unit) (fun _ => True) (fun _ => .a (.row nl)) (fun _ => (nl, .row e sz m xs) :: O) (nl + 1) (fun _ => V) :=
  s_callR (fun _ => True) (fun _ => .a (.row nl)) e sz (fun _ => m) (fun _ => xs) hv hok (fun _ => by simp [SV.ok, A.ok, blt_iff]) fun E w hm => (hcall E w hm).mono fun ex w' ⟨v, he, h1, h2⟩ =>
    ⟨(), v, by rw [he]; simp [SV.den, A.den, Env.setκ], h1, h2, trivial⟩

/-- A row of one's own, read without a block of one's own. -/
theorem Mem.rowOfDel {α : Type} {enc : α → List Value} {E : Env} {w : World} (hm : Mem E O nl V w) {l e e0 sz : Nat} {cs : List A} {L : List α} (r : Nat) (hl : lk O l = some (.lit cs e0)) (hr : lk O r = some (.row e sz L.length (L.flatMap enc)))
    (he : ∀ x, (enc x).length = sz) : SlOf ((vw w).del (E.ρ l)) enc sz (E.κ r) L := by
  refine ⟨ownsRow_sl (hm.row _ _ _ _ _ hr) (fun k hk => ?_), he⟩
  show (if _ then _ else _) = _
  rw [if_neg]
  · rfl
  · intro h
    have := hm.sep r l _ _ k hr hl (by simpa [blk] using hk) (by simp [blk, h])
    subst this
    rw [hl] at hr
    cases hr

/-- A store of one cell of what the view has: the slice, the place, what is stored. -/
def evalVs (tt : List (Nat × TI)) (F : Frame0) (p : List (Nat × Bool)) : Op → Option (Value × Nat × Value)
  | .store t y x => match opv F p y, opv F p x, lk tt t with
    | some (.a (.el v k)), some (.a (.v u)), some ti => bif Nat.beq ti.size 1 && !ti.agg then some (v, k, u) else none
    | _, _, _ => none
  | _ => none

end
end Go.Eng
