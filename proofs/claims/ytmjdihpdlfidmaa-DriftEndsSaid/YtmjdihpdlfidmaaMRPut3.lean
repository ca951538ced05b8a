import Derived.Test.YtmjdihpdlfidmaaMGeo
import Derived.Lib.SliceRun
/- Rows cloned, put, merged: the program's. -/
set_option linter.unusedVariables false
set_option linter.unusedSimpArgs false
set_option maxRecDepth 100000
namespace Go.Proofs.Ytmjdihpdlfidmaa
open Go Go.Eng Go.RowKit

theorem nilEq (a : Option Addr) (n c : Nat) (w : World) {ox oy : Operand} : (do eqGuard .eql 24 ox oy (.slice a n c) (.slice none 0 0); binOp .eql 24 (.slice a n c) (.slice none 0 0) : Sem Value).run Try.prog w = .ok (.bool a.isNone) w := by
  have hg : (eqGuard .eql 24 ox oy (.slice a n c) (.slice none 0 0)).run Try.prog w = .ok () w := by simp [eqGuard]
  rw [Sem.run_bind, hg]
  simp only [Result.andThen_ok]
  exact Lib.run_eql_slice_nil w 24 57 a n c 0 0 Try.underlying24

theorem clone_c (V : Vw) (sv : Value) (l : List Block) (w : World) (hV : V.le (vw w)) (hs0 : SlOf V Block.cells 2 sv l) (hn : l.length ≤ 1048576) :
    Calls Try.prog 39 #[sv] w fun e w' => ∃ v', e = .returned v' ∧ w'.ownsRow w.heap.size 57 2 v' l.length (l.flatMap Block.cells) ∧ Below w.heap.size w w' := by
  obtain ⟨a, n, c, rfl⟩ := sl_shape hs0.sl
  have hs := hs0.mono hV
  refine enter (E := E0) (O := []) (nl := 0) (V := vw w) [.a (.v (.slice a n c))] Try.func39 rfl rfl (mem0 E0 0 w) rfl rfl ?_
  refine c_seq ?_
  refine c_region ?_
  refine o_yield rfl rfl rfl (y_val tok rfl) ?_
  refine o_end [0] rfl ?_
  refine x_then ?_
  refine c_seq ?_
  refine c_seq ?_
  refine c_region ?_
  refine o_yield rfl rfl rfl (y_val tok rfl) ?_
  refine o_yield rfl rfl rfl (y_seq (.bool a.isNone) rfl (fun E w => nilEq a n c w)) ?_
  refine o_end [0, 4] rfl ?_
  refine x_then ?_
  refine c_cond rfl (fun h => ?_) (fun h => ?_)
  ·
    refine c_seq ?_
    refine c_region ?_
    refine o_yield rfl rfl rfl (y_val tok rfl) ?_
    refine o_end [2] rfl ?_
    refine x_then ?_
    refine c_ret ?_
    refine x_then_ret ?_
    refine b_ret tok rfl ?_
    intro E w' hm _
    have hnil : l = [] := by
      rcases hs0.sl.2 with ⟨a', c', h1, h2⟩ | ⟨b, off, cap, cs, e, f, h1, _⟩
      · exact List.eq_nil_of_length_eq_zero h2
      · cases h1; cases h
    subst hnil
    exact ⟨_, rfl, World.ownsRow_nil w' w.heap.size _ _, hm.below (Vw.le.refl _)⟩
  ·
    refine c_skip ?_
    refine x_then ?_
    refine c_seq ?_
    refine c_region ?_
    clear h
    refine o_step rfl rfl rfl rfl rfl (s_bs tok 2 rfl rfl rfl) (fun _ _ => ?_)
    refine o_yield rfl rfl rfl (y_val tok rfl) ?_
    refine o_step rfl rfl rfl rfl rfl (s_app (l := 0) (e := 57) (sz := 2) (by_ := 24) (m := 0) (k := l.length) (x := .a (.v (.slice a n c))) (olds := []) tok (l.flatMap Block.cells) rfl (fun E w1 hm => hs.sl.src hm.get) (fun _ _ _ => block_ones l) (by omega)) (fun _ _ => ?_)
    refine o_yield rfl rfl rfl (y_val tok rfl) ?_
    refine o_end [2] rfl ?_
    refine x_then ?_
    refine c_ret ?_
    refine b_ret tok rfl ?_
    intro E w' hm _
    refine ⟨_, rfl, ?_, hm.below (Vw.le.refl _)⟩
    have := hm.rowFresh (Vw.le.refl _) (l := 1) rfl
    rw [Nat.zero_add, List.nil_append] at this
    exact this

section
variable {o : Oper} {n : Nat} {F : Frame0} {C : List Nat} {O : Go.Eng.Own} {nl : Nat} {V : Vw}

/-- Blocks put into a row of one's own, in the caller's labels. -/
theorem s_rput {p : List (Nat × Bool)} (lo r e0 : Nat) (g : Geo) (l more : List Block) (lv : Value) (hv : evalC F p o.op = some (40, [.a (.ptr lo 0), .a (.v lv)])) (hlo : lk O lo = some (.lit (.row r :: g.cells.map .v) e0))
    (hr : lk O r = some (.row 57 2 l.length (l.flatMap Block.cells))) (hs : SlOf V Block.cells 2 lv more) (hn : l.length + more.length ≤ 1048576) :
    StepTo Try.prog o p n F C O nl V (σ := Unit) (fun _ => True) (fun _ => .tup []) (fun _ => (lo, .lit (.row nl :: g.cells.map .v) e0) :: (nl, .row 57 2 (putP l more).length ((putP l more).flatMap Block.cells)) :: (r, .gone) :: O) (nl + 1) (fun _ => V) := by
  constructor
  intro E a w hf hgv hm K Q hK
  obtain ⟨hrr, _⟩ := evalC_sound hf hgv hv fnok40 w
  unfold Oper.wp
  rw [hrr, Oper.upon_enter]
  have hrow := hm.row _ _ _ _ _ hr
  have hb := hm.lit _ _ _ hlo
  rw [List.map_cons, (den_plain E g.cells).1] at hb
  have hd : (E.κ r).ownBlock ≠ some (E.ρ lo) := fun h => by
    have := hm.sep r lo _ _ (E.ρ lo) hr hlo (by simpa [blk] using h) rfl
    subst this
    rw [hr] at hlo
    cases hlo
  have hle : V.le (((vw w).delO (E.κ r).ownBlock).del (E.ρ lo)) := by
    refine ⟨fun k ob hk => ?_, ?_, ?_, ?_⟩
    · have h1 : k ≠ E.ρ lo := fun h => by
        have := hm.off lo _ (E.ρ lo) hlo rfl
        rw [← h, hk] at this
        cases this
      have h2 : (E.κ r).ownBlock ≠ some k := fun h => by
        have := hm.off r _ k hr (by simpa [blk] using h)
        rw [hk] at this
        cases this
      simp only [Vw.del]
      rw [if_neg h1]
      cases hv : (E.κ r).ownBlock with
      | none => exact hm.get k ob hk
      | some b =>
        simp only [Vw.delO, Vw.del, vw]
        rw [if_neg (fun e => h2 (by rw [hv, e]))]
        exact hm.get k ob hk
    all_goals (cases hv : (E.κ r).ownBlock with
      | none => first | exact hm.os | exact hm.tape | exact hm.output
      | some b => first | exact hm.os | exact hm.tape | exact hm.output)
  refine (rput_c (E.κ r) lv l more (E.ρ lo) e0 g w hb hrow hd (hs.mono hle) hn).mono ?_
  rintro e w' ⟨rfl, v', ht, hc, hown, hbk⟩
  refine hK () (E.setκ nl v') w' trivial (Env.agree_setκ E v') ?_ rfl
  refine hm.regrow (cs' := .row nl :: g.cells.map .v) hlo hr ht (by simp only [allOk, A.ok, blt_iff, Bool.and_eq_true]; exact ⟨by omega, (den_plain E0 g.cells).2 _⟩) ?_ hown hbk
  rw [List.map_cons, (den_plain _ g.cells).1]
  simpa [A.den, Env.setκ] using hc
end

theorem bufPut_c (V : Vw) (sv lv : Value) (l more : List Block) (w : World) (hV : V.le (vw w)) (hs0 : SlOf V Block.cells 2 sv l) (hl0 : SlOf V Block.cells 2 lv more) (hn : l.length + more.length ≤ 1048576) :
    Calls Try.prog 31 #[sv, lv] w fun e w' => ∃ v', e = .returned v' ∧ w'.ownsRow w.heap.size 57 2 v' (putP l more).length ((putP l more).flatMap Block.cells) ∧ Below w.heap.size w w' := by
  obtain ⟨a, n, c, rfl⟩ := sl_shape hs0.sl
  obtain ⟨a2, n2, c2, rfl⟩ := sl_shape hl0.sl
  have hs := hs0.mono hV
  have hl := hl0.mono hV
  refine enter (E := E0) (O := []) (nl := 0) (V := vw w) [.a (.v (.slice a n c)), .a (.v (.slice a2 n2 c2))] Try.func31 rfl rfl (mem0 E0 0 w) rfl rfl ?_
  refine c_seq ?_
  refine c_region ?_
  refine o_yield rfl rfl rfl (y_val tok rfl) ?_
  refine o_end [0, 1] rfl ?_
  refine x_then ?_
  refine c_seq ?_
  refine c_region ?_
  refine o_yield rfl rfl rfl (y_val tok rfl) ?_
  refine o_step rfl rfl rfl rfl rfl (s_callRow 57 2 l.length (l.flatMap Block.cells) rfl fnok39 (fun E w1 hm => clone_c (vw w) _ l w1 hm.leV hs (by omega))) (fun _ _ => ?_)
  refine o_yield rfl rfl rfl (y_val tok rfl) ?_
  refine o_yield rfl rfl rfl (y_val tok rfl) ?_
  refine o_new tok rfl rfl rfl rfl ?_
  refine o_yield rfl rfl rfl (y_val tok rfl) ?_
  refine o_end [1, 5] rfl ?_
  refine x_then ?_
  refine c_seq ?_
  refine c_region ?_
  refine o_yield rfl rfl rfl (y_val tok rfl) ?_
  refine o_yield rfl rfl rfl (y_val tok rfl) ?_
  refine o_yield rfl rfl rfl (y_val tok rfl) ?_
  refine o_yield rfl rfl rfl (y_val tok rfl) ?_
  refine o_step rfl rfl rfl rfl rfl (s_rput 1 0 _ ⟨0, 0, 0, 0, 0, 0, 0, 0⟩ l more _ rfl rfl rfl hl hn) (fun _ _ => ?_)
  refine o_end [5] rfl ?_
  refine x_then ?_
  refine c_seq ?_
  refine c_region ?_
  refine o_yield rfl rfl rfl (y_val tok rfl) ?_
  refine o_yield rfl rfl rfl (y_val tok rfl) ?_
  refine o_yield rfl rfl rfl (y_val tok rfl) ?_
  refine o_yield rfl rfl rfl (y_val tok rfl) ?_
  refine o_yield rfl rfl rfl (y_val tok rfl) ?_
  refine o_yield rfl rfl rfl (y_val tok rfl) ?_
  refine o_end [4] rfl ?_
  refine x_then ?_
  refine c_ret ?_
  refine b_ret tok rfl ?_
  intro E w' hm _
  exact ⟨_, rfl, hm.rowFresh (Vw.le.refl _) (l := 2) rfl, hm.below (Vw.le.refl _)⟩

end Go.Proofs.Ytmjdihpdlfidmaa

/- Whether blocks may be: the program's. -/
set_option linter.unusedVariables false
set_option linter.unusedSimpArgs false
set_option maxRecDepth 100000
namespace Go.Proofs.Ytmjdihpdlfidmaa
open Go Go.Eng Go.RowKit

end Go.Proofs.Ytmjdihpdlfidmaa

/- Blocks put into rows: the document's; plain law for rows that rise. -/
set_option linter.unusedVariables false
set_option linter.unusedSimpArgs false
set_option maxRecDepth 100000
namespace Go.Proofs.Ytmjdihpdlfidmaa
open Go Go.Eng Go.RowKit

theorem blk_ones (l : List Block) : ∀ u ∈ l.flatMap Block.cells, u.oneCell' = true := by
  intro u hu
  obtain ⟨x, _, hx⟩ := List.mem_flatMap.1 hu
  simp only [Block.cells, List.mem_cons, List.not_mem_nil, or_false] at hx
  rcases hx with rfl | rfl <;> rfl

def oneL (th : Bool) (x : Block) : List Block → List Block
  | [] => [x]
  | b :: r => if th = true ∧ b.n = x.n then x :: r else if th = false ∧ x.n < b.n then x :: b :: r else b :: oneL th x r

/-- What the document's row is with a block put into it. -/
def insS (l : List Block) (x : Block) : List Block := oneL (getB l x.n).2 x l

theorem oneL_len (th : Bool) (x : Block) : ∀ l : List Block, (oneL th x l).length ≤ l.length + 1
  | [] => by simp [oneL]
  | b :: r => by
    have := oneL_len th x r
    rw [oneL]
    split
    · simp
    · split <;> simp; omega

def RowB (L : List Block) (w : World) (e : Ending) (w' : World) : Prop :=
  (∃ v, e = .returned v ∧ w'.ownsRow w.heap.size 57 2 v L.length (L.flatMap Block.cells)) ∧ Below w.heap.size w w'

theorem app_row (O : List Block) (x : Block) : O.length + 1 = (O ++ [x]).length ∧ O.flatMap Block.cells ++ x.cells = (O ++ [x]).flatMap Block.cells := by simp

theorem rone_c (V : Vw) (sv : Value) (l : List Block) (x : Block) (w : World) (hV : V.le (vw w)) (hs0 : SlOf V Block.cells 2 sv l) (hn : l.length ≤ 1000) :
    Calls Try.prog 38 #[sv, x.val] w (RowB (insS l x) w) := by
  have hs := hs0.mono hV
  have hins : insS l x = oneL (getB l x.n).2 x l := rfl
  refine enter (E := E0) (O := []) (nl := 0) (V := vw w) [.a (.v sv), .a (.v x.val)] Try.func38 rfl rfl (mem0 E0 0 w) rfl rfl ?_
  refine c_seq ?_
  refine c_region ?_
  refine o_new tok rfl rfl rfl rfl ?_
  refine o_yield rfl rfl rfl (y_val tok rfl) ?_
  refine o_end [0, 3] rfl ?_
  refine x_then ?_
  refine c_seq ?_
  refine c_region ?_
  refine o_yield rfl rfl rfl (y_val tok rfl) ?_
  refine o_end [0, 3, 5] rfl ?_
  refine x_then ?_
  refine c_seq ?_
  refine c_region ?_
  refine o_yield rfl rfl rfl (y_val tok rfl) ?_
  refine o_yield rfl rfl rfl (y_val tok rfl) ?_
  refine o_yield rfl rfl rfl (y_val tok rfl) ?_
  refine o_call (.a (.v _)) rfl rfl fnok18 rfl rfl rfl (fun hg E w1 hm => by exact refGet18_c (vw w) _ l x.n _ hm.leV hs (by omega)) ?_
  refine o_yield rfl rfl rfl (y_val tok rfl) ?_
  refine o_yield rfl rfl rfl (y_val tok rfl) ?_
  refine o_yield rfl rfl rfl (y_val tok rfl) ?_
  refine o_yield rfl rfl rfl (y_val tok rfl) ?_
  refine o_yield rfl rfl rfl (y_val tok rfl) ?_
  refine o_end [0, 3, 5, 7] rfl ?_
  refine x_then ?_
  refine c_seq ?_
  refine c_region ?_
  refine o_yield rfl rfl rfl (y_val tok rfl) ?_
  refine o_end [0, 3, 5, 7, 8] rfl ?_
  refine x_then ?_
  refine c_seq ?_
  refine c_seq ?_
  refine c_region ?_
  refine o_yield rfl rfl rfl (y_val tok rfl) ?_
  refine o_end [0, 3, 5, 7, 8, 9] rfl ?_
  refine x_then ?_
  refine c_block ?_
  generalize (getB l x.n).2 = th at *
  refine k_nil 5 57 2 rfl rfl ?_
  refine c_loopK [0, 3, 7] [1] rfl rfl (σ := Nat × Bool × List Block) (fun (i, d, O) => [(5, .a (.row 1)), (8, .a (.v (.bool d))), (9, .a (.v (I i)))]) (fun (i, d, O) => [(1, .row 57 2 O.length (O.flatMap Block.cells))]) (fun (i, d, O) => i ≤ l.length ∧ O.length ≤ 2 * i ∧ O ++ (if d = true then l.drop i else oneL th x (l.drop i)) = insS l x) (fun (i, d, O) => l.length - i) ((0, false, [])) (⟨by omega, by simp, by rw [hins]; rfl⟩) (by repeat (first | exact SubF.nil | refine SubF.cons rfl ?_)) (by repeat (first | exact SubO.nil | refine SubO.cons rfl ?_)) rfl ?_
  rintro ⟨i, d, O⟩ ⟨hi, hO, hinv⟩
  dsimp only at hi hO hinv ⊢
  refine c_seq ?_
  refine c_seq ?_
  refine c_region ?_
  refine o_yield rfl rfl rfl (y_val tok rfl) ?_
  refine o_yield rfl rfl rfl (y_val tok rfl) ?_
  refine o_yield rfl rfl rfl (y_len tok rfl (fun hg => hs.sl)) ?_
  refine o_yield rfl rfl rfl (y_val tok rfl) ?_
  refine o_end [0, 3, 5, 7, 8, 9, 20] rfl ?_
  refine x_then ?_
  refine c_cond rfl (fun h => ?_) (fun h => ?_)
  ·
    simp only [Bool.and_eq_true, Bool.or_eq_true, Bool.not_eq_true', Bool.or_eq_false_iff, Bool.and_eq_false_iff, decide_eq_true_eq, decide_eq_false_iff_not, beq_iff_eq, bne_iff_ne, Bool.not_eq_false', beq_eq_false_iff_ne, bne_eq_false_iff_eq, ne_eq, Decidable.not_not, Int.not_lt, Int.not_le] at h
    refine c_skip ?_
    refine x_then ?_
    refine c_seq ?_
    refine c_block ?_
    refine c_seq ?_
    refine c_seq ?_
    refine c_draw mixed (by kernel_rfl) ?_
    refine d_yield rfl rfl rfl (y_val tok rfl) rfl ?_
    refine d_yield rfl rfl rfl (y_val tok rfl) rfl ?_
    refine d_yield rfl rfl rfl (y_val tok rfl) rfl ?_
    refine d_yield rfl rfl rfl (y_val tok rfl) rfl ?_
    refine d_yield rfl rfl rfl (y_val tok rfl) rfl ?_
    refine d_yield rfl rfl rfl (y_val tok rfl) rfl ?_
    refine d_yield rfl rfl rfl (y_val tok rfl) rfl ?_
    refine d_yield rfl rfl rfl (y_val tok rfl) rfl ?_
    obtain ⟨y, h_y⟩ := hs.at (k := i) (by omega)
    rw [drop_at h_y] at hinv
    have hwi : IntKind.i64.wrap ((i : Int) + 1) = ((i + 1 : Nat) : Int) := wrapI (by omega) (by omega)
    have hx := app_row O x
    have hy := app_row O y
    have hlt_y := lt_of_at h_y
    refine d_yield rfl rfl rfl (y_idx tok rfl (fun hg => hs.sl) (fun hg => ⟨by omega, by omega⟩)) rfl ?_
    refine d_yield rfl rfl rfl (y_fel tok rfl (fun hg => hs.sl) (fun hg => by omega)) rfl ?_
    refine d_yield rfl rfl rfl (y_lel tok (i) 0 (y) rfl (fun hg => hs) (fun hg => h_y) rfl rfl) rfl ?_
    refine d_yield rfl rfl rfl (y_val tok rfl) rfl ?_
    refine d_yield rfl rfl rfl (y_val tok rfl) rfl ?_
    refine d_yield rfl rfl rfl (y_val tok rfl) rfl ?_
    refine d_yield rfl rfl rfl (y_val tok rfl) rfl ?_
    refine d_end [0, 3, 5, 7, 8, 9, 37] rfl ?_
    refine x_then ?_
    refine c_cond rfl (fun h => ?_) (fun h => ?_)
    ·
      simp only [Bool.and_eq_true, Bool.or_eq_true, Bool.not_eq_true', Bool.or_eq_false_iff, Bool.and_eq_false_iff, decide_eq_true_eq, decide_eq_false_iff_not, beq_iff_eq, bne_iff_ne, Bool.not_eq_false', beq_eq_false_iff_ne, bne_eq_false_iff_eq, ne_eq, Decidable.not_not, Int.not_lt, Int.not_le] at h
      refine c_seq ?_
      refine c_region ?_
      refine o_yield rfl rfl rfl (y_val tok rfl) ?_
      refine o_yield rfl rfl rfl (y_val tok rfl) ?_
      obtain ⟨⟨h1, h2⟩, h3⟩ := h
      subst h1 h2
      rw [if_neg (by simp), oneL, if_pos ⟨rfl, h3⟩] at hinv
      refine o_step rfl rfl rfl rfl rfl (s_bs tok 2 rfl rfl rfl) (fun _ _ => ?_)
      refine o_step rfl rfl rfl rfl rfl (s_app tok x.cells rfl (fun E w hm => ownsRow_src (hm.row _ _ _ _ _ rfl)) (fun _ _ _ => by simpa using blk_ones [x]) (by dsimp only; omega)) (fun _ _ => ?_)
      refine o_yield rfl rfl rfl (y_val tok rfl) ?_
      refine o_end [0, 3, 5, 7, 9] rfl ?_
      refine x_then ?_
      refine c_seq ?_
      refine c_region ?_
      refine o_yield rfl rfl rfl (y_val tok rfl) ?_
      refine o_end [0, 3, 5, 7, 8, 9] rfl ?_
      refine x_then ?_
      refine c_exit ?_
      refine x_then_exit ?_
      refine x_block_hit ?_
      refine x_then ?_
      refine c_region ?_
      refine o_yield rfl rfl rfl (y_val tok rfl) ?_
      refine o_yield rfl rfl rfl (y_val tok rfl) ?_
      refine o_yield rfl rfl rfl (y_val tok rfl) ?_
      refine o_end [0, 3, 5, 7, 8, 9] rfl ?_
      refine x_then ?_
      rw [hx.1, hx.2, hwi]
      refine k_swap 1 3 rfl ?_
      refine x_round ((i + 1, true, O ++ [x])) (⟨by dsimp only; omega, by dsimp only; simp; omega, by dsimp only; rw [if_pos rfl, ← hinv]; simp⟩) (by first | omega | (dsimp only; omega)) (by repeat (first | exact SubF.nil | refine SubF.cons rfl ?_)) (by repeat (first | exact SubO.nil | refine SubO.cons rfl ?_)) rfl (Vw.le.refl _)
    ·
      simp only [Bool.and_eq_true, Bool.or_eq_true, Bool.not_eq_true', Bool.or_eq_false_iff, Bool.and_eq_false_iff, decide_eq_true_eq, decide_eq_false_iff_not, beq_iff_eq, bne_iff_ne, Bool.not_eq_false', beq_eq_false_iff_ne, bne_eq_false_iff_eq, ne_eq, Decidable.not_not, Int.not_lt, Int.not_le] at h
      have hno : ¬ (d = false ∧ th = true ∧ y.n = x.n) := fun ⟨h1, h2, h3⟩ => by simp [h1, h2, h3] at h
      clear h
      refine c_skip ?_
      refine x_then ?_
      refine c_seq ?_
      refine c_seq ?_
      refine c_draw mixed (by kernel_rfl) ?_
      refine d_yield rfl rfl rfl (y_val tok rfl) rfl ?_
      refine d_yield rfl rfl rfl (y_val tok rfl) rfl ?_
      refine d_yield rfl rfl rfl (y_val tok rfl) rfl ?_
      refine d_yield rfl rfl rfl (y_val tok rfl) rfl ?_
      refine d_yield rfl rfl rfl (y_val tok rfl) rfl ?_
      refine d_yield rfl rfl rfl (y_val tok rfl) rfl ?_
      refine d_yield rfl rfl rfl (y_val tok rfl) rfl ?_
      refine d_yield rfl rfl rfl (y_val tok rfl) rfl ?_
      refine d_yield rfl rfl rfl (y_val tok rfl) rfl ?_
      have hlt_y := lt_of_at h_y
      refine d_yield rfl rfl rfl (y_idx tok rfl (fun hg => hs.sl) (fun hg => ⟨by omega, by omega⟩)) rfl ?_
      refine d_yield rfl rfl rfl (y_fel tok rfl (fun hg => hs.sl) (fun hg => by omega)) rfl ?_
      refine d_yield rfl rfl rfl (y_lel tok (i) 0 (y) rfl (fun hg => hs) (fun hg => h_y) rfl rfl) rfl ?_
      refine d_yield rfl rfl rfl (y_val tok rfl) rfl ?_
      refine d_yield rfl rfl rfl (y_val tok rfl) rfl ?_
      refine d_yield rfl rfl rfl (y_val tok rfl) rfl ?_
      refine d_yield rfl rfl rfl (y_val tok rfl) rfl ?_
      refine d_end [0, 3, 5, 7, 8, 9, 57] rfl ?_
      refine x_then ?_
      refine c_cond rfl (fun h => ?_) (fun h => ?_)
      ·
        simp only [Bool.and_eq_true, Bool.or_eq_true, Bool.not_eq_true', Bool.or_eq_false_iff, Bool.and_eq_false_iff, decide_eq_true_eq, decide_eq_false_iff_not, beq_iff_eq, bne_iff_ne, Bool.not_eq_false', beq_eq_false_iff_ne, bne_eq_false_iff_eq, ne_eq, Decidable.not_not, Int.not_lt, Int.not_le] at h
        refine c_seq ?_
        refine c_region ?_
        refine o_yield rfl rfl rfl (y_val tok rfl) ?_
        refine o_yield rfl rfl rfl (y_val tok rfl) ?_
        obtain ⟨⟨h1, h2⟩, h3⟩ := h
        subst h1 h2
        rw [if_neg (by simp), oneL, if_neg (by simp), if_pos ⟨rfl, h3⟩] at hinv
        have hxy := app_row (O ++ [x]) y
        refine o_step rfl rfl rfl rfl rfl (s_bs tok 2 rfl rfl rfl) (fun _ _ => ?_)
        refine o_step rfl rfl rfl rfl rfl (s_app tok x.cells rfl (fun E w hm => ownsRow_src (hm.row _ _ _ _ _ rfl)) (fun _ _ _ => by simpa using blk_ones [x]) (by dsimp only; omega)) (fun _ _ => ?_)
        refine o_yield rfl rfl rfl (y_val tok rfl) ?_
        refine o_end [0, 3, 5, 7, 9] rfl ?_
        refine x_then ?_
        refine c_region ?_
        refine o_yield rfl rfl rfl (y_val tok rfl) ?_
        refine o_end [0, 3, 5, 7, 8, 9] rfl ?_
        refine x_then ?_
        refine c_region ?_
        refine o_yield rfl rfl rfl (y_val tok rfl) ?_
        refine o_yield rfl rfl rfl (y_val tok rfl) ?_
        refine o_yield rfl rfl rfl (y_val tok rfl) ?_
        rw [hx.1, hx.2]
        have hlt_y := lt_of_at h_y
        refine o_yield rfl rfl rfl (y_idx tok rfl (fun hg => hs.sl) (fun hg => ⟨by omega, by omega⟩)) ?_
        refine o_yield rfl rfl rfl (y_lel tok (i) 0 (y) rfl (fun hg => hs) (fun hg => h_y) rfl rfl) ?_
        refine o_step rfl rfl rfl rfl rfl (s_bs tok 2 rfl rfl rfl) (fun _ _ => ?_)
        refine o_step rfl rfl rfl rfl rfl (s_app tok y.cells rfl (fun E w hm => ownsRow_src (hm.row _ _ _ _ _ rfl)) (fun _ _ _ => by simpa using blk_ones [y]) (by dsimp only; simp; omega)) (fun _ _ => ?_)
        refine o_yield rfl rfl rfl (y_val tok rfl) ?_
        refine o_end [0, 3, 5, 7, 8, 9] rfl ?_
        refine x_block ?_
        refine x_then ?_
        refine c_region ?_
        refine o_yield rfl rfl rfl (y_val tok rfl) ?_
        refine o_yield rfl rfl rfl (y_val tok rfl) ?_
        refine o_yield rfl rfl rfl (y_val tok rfl) ?_
        refine o_end [0, 3, 5, 7, 8, 9] rfl ?_
        refine x_then ?_
        rw [hxy.1, hxy.2, hwi]
        refine k_swap 1 5 rfl ?_
        refine x_round ((i + 1, true, O ++ [x] ++ [y])) (⟨by dsimp only; omega, by dsimp only; simp; omega, by dsimp only; rw [if_pos rfl, ← hinv]; simp⟩) (by first | omega | (dsimp only; omega)) (by repeat (first | exact SubF.nil | refine SubF.cons rfl ?_)) (by repeat (first | exact SubO.nil | refine SubO.cons rfl ?_)) rfl (Vw.le.refl _)
      ·
        simp only [Bool.and_eq_true, Bool.or_eq_true, Bool.not_eq_true', Bool.or_eq_false_iff, Bool.and_eq_false_iff, decide_eq_true_eq, decide_eq_false_iff_not, beq_iff_eq, bne_iff_ne, Bool.not_eq_false', beq_eq_false_iff_ne, bne_eq_false_iff_eq, ne_eq, Decidable.not_not, Int.not_lt, Int.not_le] at h
        have hno2 : ¬ (d = false ∧ th = false ∧ x.n < y.n) := fun ⟨h1, h2, h3⟩ => by simp [h1, h2] at h; omega
        clear h
        refine c_skip ?_
        refine x_then ?_
        refine c_region ?_
        refine o_yield rfl rfl rfl (y_val tok rfl) ?_
        refine o_yield rfl rfl rfl (y_val tok rfl) ?_
        refine o_yield rfl rfl rfl (y_val tok rfl) ?_
        have hlt_y := lt_of_at h_y
        refine o_yield rfl rfl rfl (y_idx tok rfl (fun hg => hs.sl) (fun hg => ⟨by omega, by omega⟩)) ?_
        refine o_yield rfl rfl rfl (y_lel tok (i) 0 (y) rfl (fun hg => hs) (fun hg => h_y) rfl rfl) ?_
        refine o_step rfl rfl rfl rfl rfl (s_bs tok 2 rfl rfl rfl) (fun _ _ => ?_)
        refine o_step rfl rfl rfl rfl rfl (s_app tok y.cells rfl (fun E w hm => ownsRow_src (hm.row _ _ _ _ _ rfl)) (fun _ _ _ => by simpa using blk_ones [y]) (by dsimp only; omega)) (fun _ _ => ?_)
        refine o_yield rfl rfl rfl (y_val tok rfl) ?_
        refine o_end [0, 3, 5, 7, 8, 9] rfl ?_
        refine x_block ?_
        refine x_then ?_
        refine c_region ?_
        refine o_yield rfl rfl rfl (y_val tok rfl) ?_
        refine o_yield rfl rfl rfl (y_val tok rfl) ?_
        refine o_yield rfl rfl rfl (y_val tok rfl) ?_
        refine o_end [0, 3, 5, 7, 8, 9] rfl ?_
        refine x_then ?_
        rw [hy.1, hy.2, hwi]
        refine k_swap 1 3 rfl ?_
        have hfin : O ++ [y] ++ (if d = true then l.drop (i + 1) else oneL th x (l.drop (i + 1))) = insS l x := by
          rw [← hinv]
          cases d with
          | false => rw [if_neg (by simp), if_neg (by simp), oneL, if_neg (fun c => hno ⟨rfl, c⟩), if_neg (fun c => hno2 ⟨rfl, c⟩)]; simp
          | true => simp
        refine x_round ((i + 1, d, O ++ [y])) (⟨by dsimp only; omega, by dsimp only; simp; omega, hfin⟩) (by first | omega | (dsimp only; omega)) (by repeat (first | exact SubF.nil | refine SubF.cons rfl ?_)) (by repeat (first | exact SubO.nil | refine SubO.cons rfl ?_)) rfl (Vw.le.refl _)
  ·
    simp only [Bool.and_eq_true, Bool.or_eq_true, Bool.not_eq_true', Bool.or_eq_false_iff, Bool.and_eq_false_iff, decide_eq_true_eq, decide_eq_false_iff_not, beq_iff_eq, bne_iff_ne, Bool.not_eq_false', beq_eq_false_iff_ne, bne_eq_false_iff_eq, ne_eq, Decidable.not_not, Int.not_lt, Int.not_le] at h
    have hil : i = l.length := by omega
    subst hil
    rw [List.drop_length] at hinv
    clear h
    refine c_exit ?_
    refine x_then_exit ?_
    refine x_then_exit ?_
    refine x_block_hit ?_
    refine x_then ?_
    refine c_seq ?_
    refine c_seq ?_
    refine c_region ?_
    refine o_yield rfl rfl rfl (y_val tok rfl) ?_
    refine o_yield rfl rfl rfl (y_val tok rfl) ?_
    refine o_end [3, 5, 70] rfl ?_
    refine x_then ?_
    refine c_cond rfl (fun h => ?_) (fun h => ?_)
    ·
      simp only [Bool.and_eq_true, Bool.or_eq_true, Bool.not_eq_true', Bool.or_eq_false_iff, Bool.and_eq_false_iff, decide_eq_true_eq, decide_eq_false_iff_not, beq_iff_eq, bne_iff_ne, Bool.not_eq_false', beq_eq_false_iff_ne, bne_eq_false_iff_eq, ne_eq, Decidable.not_not, Int.not_lt, Int.not_le] at h
      refine c_region ?_
      refine o_yield rfl rfl rfl (y_val tok rfl) ?_
      refine o_yield rfl rfl rfl (y_val tok rfl) ?_
      subst h
      have hx := app_row O x
      refine o_step rfl rfl rfl rfl rfl (s_bs tok 2 rfl rfl rfl) (fun _ _ => ?_)
      refine o_step rfl rfl rfl rfl rfl (s_app tok x.cells rfl (fun E w hm => ownsRow_src (hm.row _ _ _ _ _ rfl)) (fun _ _ _ => by simpa using blk_ones [x]) (by dsimp only; omega)) (fun _ _ => ?_)
      refine o_yield rfl rfl rfl (y_val tok rfl) ?_
      refine o_end [5] rfl ?_
      refine x_then ?_
      refine c_seq ?_
      refine c_region ?_
      refine o_yield rfl rfl rfl (y_val tok rfl) ?_
      refine o_yield rfl rfl rfl (y_val tok rfl) ?_
      refine o_end [4] rfl ?_
      refine x_then ?_
      refine c_ret ?_
      refine b_ret tok rfl ?_
      rw [if_neg (by simp), oneL] at hinv
      rw [hx.1, hx.2, hinv]
      intro E w' hm _
      exact ⟨⟨E.κ 3, rfl, hm.rowFresh (Vw.le.refl _) (l := 3) rfl⟩, hm.below (Vw.le.refl _)⟩
    ·
      simp only [Bool.and_eq_true, Bool.or_eq_true, Bool.not_eq_true', Bool.or_eq_false_iff, Bool.and_eq_false_iff, decide_eq_true_eq, decide_eq_false_iff_not, beq_iff_eq, bne_iff_ne, Bool.not_eq_false', beq_eq_false_iff_ne, bne_eq_false_iff_eq, ne_eq, Decidable.not_not, Int.not_lt, Int.not_le] at h
      refine c_skip ?_
      refine x_then ?_
      refine c_seq ?_
      refine c_region ?_
      refine o_yield rfl rfl rfl (y_val tok rfl) ?_
      refine o_yield rfl rfl rfl (y_val tok rfl) ?_
      refine o_end [4] rfl ?_
      refine x_then ?_
      refine c_ret ?_
      refine b_ret tok rfl ?_
      subst h
      rw [if_pos rfl, List.append_nil] at hinv
      rw [hinv]
      intro E w' hm _
      exact ⟨⟨E.κ 1, rfl, hm.rowFresh (Vw.le.refl _) (l := 1) rfl⟩, hm.below (Vw.le.refl _)⟩

def insAll (l more : List Block) : List Block := more.foldl insS l

theorem insS_len (l : List Block) (x : Block) : (insS l x).length ≤ l.length + 1 := oneL_len _ _ _

theorem insAll_len : ∀ (more l : List Block), (insAll l more).length ≤ l.length + more.length
  | [], l => by simp [insAll]
  | x :: r, l => by
    have := insAll_len r (insS l x)
    have := insS_len l x
    simp only [insAll, List.foldl_cons, List.length_cons] at *
    omega

theorem insAll_snoc (l more : List Block) (x : Block) : insAll l (more ++ [x]) = insS (insAll l more) x := by simp [insAll]

theorem take_succ_at' {α : Type} {l : List α} {i : Nat} {x : α} (h : l[i]? = some x) : l.take (i + 1) = l.take i ++ [x] := by
  rw [List.take_add_one, h]; rfl

theorem rput18_c (V : Vw) (sv mv : Value) (l more : List Block) (w : World) (hV : V.le (vw w)) (hs0 : SlOf V Block.cells 2 sv l) (hm0 : SlOf V Block.cells 2 mv more) (hn : l.length + more.length ≤ 1000) :
    Calls Try.prog 28 #[sv, mv] w (RowB (insAll l more) w) := by
  have hs := hs0.mono hV
  have hmo := hm0.mono hV
  refine enter (E := E0) (O := []) (nl := 0) (V := vw w) [.a (.v sv), .a (.v mv)] Try.func28 rfl rfl (mem0 E0 0 w) rfl rfl ?_
  refine c_seq ?_
  refine c_region ?_
  refine o_yield rfl rfl rfl (y_val tok rfl) ?_
  refine o_end [0, 1] rfl ?_
  refine x_then ?_
  refine c_seq ?_
  refine c_region ?_
  refine o_step rfl rfl rfl rfl rfl (s_bs tok 2 rfl rfl rfl) (fun _ _ => ?_)
  refine o_yield rfl rfl rfl (y_val tok rfl) ?_
  refine o_step rfl rfl rfl rfl rfl (s_app tok (l.flatMap Block.cells) rfl (fun E w hm => hs.sl.src hm.get) (fun _ _ _ => blk_ones _) (by dsimp only; omega)) (fun _ _ => ?_)
  refine o_yield rfl rfl rfl (y_val tok rfl) ?_
  refine o_end [1, 5] rfl ?_
  refine x_then ?_
  refine c_seq ?_
  refine c_seq ?_
  refine c_region ?_
  refine o_yield rfl rfl rfl (y_val tok rfl) ?_
  refine o_end [1, 5, 6] rfl ?_
  refine x_then ?_
  refine c_block ?_
  rw [List.nil_append, Nat.zero_add l.length]
  refine k_swap 0 1 rfl ?_
  have e0 : insAll l (more.take 0) = l := by simp [insAll]
  refine c_loopK [1] [0] rfl rfl (σ := Nat) (fun i => [(5, .a (.row 0)), (6, .a (.v (I i)))]) (fun i => [(0, .row 57 2 (insAll l (more.take i)).length ((insAll l (more.take i)).flatMap Block.cells))]) (fun i => i ≤ more.length) (fun i => more.length - i) (0) (by omega) (by repeat (first | exact SubF.nil | refine SubF.cons rfl ?_ | refine SubF.cons (by simp only [e0]; first | done | rfl) ?_)) (by repeat (first | exact SubO.nil | refine SubO.cons rfl ?_ | refine SubO.cons (by simp only [e0]; first | done | rfl) ?_)) rfl ?_
  rintro i hi
  refine c_seq ?_
  refine c_seq ?_
  refine c_region ?_
  refine o_yield rfl rfl rfl (y_val tok rfl) ?_
  refine o_yield rfl rfl rfl (y_val tok rfl) ?_
  refine o_yield rfl rfl rfl (y_len tok rfl (fun hg => hmo.sl)) ?_
  refine o_yield rfl rfl rfl (y_val tok rfl) ?_
  refine o_end [1, 5, 6, 13] rfl ?_
  refine x_then ?_
  refine c_cond rfl (fun h => ?_) (fun h => ?_)
  ·
    simp only [Bool.and_eq_true, Bool.or_eq_true, Bool.not_eq_true', Bool.or_eq_false_iff, Bool.and_eq_false_iff, decide_eq_true_eq, decide_eq_false_iff_not, beq_iff_eq, bne_iff_ne, Bool.not_eq_false', beq_eq_false_iff_ne, bne_eq_false_iff_eq, ne_eq, Decidable.not_not, Int.not_lt, Int.not_le] at h
    refine c_skip ?_
    refine x_then ?_
    refine c_seq ?_
    refine c_block ?_
    refine c_region ?_
    refine o_yield rfl rfl rfl (y_val tok rfl) ?_
    refine o_yield rfl rfl rfl (y_val tok rfl) ?_
    refine o_yield rfl rfl rfl (y_val tok rfl) ?_
    obtain ⟨y, h_y⟩ := hmo.at (k := i) (by omega)
    have hwi : IntKind.i64.wrap ((i : Int) + 1) = ((i + 1 : Nat) : Int) := wrapI (by omega) (by omega)
    have hsn : insAll l (more.take (i + 1)) = insS (insAll l (more.take i)) y := by rw [take_succ_at' h_y, insAll_snoc]
    have hlen := insAll_len (more.take i) l
    have hti : (more.take i).length = i := by rw [List.length_take]; omega
    generalize insAll l (more.take i) = L at *
    have hlt_y := lt_of_at h_y
    refine o_yield rfl rfl rfl (y_idx tok rfl (fun hg => hmo.sl) (fun hg => ⟨by omega, by omega⟩)) ?_
    refine o_yield rfl rfl rfl (y_lel tok (i) 0 (y) rfl (fun hg => hmo) (fun hg => h_y) rfl rfl) ?_
    refine o_step rfl rfl rfl rfl rfl (s_callRow 57 2 (insS L y).length ((insS L y).flatMap Block.cells) rfl fnok38 (fun E w hm => (rone_c (vw w) _ L y w (Vw.le.refl _) (hm.rowOf 0 rfl (fun _ => rfl)) (by omega)).mono (fun e w' ⟨⟨v, he, ho⟩, hb⟩ => ⟨v, he, ho, hb⟩))) (fun _ _ => ?_)
    refine o_yield rfl rfl rfl (y_val tok rfl) ?_
    refine o_end [1, 5, 6] rfl ?_
    refine x_block ?_
    refine x_then ?_
    refine c_region ?_
    refine o_yield rfl rfl rfl (y_val tok rfl) ?_
    refine o_yield rfl rfl rfl (y_val tok rfl) ?_
    refine o_yield rfl rfl rfl (y_val tok rfl) ?_
    refine o_end [1, 5, 6] rfl ?_
    refine x_then ?_
    rw [← hsn, hwi]
    refine k_swap 0 2 rfl ?_
    refine x_round (i + 1) (by omega) (by first | omega | (dsimp only; omega)) (by repeat (first | exact SubF.nil | refine SubF.cons rfl ?_)) (by repeat (first | exact SubO.nil | refine SubO.cons rfl ?_)) rfl (Vw.le.refl _)
  ·
    simp only [Bool.and_eq_true, Bool.or_eq_true, Bool.not_eq_true', Bool.or_eq_false_iff, Bool.and_eq_false_iff, decide_eq_true_eq, decide_eq_false_iff_not, beq_iff_eq, bne_iff_ne, Bool.not_eq_false', beq_eq_false_iff_ne, bne_eq_false_iff_eq, ne_eq, Decidable.not_not, Int.not_lt, Int.not_le] at h
    refine c_exit ?_
    refine x_then_exit ?_
    refine x_then_exit ?_
    refine x_block_hit ?_
    refine x_then ?_
    refine c_seq ?_
    refine c_region ?_
    refine o_yield rfl rfl rfl (y_val tok rfl) ?_
    refine o_yield rfl rfl rfl (y_val tok rfl) ?_
    refine o_end [4] rfl ?_
    refine x_then ?_
    refine c_ret ?_
    refine b_ret tok rfl ?_
    have hil : i = more.length := by omega
    subst hil
    rw [List.take_length]
    intro E w' hm _
    exact ⟨⟨E.κ 0, rfl, hm.rowFresh (Vw.le.refl _) (l := 0) rfl⟩, hm.below (Vw.le.refl _)⟩

theorem rmerge_c (V : Vw) (sv mv : Value) (l more : List Block) (w : World) (hV : V.le (vw w)) (hs0 : SlOf V Block.cells 2 sv l) (hm0 : SlOf V Block.cells 2 mv more) (hn : l.length + more.length ≤ 1000) :
    Calls Try.prog 13 #[sv, mv] w (RowB (insAll l more) w) := by
  have hs := hs0.mono hV
  have hmo := hm0.mono hV
  refine enter (E := E0) (O := []) (nl := 0) (V := vw w) [.a (.v sv), .a (.v mv)] Try.func13 rfl rfl (mem0 E0 0 w) rfl rfl ?_
  refine c_seq ?_
  refine c_region ?_
  refine o_yield rfl rfl rfl (y_val tok rfl) ?_
  refine o_end [0, 1] rfl ?_
  refine x_then ?_
  refine c_seq ?_
  refine c_region ?_
  refine o_yield rfl rfl rfl (y_val tok rfl) ?_
  refine o_yield rfl rfl rfl (y_val tok rfl) ?_
  refine o_step rfl rfl rfl rfl rfl (s_callRow 57 2 (insAll l more).length ((insAll l more).flatMap Block.cells) rfl fnok28 (fun E w1 hm => (rput18_c (vw w1) _ _ l more w1 (Vw.le.refl _) (hs.mono hm.leV) (hmo.mono hm.leV) hn).mono (fun e w' ⟨⟨v, he, ho⟩, hb⟩ => ⟨v, he, ho, hb⟩))) (fun _ _ => ?_)
  refine o_yield rfl rfl rfl (y_val tok rfl) ?_
  refine o_end [4] rfl ?_
  refine x_then ?_
  refine c_ret ?_
  refine b_ret tok rfl ?_
  intro E w' hm _
  exact ⟨⟨E.κ 0, rfl, hm.rowFresh (Vw.le.refl _) (l := 0) rfl⟩, hm.below (Vw.le.refl _)⟩

def RowBV (L : List Block) (x : Value) (V' : Vw) : Prop := ∃ a n c, x = .slice a n c ∧ SlOf V' Block.cells 2 (.slice a n c) L

theorem rowB_V {V : Vw} {f : Nat} {L : List Block} {args : Array Value} {w : World} (hV : V.le (vw w)) (h : Calls Try.prog f args w (RowB L w)) :
    Calls Try.prog f args w fun e w' => ∃ x V', e = .returned x ∧ Below w.heap.size w w' ∧ Vext w.heap.size V V' w' ∧ RowBV L x V' := by
  refine h.mono ?_
  rintro e w' ⟨⟨v, rfl, hown⟩, hb⟩
  obtain ⟨V', hx, hsl⟩ := ownsRow_vext hV hb hown
  obtain ⟨a, n, c, rfl⟩ := sl_shape hsl
  exact ⟨_, V', rfl, hb, hx, a, n, c, rfl, hsl, fun _ => rfl⟩

/-! Rows that rise, written as what stands at each number. -/

def mkF (f : Int → Option ByteArray) (a : Int) : Nat → List Block
  | 0 => []
  | k + 1 => (match f a with | some t => [⟨a, t⟩] | none => []) ++ mkF f (a + 1) k

def updF (f : Int → Option ByteArray) (x : Block) (n : Int) : Option ByteArray := if n = x.n then some x.text else f n

theorem mkF_congr {f g : Int → Option ByteArray} : ∀ (k : Nat) (a : Int), (∀ n, a ≤ n → n < a + k → f n = g n) → mkF f a k = mkF g a k
  | 0, _, _ => rfl
  | k + 1, a, h => by rw [mkF, mkF, h a (by omega) (by omega), mkF_congr k (a + 1) (fun n h1 h2 => h n (by omega) (by omega))]

theorem mkF_n {f : Int → Option ByteArray} : ∀ (k : Nat) (a : Int) (b : Block), b ∈ mkF f a k → a ≤ b.n
  | 0, _, _, h => by simp [mkF] at h
  | k + 1, a, b, h => by
    rw [mkF, List.mem_append] at h
    rcases h with h | h
    · cases hf : f a with
      | none => rw [hf] at h; simp at h
      | some t => rw [hf] at h; simp at h; subst h; simp
    · have := mkF_n k (a + 1) b h
      omega

theorem getF {f : Int → Option ByteArray} {n : Int} : ∀ (k : Nat) (a : Int), a ≤ n → n < a + k → (getB (mkF f a k) n).2 = (f n).isSome
  | 0, a, h1, h2 => by omega
  | k + 1, a, h1, h2 => by
    rw [mkF]
    by_cases e : a = n
    · subst e
      cases hf : f a with
      | some t => simp [getB]
      | none =>
        simp only [List.nil_append, Option.isSome]
        have h3 := mkF_n (f := f) k (a + 1)
        generalize mkF f (a + 1) k = l at *
        induction l with
        | nil => rfl
        | cons b r ih =>
          have := h3 b (by simp)
          rw [getB, if_neg (show ¬ b.n = a by omega)]
          exact ih (fun b hb => h3 b (by simp [hb]))
    · have ih := getF (f := f) (n := n) k (a + 1) (by omega) (by omega)
      cases hf : f a with
      | some t => simp only [List.singleton_append]; rw [getB, if_neg e, ih]
      | none => simpa using ih

theorem oneF {f : Int → Option ByteArray} {x : Block} : ∀ (k : Nat) (a : Int), a ≤ x.n → x.n < a + k → oneL (f x.n).isSome x (mkF f a k) = mkF (updF f x) a k
  | 0, a, h1, h2 => by omega
  | k + 1, a, h1, h2 => by
    rw [mkF, mkF]
    by_cases e : a = x.n
    · have hr : mkF (updF f x) (a + 1) k = mkF f (a + 1) k := mkF_congr k (a + 1) fun n h3 h4 => by rw [updF, if_neg (by omega)]
      have hu : updF f x a = some x.text := by rw [updF, if_pos e]
      rw [hr, hu]
      subst e
      cases hf : f x.n with
      | some t => simp [oneL]
      | none =>
        simp only [List.nil_append, Option.isSome, List.singleton_append]
        have h3 := mkF_n (f := f) k (x.n + 1)
        generalize mkF f (x.n + 1) k = l at *
        cases l with
        | nil => rfl
        | cons b r =>
          have := h3 b (by simp)
          rw [oneL, if_neg (by simp), if_pos ⟨rfl, (show x.n < b.n by omega)⟩]
    · have hu : updF f x a = f a := by rw [updF, if_neg e]
      have ih := oneF (f := f) (x := x) k (a + 1) (by omega) (by omega)
      rw [hu]
      cases hf : f a with
      | some t => simp only [List.singleton_append]; rw [oneL, if_neg (fun c => e c.2), if_neg (fun c => by have := c.2; dsimp only at this; omega), ih]
      | none => simpa using ih

theorem insF {f : Int → Option ByteArray} {x : Block} {k : Nat} (h1 : 0 ≤ x.n) (h2 : x.n < k) : insS (mkF f 0 k) x = mkF (updF f x) 0 k := by
  rw [insS, getF k 0 h1 (by omega)]
  exact oneF k 0 h1 (by omega)

theorem insAllF {k : Nat} : ∀ (more : List Block) (f : Int → Option ByteArray), (∀ x ∈ more, 0 ≤ x.n ∧ x.n < k) → insAll (mkF f 0 k) more = mkF (more.foldl updF f) 0 k
  | [], f, _ => rfl
  | x :: r, f, h => by
    rw [insAll, List.foldl_cons, List.foldl_cons, insF (h x (by simp)).1 (h x (by simp)).2]
    exact insAllF r _ (fun y hy => h y (by simp [hy]))

theorem mkF_none (k : Nat) (a : Int) : mkF (fun _ => none) a k = [] := by
  induction k generalizing a with
  | zero => rfl
  | succ k ih => rw [mkF, ih]; rfl

end Go.Proofs.Ytmjdihpdlfidmaa

/- Rows of blocks compared, a block put: over views. -/
set_option linter.unusedVariables false
set_option linter.unusedSimpArgs false
set_option maxRecDepth 100000
namespace Go.Proofs.Ytmjdihpdlfidmaa
open Go Go.Eng Go.RowKit

def Block.eqBd (a b : Block) : Bool := a.n == b.n && a.text.toList == b.text.toList

end Go.Proofs.Ytmjdihpdlfidmaa

/- Spans: the functions of package span. -/
set_option linter.unusedVariables false
set_option linter.unusedSimpArgs false
set_option maxRecDepth 100000
namespace Go.Proofs.Ytmjdihpdlfidmaa
open Go Go.Eng Go.RowKit

def hasB (lo hi n : Int) : Bool := decide (lo ≤ n) && decide (n ≤ hi)

theorem spHas_c (lo hi n : Int) (w : World) : Calls Try.prog 46 #[.agg #[I lo, I hi], I n] w fun e w' => e = .returned (.bool (hasB lo hi n)) ∧ Below w.heap.size w w' := by
  refine enter (E := E0) (O := []) (nl := 0) (V := vw w) [.a (.v (.agg #[I lo, I hi])), .a (.v (I n))] Try.func46 rfl rfl (mem0 E0 0 w) rfl rfl ?_
  refine c_seq ?_
  refine c_region ?_
  refine o_new tok rfl rfl rfl rfl ?_
  refine o_yield rfl rfl rfl (y_val tok rfl) ?_
  refine o_end [1, 2] rfl ?_
  refine x_then ?_
  refine c_seq ?_
  refine c_region ?_
  refine o_yield rfl rfl rfl (y_val tok rfl) ?_
  refine o_yield rfl rfl rfl (y_val tok rfl) ?_
  refine o_yield rfl rfl rfl (y_val tok rfl) ?_
  refine o_yield rfl rfl rfl (y_val tok rfl) ?_
  refine o_yield rfl rfl rfl (y_val tok rfl) ?_
  refine o_yield rfl rfl rfl (y_val tok rfl) ?_
  refine o_yield rfl rfl rfl (y_val tok rfl) ?_
  refine o_yield rfl rfl rfl (y_val tok rfl) ?_
  refine o_yield rfl rfl rfl (y_val tok rfl) ?_
  refine o_yield rfl rfl rfl (y_val tok rfl) ?_
  refine o_yield rfl rfl rfl (y_val tok rfl) ?_
  refine o_yield rfl rfl rfl (y_val tok rfl) ?_
  refine o_yield rfl rfl rfl (y_val tok rfl) ?_
  refine o_end [4] rfl ?_
  refine x_then ?_
  refine c_ret ?_
  refine b_ret tok rfl ?_
  intro E w' hm _
  exact ⟨rfl, hm.below (Vw.le.refl _)⟩

def meets (lo hi lo' hi' : Int) : Bool := (!decide (hi < lo) && !decide (hi' < lo')) && (hasB lo hi lo' || hasB lo' hi' lo)

theorem spOf_c (h : Hold) (w : World) : Calls Try.prog 45 #[h.val] w fun e w' => e = .returned (.agg #[I h.lo, I h.hi, I h.key, I8 h.mode]) ∧ Below w.heap.size w w' := by
  refine enter (E := E0) (O := []) (nl := 0) (V := vw w) [.a (.v h.val)] Try.func45 rfl rfl (mem0 E0 0 w) rfl rfl ?_
  refine c_seq ?_
  refine c_region ?_
  refine o_new tok rfl rfl rfl rfl ?_
  refine o_new tok rfl rfl rfl rfl ?_
  refine o_end [1, 2] rfl ?_
  refine x_then ?_
  refine c_seq ?_
  refine c_region ?_
  refine o_yield rfl rfl rfl (y_val tok rfl) ?_
  refine o_yield rfl rfl rfl (y_val tok rfl) ?_
  refine o_yield rfl rfl rfl (y_val tok rfl) ?_
  refine o_yield rfl rfl rfl (y_val tok rfl) ?_
  refine o_yield rfl rfl rfl (y_val tok rfl) ?_
  refine o_yield rfl rfl rfl (y_val tok rfl) ?_
  refine o_yield rfl rfl rfl (y_val tok rfl) ?_
  refine o_yield rfl rfl rfl (y_val tok rfl) ?_
  refine o_store tok rfl rfl rfl (by first | exact ⟨trivial, trivial⟩ | (repeat' first | exact trivial | exact rfl | apply And.intro); done | simp [onesP, oneP, lk, Value.oneCell']) ?_
  refine o_end [2] rfl ?_
  refine x_then ?_
  refine c_ret ?_
  refine b_ret tok rfl ?_
  intro E w' hm _
  exact ⟨rfl, hm.below (Vw.le.refl _)⟩

def together (a b : Hold) : Bool := ((a.key == b.key) || !meets a.lo a.hi b.lo b.hi) || ((a.mode == 1) && (b.mode == 1))

def may (blocks lo hi : Int) : Bool := (!decide (hi < lo) && decide (0 ≤ lo)) && decide (hi < blocks)



def holdB (blocks : Int) (h : Hold) : Bool := (decide (0 < h.key) && may blocks h.lo h.hi) && ((h.mode == 1) || (h.mode == 2))

/-! slices.IndexFunc, ContainsFunc -/

def idxOf {α : Type} (pr : α → Bool) (l : List α) : Int := match l.findIdx? pr with
  | some k => k
  | none => -1

/-- A function value that tells pr, wherever V is read. -/
def Tells (V : Vw) (fv : Value) (pr : Hold → Bool) : Prop :=
  ∀ x w', V.le (vw w') → CallsFn Try.prog fv [x.val] w' fun e w'' => e = .returned (.bool (pr x)) ∧ Below w'.heap.size w' w''

theorem spIndexFunc_c (V : Vw) (fv sv : Value) (pr : Hold → Bool) (l : List Hold) (w : World) (hV : V.le (vw w)) (hs : SlOf V Hold.cells 4 sv l) (hn : l.length ≤ lim) (hf : Tells V fv pr) :
    Calls Try.prog 60 #[sv, fv] w fun e w' => e = .returned (I (idxOf pr l)) ∧ Below w.heap.size w w' := by
  unfold lim at hn
  have hs' := hs.mono hV
  refine enter (E := E0) (O := []) (nl := 0) (V := vw w) [.a (.v sv), .a (.v fv)] Try.func60 rfl rfl (mem0 E0 0 w) rfl rfl ?_
  refine c_seq ?_
  refine c_region ?_
  refine o_yield rfl rfl rfl (y_val tok rfl) ?_
  refine o_end [0, 1] rfl ?_
  refine x_then ?_
  refine c_seq ?_
  refine c_seq ?_
  refine c_region ?_
  refine o_yield rfl rfl rfl (y_val tok rfl) ?_
  refine o_yield rfl rfl rfl (y_len tok rfl (fun hg => hs'.sl)) ?_
  refine o_yield rfl rfl rfl (y_val tok rfl) ?_
  refine o_end [0, 1, 7, 8] rfl ?_
  refine x_then ?_
  refine c_block ?_
  refine c_loop (σ := Nat) (fun k => [(0, .a (.v sv)), (1, .a (.v fv)), (7, .a (.v (I l.length))), (8, .a (.v (I k)))]) (fun _ => []) 0 (fun _ => vw w)
    (fun k => k ≤ l.length ∧ ∀ j x, j < k → l[j]? = some x → pr x = false) (fun k => l.length - k) 0 ⟨by omega, by simp⟩ ⟨rfl, rfl, rfl, rfl, trivial⟩ trivial rfl (Vw.le.refl _) ?_
  rintro k ⟨hk, hall⟩
  refine c_seq ?_
  refine c_region ?_
  refine o_yield rfl rfl rfl (y_val tok rfl) ?_
  refine o_end [0, 1, 7, 8, 9] rfl ?_
  refine x_then ?_
  refine c_seq ?_
  refine c_cond rfl (fun h => ?_) (fun h => ?_)
  ·
    refine c_skip ?_
    refine x_then ?_
    refine c_seq ?_
    refine c_block ?_
    refine c_seq ?_
    refine c_region ?_
    refine o_yield rfl rfl rfl (y_val tok rfl) ?_
    refine o_yield rfl rfl rfl (y_val tok rfl) ?_
    refine o_end [0, 1, 5, 7, 8] rfl ?_
    refine x_then ?_
    refine c_seq ?_
    refine c_region ?_
    refine o_yield rfl rfl rfl (y_val tok rfl) ?_
    refine o_yield rfl rfl rfl (y_val tok rfl) ?_
    refine o_yield rfl rfl rfl (y_val tok rfl) ?_
    have hlt : k < l.length := by simp at h; exact h
    have hx : l[k]? = some l[k] := by simp [hlt]
    refine o_yield rfl rfl rfl (y_idx tok rfl (fun hg => hs'.sl) (fun hg => ⟨by omega, by omega⟩)) ?_
    refine o_yield rfl rfl rfl (y_lel tok (k) 0 (l[k]) rfl (fun hg => hs') (fun hg => hx) rfl rfl) ?_
    refine o_callF (.a (.v _)) rfl rfl rfl rfl rfl (fun hg E w1 hm => by exact hf l[k] w1 (hV.trans hm.leV)) ?_
    refine o_end [0, 1, 5, 7, 8, 16] rfl ?_
    refine x_then ?_
    refine c_cond rfl (fun h => ?_) (fun h => ?_)
    ·
      refine c_seq ?_
      refine c_region ?_
      refine o_yield rfl rfl rfl (y_val tok rfl) ?_
      refine o_yield rfl rfl rfl (y_val tok rfl) ?_
      refine o_end [4] rfl ?_
      refine x_then ?_
      refine c_ret ?_
      refine x_block_ret ?_
      refine x_then_ret ?_
      refine x_then_ret ?_
      refine x_block_ret ?_
      refine x_then_ret ?_
      refine b_ret tok rfl ?_
      intro E w' hm _
      refine ⟨?_, hm.below (Vw.le.refl _)⟩
      rw [idxOf, findIdx?_at hx h hall]; rfl
    ·
      refine c_skip ?_
      refine x_block ?_
      refine x_then ?_
      refine c_region ?_
      refine o_yield rfl rfl rfl (y_val tok rfl) ?_
      refine o_yield rfl rfl rfl (y_val tok rfl) ?_
      refine o_end [0, 1, 7, 8] rfl ?_
      refine x_then ?_
      rw [wrapI (by omega) (by omega)]
      exact x_round (k + 1) ⟨by omega, ahead_succ hx hall h⟩ (by omega) ⟨rfl, rfl, rfl, rfl, trivial⟩ trivial rfl (Vw.le.refl _)
  ·
    refine c_exit ?_
    refine x_then_exit ?_
    refine x_then_exit ?_
    refine x_block_hit ?_
    refine x_then ?_
    refine c_seq ?_
    refine c_region ?_
    refine o_yield rfl rfl rfl (y_val tok rfl) ?_
    refine o_end [4] rfl ?_
    refine x_then ?_
    refine c_ret ?_
    refine b_ret tok rfl ?_
    have hge : k = l.length := by simp at h; omega
    intro E w' hm _
    refine ⟨?_, hm.below (Vw.le.refl _)⟩
    rw [idxOf, findIdx?_no (hge ▸ hall)]; rfl

theorem spContainsFunc_c (V : Vw) (fv sv : Value) (pr : Hold → Bool) (l : List Hold) (w : World) (hV : V.le (vw w)) (hs : SlOf V Hold.cells 4 sv l) (hn : l.length ≤ lim) (hf : Tells V fv pr) :
    Calls Try.prog 54 #[sv, fv] w fun e w' => e = .returned (.bool (l.any pr)) ∧ Below w.heap.size w w' := by
  refine enter (E := E0) (O := []) (nl := 0) (V := vw w) [.a (.v sv), .a (.v fv)] Try.func54 rfl rfl (mem0 E0 0 w) rfl rfl ?_
  refine c_seq ?_
  refine c_region ?_
  refine o_yield rfl rfl rfl (y_val tok rfl) ?_
  refine o_end [0, 1] rfl ?_
  refine x_then ?_
  refine c_seq ?_
  refine c_region ?_
  refine o_yield rfl rfl rfl (y_val tok rfl) ?_
  refine o_yield rfl rfl rfl (y_val tok rfl) ?_
  refine o_call (.a (.v _)) rfl rfl fnok60 rfl rfl rfl (fun hg E w1 hm => by exact spIndexFunc_c V fv sv pr l _ (hV.trans hm.leV) hs hn hf) ?_
  refine o_yield rfl rfl rfl (y_val tok rfl) ?_
  refine o_yield rfl rfl rfl (y_val tok rfl) ?_
  refine o_end [4] rfl ?_
  refine x_then ?_
  refine c_ret ?_
  refine b_ret tok rfl ?_
  intro E w' hm _
  refine ⟨?_, hm.below (Vw.le.refl _)⟩
  have : decide (0 ≤ idxOf pr l) = l.any pr := by
    rw [← any_findIdx, idxOf]
    cases l.findIdx? pr <;> simp
  rw [← this]; rfl

/-- The function that 'every' hands on. -/
theorem spEveryFn_c (V : Vw) (fv : Value) (pr : Hold → Bool) (b : Nat) (hb : V.get b = some (.cells #[fv] 93 (0, 0))) (hf : Tells V fv pr) (x : Hold) (w : World) (hV : V.le (vw w)) :
    Calls Try.prog 55 #[x.val, .pointer (some ⟨b, 0, none⟩)] w fun e w' => e = .returned (.bool (!pr x)) ∧ Below w.heap.size w w' := by
  refine enter (E := E0) (O := []) (nl := 0) (V := vw w) [.a (.v x.val), .a (.v (.pointer (some ⟨b, 0, none⟩)))] Try.func55 rfl rfl (mem0 E0 0 w) rfl rfl ?_
  refine c_seq ?_
  refine c_region ?_
  refine o_new tok rfl rfl rfl rfl ?_
  refine o_yield rfl rfl rfl (y_val tok rfl) ?_
  refine o_end [1, 2] rfl ?_
  refine x_then ?_
  refine c_seq ?_
  refine c_region ?_
  refine o_yield rfl rfl rfl (y_ldp (cs := [fv]) tok rfl (fun hg => hV.get _ _ hb) rfl) ?_
  refine o_yield rfl rfl rfl (y_val tok rfl) ?_
  refine o_callF (.a (.v _)) rfl rfl rfl rfl rfl (fun hg E w1 hm => by exact hf x w1 (hV.trans hm.leV)) ?_
  refine o_yield rfl rfl rfl (y_val tok rfl) ?_
  refine o_yield rfl rfl rfl (y_val tok rfl) ?_
  refine o_end [3] rfl ?_
  refine x_then ?_
  refine c_ret ?_
  refine b_ret tok rfl ?_
  intro E w' hm _
  exact ⟨rfl, hm.below (Vw.le.refl _)⟩

theorem spEvery_c (V : Vw) (k : Nat) (caps : Array Value) (sv : Value) (pr : Hold → Bool) (l : List Hold) (w : World) (hV : V.le (vw w)) (hs : SlOf V Hold.cells 4 sv l) (hn : l.length ≤ lim)
    (hf : Tells V (.func (.func k) #[] caps) pr) :
    Calls Try.prog 43 #[.func (.func k) #[] caps, sv] w fun e w' => e = .returned (.bool (l.all pr)) ∧ Below w.heap.size w w' := by
  refine enter (E := E0) (O := []) (nl := 0) (V := vw w) [.a (.v (.func (.func k) #[] caps)), .a (.v sv)] Try.func43 rfl rfl (mem0 E0 0 w) rfl rfl ?_
  refine c_seq ?_
  refine c_region ?_
  refine o_new tok rfl rfl rfl rfl ?_
  refine o_yield rfl rfl rfl (y_val tok rfl) ?_
  refine o_end [1, 2] rfl ?_
  refine x_then ?_
  refine c_seq ?_
  refine c_region ?_
  refine o_yield rfl rfl rfl (y_val tok rfl) ?_
  refine o_yield rfl rfl rfl (y_val tok rfl) ?_
  refine o_call (.a (.v (.bool (l.any fun x => !pr x)))) rfl rfl fnok54 rfl rfl rfl (fun hg E w1 hm => ?_) ?_
  · have hle := hm.leV
    have hb := hm.lit 0 _ _ rfl
    refine spContainsFunc_c (vw w1) _ sv (fun x => !pr x) l w1 (Vw.le.refl _) (hs.mono (hV.trans hle)) hn ?_
    intro x w' hle'
    exact ⟨55, _, rfl, fnok55, spEveryFn_c (vw w1) _ pr (E.ρ 0) hb (fun x w' h => hf x w' ((hV.trans hle).trans h)) x w' hle'⟩
  refine o_yield rfl rfl rfl (y_val tok rfl) ?_
  refine o_yield rfl rfl rfl (y_val tok rfl) ?_
  refine o_end [4] rfl ?_
  refine x_then ?_
  refine c_ret ?_
  refine b_ret tok rfl ?_
  intro E w' hm _
  refine ⟨?_, hm.below (Vw.le.refl _)⟩
  show Ending.returned (.bool (!(l.any fun x => !pr x))) = _
  rw [List.all_eq_not_any_not]

/-! Fits -/

def fits (h : Hold) (l : List Hold) : Bool := l.all (together h)

/-! Covers -/

def coversAt (key block mode : Int) (o : Hold) : Bool := ((o.key == key) && hasB o.lo o.hi block) && ((o.mode == mode) || (o.mode == 2))

theorem spCoversFn_c (V : Vw) (key block mode : Int) (b1 b2 b3 : Nat) (h1 : V.get b1 = some (.cells #[I key] 3 (0, 0))) (h2 : V.get b2 = some (.cells #[I block] 3 (0, 0))) (h3 : V.get b3 = some (.cells #[I8 mode] 50 (0, 0)))
    (o : Hold) (w : World) (hV : V.le (vw w)) :
    Calls Try.prog 44 #[o.val, .pointer (some ⟨b1, 0, none⟩), .pointer (some ⟨b2, 0, none⟩), .pointer (some ⟨b3, 0, none⟩)] w fun e w' => e = .returned (.bool (!coversAt key block mode o)) ∧ Below w.heap.size w w' := by
  refine enter (E := E0) (O := []) (nl := 0) (V := vw w) [.a (.v o.val), .a (.v (.pointer (some ⟨b1, 0, none⟩))), .a (.v (.pointer (some ⟨b2, 0, none⟩))), .a (.v (.pointer (some ⟨b3, 0, none⟩)))] Try.func44 rfl rfl (mem0 E0 0 w) rfl rfl ?_
  refine c_seq ?_
  refine c_region ?_
  refine o_new tok rfl rfl rfl rfl ?_
  refine o_yield rfl rfl rfl (y_val tok rfl) ?_
  refine o_end [1, 2, 3, 4] rfl ?_
  refine x_then ?_
  refine c_seq ?_
  refine c_draw mixed (by kernel_rfl) ?_
  refine d_yield rfl rfl rfl (y_val tok rfl) rfl ?_
  refine d_yield rfl rfl rfl (y_val tok rfl) rfl ?_
  refine d_yield rfl rfl rfl (y_ldp (cs := [I key]) tok rfl (fun hg => hV.get _ _ h1) rfl) rfl ?_
  refine d_yield rfl rfl rfl (y_val tok rfl) rfl ?_
  refine d_yield rfl rfl rfl (y_val tok rfl) rfl ?_
  refine d_yield rfl rfl rfl (y_val tok rfl) rfl ?_
  refine d_call (.a (.v _)) rfl rfl fnok45 rfl rfl rfl (fun hg E w1 hm => by exact spOf_c o _) ?_
  refine d_yield rfl rfl rfl (y_val tok rfl) rfl ?_
  refine d_yield rfl rfl rfl (y_ldp (cs := [I block]) tok rfl (fun hg => hV.get _ _ h2) rfl) rfl ?_
  refine d_call (.a (.v _)) rfl rfl fnok46 rfl rfl rfl (fun hg E w1 hm => by exact spHas_c _ _ _ _) ?_
  refine d_yield rfl rfl rfl (y_val tok rfl) rfl ?_
  refine d_yield rfl rfl rfl (y_val tok rfl) rfl ?_
  refine d_yield rfl rfl rfl (y_val tok rfl) rfl ?_
  refine d_yield rfl rfl rfl (y_val tok rfl) rfl ?_
  refine d_yield rfl rfl rfl (y_val tok rfl) rfl ?_
  refine d_yield rfl rfl rfl (y_ldp (cs := [I8 mode]) tok rfl (fun hg => hV.get _ _ h3) rfl) rfl ?_
  refine d_yield rfl rfl rfl (y_val tok rfl) rfl ?_
  refine d_yield rfl rfl rfl (y_val tok rfl) rfl ?_
  refine d_yield rfl rfl rfl (y_val tok rfl) rfl ?_
  refine d_yield rfl rfl rfl (y_val tok rfl) rfl ?_
  refine d_yield rfl rfl rfl (y_val tok rfl) rfl ?_
  refine d_yield rfl rfl rfl (y_val tok rfl) rfl ?_
  refine d_yield rfl rfl rfl (y_val tok rfl) rfl ?_
  refine d_yield rfl rfl rfl (y_val tok rfl) rfl ?_
  refine d_end [5] rfl ?_
  refine x_then ?_
  refine c_ret ?_
  refine b_ret tok rfl ?_
  intro E w' hm _
  refine ⟨?_, hm.below (Vw.le.refl _)⟩
  show Ending.returned (.bool (((o.key != key) || !hasB o.lo o.hi block) || ((o.mode != mode) && (o.mode != 2)))) = _
  congr 2
  unfold coversAt bne
  cases (o.key == key) <;> cases hasB o.lo o.hi block <;> cases (o.mode == mode) <;> cases (o.mode == 2) <;> rfl

def covers (l : List Hold) (key block mode : Int) : Bool := l.any (coversAt key block mode)

theorem spCovers_c (V : Vw) (sv : Value) (l : List Hold) (key block mode : Int) (w : World) (hV : V.le (vw w)) (hs : SlOf V Hold.cells 4 sv l) (hn : l.length ≤ lim) :
    Calls Try.prog 35 #[sv, I key, I block, I8 mode] w fun e w' => e = .returned (.bool (covers l key block mode)) ∧ Below w.heap.size w w' := by
  refine enter (E := E0) (O := []) (nl := 0) (V := vw w) [.a (.v sv), .a (.v (I key)), .a (.v (I block)), .a (.v (I8 mode))] Try.func35 rfl rfl (mem0 E0 0 w) rfl rfl ?_
  refine c_seq ?_
  refine c_region ?_
  refine o_new tok rfl rfl rfl rfl ?_
  refine o_new tok rfl rfl rfl rfl ?_
  refine o_new tok rfl rfl rfl rfl ?_
  refine o_yield rfl rfl rfl (y_val tok rfl) ?_
  refine o_end [0, 5, 6, 7] rfl ?_
  refine x_then ?_
  refine c_seq ?_
  refine c_region ?_
  refine o_yield rfl rfl rfl (y_val tok rfl) ?_
  refine o_yield rfl rfl rfl (y_val tok rfl) ?_
  refine o_call (.a (.v (.bool (l.all fun o => !coversAt key block mode o)))) rfl rfl fnok43 rfl rfl rfl (fun hg E w1 hm => ?_) ?_
  · refine spEvery_c (vw w1) 44 _ sv (fun o => !coversAt key block mode o) l w1 (Vw.le.refl _) (hs.mono (hV.trans hm.leV)) hn ?_
    intro x w' hle'
    exact ⟨44, _, rfl, fnok44, spCoversFn_c (vw w1) key block mode (E.ρ 0) (E.ρ 1) (E.ρ 2) (hm.lit 0 _ _ rfl) (hm.lit 1 _ _ rfl) (hm.lit 2 _ _ rfl) x w' hle'⟩
  refine o_yield rfl rfl rfl (y_val tok rfl) ?_
  refine o_yield rfl rfl rfl (y_val tok rfl) ?_
  refine o_end [8] rfl ?_
  refine x_then ?_
  refine c_ret ?_
  refine b_ret tok rfl ?_
  intro E w' hm _
  refine ⟨?_, hm.below (Vw.le.refl _)⟩
  show Ending.returned (.bool (!(l.all fun o => !coversAt key block mode o))) = _
  rw [covers, List.any_eq_not_all_not]

/-! Touches -/

def touchesAt (key lo hi : Int) (o : Hold) : Bool := (o.key == key) && meets o.lo o.hi lo hi

def touches (l : List Hold) (key lo hi : Int) : Bool := l.any (touchesAt key lo hi)

/-! All -/

def allFrom : List Hold → Nat → List Hold → Bool
  | _, _, [] => true
  | l, i, h :: r => fits h (l.take i) && allFrom l (i + 1) r

def allB (l : List Hold) : Bool := allFrom l 0 l

end Go.Proofs.Ytmjdihpdlfidmaa

/- Spans: the document's. -/
set_option linter.unusedVariables false
set_option linter.unusedSimpArgs false
set_option maxRecDepth 100000
namespace Go.Proofs.Ytmjdihpdlfidmaa
open Go Go.Eng Go.RowKit


/-! What the document says of two holds -/

end Go.Proofs.Ytmjdihpdlfidmaa
