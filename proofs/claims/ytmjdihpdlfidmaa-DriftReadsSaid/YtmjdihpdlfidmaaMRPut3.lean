import Derived.Test.YtmjdihpdlfidmaaMGeo
import Derived.Lib.SliceRun
/- Rows cloned, put, merged: the program's. -/
set_option linter.unusedVariables false
set_option linter.unusedSimpArgs false
set_option maxRecDepth 100000
namespace Go.Proofs.Ytmjdihpdlfidmaa
open Go Go.Eng Go.RowKit

theorem nilEq (a : Option Addr) (n c : Nat) (w : World) {ox oy : Operand} : (do eqGuard .eql 24 ox oy (.slice a n c) (.slice none 0 0); binOp .eql 24 (.slice a n c) (.slice none 0 0) : Sem Value).run Try.prog w = .ok (.bool a.isNone) w := by
  have hg : (eqGuard .eql 24 ox oy (.slice a n c) (.slice none 0 0)).run Try.prog w = .ok () w := by simp [eqGuard]
  rw [Sem.run_bind, hg]
  simp only [Result.andThen_ok]
  exact Lib.run_eql_slice_nil w 24 57 a n c 0 0 Try.underlying24

theorem clone_c (V : Vw) (sv : Value) (l : List Block) (w : World) (hV : V.le (vw w)) (hs0 : SlOf V Block.cells 2 sv l) (hn : l.length ≤ 1048576) :
    Calls Try.prog 39 #[sv] w fun e w' => ∃ v', e = .returned v' ∧ w'.ownsRow w.heap.size 57 2 v' l.length (l.flatMap Block.cells) ∧ Below w.heap.size w w' := by
  obtain ⟨a, n, c, rfl⟩ := sl_shape hs0.sl
  have hs := hs0.mono hV
  refine enter (E := E0) (O := []) (nl := 0) (V := vw w) [.a (.v (.slice a n c))] Try.func39 rfl rfl (mem0 E0 0 w) rfl rfl ?_
  refine c_seq ?_
  refine c_region ?_
  refine o_yield rfl rfl rfl (y_val tok rfl) ?_
  refine o_end [0] rfl ?_
  refine x_then ?_
  refine c_seq ?_
  refine c_seq ?_
  refine c_region ?_
  refine o_yield rfl rfl rfl (y_val tok rfl) ?_
  refine o_yield rfl rfl rfl (y_seq (.bool a.isNone) rfl (fun E w => nilEq a n c w)) ?_
  refine o_end [0, 4] rfl ?_
  refine x_then ?_
  refine c_cond rfl (fun h => ?_) (fun h => ?_)
  ·
    refine c_seq ?_
    refine c_region ?_
    refine o_yield rfl rfl rfl (y_val tok rfl) ?_
    refine o_end [2] rfl ?_
    refine x_then ?_
    refine c_ret ?_
    refine x_then_ret ?_
    refine b_ret tok rfl ?_
    intro E w' hm _
    have hnil : l = [] := by
      rcases hs0.sl.2 with ⟨a', c', h1, h2⟩ | ⟨b, off, cap, cs, e, f, h1, _⟩
      · exact List.eq_nil_of_length_eq_zero h2
      · cases h1; cases h
    subst hnil
    exact ⟨_, rfl, World.ownsRow_nil w' w.heap.size _ _, hm.below (Vw.le.refl _)⟩
  ·
    refine c_skip ?_
    refine x_then ?_
    refine c_seq ?_
    refine c_region ?_
    clear h
    refine o_step rfl rfl rfl rfl rfl (s_bs tok 2 rfl rfl rfl) (fun _ _ => ?_)
    refine o_yield rfl rfl rfl (y_val tok rfl) ?_
    refine o_step rfl rfl rfl rfl rfl (s_app (l := 0) (e := 57) (sz := 2) (by_ := 24) (m := 0) (k := l.length) (x := .a (.v (.slice a n c))) (olds := []) tok (l.flatMap Block.cells) rfl (fun E w1 hm => hs.sl.src hm.get) (fun _ _ _ => block_ones l) (by omega)) (fun _ _ => ?_)
    refine o_yield rfl rfl rfl (y_val tok rfl) ?_
    refine o_end [2] rfl ?_
    refine x_then ?_
    refine c_ret ?_
    refine b_ret tok rfl ?_
    intro E w' hm _
    refine ⟨_, rfl, ?_, hm.below (Vw.le.refl _)⟩
    have := hm.rowFresh (Vw.le.refl _) (l := 1) rfl
    rw [Nat.zero_add, List.nil_append] at this
    exact this

section
variable {o : Oper} {n : Nat} {F : Frame0} {C : List Nat} {O : Go.Eng.Own} {nl : Nat} {V : Vw}

/-- Blocks put into a row of one's own, in the caller's labels. -/
theorem s_rput {p : List (Nat × Bool)} (lo r e0 : Nat) (g : Geo) (l more : List Block) (lv : Value) (hv : evalC F p o.op = some (40, [.a (.ptr lo 0), .a (.v lv)])) (hlo : lk O lo = some (.lit (.row r :: g.cells.map .v) e0))
    (hr : lk O r = some (.row 57 2 l.length (l.flatMap Block.cells))) (hs : SlOf V Block.cells 2 lv more) (hn : l.length + more.length ≤ 1048576) :
    StepTo Try.prog o p n F C O nl V (σ := Unit) (fun _ => True) (fun _ => .tup []) (fun _ => (lo, .lit (.row nl :: g.cells.map .v) e0) :: (nl, .row 57 2 (putP l more).length ((putP l more).flatMap Block.cells)) :: (r, .gone) :: O) (nl + 1) (fun _ => V) := by
  constructor
  intro E a w hf hgv hm K Q hK
  obtain ⟨hrr, _⟩ := evalC_sound hf hgv hv fnok40 w
  unfold Oper.wp
  rw [hrr, Oper.upon_enter]
  have hrow := hm.row _ _ _ _ _ hr
  have hb := hm.lit _ _ _ hlo
  rw [List.map_cons, (den_plain E g.cells).1] at hb
  have hd : (E.κ r).ownBlock ≠ some (E.ρ lo) := fun h => by
    have := hm.sep r lo _ _ (E.ρ lo) hr hlo (by simpa [blk] using h) rfl
    subst this
    rw [hr] at hlo
    cases hlo
  have hle : V.le (((vw w).delO (E.κ r).ownBlock).del (E.ρ lo)) := by
    refine ⟨fun k ob hk => ?_, ?_, ?_, ?_⟩
    · have h1 : k ≠ E.ρ lo := fun h => by
        have := hm.off lo _ (E.ρ lo) hlo rfl
        rw [← h, hk] at this
        cases this
      have h2 : (E.κ r).ownBlock ≠ some k := fun h => by
        have := hm.off r _ k hr (by simpa [blk] using h)
        rw [hk] at this
        cases this
      simp only [Vw.del]
      rw [if_neg h1]
      cases hv : (E.κ r).ownBlock with
      | none => exact hm.get k ob hk
      | some b =>
        simp only [Vw.delO, Vw.del, vw]
        rw [if_neg (fun e => h2 (by rw [hv, e]))]
        exact hm.get k ob hk
    all_goals (cases hv : (E.κ r).ownBlock with
      | none => first | exact hm.os | exact hm.tape | exact hm.output
      | some b => first | exact hm.os | exact hm.tape | exact hm.output)
  refine (rput_c (E.κ r) lv l more (E.ρ lo) e0 g w hb hrow hd (hs.mono hle) hn).mono ?_
  rintro e w' ⟨rfl, v', ht, hc, hown, hbk⟩
  refine hK () (E.setκ nl v') w' trivial (Env.agree_setκ E v') ?_ rfl
  refine hm.regrow (cs' := .row nl :: g.cells.map .v) hlo hr ht (by simp only [allOk, A.ok, blt_iff, Bool.and_eq_true]; exact ⟨by omega, (den_plain E0 g.cells).2 _⟩) ?_ hown hbk
  rw [List.map_cons, (den_plain _ g.cells).1]
  simpa [A.den, Env.setκ] using hc
end

theorem bufPut_c (V : Vw) (sv lv : Value) (l more : List Block) (w : World) (hV : V.le (vw w)) (hs0 : SlOf V Block.cells 2 sv l) (hl0 : SlOf V Block.cells 2 lv more) (hn : l.length + more.length ≤ 1048576) :
    Calls Try.prog 31 #[sv, lv] w fun e w' => ∃ v', e = .returned v' ∧ w'.ownsRow w.heap.size 57 2 v' (putP l more).length ((putP l more).flatMap Block.cells) ∧ Below w.heap.size w w' := by
  obtain ⟨a, n, c, rfl⟩ := sl_shape hs0.sl
  obtain ⟨a2, n2, c2, rfl⟩ := sl_shape hl0.sl
  have hs := hs0.mono hV
  have hl := hl0.mono hV
  refine enter (E := E0) (O := []) (nl := 0) (V := vw w) [.a (.v (.slice a n c)), .a (.v (.slice a2 n2 c2))] Try.func31 rfl rfl (mem0 E0 0 w) rfl rfl ?_
  refine c_seq ?_
  refine c_region ?_
  refine o_yield rfl rfl rfl (y_val tok rfl) ?_
  refine o_end [0, 1] rfl ?_
  refine x_then ?_
  refine c_seq ?_
  refine c_region ?_
  refine o_yield rfl rfl rfl (y_val tok rfl) ?_
  refine o_step rfl rfl rfl rfl rfl (s_callRow 57 2 l.length (l.flatMap Block.cells) rfl fnok39 (fun E w1 hm => clone_c (vw w) _ l w1 hm.leV hs (by omega))) (fun _ _ => ?_)
  refine o_yield rfl rfl rfl (y_val tok rfl) ?_
  refine o_yield rfl rfl rfl (y_val tok rfl) ?_
  refine o_new tok rfl rfl rfl rfl ?_
  refine o_yield rfl rfl rfl (y_val tok rfl) ?_
  refine o_end [1, 5] rfl ?_
  refine x_then ?_
  refine c_seq ?_
  refine c_region ?_
  refine o_yield rfl rfl rfl (y_val tok rfl) ?_
  refine o_yield rfl rfl rfl (y_val tok rfl) ?_
  refine o_yield rfl rfl rfl (y_val tok rfl) ?_
  refine o_yield rfl rfl rfl (y_val tok rfl) ?_
  refine o_step rfl rfl rfl rfl rfl (s_rput 1 0 _ ⟨0, 0, 0, 0, 0, 0, 0, 0⟩ l more _ rfl rfl rfl hl hn) (fun _ _ => ?_)
  refine o_end [5] rfl ?_
  refine x_then ?_
  refine c_seq ?_
  refine c_region ?_
  refine o_yield rfl rfl rfl (y_val tok rfl) ?_
  refine o_yield rfl rfl rfl (y_val tok rfl) ?_
  refine o_yield rfl rfl rfl (y_val tok rfl) ?_
  refine o_yield rfl rfl rfl (y_val tok rfl) ?_
  refine o_yield rfl rfl rfl (y_val tok rfl) ?_
  refine o_yield rfl rfl rfl (y_val tok rfl) ?_
  refine o_end [4] rfl ?_
  refine x_then ?_
  refine c_ret ?_
  refine b_ret tok rfl ?_
  intro E w' hm _
  exact ⟨_, rfl, hm.rowFresh (Vw.le.refl _) (l := 2) rfl, hm.below (Vw.le.refl _)⟩

end Go.Proofs.Ytmjdihpdlfidmaa

/- Whether blocks may be: the program's. -/
set_option linter.unusedVariables false
set_option linter.unusedSimpArgs false
set_option maxRecDepth 100000
namespace Go.Proofs.Ytmjdihpdlfidmaa
open Go Go.Eng Go.RowKit

theorem bmayS_c (sv : Value) (l : List Block) (g : Geo) (ok : g.Ok) (b : Nat) (w : World) (hb : w.heap[b]? = some (.cells (sv :: g.cells).toArray 83 (0, 0))) (hs0 : SlOf ((vw w).del b) Block.cells 2 sv l) (hn : l.length ≤ maxLen) :
    Calls Try.prog 41 #[.pointer (some ⟨b, 0, none⟩)] w fun e w' => e = .returned (.bool (mayL g l)) ∧ Below w.heap.size w w' := by
  have hs := hs0
  simp only [maxLen] at hn
  refine enter1 [.a (.ptr 0 0)] hb Try.func41 rfl rfl rfl rfl ?_
  refine c_seq ?_
  refine c_region ?_
  refine o_yield rfl rfl rfl (y_val tok rfl) ?_
  refine o_end [0] rfl ?_
  refine x_then ?_
  refine c_seq ?_
  refine c_seq ?_
  refine c_region ?_
  refine o_yield rfl rfl rfl (y_val tok rfl) ?_
  refine o_yield rfl rfl rfl (y_val tok rfl) ?_
  refine o_yield rfl rfl rfl (y_val tok rfl) ?_
  refine o_yield rfl rfl rfl (y_val tok rfl) ?_
  refine o_call (.a (.v _)) rfl rfl fnok37 rfl rfl rfl (fun hg E w1 hm => by exact geoMay_c g ok _) ?_
  refine o_yield rfl rfl rfl (y_val tok rfl) ?_
  refine o_end [0, 11] rfl ?_
  refine x_then ?_
  refine c_cond rfl (fun h => ?_) (fun h => ?_)
  ·
    simp only [Bool.and_eq_true, Bool.or_eq_true, Bool.not_eq_true', Bool.or_eq_false_iff, Bool.and_eq_false_iff, decide_eq_true_eq, decide_eq_false_iff_not, beq_iff_eq, bne_iff_ne, Bool.not_eq_false', beq_eq_false_iff_ne, bne_eq_false_iff_eq, ne_eq, Decidable.not_not, Int.not_lt, Int.not_le] at h
    refine c_seq ?_
    refine c_region ?_
    refine o_yield rfl rfl rfl (y_val tok rfl) ?_
    refine o_end [2] rfl ?_
    refine x_then ?_
    refine c_ret ?_
    refine x_then_ret ?_
    refine b_ret tok rfl ?_
    intro E w' hm _
    exact ⟨by rw [mayL, h]; rfl, below1 hb hm (Vw.le.refl _) rfl rfl rfl⟩
  ·
    simp only [Bool.and_eq_true, Bool.or_eq_true, Bool.not_eq_true', Bool.or_eq_false_iff, Bool.and_eq_false_iff, decide_eq_true_eq, decide_eq_false_iff_not, beq_iff_eq, bne_iff_ne, Bool.not_eq_false', beq_eq_false_iff_ne, bne_eq_false_iff_eq, ne_eq, Decidable.not_not, Int.not_lt, Int.not_le] at h
    have hgg := h
    have hf := geo_facts hgg
    clear h
    have hmL : mayL g l = mayF g (-1) l := by rw [mayL, hgg, Bool.true_and]
    have hwp : IntKind.i64.wrap (g.per * 256) = g.per * 256 := wrapI (by omega) (by omega)
    refine c_skip ?_
    refine x_then ?_
    refine c_seq ?_
    refine c_region ?_
    refine o_yield rfl rfl rfl (y_val tok rfl) ?_
    refine o_end [0, 3] rfl ?_
    refine x_then ?_
    refine c_seq ?_
    refine c_seq ?_
    refine c_region ?_
    refine o_yield rfl rfl rfl (y_val tok rfl) ?_
    refine o_yield rfl rfl rfl (y_val tok rfl) ?_
    refine o_yield rfl rfl rfl (y_val tok rfl) ?_
    refine o_yield rfl rfl rfl (y_val tok rfl) ?_
    refine o_yield rfl rfl rfl (y_val tok rfl) ?_
    refine o_yield rfl rfl rfl (y_len tok rfl (fun hg => hs.sl)) ?_
    refine o_yield rfl rfl rfl (y_val tok rfl) ?_
    refine o_end [0, 3, 16, 17, 18] rfl ?_
    refine x_then ?_
    refine c_block ?_
    refine c_loopK [0, 16, 17] [0, 1, 2] rfl rfl (σ := Nat) (fun i => [(3, .a (.v (I (lastN l i)))), (18, .a (.v (I i)))]) (fun i => [(0, .lit ((sv :: g.cells).map .v) 83), (1, .pin 0 b), (2, .size w.heap.size)]) (fun i => i ≤ l.length ∧ mayF g (-1) l = mayF g (lastN l i) (l.drop i) ∧ -1 ≤ lastN l i) (fun i => l.length - i) (0) (⟨by omega, rfl, by simp [lastN]⟩) (by repeat (first | exact SubF.nil | refine SubF.cons rfl ?_)) (by repeat (first | exact SubO.nil | refine SubO.cons rfl ?_)) rfl ?_
    rintro i ⟨hi, heq, hlast⟩
    refine c_seq ?_
    refine c_region ?_
    refine o_yield rfl rfl rfl (y_val tok rfl) ?_
    refine o_end [0, 3, 16, 17, 18, 19] rfl ?_
    refine x_then ?_
    refine c_seq ?_
    refine c_cond rfl (fun h => ?_) (fun h => ?_)
    ·
      simp only [Bool.and_eq_true, Bool.or_eq_true, Bool.not_eq_true', Bool.or_eq_false_iff, Bool.and_eq_false_iff, decide_eq_true_eq, decide_eq_false_iff_not, beq_iff_eq, bne_iff_ne, Bool.not_eq_false', beq_eq_false_iff_ne, bne_eq_false_iff_eq, ne_eq, Decidable.not_not, Int.not_lt, Int.not_le] at h
      refine c_skip ?_
      refine x_then ?_
      refine c_seq ?_
      refine c_block ?_
      refine c_seq ?_
      refine c_region ?_
      obtain ⟨x, h_x⟩ := hs.at (k := i) (by omega)
      rw [drop_at h_x] at heq
      have hlt_x := lt_of_at h_x
      refine o_yield rfl rfl rfl (y_idx tok rfl (fun hg => hs.sl) (fun hg => ⟨by omega, by omega⟩)) ?_
      refine o_yield rfl rfl rfl (y_lel tok (i) 0 (x) rfl (fun hg => hs) (fun hg => h_x) rfl rfl) ?_
      refine o_new tok rfl rfl rfl rfl ?_
      refine o_store tok rfl rfl rfl (by first | exact ⟨trivial, trivial⟩ | (repeat' first | exact trivial | exact rfl | apply And.intro); done | simp [onesP, oneP, lk, Value.oneCell']) ?_
      refine o_end [0, 3, 5, 16, 17, 18] rfl ?_
      refine x_then ?_
      refine c_seq ?_
      refine c_seq ?_
      refine c_draw mixed (by kernel_rfl) ?_
      refine d_yield rfl rfl rfl (y_val tok rfl) rfl ?_
      refine d_yield rfl rfl rfl (y_val tok rfl) rfl ?_
      refine d_yield rfl rfl rfl (y_val tok rfl) rfl ?_
      refine d_yield rfl rfl rfl (y_val tok rfl) rfl ?_
      refine d_yield rfl rfl rfl (y_val tok rfl) rfl ?_
      refine d_yield rfl rfl rfl (y_val tok rfl) rfl ?_
      refine d_yield rfl rfl rfl (y_val tok rfl) rfl ?_
      refine d_yield rfl rfl rfl (y_val tok rfl) rfl ?_
      refine d_yield rfl rfl rfl (y_val tok rfl) rfl ?_
      refine d_yield rfl rfl rfl (y_val tok rfl) rfl ?_
      refine d_yield rfl rfl rfl (y_val tok rfl) rfl ?_
      refine d_yield rfl rfl rfl (y_val tok rfl) rfl ?_
      refine d_yield rfl rfl rfl (y_val tok rfl) rfl ?_
      refine d_yield rfl rfl rfl (y_val tok rfl) rfl ?_
      refine d_yield rfl rfl rfl (y_val tok rfl) rfl ?_
      refine d_yield rfl rfl rfl (y_val tok rfl) rfl ?_
      refine d_yield rfl rfl rfl (y_val tok rfl) rfl ?_
      refine d_yield rfl rfl rfl (y_val tok rfl) rfl ?_
      refine d_yield rfl rfl rfl (y_val tok rfl) rfl ?_
      refine d_yield rfl rfl rfl (y_val tok rfl) rfl ?_
      refine d_yield rfl rfl rfl (y_val tok rfl) rfl ?_
      refine d_yield rfl rfl rfl (y_val tok rfl) rfl ?_
      refine d_yield rfl rfl rfl (y_val tok rfl) rfl ?_
      refine d_yield rfl rfl rfl (y_val tok rfl) rfl ?_
      refine d_yield rfl rfl rfl (y_val tok rfl) rfl ?_
      refine d_yield rfl rfl rfl (y_val tok rfl) rfl ?_
      refine d_end [0, 5, 16, 17, 18, 47] rfl ?_
      refine x_then ?_
      refine c_cond rfl (fun h => ?_) (fun h => ?_)
      ·
        simp only [Bool.and_eq_true, Bool.or_eq_true, Bool.not_eq_true', Bool.or_eq_false_iff, Bool.and_eq_false_iff, decide_eq_true_eq, decide_eq_false_iff_not, beq_iff_eq, bne_iff_ne, Bool.not_eq_false', beq_eq_false_iff_ne, bne_eq_false_iff_eq, ne_eq, Decidable.not_not, Int.not_lt, Int.not_le] at h
        refine c_seq ?_
        refine c_region ?_
        refine o_yield rfl rfl rfl (y_val tok rfl) ?_
        refine o_end [2] rfl ?_
        refine x_then ?_
        refine c_ret ?_
        refine x_then_ret ?_
        refine x_block_ret ?_
        refine x_then_ret ?_
        refine x_then_ret ?_
        refine x_block_ret ?_
        refine x_then_ret ?_
        refine b_ret tok rfl ?_
        rw [hwp] at h
        have hno : mayF g (lastN l i) (x :: l.drop (i + 1)) = false := by
          rw [Bool.eq_false_iff]
          intro hc
          obtain ⟨⟨h1, h2, h3⟩, _⟩ := mayF_cons.1 hc
          omega
        intro E w' hm _
        exact ⟨by rw [hmL, heq, hno]; rfl, below1 hb hm (Vw.le.refl _) rfl rfl rfl⟩
      ·
        simp only [Bool.and_eq_true, Bool.or_eq_true, Bool.not_eq_true', Bool.or_eq_false_iff, Bool.and_eq_false_iff, decide_eq_true_eq, decide_eq_false_iff_not, beq_iff_eq, bne_iff_ne, Bool.not_eq_false', beq_eq_false_iff_ne, bne_eq_false_iff_eq, ne_eq, Decidable.not_not, Int.not_lt, Int.not_le] at h
        refine c_skip ?_
        refine x_then ?_
        refine c_region ?_
        refine o_yield rfl rfl rfl (y_val tok rfl) ?_
        refine o_yield rfl rfl rfl (y_val tok rfl) ?_
        refine o_yield rfl rfl rfl (y_val tok rfl) ?_
        refine o_end [0, 3, 16, 17, 18] rfl ?_
        refine x_block ?_
        refine x_then ?_
        refine c_region ?_
        refine o_yield rfl rfl rfl (y_val tok rfl) ?_
        refine o_yield rfl rfl rfl (y_val tok rfl) ?_
        refine o_end [0, 3, 16, 17, 18] rfl ?_
        refine x_then ?_
        rw [hwp] at h
        have hyes : mayF g (lastN l i) (x :: l.drop (i + 1)) = mayF g x.n (l.drop (i + 1)) := by
          rw [mayF, decide_eq_true (by omega), Bool.true_and]
        rw [wrapI (n := (i : Int) + 1) (by omega) (by omega)]
        have hls := lastN_succ h_x
        rw [← hls]
        refine x_round (i + 1) (⟨by omega, by rw [heq, hyes, hls], by rw [hls]; omega⟩) (by first | omega | (dsimp only; omega)) (by repeat (first | exact SubF.nil | refine SubF.cons rfl ?_)) (by repeat (first | exact SubO.nil | refine SubO.cons rfl ?_)) rfl (Vw.le.refl _)
    ·
      simp only [Bool.and_eq_true, Bool.or_eq_true, Bool.not_eq_true', Bool.or_eq_false_iff, Bool.and_eq_false_iff, decide_eq_true_eq, decide_eq_false_iff_not, beq_iff_eq, bne_iff_ne, Bool.not_eq_false', beq_eq_false_iff_ne, bne_eq_false_iff_eq, ne_eq, Decidable.not_not, Int.not_lt, Int.not_le] at h
      refine c_exit ?_
      refine x_then_exit ?_
      refine x_then_exit ?_
      refine x_block_hit ?_
      refine x_then ?_
      refine c_seq ?_
      refine c_region ?_
      refine o_yield rfl rfl rfl (y_val tok rfl) ?_
      refine o_end [2] rfl ?_
      refine x_then ?_
      refine c_ret ?_
      refine b_ret tok rfl ?_
      have hkL : i = l.length := by omega
      subst hkL
      rw [List.drop_length, mayF] at heq
      intro E w' hm _
      exact ⟨by rw [hmL, heq]; rfl, below1 hb hm (Vw.le.refl _) rfl rfl rfl⟩

theorem bmay_c (V : Vw) (g : Geo) (ok : g.Ok) (sv : Value) (l : List Block) (w : World) (hV : V.le (vw w)) (hs0 : SlOf V Block.cells 2 sv l) (hn : l.length ≤ maxLen) :
    Calls Try.prog 33 #[g.val, sv] w fun e w' => e = .returned (.bool (mayL g l)) ∧ Below w.heap.size w w' := by
  obtain ⟨a, n, c, rfl⟩ := sl_shape hs0.sl
  have hs := hs0.mono hV
  refine enter (E := E0) (O := []) (nl := 0) (V := vw w) [.a (.v g.val), .a (.v (.slice a n c))] Try.func33 rfl rfl (mem0 E0 0 w) rfl rfl ?_
  refine c_seq ?_
  refine c_region ?_
  refine o_new tok rfl rfl rfl rfl ?_
  refine o_yield rfl rfl rfl (y_val tok rfl) ?_
  refine o_end [1, 2] rfl ?_
  refine x_then ?_
  refine c_seq ?_
  refine c_region ?_
  refine o_yield rfl rfl rfl (y_val tok rfl) ?_
  refine o_yield rfl rfl rfl (y_val tok rfl) ?_
  refine o_yield rfl rfl rfl (y_val tok rfl) ?_
  refine o_yield rfl rfl rfl (y_val tok rfl) ?_
  refine o_new tok rfl rfl rfl rfl ?_
  refine o_call (.a (.v _)) rfl rfl fnok41 rfl rfl rfl (fun hg E w1 hm => by exact bmayS_c _ l g ok _ _ (hm.lit 1 _ _ rfl) (hs.mono (hm.leDel (l := 1) rfl)) hn) ?_
  refine o_yield rfl rfl rfl (y_val tok rfl) ?_
  refine o_end [4] rfl ?_
  refine x_then ?_
  refine c_ret ?_
  refine b_ret tok rfl ?_
  intro E w' hm _
  refine ⟨?_, hm.below (Vw.le.refl _)⟩
  rfl
end Go.Proofs.Ytmjdihpdlfidmaa

/- Blocks put into rows: plain laws; rows compared. -/
set_option linter.unusedVariables false
set_option linter.unusedSimpArgs false
set_option maxRecDepth 100000
namespace Go.Proofs.Ytmjdihpdlfidmaa
open Go Go.Eng Go.RowKit

def insB : List Block → Block → List Block
  | [], x => [x]
  | y :: r, x => if y.n = x.n then x :: r else if x.n < y.n then x :: y :: r else y :: insB r x

theorem idxB_succ (pr : Block → Bool) : ∀ (l : List Block) (i : Nat), idxB pr l (i + 1) = if idxB pr l i < 0 then -1 else idxB pr l i + 1
  | [], i => rfl
  | b :: r, i => by
    rw [idxB, idxB]
    by_cases h : pr b = true
    · rw [if_pos h, if_pos h, if_neg (by omega)]; omega
    · rw [if_neg h, if_neg h, idxB_succ pr r (i + 1)]

theorem idxB_ge (pr : Block → Bool) (l : List Block) (i : Nat) : -1 ≤ idxB pr l i := by
  rcases idxB_cases pr l i with h | ⟨k, h, _⟩ <;> omega

theorem putB_cons (y : Block) (r : List Block) (x : Block) : putB (y :: r) x = if y.n = x.n then x :: r else if x.n < y.n ∧ idxB (fun z => z.n == x.n) r 0 < 0 then x :: y :: r else y :: putB r x := by
  have hg1 := idxB_ge (fun z => z.n == x.n) r 0
  have hg2 := idxB_ge (fun z => decide (x.n < z.n)) r 0
  have e1 : idxB (fun z => z.n == x.n) (y :: r) 0 = if y.n = x.n then 0 else if idxB (fun z => z.n == x.n) r 0 < 0 then -1 else idxB (fun z => z.n == x.n) r 0 + 1 := by
    rw [idxB, idxB_succ]
    by_cases h : y.n = x.n <;> simp [h]
  have e2 : idxB (fun z => decide (x.n < z.n)) (y :: r) 0 = if x.n < y.n then 0 else if idxB (fun z => decide (x.n < z.n)) r 0 < 0 then -1 else idxB (fun z => decide (x.n < z.n)) r 0 + 1 := by
    rw [idxB, idxB_succ]
    by_cases h : x.n < y.n <;> simp [h]
  rcases idxB_cases (fun z => z.n == x.n) r 0 with hq | ⟨k, hq, hk⟩
  · by_cases h1 : y.n = x.n
    · rw [if_pos h1, putB, e1, if_pos h1]; simp
    · rw [if_neg h1, hq]
      by_cases h2 : x.n < y.n
      · rw [if_pos ⟨h2, by omega⟩, putB, e1, if_neg h1, hq, e2, if_pos h2]
        simp [insAt]
      · rw [if_neg (fun h => h2 h.1), putB, e1, if_neg h1, hq, e2, if_neg h2, putB, hq]
        rcases idxB_cases (fun z => decide (x.n < z.n)) r 0 with hp | ⟨j, hp, hj⟩
        · rw [hp]; simp [insAt]
        · rw [hp]
          rw [if_neg (by omega), if_neg (by omega), if_neg (by omega), if_neg (by omega), if_neg (by omega)]
          rw [show (((0 + j : Nat) : Int) + 1).toNat = j + 1 by omega, show ((0 + j : Nat) : Int).toNat = j by omega]
          simp [insAt]
  · by_cases h1 : y.n = x.n
    · rw [if_pos h1, putB, e1, if_pos h1]; simp
    · have e3 : idxB (fun z => z.n == x.n) (y :: r) 0 = ((k + 1 : Nat) : Int) := by rw [e1, if_neg h1, hq, if_neg (by omega)]; omega
      rw [if_neg h1, if_neg (by omega), putB, e3, if_pos (by omega), putB, hq, if_pos (by omega)]
      rw [Int.toNat_natCast, Int.toNat_natCast, Nat.zero_add]
      simp

theorem idxB_none {g : Geo} {n : Int} : ∀ {l : List Block} {last : Int}, mayF g last l = true → n ≤ last → ∀ i, idxB (fun z => z.n == n) l i = -1
  | [], _, _, _, _ => rfl
  | y :: r, last, h, hn, i => by
    obtain ⟨⟨h1, _⟩, h2⟩ := mayF_cons.1 h
    rw [idxB, if_neg (by simp; omega)]
    exact idxB_none h2 (by omega) _

theorem putB_ins {g : Geo} {x : Block} : ∀ {l : List Block} {last : Int}, mayF g last l = true → putB l x = insB l x
  | [], _, _ => by simp [putB, insB, idxB, insAt]
  | y :: r, last, h => by
    obtain ⟨⟨h1, _⟩, h2⟩ := mayF_cons.1 h
    rw [putB_cons, insB]
    by_cases e1 : y.n = x.n
    · rw [if_pos e1, if_pos e1]
    · rw [if_neg e1, if_neg e1]
      by_cases e2 : x.n < y.n
      · rw [if_pos ⟨e2, by rw [idxB_none h2 (by omega)]; omega⟩, if_pos e2]
      · rw [if_neg (fun h => e2 h.1), if_neg e2, putB_ins h2]

theorem ins_may {g : Geo} {x : Block} (hx1 : x.n < g.blocks) (hx2 : (x.text.size : Int) ≤ g.per * 256) : ∀ {l : List Block} {last : Int}, last < x.n → mayF g last l = true → mayF g last (insB l x) = true
  | [], last, hl, _ => by rw [insB]; exact mayF_cons.2 ⟨⟨hl, hx1, hx2⟩, rfl⟩
  | y :: r, last, hl, h => by
    obtain ⟨⟨h1, h2, h3⟩, h4⟩ := mayF_cons.1 h
    rw [insB]
    by_cases e1 : y.n = x.n
    · rw [if_pos e1]; exact mayF_cons.2 ⟨⟨hl, hx1, hx2⟩, e1 ▸ h4⟩
    · rw [if_neg e1]
      by_cases e2 : x.n < y.n
      · rw [if_pos e2]; exact mayF_cons.2 ⟨⟨hl, hx1, hx2⟩, mayF_cons.2 ⟨⟨e2, h2, h3⟩, h4⟩⟩
      · rw [if_neg e2]; exact mayF_cons.2 ⟨⟨h1, h2, h3⟩, ins_may hx1 hx2 (by omega) h4⟩

theorem ins_get (x : Block) (n : Int) : ∀ l : List Block, getB (insB l x) n = if n = x.n then (x.text, true) else getB l n
  | [] => by simp only [insB, getB]; by_cases h : n = x.n <;> simp [h, eq_comm]
  | y :: r => by
    rw [insB]
    by_cases e1 : y.n = x.n
    · rw [if_pos e1, getB, getB]
      by_cases h : n = x.n
      · simp [h]
      · rw [if_neg (fun c => h c.symm), if_neg h, if_neg (by omega)]
    · rw [if_neg e1]
      by_cases e2 : x.n < y.n
      · rw [if_pos e2, getB]
        by_cases h : n = x.n
        · simp [h]
        · rw [if_neg (fun c => h c.symm), if_neg h]
      · rw [if_neg e2, getB, getB, ins_get x n r]
        by_cases h : n = x.n
        · rw [if_neg (by omega), if_pos h]; simp [h]
        · rw [if_neg h, if_neg h]

end Go.Proofs.Ytmjdihpdlfidmaa

/- Blocks put into rows: the document's; plain law for rows that rise. -/
set_option linter.unusedVariables false
set_option linter.unusedSimpArgs false
set_option maxRecDepth 100000
namespace Go.Proofs.Ytmjdihpdlfidmaa
open Go Go.Eng Go.RowKit

def oneL (th : Bool) (x : Block) : List Block → List Block
  | [] => [x]
  | b :: r => if th = true ∧ b.n = x.n then x :: r else if th = false ∧ x.n < b.n then x :: b :: r else b :: oneL th x r

/-- What the document's row is with a block put into it. -/
def insS (l : List Block) (x : Block) : List Block := oneL (getB l x.n).2 x l

def RowB (L : List Block) (w : World) (e : Ending) (w' : World) : Prop :=
  (∃ v, e = .returned v ∧ w'.ownsRow w.heap.size 57 2 v L.length (L.flatMap Block.cells)) ∧ Below w.heap.size w w'

def insAll (l more : List Block) : List Block := more.foldl insS l

def RowBV (L : List Block) (x : Value) (V' : Vw) : Prop := ∃ a n c, x = .slice a n c ∧ SlOf V' Block.cells 2 (.slice a n c) L

/-! Rows that rise, written as what stands at each number. -/

def mkF (f : Int → Option ByteArray) (a : Int) : Nat → List Block
  | 0 => []
  | k + 1 => (match f a with | some t => [⟨a, t⟩] | none => []) ++ mkF f (a + 1) k

def updF (f : Int → Option ByteArray) (x : Block) (n : Int) : Option ByteArray := if n = x.n then some x.text else f n

end Go.Proofs.Ytmjdihpdlfidmaa

/- Rows of blocks compared, a block put: over views. -/
set_option linter.unusedVariables false
set_option linter.unusedSimpArgs false
set_option maxRecDepth 100000
namespace Go.Proofs.Ytmjdihpdlfidmaa
open Go Go.Eng Go.RowKit

def Block.eqBd (a b : Block) : Bool := a.n == b.n && a.text.toList == b.text.toList

theorem blkEqD {op : BinOp} {ox oy : Operand} (a b : Block) (w : World) (hop : op = .eql ∨ op = .neq) :
    (do eqGuard op 57 ox oy a.val b.val; binOp op 57 a.val b.val : Sem Value).run Try.prog w = .ok (.bool (if op = .eql then a.eqBd b else !(a.eqBd b))) w := by
  have hS : Try.prog.underlying 57 = some (.struct (Try.prog.fieldsOf 57)) := by kernel_rfl
  have hp : Try.prog.stoodInHeld 57 = false := by kernel_rfl
  have hg : Try.prog.eqGuardType Try.prog.depth 57 = false := by kernel_rfl
  have key : (Op.equalIn 10000 57 a.val b.val).run Try.prog w = .ok (a.eqBd b) w := by
    have u3 := Try.underlying3
    have a3 := Try.isAgg3
    have z3 := Try.sizeOf3
    have u9 := Try.underlying9
    have a9 := Try.isAgg9
    have z9 := Try.sizeOf9
    rw [show (10000 : Nat) = 9999 + 1 from rfl, run_equalIn_agg w 9999 57 _ _ hS hp]
    simp only [Program.fieldsOf, Try.underlying57]
    go_simp
    unfold Block.eqBd
    by_cases h1 : a.n = b.n <;> by_cases h2 : a.text.toList = b.text.toList <;> simp [h1, h2]
  rw [Sem.run_bind, run_eqGuard_agg w _ _ _ _ _ _ hg]
  rcases hop with rfl | rfl
  · simp only [Result.andThen_ok, run_eql_struct, key]; rfl
  · simp only [Result.andThen_ok, run_neq_struct, key]; rfl

theorem Block.eqBd_refl (a : Block) : a.eqBd a = true := by simp [Block.eqBd]

theorem sameDr_c (V : Vw) (v v' : Value) (L : List Block) (w : World) (hV : V.le (vw w)) (hs0 : SlOf V Block.cells 2 v L) (hs1 : SlOf V Block.cells 2 v' L) (hn : L.length ≤ 4398046511104) :
    Calls Try.prog 32 #[v, v'] w fun e w' => e = .returned (.bool true) ∧ Below w.heap.size w w' := by
  have hs := hs0.mono hV
  have hs' := hs1.mono hV
  refine enter (E := E0) (O := []) (nl := 0) (V := vw w) [.a (.v v), .a (.v v')] Try.func32 rfl rfl (mem0 E0 0 w) rfl rfl ?_
  refine c_seq ?_
  refine c_region ?_
  refine o_yield rfl rfl rfl (y_val tok rfl) ?_
  refine o_end [0, 1] rfl ?_
  refine x_then ?_
  refine c_seq ?_
  refine c_seq ?_
  refine c_region ?_
  refine o_yield rfl rfl rfl (y_val tok rfl) ?_
  refine o_yield rfl rfl rfl (y_len tok rfl (fun hg => hs.sl)) ?_
  refine o_yield rfl rfl rfl (y_val tok rfl) ?_
  refine o_yield rfl rfl rfl (y_len tok rfl (fun hg => hs'.sl)) ?_
  refine o_yield rfl rfl rfl (y_val tok rfl) ?_
  refine o_end [0, 1, 10] rfl ?_
  refine x_then ?_
  refine c_cond rfl (fun h => ?_) (fun h => ?_)
  ·
    simp only [Bool.and_eq_true, Bool.or_eq_true, Bool.not_eq_true', Bool.or_eq_false_iff, Bool.and_eq_false_iff, decide_eq_true_eq, decide_eq_false_iff_not, beq_iff_eq, bne_iff_ne, Bool.not_eq_false', beq_eq_false_iff_ne, bne_eq_false_iff_eq, ne_eq, Decidable.not_not, Int.not_lt, Int.not_le] at h
    refine c_seq ?_
    refine c_region ?_
    refine o_yield rfl rfl rfl (y_val tok rfl) ?_
    refine o_end [4] rfl ?_
    refine x_then ?_
    refine c_ret ?_
    refine x_then_ret ?_
    refine b_ret tok rfl ?_
    contradiction
  ·
    simp only [Bool.and_eq_true, Bool.or_eq_true, Bool.not_eq_true', Bool.or_eq_false_iff, Bool.and_eq_false_iff, decide_eq_true_eq, decide_eq_false_iff_not, beq_iff_eq, bne_iff_ne, Bool.not_eq_false', beq_eq_false_iff_ne, bne_eq_false_iff_eq, ne_eq, Decidable.not_not, Int.not_lt, Int.not_le] at h
    clear h
    refine c_skip ?_
    refine x_then ?_
    refine c_seq ?_
    refine c_seq ?_
    refine c_region ?_
    refine o_yield rfl rfl rfl (y_val tok rfl) ?_
    refine o_end [0, 1, 5] rfl ?_
    refine x_then ?_
    refine c_block ?_
    refine c_loopK [0, 1] [] rfl rfl (σ := Nat) (fun i => [(5, .a (.v (I i)))]) (fun i => []) (fun i => i ≤ L.length) (fun i => L.length - i) (0) (by omega) (by repeat (first | exact SubF.nil | refine SubF.cons rfl ?_)) (by repeat (first | exact SubO.nil | refine SubO.cons rfl ?_)) rfl ?_
    rintro i hi
    refine c_seq ?_
    refine c_seq ?_
    refine c_region ?_
    refine o_yield rfl rfl rfl (y_val tok rfl) ?_
    refine o_yield rfl rfl rfl (y_val tok rfl) ?_
    refine o_yield rfl rfl rfl (y_len tok rfl (fun hg => hs.sl)) ?_
    refine o_yield rfl rfl rfl (y_val tok rfl) ?_
    refine o_end [0, 1, 5, 14] rfl ?_
    refine x_then ?_
    refine c_cond rfl (fun h => ?_) (fun h => ?_)
    ·
      simp only [Bool.and_eq_true, Bool.or_eq_true, Bool.not_eq_true', Bool.or_eq_false_iff, Bool.and_eq_false_iff, decide_eq_true_eq, decide_eq_false_iff_not, beq_iff_eq, bne_iff_ne, Bool.not_eq_false', beq_eq_false_iff_ne, bne_eq_false_iff_eq, ne_eq, Decidable.not_not, Int.not_lt, Int.not_le] at h
      refine c_skip ?_
      refine x_then ?_
      refine c_seq ?_
      refine c_block ?_
      refine c_seq ?_
      refine c_draw mixed (by kernel_rfl) ?_
      refine d_yield rfl rfl rfl (y_val tok rfl) rfl ?_
      refine d_yield rfl rfl rfl (y_val tok rfl) rfl ?_
      obtain ⟨r, h_r⟩ := hs.at (k := i) (by omega)
      have hlt_r := lt_of_at h_r
      refine d_yield rfl rfl rfl (y_idx tok rfl (fun hg => hs.sl) (fun hg => ⟨by omega, by omega⟩)) rfl ?_
      refine d_yield rfl rfl rfl (y_lel tok (i) 0 (r) rfl (fun hg => hs) (fun hg => h_r) rfl rfl) rfl ?_
      refine d_yield rfl rfl rfl (y_val tok rfl) rfl ?_
      refine d_yield rfl rfl rfl (y_val tok rfl) rfl ?_
      have hlt_r := lt_of_at h_r
      refine d_yield rfl rfl rfl (y_idx tok rfl (fun hg => hs'.sl) (fun hg => ⟨by omega, by omega⟩)) rfl ?_
      refine d_yield rfl rfl rfl (y_lel tok (i) 0 (r) rfl (fun hg => hs') (fun hg => h_r) rfl rfl) rfl ?_
      refine d_yield rfl rfl rfl (y_seq (.bool (!(r.eqBd r))) rfl (fun E w => blkEqD r r w (.inr rfl))) rfl ?_
      refine d_end [0, 1, 5, 25] rfl ?_
      refine x_then ?_
      refine c_cond rfl (fun h => ?_) (fun h => ?_)
      ·
        refine c_seq ?_
        refine c_region ?_
        refine o_yield rfl rfl rfl (y_val tok rfl) ?_
        refine o_end [4] rfl ?_
        refine x_then ?_
        refine c_ret ?_
        refine x_block_ret ?_
        refine x_then_ret ?_
        refine x_then_ret ?_
        refine x_block_ret ?_
        refine x_then_ret ?_
        refine b_ret tok rfl ?_
        rw [Block.eqBd_refl] at h
        cases h
      ·
        refine c_skip ?_
        refine x_block ?_
        refine x_then ?_
        refine c_region ?_
        refine o_yield rfl rfl rfl (y_val tok rfl) ?_
        refine o_yield rfl rfl rfl (y_val tok rfl) ?_
        refine o_yield rfl rfl rfl (y_val tok rfl) ?_
        refine o_end [0, 1, 5] rfl ?_
        refine x_then ?_
        rw [wrapI (n := (i : Int) + 1) (by omega) (by omega)]
        refine x_round (i + 1) (by omega) (by first | omega | (dsimp only; omega)) (by repeat (first | exact SubF.nil | refine SubF.cons rfl ?_)) (by repeat (first | exact SubO.nil | refine SubO.cons rfl ?_)) rfl (Vw.le.refl _)
    ·
      simp only [Bool.and_eq_true, Bool.or_eq_true, Bool.not_eq_true', Bool.or_eq_false_iff, Bool.and_eq_false_iff, decide_eq_true_eq, decide_eq_false_iff_not, beq_iff_eq, bne_iff_ne, Bool.not_eq_false', beq_eq_false_iff_ne, bne_eq_false_iff_eq, ne_eq, Decidable.not_not, Int.not_lt, Int.not_le] at h
      refine c_exit ?_
      refine x_then_exit ?_
      refine x_then_exit ?_
      refine x_block_hit ?_
      refine x_then ?_
      refine c_seq ?_
      refine c_region ?_
      refine o_yield rfl rfl rfl (y_val tok rfl) ?_
      refine o_end [4] rfl ?_
      refine x_then ?_
      refine c_ret ?_
      refine b_ret tok rfl ?_
      intro E w' hm _
      refine ⟨?_, hm.below (Vw.le.refl _)⟩
      rfl

end Go.Proofs.Ytmjdihpdlfidmaa

/- Spans: the functions of package span. -/
set_option linter.unusedVariables false
set_option linter.unusedSimpArgs false
set_option maxRecDepth 100000
namespace Go.Proofs.Ytmjdihpdlfidmaa
open Go Go.Eng Go.RowKit

def hasB (lo hi n : Int) : Bool := decide (lo ≤ n) && decide (n ≤ hi)

theorem spHas_c (lo hi n : Int) (w : World) : Calls Try.prog 46 #[.agg #[I lo, I hi], I n] w fun e w' => e = .returned (.bool (hasB lo hi n)) ∧ Below w.heap.size w w' := by
  refine enter (E := E0) (O := []) (nl := 0) (V := vw w) [.a (.v (.agg #[I lo, I hi])), .a (.v (I n))] Try.func46 rfl rfl (mem0 E0 0 w) rfl rfl ?_
  refine c_seq ?_
  refine c_region ?_
  refine o_new tok rfl rfl rfl rfl ?_
  refine o_yield rfl rfl rfl (y_val tok rfl) ?_
  refine o_end [1, 2] rfl ?_
  refine x_then ?_
  refine c_seq ?_
  refine c_region ?_
  refine o_yield rfl rfl rfl (y_val tok rfl) ?_
  refine o_yield rfl rfl rfl (y_val tok rfl) ?_
  refine o_yield rfl rfl rfl (y_val tok rfl) ?_
  refine o_yield rfl rfl rfl (y_val tok rfl) ?_
  refine o_yield rfl rfl rfl (y_val tok rfl) ?_
  refine o_yield rfl rfl rfl (y_val tok rfl) ?_
  refine o_yield rfl rfl rfl (y_val tok rfl) ?_
  refine o_yield rfl rfl rfl (y_val tok rfl) ?_
  refine o_yield rfl rfl rfl (y_val tok rfl) ?_
  refine o_yield rfl rfl rfl (y_val tok rfl) ?_
  refine o_yield rfl rfl rfl (y_val tok rfl) ?_
  refine o_yield rfl rfl rfl (y_val tok rfl) ?_
  refine o_yield rfl rfl rfl (y_val tok rfl) ?_
  refine o_end [4] rfl ?_
  refine x_then ?_
  refine c_ret ?_
  refine b_ret tok rfl ?_
  intro E w' hm _
  exact ⟨rfl, hm.below (Vw.le.refl _)⟩

def meets (lo hi lo' hi' : Int) : Bool := (!decide (hi < lo) && !decide (hi' < lo')) && (hasB lo hi lo' || hasB lo' hi' lo)

theorem spOf_c (h : Hold) (w : World) : Calls Try.prog 45 #[h.val] w fun e w' => e = .returned (.agg #[I h.lo, I h.hi, I h.key, I8 h.mode]) ∧ Below w.heap.size w w' := by
  refine enter (E := E0) (O := []) (nl := 0) (V := vw w) [.a (.v h.val)] Try.func45 rfl rfl (mem0 E0 0 w) rfl rfl ?_
  refine c_seq ?_
  refine c_region ?_
  refine o_new tok rfl rfl rfl rfl ?_
  refine o_new tok rfl rfl rfl rfl ?_
  refine o_end [1, 2] rfl ?_
  refine x_then ?_
  refine c_seq ?_
  refine c_region ?_
  refine o_yield rfl rfl rfl (y_val tok rfl) ?_
  refine o_yield rfl rfl rfl (y_val tok rfl) ?_
  refine o_yield rfl rfl rfl (y_val tok rfl) ?_
  refine o_yield rfl rfl rfl (y_val tok rfl) ?_
  refine o_yield rfl rfl rfl (y_val tok rfl) ?_
  refine o_yield rfl rfl rfl (y_val tok rfl) ?_
  refine o_yield rfl rfl rfl (y_val tok rfl) ?_
  refine o_yield rfl rfl rfl (y_val tok rfl) ?_
  refine o_store tok rfl rfl rfl (by first | exact ⟨trivial, trivial⟩ | (repeat' first | exact trivial | exact rfl | apply And.intro); done | simp [onesP, oneP, lk, Value.oneCell']) ?_
  refine o_end [2] rfl ?_
  refine x_then ?_
  refine c_ret ?_
  refine b_ret tok rfl ?_
  intro E w' hm _
  exact ⟨rfl, hm.below (Vw.le.refl _)⟩

def together (a b : Hold) : Bool := ((a.key == b.key) || !meets a.lo a.hi b.lo b.hi) || ((a.mode == 1) && (b.mode == 1))

def may (blocks lo hi : Int) : Bool := (!decide (hi < lo) && decide (0 ≤ lo)) && decide (hi < blocks)



def holdB (blocks : Int) (h : Hold) : Bool := (decide (0 < h.key) && may blocks h.lo h.hi) && ((h.mode == 1) || (h.mode == 2))

/-! slices.IndexFunc, ContainsFunc -/

def idxOf {α : Type} (pr : α → Bool) (l : List α) : Int := match l.findIdx? pr with
  | some k => k
  | none => -1

/-- A function value that tells pr, wherever V is read. -/
def Tells (V : Vw) (fv : Value) (pr : Hold → Bool) : Prop :=
  ∀ x w', V.le (vw w') → CallsFn Try.prog fv [x.val] w' fun e w'' => e = .returned (.bool (pr x)) ∧ Below w'.heap.size w' w''

theorem spIndexFunc_c (V : Vw) (fv sv : Value) (pr : Hold → Bool) (l : List Hold) (w : World) (hV : V.le (vw w)) (hs : SlOf V Hold.cells 4 sv l) (hn : l.length ≤ lim) (hf : Tells V fv pr) :
    Calls Try.prog 60 #[sv, fv] w fun e w' => e = .returned (I (idxOf pr l)) ∧ Below w.heap.size w w' := by
  unfold lim at hn
  have hs' := hs.mono hV
  refine enter (E := E0) (O := []) (nl := 0) (V := vw w) [.a (.v sv), .a (.v fv)] Try.func60 rfl rfl (mem0 E0 0 w) rfl rfl ?_
  refine c_seq ?_
  refine c_region ?_
  refine o_yield rfl rfl rfl (y_val tok rfl) ?_
  refine o_end [0, 1] rfl ?_
  refine x_then ?_
  refine c_seq ?_
  refine c_seq ?_
  refine c_region ?_
  refine o_yield rfl rfl rfl (y_val tok rfl) ?_
  refine o_yield rfl rfl rfl (y_len tok rfl (fun hg => hs'.sl)) ?_
  refine o_yield rfl rfl rfl (y_val tok rfl) ?_
  refine o_end [0, 1, 7, 8] rfl ?_
  refine x_then ?_
  refine c_block ?_
  refine c_loop (σ := Nat) (fun k => [(0, .a (.v sv)), (1, .a (.v fv)), (7, .a (.v (I l.length))), (8, .a (.v (I k)))]) (fun _ => []) 0 (fun _ => vw w)
    (fun k => k ≤ l.length ∧ ∀ j x, j < k → l[j]? = some x → pr x = false) (fun k => l.length - k) 0 ⟨by omega, by simp⟩ ⟨rfl, rfl, rfl, rfl, trivial⟩ trivial rfl (Vw.le.refl _) ?_
  rintro k ⟨hk, hall⟩
  refine c_seq ?_
  refine c_region ?_
  refine o_yield rfl rfl rfl (y_val tok rfl) ?_
  refine o_end [0, 1, 7, 8, 9] rfl ?_
  refine x_then ?_
  refine c_seq ?_
  refine c_cond rfl (fun h => ?_) (fun h => ?_)
  ·
    refine c_skip ?_
    refine x_then ?_
    refine c_seq ?_
    refine c_block ?_
    refine c_seq ?_
    refine c_region ?_
    refine o_yield rfl rfl rfl (y_val tok rfl) ?_
    refine o_yield rfl rfl rfl (y_val tok rfl) ?_
    refine o_end [0, 1, 5, 7, 8] rfl ?_
    refine x_then ?_
    refine c_seq ?_
    refine c_region ?_
    refine o_yield rfl rfl rfl (y_val tok rfl) ?_
    refine o_yield rfl rfl rfl (y_val tok rfl) ?_
    refine o_yield rfl rfl rfl (y_val tok rfl) ?_
    have hlt : k < l.length := by simp at h; exact h
    have hx : l[k]? = some l[k] := by simp [hlt]
    refine o_yield rfl rfl rfl (y_idx tok rfl (fun hg => hs'.sl) (fun hg => ⟨by omega, by omega⟩)) ?_
    refine o_yield rfl rfl rfl (y_lel tok (k) 0 (l[k]) rfl (fun hg => hs') (fun hg => hx) rfl rfl) ?_
    refine o_callF (.a (.v _)) rfl rfl rfl rfl rfl (fun hg E w1 hm => by exact hf l[k] w1 (hV.trans hm.leV)) ?_
    refine o_end [0, 1, 5, 7, 8, 16] rfl ?_
    refine x_then ?_
    refine c_cond rfl (fun h => ?_) (fun h => ?_)
    ·
      refine c_seq ?_
      refine c_region ?_
      refine o_yield rfl rfl rfl (y_val tok rfl) ?_
      refine o_yield rfl rfl rfl (y_val tok rfl) ?_
      refine o_end [4] rfl ?_
      refine x_then ?_
      refine c_ret ?_
      refine x_block_ret ?_
      refine x_then_ret ?_
      refine x_then_ret ?_
      refine x_block_ret ?_
      refine x_then_ret ?_
      refine b_ret tok rfl ?_
      intro E w' hm _
      refine ⟨?_, hm.below (Vw.le.refl _)⟩
      rw [idxOf, findIdx?_at hx h hall]; rfl
    ·
      refine c_skip ?_
      refine x_block ?_
      refine x_then ?_
      refine c_region ?_
      refine o_yield rfl rfl rfl (y_val tok rfl) ?_
      refine o_yield rfl rfl rfl (y_val tok rfl) ?_
      refine o_end [0, 1, 7, 8] rfl ?_
      refine x_then ?_
      rw [wrapI (by omega) (by omega)]
      exact x_round (k + 1) ⟨by omega, ahead_succ hx hall h⟩ (by omega) ⟨rfl, rfl, rfl, rfl, trivial⟩ trivial rfl (Vw.le.refl _)
  ·
    refine c_exit ?_
    refine x_then_exit ?_
    refine x_then_exit ?_
    refine x_block_hit ?_
    refine x_then ?_
    refine c_seq ?_
    refine c_region ?_
    refine o_yield rfl rfl rfl (y_val tok rfl) ?_
    refine o_end [4] rfl ?_
    refine x_then ?_
    refine c_ret ?_
    refine b_ret tok rfl ?_
    have hge : k = l.length := by simp at h; omega
    intro E w' hm _
    refine ⟨?_, hm.below (Vw.le.refl _)⟩
    rw [idxOf, findIdx?_no (hge ▸ hall)]; rfl

theorem spContainsFunc_c (V : Vw) (fv sv : Value) (pr : Hold → Bool) (l : List Hold) (w : World) (hV : V.le (vw w)) (hs : SlOf V Hold.cells 4 sv l) (hn : l.length ≤ lim) (hf : Tells V fv pr) :
    Calls Try.prog 54 #[sv, fv] w fun e w' => e = .returned (.bool (l.any pr)) ∧ Below w.heap.size w w' := by
  refine enter (E := E0) (O := []) (nl := 0) (V := vw w) [.a (.v sv), .a (.v fv)] Try.func54 rfl rfl (mem0 E0 0 w) rfl rfl ?_
  refine c_seq ?_
  refine c_region ?_
  refine o_yield rfl rfl rfl (y_val tok rfl) ?_
  refine o_end [0, 1] rfl ?_
  refine x_then ?_
  refine c_seq ?_
  refine c_region ?_
  refine o_yield rfl rfl rfl (y_val tok rfl) ?_
  refine o_yield rfl rfl rfl (y_val tok rfl) ?_
  refine o_call (.a (.v _)) rfl rfl fnok60 rfl rfl rfl (fun hg E w1 hm => by exact spIndexFunc_c V fv sv pr l _ (hV.trans hm.leV) hs hn hf) ?_
  refine o_yield rfl rfl rfl (y_val tok rfl) ?_
  refine o_yield rfl rfl rfl (y_val tok rfl) ?_
  refine o_end [4] rfl ?_
  refine x_then ?_
  refine c_ret ?_
  refine b_ret tok rfl ?_
  intro E w' hm _
  refine ⟨?_, hm.below (Vw.le.refl _)⟩
  have : decide (0 ≤ idxOf pr l) = l.any pr := by
    rw [← any_findIdx, idxOf]
    cases l.findIdx? pr <;> simp
  rw [← this]; rfl

/-- The function that 'every' hands on. -/
theorem spEveryFn_c (V : Vw) (fv : Value) (pr : Hold → Bool) (b : Nat) (hb : V.get b = some (.cells #[fv] 93 (0, 0))) (hf : Tells V fv pr) (x : Hold) (w : World) (hV : V.le (vw w)) :
    Calls Try.prog 55 #[x.val, .pointer (some ⟨b, 0, none⟩)] w fun e w' => e = .returned (.bool (!pr x)) ∧ Below w.heap.size w w' := by
  refine enter (E := E0) (O := []) (nl := 0) (V := vw w) [.a (.v x.val), .a (.v (.pointer (some ⟨b, 0, none⟩)))] Try.func55 rfl rfl (mem0 E0 0 w) rfl rfl ?_
  refine c_seq ?_
  refine c_region ?_
  refine o_new tok rfl rfl rfl rfl ?_
  refine o_yield rfl rfl rfl (y_val tok rfl) ?_
  refine o_end [1, 2] rfl ?_
  refine x_then ?_
  refine c_seq ?_
  refine c_region ?_
  refine o_yield rfl rfl rfl (y_ldp (cs := [fv]) tok rfl (fun hg => hV.get _ _ hb) rfl) ?_
  refine o_yield rfl rfl rfl (y_val tok rfl) ?_
  refine o_callF (.a (.v _)) rfl rfl rfl rfl rfl (fun hg E w1 hm => by exact hf x w1 (hV.trans hm.leV)) ?_
  refine o_yield rfl rfl rfl (y_val tok rfl) ?_
  refine o_yield rfl rfl rfl (y_val tok rfl) ?_
  refine o_end [3] rfl ?_
  refine x_then ?_
  refine c_ret ?_
  refine b_ret tok rfl ?_
  intro E w' hm _
  exact ⟨rfl, hm.below (Vw.le.refl _)⟩

theorem spEvery_c (V : Vw) (k : Nat) (caps : Array Value) (sv : Value) (pr : Hold → Bool) (l : List Hold) (w : World) (hV : V.le (vw w)) (hs : SlOf V Hold.cells 4 sv l) (hn : l.length ≤ lim)
    (hf : Tells V (.func (.func k) #[] caps) pr) :
    Calls Try.prog 43 #[.func (.func k) #[] caps, sv] w fun e w' => e = .returned (.bool (l.all pr)) ∧ Below w.heap.size w w' := by
  refine enter (E := E0) (O := []) (nl := 0) (V := vw w) [.a (.v (.func (.func k) #[] caps)), .a (.v sv)] Try.func43 rfl rfl (mem0 E0 0 w) rfl rfl ?_
  refine c_seq ?_
  refine c_region ?_
  refine o_new tok rfl rfl rfl rfl ?_
  refine o_yield rfl rfl rfl (y_val tok rfl) ?_
  refine o_end [1, 2] rfl ?_
  refine x_then ?_
  refine c_seq ?_
  refine c_region ?_
  refine o_yield rfl rfl rfl (y_val tok rfl) ?_
  refine o_yield rfl rfl rfl (y_val tok rfl) ?_
  refine o_call (.a (.v (.bool (l.any fun x => !pr x)))) rfl rfl fnok54 rfl rfl rfl (fun hg E w1 hm => ?_) ?_
  · have hle := hm.leV
    have hb := hm.lit 0 _ _ rfl
    refine spContainsFunc_c (vw w1) _ sv (fun x => !pr x) l w1 (Vw.le.refl _) (hs.mono (hV.trans hle)) hn ?_
    intro x w' hle'
    exact ⟨55, _, rfl, fnok55, spEveryFn_c (vw w1) _ pr (E.ρ 0) hb (fun x w' h => hf x w' ((hV.trans hle).trans h)) x w' hle'⟩
  refine o_yield rfl rfl rfl (y_val tok rfl) ?_
  refine o_yield rfl rfl rfl (y_val tok rfl) ?_
  refine o_end [4] rfl ?_
  refine x_then ?_
  refine c_ret ?_
  refine b_ret tok rfl ?_
  intro E w' hm _
  refine ⟨?_, hm.below (Vw.le.refl _)⟩
  show Ending.returned (.bool (!(l.any fun x => !pr x))) = _
  rw [List.all_eq_not_any_not]

/-! Fits -/

def fits (h : Hold) (l : List Hold) : Bool := l.all (together h)

/-! Covers -/

def coversAt (key block mode : Int) (o : Hold) : Bool := ((o.key == key) && hasB o.lo o.hi block) && ((o.mode == mode) || (o.mode == 2))

theorem spCoversFn_c (V : Vw) (key block mode : Int) (b1 b2 b3 : Nat) (h1 : V.get b1 = some (.cells #[I key] 3 (0, 0))) (h2 : V.get b2 = some (.cells #[I block] 3 (0, 0))) (h3 : V.get b3 = some (.cells #[I8 mode] 50 (0, 0)))
    (o : Hold) (w : World) (hV : V.le (vw w)) :
    Calls Try.prog 44 #[o.val, .pointer (some ⟨b1, 0, none⟩), .pointer (some ⟨b2, 0, none⟩), .pointer (some ⟨b3, 0, none⟩)] w fun e w' => e = .returned (.bool (!coversAt key block mode o)) ∧ Below w.heap.size w w' := by
  refine enter (E := E0) (O := []) (nl := 0) (V := vw w) [.a (.v o.val), .a (.v (.pointer (some ⟨b1, 0, none⟩))), .a (.v (.pointer (some ⟨b2, 0, none⟩))), .a (.v (.pointer (some ⟨b3, 0, none⟩)))] Try.func44 rfl rfl (mem0 E0 0 w) rfl rfl ?_
  refine c_seq ?_
  refine c_region ?_
  refine o_new tok rfl rfl rfl rfl ?_
  refine o_yield rfl rfl rfl (y_val tok rfl) ?_
  refine o_end [1, 2, 3, 4] rfl ?_
  refine x_then ?_
  refine c_seq ?_
  refine c_draw mixed (by kernel_rfl) ?_
  refine d_yield rfl rfl rfl (y_val tok rfl) rfl ?_
  refine d_yield rfl rfl rfl (y_val tok rfl) rfl ?_
  refine d_yield rfl rfl rfl (y_ldp (cs := [I key]) tok rfl (fun hg => hV.get _ _ h1) rfl) rfl ?_
  refine d_yield rfl rfl rfl (y_val tok rfl) rfl ?_
  refine d_yield rfl rfl rfl (y_val tok rfl) rfl ?_
  refine d_yield rfl rfl rfl (y_val tok rfl) rfl ?_
  refine d_call (.a (.v _)) rfl rfl fnok45 rfl rfl rfl (fun hg E w1 hm => by exact spOf_c o _) ?_
  refine d_yield rfl rfl rfl (y_val tok rfl) rfl ?_
  refine d_yield rfl rfl rfl (y_ldp (cs := [I block]) tok rfl (fun hg => hV.get _ _ h2) rfl) rfl ?_
  refine d_call (.a (.v _)) rfl rfl fnok46 rfl rfl rfl (fun hg E w1 hm => by exact spHas_c _ _ _ _) ?_
  refine d_yield rfl rfl rfl (y_val tok rfl) rfl ?_
  refine d_yield rfl rfl rfl (y_val tok rfl) rfl ?_
  refine d_yield rfl rfl rfl (y_val tok rfl) rfl ?_
  refine d_yield rfl rfl rfl (y_val tok rfl) rfl ?_
  refine d_yield rfl rfl rfl (y_val tok rfl) rfl ?_
  refine d_yield rfl rfl rfl (y_ldp (cs := [I8 mode]) tok rfl (fun hg => hV.get _ _ h3) rfl) rfl ?_
  refine d_yield rfl rfl rfl (y_val tok rfl) rfl ?_
  refine d_yield rfl rfl rfl (y_val tok rfl) rfl ?_
  refine d_yield rfl rfl rfl (y_val tok rfl) rfl ?_
  refine d_yield rfl rfl rfl (y_val tok rfl) rfl ?_
  refine d_yield rfl rfl rfl (y_val tok rfl) rfl ?_
  refine d_yield rfl rfl rfl (y_val tok rfl) rfl ?_
  refine d_yield rfl rfl rfl (y_val tok rfl) rfl ?_
  refine d_yield rfl rfl rfl (y_val tok rfl) rfl ?_
  refine d_end [5] rfl ?_
  refine x_then ?_
  refine c_ret ?_
  refine b_ret tok rfl ?_
  intro E w' hm _
  refine ⟨?_, hm.below (Vw.le.refl _)⟩
  show Ending.returned (.bool (((o.key != key) || !hasB o.lo o.hi block) || ((o.mode != mode) && (o.mode != 2)))) = _
  congr 2
  unfold coversAt bne
  cases (o.key == key) <;> cases hasB o.lo o.hi block <;> cases (o.mode == mode) <;> cases (o.mode == 2) <;> rfl

def covers (l : List Hold) (key block mode : Int) : Bool := l.any (coversAt key block mode)

theorem spCovers_c (V : Vw) (sv : Value) (l : List Hold) (key block mode : Int) (w : World) (hV : V.le (vw w)) (hs : SlOf V Hold.cells 4 sv l) (hn : l.length ≤ lim) :
    Calls Try.prog 35 #[sv, I key, I block, I8 mode] w fun e w' => e = .returned (.bool (covers l key block mode)) ∧ Below w.heap.size w w' := by
  refine enter (E := E0) (O := []) (nl := 0) (V := vw w) [.a (.v sv), .a (.v (I key)), .a (.v (I block)), .a (.v (I8 mode))] Try.func35 rfl rfl (mem0 E0 0 w) rfl rfl ?_
  refine c_seq ?_
  refine c_region ?_
  refine o_new tok rfl rfl rfl rfl ?_
  refine o_new tok rfl rfl rfl rfl ?_
  refine o_new tok rfl rfl rfl rfl ?_
  refine o_yield rfl rfl rfl (y_val tok rfl) ?_
  refine o_end [0, 5, 6, 7] rfl ?_
  refine x_then ?_
  refine c_seq ?_
  refine c_region ?_
  refine o_yield rfl rfl rfl (y_val tok rfl) ?_
  refine o_yield rfl rfl rfl (y_val tok rfl) ?_
  refine o_call (.a (.v (.bool (l.all fun o => !coversAt key block mode o)))) rfl rfl fnok43 rfl rfl rfl (fun hg E w1 hm => ?_) ?_
  · refine spEvery_c (vw w1) 44 _ sv (fun o => !coversAt key block mode o) l w1 (Vw.le.refl _) (hs.mono (hV.trans hm.leV)) hn ?_
    intro x w' hle'
    exact ⟨44, _, rfl, fnok44, spCoversFn_c (vw w1) key block mode (E.ρ 0) (E.ρ 1) (E.ρ 2) (hm.lit 0 _ _ rfl) (hm.lit 1 _ _ rfl) (hm.lit 2 _ _ rfl) x w' hle'⟩
  refine o_yield rfl rfl rfl (y_val tok rfl) ?_
  refine o_yield rfl rfl rfl (y_val tok rfl) ?_
  refine o_end [8] rfl ?_
  refine x_then ?_
  refine c_ret ?_
  refine b_ret tok rfl ?_
  intro E w' hm _
  refine ⟨?_, hm.below (Vw.le.refl _)⟩
  show Ending.returned (.bool (!(l.all fun o => !coversAt key block mode o))) = _
  rw [covers, List.any_eq_not_all_not]

/-! Touches -/

def touchesAt (key lo hi : Int) (o : Hold) : Bool := (o.key == key) && meets o.lo o.hi lo hi

def touches (l : List Hold) (key lo hi : Int) : Bool := l.any (touchesAt key lo hi)

/-! All -/

def allFrom : List Hold → Nat → List Hold → Bool
  | _, _, [] => true
  | l, i, h :: r => fits h (l.take i) && allFrom l (i + 1) r

def allB (l : List Hold) : Bool := allFrom l 0 l

end Go.Proofs.Ytmjdihpdlfidmaa

/- Spans: the document's. -/
set_option linter.unusedVariables false
set_option linter.unusedSimpArgs false
set_option maxRecDepth 100000
namespace Go.Proofs.Ytmjdihpdlfidmaa
open Go Go.Eng Go.RowKit


theorem spRcovers_c (V : Vw) (sv : Value) (l : List Hold) (key block mode : Int) (w : World) (hV : V.le (vw w)) (hs : SlOf V Hold.cells 4 sv l) (hn : l.length ≤ lim) :
    Calls Try.prog 16 #[sv, I key, I block, I8 mode] w fun e w' => e = .returned (.bool (covers l key block mode)) ∧ Below w.heap.size w w' := by
  unfold lim at hn
  have hs' := hs.mono hV
  refine enter (E := E0) (O := []) (nl := 0) (V := vw w) [.a (.v sv), .a (.v (I key)), .a (.v (I block)), .a (.v (I8 mode))] Try.func16 rfl rfl (mem0 E0 0 w) rfl rfl ?_
  refine c_seq ?_
  refine c_region ?_
  refine o_yield rfl rfl rfl (y_val tok rfl) ?_
  refine o_end [0, 1, 2, 3] rfl ?_
  refine x_then ?_
  refine c_seq ?_
  refine c_seq ?_
  refine c_region ?_
  refine o_yield rfl rfl rfl (y_val tok rfl) ?_
  refine o_end [0, 1, 2, 3, 9] rfl ?_
  refine x_then ?_
  refine c_block ?_
  refine c_loop (σ := Nat) (fun k => [(0, .a (.v sv)), (1, .a (.v (I key))), (2, .a (.v (I block))), (3, .a (.v (I8 mode))), (9, .a (.v (I k)))]) (fun _ => []) 0 (fun _ => vw w)
    (fun k => k ≤ l.length ∧ ∀ j y, j < k → l[j]? = some y → coversAt key block mode y = false) (fun k => l.length - k) 0 ⟨by omega, by simp⟩ ⟨rfl, rfl, rfl, rfl, rfl, trivial⟩ trivial rfl (Vw.le.refl _) ?_
  rintro k ⟨hk, hall⟩
  refine c_seq ?_
  refine c_seq ?_
  refine c_region ?_
  refine o_yield rfl rfl rfl (y_val tok rfl) ?_
  refine o_yield rfl rfl rfl (y_val tok rfl) ?_
  refine o_yield rfl rfl rfl (y_len tok rfl (fun hg => hs'.sl)) ?_
  refine o_yield rfl rfl rfl (y_val tok rfl) ?_
  refine o_end [0, 1, 2, 3, 9, 14] rfl ?_
  refine x_then ?_
  refine c_cond rfl (fun h => ?_) (fun h => ?_)
  ·
    refine c_skip ?_
    refine x_then ?_
    refine c_seq ?_
    refine c_block ?_
    refine c_seq ?_
    refine c_region ?_
    refine o_yield rfl rfl rfl (y_val tok rfl) ?_
    refine o_yield rfl rfl rfl (y_val tok rfl) ?_
    have hlt : k < l.length := by simp at h; exact h
    have hx : l[k]? = some l[k] := by simp [hlt]
    refine o_yield rfl rfl rfl (y_idx tok rfl (fun hg => hs'.sl) (fun hg => ⟨by omega, by omega⟩)) ?_
    refine o_yield rfl rfl rfl (y_lel tok (k) 0 (l[k]) rfl (fun hg => hs') (fun hg => hx) rfl rfl) ?_
    refine o_new tok rfl rfl rfl rfl ?_
    refine o_store tok rfl rfl rfl (by first | exact ⟨trivial, trivial⟩ | (repeat' first | exact trivial | exact rfl | apply And.intro); done | simp [onesP, oneP, lk, Value.oneCell']) ?_
    refine o_end [0, 1, 2, 3, 9, 10] rfl ?_
    refine x_then ?_
    refine c_seq ?_
    refine c_region ?_
    refine o_yield rfl rfl rfl (y_val tok rfl) ?_
    refine o_yield rfl rfl rfl (y_val tok rfl) ?_
    refine o_yield rfl rfl rfl (y_val tok rfl) ?_
    refine o_yield rfl rfl rfl (y_val tok rfl) ?_
    refine o_yield rfl rfl rfl (y_val tok rfl) ?_
    refine o_yield rfl rfl rfl (y_val tok rfl) ?_
    refine o_yield rfl rfl rfl (y_val tok rfl) ?_
    refine o_yield rfl rfl rfl (y_val tok rfl) ?_
    refine o_yield rfl rfl rfl (y_val tok rfl) ?_
    refine o_yield rfl rfl rfl (y_val tok rfl) ?_
    refine o_yield rfl rfl rfl (y_val tok rfl) ?_
    refine o_yield rfl rfl rfl (y_val tok rfl) ?_
    refine o_yield rfl rfl rfl (y_val tok rfl) ?_
    refine o_yield rfl rfl rfl (y_val tok rfl) ?_
    refine o_yield rfl rfl rfl (y_val tok rfl) ?_
    refine o_yield rfl rfl rfl (y_val tok rfl) ?_
    refine o_yield rfl rfl rfl (y_val tok rfl) ?_
    refine o_yield rfl rfl rfl (y_val tok rfl) ?_
    refine o_yield rfl rfl rfl (y_val tok rfl) ?_
    refine o_yield rfl rfl rfl (y_val tok rfl) ?_
    refine o_yield rfl rfl rfl (y_val tok rfl) ?_
    refine o_yield rfl rfl rfl (y_val tok rfl) ?_
    refine o_yield rfl rfl rfl (y_val tok rfl) ?_
    refine o_yield rfl rfl rfl (y_val tok rfl) ?_
    refine o_yield rfl rfl rfl (y_val tok rfl) ?_
    refine o_yield rfl rfl rfl (y_val tok rfl) ?_
    refine o_yield rfl rfl rfl (y_val tok rfl) ?_
    refine o_yield rfl rfl rfl (y_val tok rfl) ?_
    refine o_yield rfl rfl rfl (y_val tok rfl) ?_
    refine o_end [0, 1, 2, 3, 9, 49] rfl ?_
    refine x_then ?_
    refine c_cond rfl (fun h => ?_) (fun h => ?_)
    ·
      refine c_seq ?_
      refine c_region ?_
      refine o_yield rfl rfl rfl (y_val tok rfl) ?_
      refine o_end [8] rfl ?_
      refine x_then ?_
      refine c_ret ?_
      refine x_block_ret ?_
      refine x_then_ret ?_
      refine x_then_ret ?_
      refine x_block_ret ?_
      refine x_then_ret ?_
      refine b_ret tok rfl ?_
      intro E w' hm _
      refine ⟨?_, hm.below (Vw.le.refl _)⟩
      have h' : coversAt key block mode l[k] = true := by rw [← h]; simp only [coversAt, hasB, Bool.and_assoc]
      rw [covers, any_of_at hx h']; rfl
    ·
      refine c_skip ?_
      refine x_block ?_
      refine x_then ?_
      refine c_region ?_
      refine o_yield rfl rfl rfl (y_val tok rfl) ?_
      refine o_yield rfl rfl rfl (y_val tok rfl) ?_
      refine o_yield rfl rfl rfl (y_val tok rfl) ?_
      refine o_end [0, 1, 2, 3, 9] rfl ?_
      refine x_then ?_
      have h' : coversAt key block mode l[k] = false := by rw [← h]; simp only [coversAt, hasB, Bool.and_assoc]
      rw [wrapI (by omega) (by omega)]
      exact x_round (k + 1) ⟨by omega, ahead_succ hx hall h'⟩ (by omega) ⟨rfl, rfl, rfl, rfl, rfl, trivial⟩ trivial rfl (Vw.le.refl _)
  ·
    refine c_exit ?_
    refine x_then_exit ?_
    refine x_then_exit ?_
    refine x_block_hit ?_
    refine x_then ?_
    refine c_seq ?_
    refine c_region ?_
    refine o_yield rfl rfl rfl (y_val tok rfl) ?_
    refine o_end [8] rfl ?_
    refine x_then ?_
    refine c_ret ?_
    refine b_ret tok rfl ?_
    have hge : k = l.length := by simp at h; omega
    intro E w' hm _
    refine ⟨?_, hm.below (Vw.le.refl _)⟩
    rw [covers, any_no (hge ▸ hall)]; rfl

/-! What the document says of two holds -/

end Go.Proofs.Ytmjdihpdlfidmaa
