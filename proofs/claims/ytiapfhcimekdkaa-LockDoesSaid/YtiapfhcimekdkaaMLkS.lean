import Derived.Test.YtiapfhcimekdkaaMCmd3
import Derived.Test.YtiapfhcimekdkaaEng38
/- Locks: what is chosen, what is among some. -/
set_option linter.unusedVariables false
set_option linter.unusedSimpArgs false
set_option maxRecDepth 100000
namespace Go.Proofs.Ytiapfhcimekdkaa
open Go Go.Eng Go.RowKit

/-- A function value that tells pr, whatever it has already. -/
def TellsB (V : Vw) (fv : Value) (pr : Hold → Bool) : Prop :=
  ∀ (x : Hold) w', V.le (vw w') → CallsB Try.prog fv [x.val] w' fun e w'' => e = .returned (.bool (pr x)) ∧ Below w'.heap.size w' w''

theorem filt_step {l : List Hold} {k : Nat} {x : Hold} (pr : Hold → Bool) (h : l[k]? = some x) : (l.take (k + 1)).filter pr = (l.take k).filter pr ++ (if pr x = true then [x] else []) := by
  rw [take_succ_at' h, List.filter_append]
  cases hq : pr x <;> simp [hq]

theorem filt_len (l : List Hold) (k : Nat) (pr : Hold → Bool) : ((l.take k).filter pr).length ≤ k := Nat.le_trans (List.length_filter_le _ _) (by rw [List.length_take]; omega)

theorem choose_c (V : Vw) (fv sv : Value) (pr : Hold → Bool) (l : List Hold) (w : World) (hV : V.le (vw w)) (hs0 : SlOf V Hold.cells 4 sv l) (hn : l.length ≤ 1000000) (hf : TellsB V fv pr) :
    Calls Try.prog 72 #[sv, fv] w (HRow (l.filter pr) w) := by
  have hs := hs0.mono hV
  refine enter (E := E0) (O := []) (nl := 0) (V := vw w) [.a (.v sv), .a (.v fv)] Try.func72 rfl rfl (mem0 E0 0 w) rfl rfl ?_
  refine c_seq ?_
  refine c_region ?_
  refine o_yield rfl rfl rfl (y_val tok rfl) ?_
  refine o_end [0, 1, 4] rfl ?_
  refine x_then ?_
  refine c_seq ?_
  refine c_seq ?_
  refine c_region ?_
  refine o_yield rfl rfl rfl (y_val tok rfl) ?_
  refine o_yield rfl rfl rfl (y_len tok rfl (fun hg => hs.sl)) ?_
  refine o_yield rfl rfl rfl (y_val tok rfl) ?_
  refine o_end [1, 4, 7, 8, 9] rfl ?_
  refine x_then ?_
  refine c_block ?_
  refine k_nil 4 43 4 rfl rfl ?_
  refine c_loopK [1, 7, 8] [0] rfl rfl (σ := Nat) (fun k => [(4, .a (.row 0)), (9, .a (.v (I k)))]) (fun k => [(0, .row 43 4 ((l.take k).filter pr).length (((l.take k).filter pr).flatMap Hold.cells))]) (fun k => k ≤ l.length) (fun k => l.length - k) (0) (by omega) (by repeat (first | exact SubF.nil | refine SubF.cons rfl ?_)) (by repeat (first | exact SubO.nil | refine SubO.cons rfl ?_)) rfl ?_
  rintro k hk
  refine c_seq ?_
  refine c_region ?_
  refine o_yield rfl rfl rfl (y_val tok rfl) ?_
  refine o_end [1, 4, 7, 8, 9, 10] rfl ?_
  refine x_then ?_
  refine c_seq ?_
  refine c_cond rfl (fun h => ?_) (fun h => ?_)
  ·
    simp only [Bool.and_eq_true, Bool.or_eq_true, Bool.not_eq_true', Bool.or_eq_false_iff, Bool.and_eq_false_iff, decide_eq_true_eq, decide_eq_false_iff_not, beq_iff_eq, bne_iff_ne, Bool.not_eq_false', beq_eq_false_iff_ne, bne_eq_false_iff_eq, ne_eq, Decidable.not_not, Int.not_lt, Int.not_le] at h
    refine c_skip ?_
    refine x_then ?_
    refine c_seq ?_
    refine c_block ?_
    refine c_seq ?_
    refine c_region ?_
    have hfl := filt_len l k pr
    have hwk : IntKind.i64.wrap ((k : Int) + 1) = ((k + 1 : Nat) : Int) := wrapI (by omega) (by omega)
    obtain ⟨x, h_x⟩ := hs.at (k := k) (by omega)
    have hlt_x := lt_of_at h_x
    refine o_yield rfl rfl rfl (y_idx tok rfl (fun hg => hs.sl) (fun hg => ⟨by omega, by omega⟩)) ?_
    refine o_yield rfl rfl rfl (y_lel tok (k) 0 (x) rfl (fun hg => hs) (fun hg => h_x) rfl rfl) ?_
    refine o_new tok rfl rfl rfl rfl ?_
    refine o_store tok rfl rfl rfl (by first | exact ⟨trivial, trivial⟩ | (repeat' first | exact trivial | exact rfl | apply And.intro); done | simp [onesP, oneP, lk, Value.oneCell']) ?_
    refine o_end [1, 4, 6, 7, 8, 9] rfl ?_
    refine x_then ?_
    refine c_seq ?_
    refine c_region ?_
    refine o_yield rfl rfl rfl (y_val tok rfl) ?_
    refine o_yield rfl rfl rfl (y_val tok rfl) ?_
    have hft := filt_step pr h_x
    refine o_callB (.a (.v (.bool (pr x)))) rfl rfl rfl rfl rfl (fun hg E w1 hm => hf x w1 (hV.trans hm.leV)) ?_
    refine o_end [1, 4, 6, 7, 8, 9, 15] rfl ?_
    refine x_then ?_
    refine c_cond rfl (fun h => ?_) (fun h => ?_)
    ·
      refine c_region ?_
      refine o_yield rfl rfl rfl (y_val tok rfl) ?_
      refine o_yield rfl rfl rfl (y_val tok rfl) ?_
      rw [if_pos h] at hft
      refine o_step rfl rfl rfl rfl rfl (s_bs tok 4 rfl rfl rfl) (fun _ _ => ?_)
      refine o_step rfl rfl rfl rfl rfl (s_app tok x.cells rfl (fun E w hm => ownsRow_src (hm.row _ _ _ _ _ rfl)) (fun _ _ _ => by simpa using hold_ones [x]) (by dsimp only; omega)) (fun _ _ => ?_)
      refine o_yield rfl rfl rfl (y_val tok rfl) ?_
      refine o_end [1, 4, 7, 8, 9] rfl ?_
      refine x_block ?_
      refine x_then ?_
      refine c_region ?_
      refine o_yield rfl rfl rfl (y_val tok rfl) ?_
      refine o_yield rfl rfl rfl (y_val tok rfl) ?_
      refine o_end [1, 4, 7, 8, 9] rfl ?_
      refine x_then ?_
      rw [(hold_snoc _ x).1, (hold_snoc _ x).2, ← hft, hwk]
      refine k_swap 0 3 rfl ?_
      refine x_round (k + 1) (by omega) (by first | omega | (dsimp only; omega)) (by repeat (first | exact SubF.nil | refine SubF.cons rfl ?_)) (by repeat (first | exact SubO.nil | refine SubO.cons rfl ?_)) rfl (Vw.le.refl _)
    ·
      refine c_skip ?_
      refine x_block ?_
      refine x_then ?_
      refine c_region ?_
      refine o_yield rfl rfl rfl (y_val tok rfl) ?_
      refine o_yield rfl rfl rfl (y_val tok rfl) ?_
      refine o_end [1, 4, 7, 8, 9] rfl ?_
      refine x_then ?_
      rw [if_neg (by rw [h]; simp), List.append_nil] at hft
      rw [← hft, hwk]
      refine x_round (k + 1) (by omega) (by first | omega | (dsimp only; omega)) (by repeat (first | exact SubF.nil | refine SubF.cons rfl ?_)) (by repeat (first | exact SubO.nil | refine SubO.cons rfl ?_)) rfl (Vw.le.refl _)
  ·
    simp only [Bool.and_eq_true, Bool.or_eq_true, Bool.not_eq_true', Bool.or_eq_false_iff, Bool.and_eq_false_iff, decide_eq_true_eq, decide_eq_false_iff_not, beq_iff_eq, bne_iff_ne, Bool.not_eq_false', beq_eq_false_iff_ne, bne_eq_false_iff_eq, ne_eq, Decidable.not_not, Int.not_lt, Int.not_le] at h
    have hkl : k = l.length := by omega
    subst hkl
    rw [List.take_length]
    clear h
    refine c_exit ?_
    refine x_then_exit ?_
    refine x_then_exit ?_
    refine x_block_hit ?_
    refine x_then ?_
    refine c_seq ?_
    refine c_region ?_
    refine o_yield rfl rfl rfl (y_val tok rfl) ?_
    refine o_yield rfl rfl rfl (y_val tok rfl) ?_
    refine o_end [4] rfl ?_
    refine x_then ?_
    refine c_ret ?_
    refine b_ret tok rfl ?_
    intro E' w' hm _
    exact ⟨_, rfl, hm.rowFresh (Vw.le.refl _) (l := 0) rfl, hm.below (Vw.le.refl _)⟩

theorem ohas_c (key serial : Int) (h : Hold) (w : World) : Calls Try.prog 74 #[.agg #[I key, I serial], h.val] w fun e w' => e = .returned (.bool (h.key == key)) ∧ Below w.heap.size w w' := by
  refine enter (E := E0) (O := []) (nl := 0) (V := vw w) [.a (.v (.agg #[I key, I serial])), .a (.v h.val)] Try.func74 rfl rfl (mem0 E0 0 w) rfl rfl ?_
  refine c_seq ?_
  refine c_region ?_
  refine o_new tok rfl rfl rfl rfl ?_
  refine o_new tok rfl rfl rfl rfl ?_
  refine o_yield rfl rfl rfl (y_val tok rfl) ?_
  refine o_end [2, 3] rfl ?_
  refine x_then ?_
  refine c_seq ?_
  refine c_region ?_
  refine o_yield rfl rfl rfl (y_val tok rfl) ?_
  refine o_yield rfl rfl rfl (y_val tok rfl) ?_
  refine o_yield rfl rfl rfl (y_val tok rfl) ?_
  refine o_yield rfl rfl rfl (y_val tok rfl) ?_
  refine o_yield rfl rfl rfl (y_val tok rfl) ?_
  refine o_yield rfl rfl rfl (y_val tok rfl) ?_
  refine o_end [4] rfl ?_
  refine x_then ?_
  refine c_ret ?_
  refine b_ret tok rfl ?_
  intro E w' hm _
  refine ⟨?_, hm.below (Vw.le.refl _)⟩
  rfl

def spIn (gs : List Span) (lo hi : Int) : Bool := gs.any fun s => lo == s.lo && hi == s.hi

theorem idxSp_c (V : Vw) (sv : Value) (gs : List Span) (lo hi : Int) (w : World) (hV : V.le (vw w)) (hs0 : SlOf V Span.cells 2 sv gs) (hn : gs.length ≤ lim) :
    Calls Try.prog 117 #[sv, .agg #[I lo, I hi]] w fun e w' => e = .returned (I (idxOf (fun s : Span => lo == s.lo && hi == s.hi) gs)) ∧ Below w.heap.size w w' := by
  unfold lim at hn
  have hs := hs0.mono hV
  refine enter (E := E0) (O := []) (nl := 0) (V := vw w) [.a (.v sv), .a (.v (.agg #[I lo, I hi]))] Try.func117 rfl rfl (mem0 E0 0 w) rfl rfl ?_
  refine c_seq ?_
  refine c_region ?_
  refine o_new tok rfl rfl rfl rfl ?_
  refine o_yield rfl rfl rfl (y_val tok rfl) ?_
  refine o_end [0, 3] rfl ?_
  refine x_then ?_
  refine c_seq ?_
  refine c_seq ?_
  refine c_region ?_
  refine o_yield rfl rfl rfl (y_val tok rfl) ?_
  refine o_yield rfl rfl rfl (y_len tok rfl (fun hg => hs.sl)) ?_
  refine o_yield rfl rfl rfl (y_val tok rfl) ?_
  refine o_end [0, 3, 7, 8] rfl ?_
  refine x_then ?_
  refine c_block ?_
  refine c_loopK [0, 3, 7] [] rfl rfl (σ := Nat) (fun k => [(8, .a (.v (I k)))]) (fun k => []) (fun k => k ≤ gs.length ∧ ∀ (j : Nat) (x : Span), j < k → gs[j]? = some x → (lo == x.lo && hi == x.hi) = false) (fun k => gs.length - k) (0) (⟨by omega, by simp⟩) (by repeat (first | exact SubF.nil | refine SubF.cons rfl ?_)) (by repeat (first | exact SubO.nil | refine SubO.cons rfl ?_)) rfl ?_
  rintro k ⟨hk, hall⟩
  refine c_seq ?_
  refine c_region ?_
  refine o_yield rfl rfl rfl (y_val tok rfl) ?_
  refine o_end [0, 3, 7, 8, 9] rfl ?_
  refine x_then ?_
  refine c_seq ?_
  refine c_cond rfl (fun h => ?_) (fun h => ?_)
  ·
    simp only [Bool.and_eq_true, Bool.or_eq_true, Bool.not_eq_true', Bool.or_eq_false_iff, Bool.and_eq_false_iff, decide_eq_true_eq, decide_eq_false_iff_not, beq_iff_eq, bne_iff_ne, Bool.not_eq_false', beq_eq_false_iff_ne, bne_eq_false_iff_eq, ne_eq, Decidable.not_not, Int.not_lt, Int.not_le] at h
    refine c_skip ?_
    refine x_then ?_
    refine c_seq ?_
    refine c_block ?_
    refine c_seq ?_
    refine c_region ?_
    refine o_yield rfl rfl rfl (y_val tok rfl) ?_
    refine o_yield rfl rfl rfl (y_val tok rfl) ?_
    refine o_end [0, 3, 5, 7, 8] rfl ?_
    refine x_then ?_
    refine c_seq ?_
    refine c_draw mixed (by kernel_rfl) ?_
    refine d_yield rfl rfl rfl (y_val tok rfl) rfl ?_
    refine d_yield rfl rfl rfl (y_val tok rfl) rfl ?_
    refine d_yield rfl rfl rfl (y_val tok rfl) rfl ?_
    obtain ⟨x, h_x⟩ := hs.at (k := k) (by omega)
    have hlt_x := lt_of_at h_x
    refine d_yield rfl rfl rfl (y_idx tok rfl (fun hg => hs.sl) (fun hg => ⟨by omega, by omega⟩)) rfl ?_
    refine d_yield rfl rfl rfl (y_lel tok (k) 0 (x) rfl (fun hg => hs) (fun hg => h_x) rfl rfl) rfl ?_
    refine d_yield rfl rfl rfl (y_seq (.bool (lo == x.lo && hi == x.hi)) rfl (fun E w => spanEq lo hi x.lo x.hi w (.inl rfl))) rfl ?_
    refine d_end [0, 3, 5, 7, 8, 16] rfl ?_
    refine x_then ?_
    refine c_cond rfl (fun h => ?_) (fun h => ?_)
    ·
      refine c_seq ?_
      refine c_region ?_
      refine o_yield rfl rfl rfl (y_val tok rfl) ?_
      refine o_yield rfl rfl rfl (y_val tok rfl) ?_
      refine o_end [4] rfl ?_
      refine x_then ?_
      refine c_ret ?_
      refine x_block_ret ?_
      refine x_then_ret ?_
      refine x_then_ret ?_
      refine x_block_ret ?_
      refine x_then_ret ?_
      refine b_ret tok rfl ?_
      intro E w' hm _
      refine ⟨?_, hm.below (Vw.le.refl _)⟩
      rw [idxOf, findIdx?_at h_x h hall]; rfl
    ·
      refine c_skip ?_
      refine x_block ?_
      refine x_then ?_
      refine c_region ?_
      refine o_yield rfl rfl rfl (y_val tok rfl) ?_
      refine o_yield rfl rfl rfl (y_val tok rfl) ?_
      refine o_end [0, 3, 7, 8] rfl ?_
      refine x_then ?_
      rw [wrapI (n := (k : Int) + 1) (by omega) (by omega)]
      refine x_round (k + 1) (⟨by omega, ahead_succ h_x hall h⟩) (by first | omega | (dsimp only; omega)) (by repeat (first | exact SubF.nil | refine SubF.cons rfl ?_)) (by repeat (first | exact SubO.nil | refine SubO.cons rfl ?_)) rfl (Vw.le.refl _)
  ·
    simp only [Bool.and_eq_true, Bool.or_eq_true, Bool.not_eq_true', Bool.or_eq_false_iff, Bool.and_eq_false_iff, decide_eq_true_eq, decide_eq_false_iff_not, beq_iff_eq, bne_iff_ne, Bool.not_eq_false', beq_eq_false_iff_ne, bne_eq_false_iff_eq, ne_eq, Decidable.not_not, Int.not_lt, Int.not_le] at h
    refine c_exit ?_
    refine x_then_exit ?_
    refine x_then_exit ?_
    refine x_block_hit ?_
    refine x_then ?_
    refine c_seq ?_
    refine c_region ?_
    refine o_yield rfl rfl rfl (y_val tok rfl) ?_
    refine o_end [4] rfl ?_
    refine x_then ?_
    refine c_ret ?_
    refine b_ret tok rfl ?_
    have hge : k = gs.length := by omega
    intro E w' hm _
    refine ⟨?_, hm.below (Vw.le.refl _)⟩
    rw [idxOf, findIdx?_no (hge ▸ hall)]; rfl

theorem idx_any {α : Type} (pr : α → Bool) (l : List α) : decide (0 ≤ idxOf pr l) = l.any pr := by
  rw [← any_findIdx, idxOf]
  cases l.findIdx? pr <;> simp

theorem conSp_c (V : Vw) (sv : Value) (gs : List Span) (lo hi : Int) (w : World) (hV : V.le (vw w)) (hs0 : SlOf V Span.cells 2 sv gs) (hn : gs.length ≤ lim) :
    Calls Try.prog 75 #[sv, .agg #[I lo, I hi]] w fun e w' => e = .returned (.bool (spIn gs lo hi)) ∧ Below w.heap.size w w' := by
  refine enter (E := E0) (O := []) (nl := 0) (V := vw w) [.a (.v sv), .a (.v (.agg #[I lo, I hi]))] Try.func75 rfl rfl (mem0 E0 0 w) rfl rfl ?_
  refine c_seq ?_
  refine c_region ?_
  refine o_new tok rfl rfl rfl rfl ?_
  refine o_yield rfl rfl rfl (y_val tok rfl) ?_
  refine o_end [0, 3] rfl ?_
  refine x_then ?_
  refine c_seq ?_
  refine c_region ?_
  refine o_yield rfl rfl rfl (y_val tok rfl) ?_
  refine o_yield rfl rfl rfl (y_val tok rfl) ?_
  refine o_call (.a (.v _)) rfl rfl fnok117 rfl rfl rfl (fun hg E w1 hm => by exact idxSp_c V sv gs lo hi _ (hV.trans hm.leV) hs0 hn) ?_
  refine o_yield rfl rfl rfl (y_val tok rfl) ?_
  refine o_yield rfl rfl rfl (y_val tok rfl) ?_
  refine o_end [4] rfl ?_
  refine x_then ?_
  refine c_ret ?_
  refine b_ret tok rfl ?_
  intro E w' hm _
  refine ⟨?_, hm.below (Vw.le.refl _)⟩
  rw [spIn, ← idx_any]; rfl

def Hold.eqB (a b : Hold) : Bool := a.key == b.key && ((a.lo == b.lo && a.hi == b.hi) && a.mode == b.mode)

theorem Hold.eqB_iff (a b : Hold) : a.eqB b = true ↔ a = b := by
  obtain ⟨a1, a2, a3, a4⟩ := a
  obtain ⟨b1, b2, b3, b4⟩ := b
  simp [Hold.eqB, and_assoc]

theorem holdEq {op : BinOp} {ox oy : Operand} (a b : Hold) (w : World) (hop : op = .eql ∨ op = .neq) :
    (do eqGuard op 43 ox oy a.val b.val; binOp op 43 a.val b.val : Sem Value).run Try.prog w = .ok (.bool (if op = .eql then a.eqB b else !(a.eqB b))) w := by
  have hS : Try.prog.underlying 43 = some (.struct (Try.prog.fieldsOf 43)) := by kernel_rfl
  have hp : Try.prog.stoodInHeld 43 = false := by kernel_rfl
  have hg : Try.prog.eqGuardType Try.prog.depth 43 = false := by kernel_rfl
  have hS2 : Try.prog.underlying 34 = some (.struct (Try.prog.fieldsOf 34)) := by kernel_rfl
  have hp2 : Try.prog.stoodInHeld 34 = false := by kernel_rfl
  have key2 : ∀ a b c d : Int, (Op.equalIn 9999 34 (.agg #[I a, I b]) (.agg #[I c, I d])).run Try.prog w = .ok (a == c && b == d) w := by
    intro a b c d
    have u3 := Try.underlying3
    have a3 := Try.isAgg3
    have z3 := Try.sizeOf3
    rw [show (9999 : Nat) = 9998 + 1 from rfl, run_equalIn_agg w 9998 34 _ _ hS2 hp2]
    simp only [Program.fieldsOf, Try.underlying34]
    go_simp
    by_cases h1 : a = c <;> by_cases h2 : b = d <;> simp [h1, h2]
  have key : (Op.equalIn 10000 43 a.val b.val).run Try.prog w = .ok (a.eqB b) w := by
    have u3 := Try.underlying3
    have a3 := Try.isAgg3
    have z3 := Try.sizeOf3
    have u8 := Try.underlying32
    have a8 := Try.isAgg32
    have z8 := Try.sizeOf32
    have asp := Try.isAgg34
    have zsp := Try.sizeOf34
    rw [show (10000 : Nat) = 9999 + 1 from rfl, run_equalIn_agg w 9999 43 _ _ hS hp]
    simp only [Program.fieldsOf, Try.underlying43]
    have e := fun (k : IntKind) (x y : Int) (t : Nat) (hu : Try.prog.underlying t = some (.int k)) => run_equalIn_int (P := Try.prog) w 9998 t k k x y hu
    refine (eqF_cons (by simp) (by go_simp; rfl) (by go_simp; rfl) (e .i64 _ _ _ u3) <| eqF_cons (a := .agg #[I a.lo, I a.hi]) (b := .agg #[I b.lo, I b.hi]) (by simp) (by go_simp) (by go_simp) (key2 _ _ _ _) <|
      eqF_cons (by simp) (by go_simp; rfl) (by go_simp; rfl) (e .i8 _ _ _ u8) eqF_nil).trans ?_
    rw [Bool.and_true]
    rfl
  rw [Sem.run_bind, run_eqGuard_agg w _ _ _ _ _ _ hg]
  rcases hop with rfl | rfl
  · simp only [Result.andThen_ok, run_eql_struct, key]; rfl
  · simp only [Result.andThen_ok, run_neq_struct, key]; rfl

def inH (h : Hold) (l : List Hold) : Bool := l.any fun x => h.eqB x

theorem idxH_c (V : Vw) (sv : Value) (l : List Hold) (x : Hold) (w : World) (hV : V.le (vw w)) (hs0 : SlOf V Hold.cells 4 sv l) (hn : l.length ≤ lim) :
    Calls Try.prog 116 #[sv, x.val] w fun e w' => e = .returned (I (idxOf (fun y => x.eqB y) l)) ∧ Below w.heap.size w w' := by
  unfold lim at hn
  have hs := hs0.mono hV
  refine enter (E := E0) (O := []) (nl := 0) (V := vw w) [.a (.v sv), .a (.v x.val)] Try.func116 rfl rfl (mem0 E0 0 w) rfl rfl ?_
  refine c_seq ?_
  refine c_region ?_
  refine o_new tok rfl rfl rfl rfl ?_
  refine o_yield rfl rfl rfl (y_val tok rfl) ?_
  refine o_end [0, 3] rfl ?_
  refine x_then ?_
  refine c_seq ?_
  refine c_seq ?_
  refine c_region ?_
  refine o_yield rfl rfl rfl (y_val tok rfl) ?_
  refine o_yield rfl rfl rfl (y_len tok rfl (fun hg => hs.sl)) ?_
  refine o_yield rfl rfl rfl (y_val tok rfl) ?_
  refine o_end [0, 3, 7, 8] rfl ?_
  refine x_then ?_
  refine c_block ?_
  refine c_loopK [0, 3, 7] [] rfl rfl (σ := Nat) (fun k => [(8, .a (.v (I k)))]) (fun k => []) (fun k => k ≤ l.length ∧ ∀ (j : Nat) (y : Hold), j < k → l[j]? = some y → x.eqB y = false) (fun k => l.length - k) (0) (⟨by omega, by simp⟩) (by repeat (first | exact SubF.nil | refine SubF.cons rfl ?_)) (by repeat (first | exact SubO.nil | refine SubO.cons rfl ?_)) rfl ?_
  rintro k ⟨hk, hall⟩
  refine c_seq ?_
  refine c_region ?_
  refine o_yield rfl rfl rfl (y_val tok rfl) ?_
  refine o_end [0, 3, 7, 8, 9] rfl ?_
  refine x_then ?_
  refine c_seq ?_
  refine c_cond rfl (fun h => ?_) (fun h => ?_)
  ·
    simp only [Bool.and_eq_true, Bool.or_eq_true, Bool.not_eq_true', Bool.or_eq_false_iff, Bool.and_eq_false_iff, decide_eq_true_eq, decide_eq_false_iff_not, beq_iff_eq, bne_iff_ne, Bool.not_eq_false', beq_eq_false_iff_ne, bne_eq_false_iff_eq, ne_eq, Decidable.not_not, Int.not_lt, Int.not_le] at h
    refine c_skip ?_
    refine x_then ?_
    refine c_seq ?_
    refine c_block ?_
    refine c_seq ?_
    refine c_region ?_
    refine o_yield rfl rfl rfl (y_val tok rfl) ?_
    refine o_yield rfl rfl rfl (y_val tok rfl) ?_
    refine o_end [0, 3, 5, 7, 8] rfl ?_
    refine x_then ?_
    refine c_seq ?_
    refine c_draw mixed (by kernel_rfl) ?_
    refine d_yield rfl rfl rfl (y_val tok rfl) rfl ?_
    refine d_yield rfl rfl rfl (y_val tok rfl) rfl ?_
    refine d_yield rfl rfl rfl (y_val tok rfl) rfl ?_
    obtain ⟨y, h_y⟩ := hs.at (k := k) (by omega)
    have hlt_y := lt_of_at h_y
    refine d_yield rfl rfl rfl (y_idx tok rfl (fun hg => hs.sl) (fun hg => ⟨by omega, by omega⟩)) rfl ?_
    refine d_yield rfl rfl rfl (y_lel tok (k) 0 (y) rfl (fun hg => hs) (fun hg => h_y) rfl rfl) rfl ?_
    refine d_yield rfl rfl rfl (y_seq (.bool (x.eqB y)) rfl (fun E w => holdEq x y w (.inl rfl))) rfl ?_
    refine d_end [0, 3, 5, 7, 8, 16] rfl ?_
    refine x_then ?_
    refine c_cond rfl (fun h => ?_) (fun h => ?_)
    ·
      refine c_seq ?_
      refine c_region ?_
      refine o_yield rfl rfl rfl (y_val tok rfl) ?_
      refine o_yield rfl rfl rfl (y_val tok rfl) ?_
      refine o_end [4] rfl ?_
      refine x_then ?_
      refine c_ret ?_
      refine x_block_ret ?_
      refine x_then_ret ?_
      refine x_then_ret ?_
      refine x_block_ret ?_
      refine x_then_ret ?_
      refine b_ret tok rfl ?_
      intro E w' hm _
      refine ⟨?_, hm.below (Vw.le.refl _)⟩
      rw [idxOf, findIdx?_at h_y h hall]; rfl
    ·
      refine c_skip ?_
      refine x_block ?_
      refine x_then ?_
      refine c_region ?_
      refine o_yield rfl rfl rfl (y_val tok rfl) ?_
      refine o_yield rfl rfl rfl (y_val tok rfl) ?_
      refine o_end [0, 3, 7, 8] rfl ?_
      refine x_then ?_
      rw [wrapI (n := (k : Int) + 1) (by omega) (by omega)]
      refine x_round (k + 1) (⟨by omega, ahead_succ h_y hall h⟩) (by first | omega | (dsimp only; omega)) (by repeat (first | exact SubF.nil | refine SubF.cons rfl ?_)) (by repeat (first | exact SubO.nil | refine SubO.cons rfl ?_)) rfl (Vw.le.refl _)
  ·
    simp only [Bool.and_eq_true, Bool.or_eq_true, Bool.not_eq_true', Bool.or_eq_false_iff, Bool.and_eq_false_iff, decide_eq_true_eq, decide_eq_false_iff_not, beq_iff_eq, bne_iff_ne, Bool.not_eq_false', beq_eq_false_iff_ne, bne_eq_false_iff_eq, ne_eq, Decidable.not_not, Int.not_lt, Int.not_le] at h
    refine c_exit ?_
    refine x_then_exit ?_
    refine x_then_exit ?_
    refine x_block_hit ?_
    refine x_then ?_
    refine c_seq ?_
    refine c_region ?_
    refine o_yield rfl rfl rfl (y_val tok rfl) ?_
    refine o_end [4] rfl ?_
    refine x_then ?_
    refine c_ret ?_
    refine b_ret tok rfl ?_
    have hge : k = l.length := by omega
    intro E w' hm _
    refine ⟨?_, hm.below (Vw.le.refl _)⟩
    rw [idxOf, findIdx?_no (hge ▸ hall)]; rfl

theorem conH_c (V : Vw) (sv : Value) (l : List Hold) (x : Hold) (w : World) (hV : V.le (vw w)) (hs0 : SlOf V Hold.cells 4 sv l) (hn : l.length ≤ lim) :
    Calls Try.prog 70 #[sv, x.val] w fun e w' => e = .returned (.bool (inH x l)) ∧ Below w.heap.size w w' := by
  refine enter (E := E0) (O := []) (nl := 0) (V := vw w) [.a (.v sv), .a (.v x.val)] Try.func70 rfl rfl (mem0 E0 0 w) rfl rfl ?_
  refine c_seq ?_
  refine c_region ?_
  refine o_new tok rfl rfl rfl rfl ?_
  refine o_yield rfl rfl rfl (y_val tok rfl) ?_
  refine o_end [0, 3] rfl ?_
  refine x_then ?_
  refine c_seq ?_
  refine c_region ?_
  refine o_yield rfl rfl rfl (y_val tok rfl) ?_
  refine o_yield rfl rfl rfl (y_val tok rfl) ?_
  refine o_call (.a (.v _)) rfl rfl fnok116 rfl rfl rfl (fun hg E w1 hm => by exact idxH_c V sv l x _ (hV.trans hm.leV) hs0 hn) ?_
  refine o_yield rfl rfl rfl (y_val tok rfl) ?_
  refine o_yield rfl rfl rfl (y_val tok rfl) ?_
  refine o_end [4] rfl ?_
  refine x_then ?_
  refine c_ret ?_
  refine b_ret tok rfl ?_
  intro E w' hm _
  refine ⟨?_, hm.below (Vw.le.refl _)⟩
  rw [inH, ← idx_any]; rfl
end Go.Proofs.Ytiapfhcimekdkaa

/- Locks: what a key has, waits for, is told. -/
set_option linter.unusedVariables false
set_option linter.unusedSimpArgs false
set_option maxRecDepth 100000
namespace Go.Proofs.Ytiapfhcimekdkaa
open Go Go.Eng Go.RowKit

theorem see_c (v1 v2 v3 : Value) (a n c a2 n2 c2 a3 n3 c3) (h1 : v1 = .slice a n c) (h2 : v2 = .slice a2 n2 c2) (h3 : v3 = .slice a3 n3 c3) (key serial : Int) (w : World) :
    Calls Try.prog 71 #[.agg #[v1, v2, v3], I key, I serial] w fun e w' => e = .returned (.agg #[I key, I serial, v1, v2, v3]) ∧ Below w.heap.size w w' := by
  subst h1 h2 h3
  refine enter (E := E0) (O := []) (nl := 0) (V := vw w) [.a (.v (.agg #[.slice a n c, .slice a2 n2 c2, .slice a3 n3 c3])), .a (.v (I key)), .a (.v (I serial))] Try.func71 rfl rfl (mem0 E0 0 w) rfl rfl ?_
  refine c_seq ?_
  refine c_region ?_
  refine o_new tok rfl rfl rfl rfl ?_
  refine o_new tok rfl rfl rfl rfl ?_
  refine o_end [1, 2, 3, 6] rfl ?_
  refine x_then ?_
  refine c_seq ?_
  refine c_region ?_
  refine o_yield rfl rfl rfl (y_val tok rfl) ?_
  refine o_yield rfl rfl rfl (y_val tok rfl) ?_
  refine o_yield rfl rfl rfl (y_val tok rfl) ?_
  refine o_yield rfl rfl rfl (y_val tok rfl) ?_
  refine o_yield rfl rfl rfl (y_val tok rfl) ?_
  refine o_store tok rfl rfl rfl (by first | exact ⟨trivial, trivial⟩ | (repeat' first | exact trivial | exact rfl | apply And.intro); done | simp [onesP, oneP, lk, Value.oneCell']) ?_
  refine o_end [6] rfl ?_
  refine x_then ?_
  refine c_ret ?_
  refine b_ret tok rfl ?_
  intro E w' hm _
  refine ⟨?_, hm.below (Vw.le.refl _)⟩
  rfl

def hasF (key : Int) (all : Bool) (gs : List Span) (h : Hold) : Bool := ((h.key == key) && !all) && !spIn gs h.lo h.hi

theorem hasFn_c (x : Hold) (key : Int) (all : Bool) (gv v1 v2 v3 : Value) (gs : List Span) (b1 b2 b3 : Nat) (V : Vw) (h1 : V.get b1 = some (.cells [I key, I 0, v1, v2, v3].toArray 102 (0, 0))) (h2 : V.get b2 = some (.cells [.bool all].toArray 4 (0, 0)))
    (h3 : V.get b3 = some (.cells [gv].toArray 50 (0, 0))) (hs : SlOf V Span.cells 2 gv gs) (hn : gs.length ≤ lim) (w : World) (hV : V.le (vw w)) :
    Calls Try.prog 73 #[x.val, .pointer (some ⟨b1, 0, none⟩), .pointer (some ⟨b2, 0, none⟩), .pointer (some ⟨b3, 0, none⟩)] w fun e w' => e = .returned (.bool (hasF key all gs x)) ∧ Below w.heap.size w w' := by
  obtain ⟨a, n, c, rfl⟩ := sl_shape hs.sl
  refine enter (E := E0) (O := []) (nl := 0) (V := vw w) [.a (.v x.val), .a (.v (.pointer (some ⟨b1, 0, none⟩))), .a (.v (.pointer (some ⟨b2, 0, none⟩))), .a (.v (.pointer (some ⟨b3, 0, none⟩)))] Try.func73 rfl rfl (mem0 E0 0 w) rfl rfl ?_
  refine c_seq ?_
  refine c_region ?_
  refine o_new tok rfl rfl rfl rfl ?_
  refine o_yield rfl rfl rfl (y_val tok rfl) ?_
  refine o_end [1, 2, 3, 4] rfl ?_
  refine x_then ?_
  refine c_seq ?_
  refine c_region ?_
  refine o_yield rfl rfl rfl (y_val tok rfl) ?_
  refine o_yield rfl rfl rfl (y_ldp (cs := [I key, I 0, v1, v2, v3]) tok rfl (fun hg => hV.get _ _ h1) rfl) ?_
  refine o_yield rfl rfl rfl (y_val tok rfl) ?_
  refine o_call (.a (.v _)) rfl rfl fnok74 rfl rfl rfl (fun hg E w1 hm => by exact ohas_c key 0 x _) ?_
  refine o_yield rfl rfl rfl (y_val tok rfl) ?_
  refine o_yield rfl rfl rfl (y_ldp (cs := [.bool all]) tok rfl (fun hg => hV.get _ _ h2) rfl) ?_
  refine o_yield rfl rfl rfl (y_val tok rfl) ?_
  refine o_yield rfl rfl rfl (y_val tok rfl) ?_
  refine o_yield rfl rfl rfl (y_val tok rfl) ?_
  refine o_yield rfl rfl rfl (y_ldp (cs := [.slice a n c]) tok rfl (fun hg => hV.get _ _ h3) rfl) ?_
  refine o_yield rfl rfl rfl (y_val tok rfl) ?_
  refine o_yield rfl rfl rfl (y_val tok rfl) ?_
  refine o_call (.a (.v _)) rfl rfl fnok75 rfl rfl rfl (fun hg E w1 hm => by exact conSp_c V _ gs x.lo x.hi _ (hV.trans hm.leV) hs hn) ?_
  refine o_yield rfl rfl rfl (y_val tok rfl) ?_
  refine o_yield rfl rfl rfl (y_val tok rfl) ?_
  refine o_yield rfl rfl rfl (y_val tok rfl) ?_
  refine o_end [5] rfl ?_
  refine x_then ?_
  refine c_ret ?_
  refine b_ret tok rfl ?_
  intro E w' hm _
  refine ⟨?_, hm.below (Vw.le.refl _)⟩
  rfl

def hasL (key : Int) (all : Bool) (gs : List Span) (H : List Hold) : List Hold := H.filter (hasF key all gs)

theorem lkHas_c (V : Vw) (tv gv : Value) (t : Tb) (key : Int) (all : Bool) (gs : List Span) (w : World) (ht : t.Fit) (hV : V.le (vw w)) (h : TbIs V tv t) (hg : SlOf V Span.cells 2 gv gs) (hn : gs.length ≤ lim) :
    Calls Try.prog 25 #[tv, I key, .bool all, gv] w (HRow (hasL key all gs t.H) w) := by
  obtain ⟨a, n, c, a2, n2, c2, a3, n3, c3, rfl, h1, h2, h3⟩ := h
  obtain ⟨a4, n4, c4, rfl⟩ := sl_shape hg.sl
  have hh := ht.h
  refine enter (E := E0) (O := []) (nl := 0) (V := vw w) [.a (.v (.agg #[.slice a n c, .slice a2 n2 c2, .slice a3 n3 c3])), .a (.v (I key)), .a (.v (.bool all)), .a (.v (.slice a4 n4 c4))] Try.func25 rfl rfl (mem0 E0 0 w) rfl rfl ?_
  refine c_seq ?_
  refine c_region ?_
  refine o_new tok rfl rfl rfl rfl ?_
  refine o_new tok rfl rfl rfl rfl ?_
  refine o_new tok rfl rfl rfl rfl ?_
  refine o_yield rfl rfl rfl (y_val tok rfl) ?_
  refine o_end [1, 4, 6, 7] rfl ?_
  refine x_then ?_
  refine c_seq ?_
  refine c_region ?_
  refine o_yield rfl rfl rfl (y_val tok rfl) ?_
  refine o_yield rfl rfl rfl (y_val tok rfl) ?_
  refine o_call (.agg [.v (I key), .v (I 0), .v (.slice a n c), .v (.slice a2 n2 c2), .v (.slice a3 n3 c3)]) rfl rfl fnok71 rfl rfl rfl (fun hg E w1 hm => by exact see_c _ _ _ _ _ _ _ _ _ _ _ _ rfl rfl rfl key 0 _) ?_
  refine o_new tok rfl rfl rfl rfl ?_
  refine o_store tok rfl rfl rfl (by first | exact ⟨trivial, trivial⟩ | (repeat' first | exact trivial | exact rfl | apply And.intro); done | simp [onesP, oneP, lk, Value.oneCell']) ?_
  refine o_end [4, 6, 7, 9] rfl ?_
  refine x_then ?_
  refine c_seq ?_
  refine c_region ?_
  refine o_yield rfl rfl rfl (y_val tok rfl) ?_
  refine o_yield rfl rfl rfl (y_val tok rfl) ?_
  refine o_yield rfl rfl rfl (y_val tok rfl) ?_
  refine o_step rfl rfl rfl rfl rfl (s_callRow 43 4 (hasL key all gs t.H).length ((hasL key all gs t.H).flatMap Hold.cells) rfl fnok72 (fun E w1 hm => choose_c (vw w1) _ _ (hasF key all gs) t.H w1 (Vw.le.refl _) (h2.mono (hV.trans hm.leV)) (by omega) (fun x w' hle => CallsFn.b ⟨73, _, rfl, fnok73, hasFn_c x key all _ _ _ _ gs _ _ _ (vw w1) (hm.lit 3 _ _ rfl) (hm.lit 1 _ _ rfl) (hm.lit 2 _ _ rfl) (hg.mono (hV.trans hm.leV)) hn w' hle⟩))) (fun _ _ => ?_)
  refine o_yield rfl rfl rfl (y_val tok rfl) ?_
  refine o_end [8] rfl ?_
  refine x_then ?_
  refine c_ret ?_
  refine b_ret tok rfl ?_
  intro E' w' hm _
  exact ⟨_, rfl, hm.rowFresh (Vw.le.refl _) (l := 4) rfl, hm.below (Vw.le.refl _)⟩

def waitsL (key : Int) (Q : List Hold) : List Hold := Q.filter fun h => h.key == key

theorem lkWaits_c (V : Vw) (tv : Value) (t : Tb) (key : Int) (w : World) (ht : t.Fit) (hV : V.le (vw w)) (h : TbIs V tv t) :
    Calls Try.prog 27 #[tv, I key] w (HRow (waitsL key t.Q) w) := by
  obtain ⟨a, n, c, a2, n2, c2, a3, n3, c3, rfl, h1, h2, h3⟩ := h
  have hq := ht.q
  refine enter (E := E0) (O := []) (nl := 0) (V := vw w) [.a (.v (.agg #[.slice a n c, .slice a2 n2 c2, .slice a3 n3 c3])), .a (.v (I key))] Try.func27 rfl rfl (mem0 E0 0 w) rfl rfl ?_
  refine c_seq ?_
  refine c_region ?_
  refine o_new tok rfl rfl rfl rfl ?_
  refine o_yield rfl rfl rfl (y_val tok rfl) ?_
  refine o_end [1, 2] rfl ?_
  refine x_then ?_
  refine c_seq ?_
  refine c_heldR mixed rfl (by repeat (first | exact SubO.nil | refine SubO.cons rfl ?_)) (by first | rfl | simp [okCels, allOk_plain]) ?_
  refine t_take 0 rfl (by kernel_rfl) rfl rfl rfl (y_val tok rfl) rfl ?_
  refine t_take 1 rfl (by kernel_rfl) rfl rfl rfl (y_val tok rfl) rfl ?_
  refine t_take 2 rfl (by kernel_rfl) rfl rfl rfl (y_val tok rfl) rfl ?_
  refine t_take 3 rfl (by kernel_rfl) rfl rfl rfl (y_val tok rfl) rfl ?_
  refine t_go ?_
  refine h_one 4 (by kernel_rfl) ?_
  refine h_call 4 (.agg [.v (I key), .v (I 0), .v (.slice a n c), .v (.slice a2 n2 c2), .v (.slice a3 n3 c3)]) rfl rfl rfl fnok71 rfl rfl rfl (fun hg E w1 hm => by exact see_c _ _ _ _ _ _ _ _ _ _ _ _ rfl rfl rfl key 0 _) ?_
  refine h_one 5 (by kernel_rfl) ?_
  refine h_yield 5 rfl rfl rfl rfl (y_val tok rfl) ?_
  refine h_one 6 (by kernel_rfl) ?_
  refine h_yield 6 rfl rfl rfl rfl (y_mkb rfl) ?_
  refine h_one 7 (by kernel_rfl) ?_
  refine h_to 7 rfl rfl rfl rfl rfl rfl (s_callRow 43 4 (waitsL key t.Q).length ((waitsL key t.Q).flatMap Hold.cells) rfl fnok72 (fun E w1 hm => choose_c V _ _ (fun h => h.key == key) t.Q w1 (hV.trans hm.leV) h3 (by omega) (fun x w' hle => ⟨74, #[.agg #[I key, I 0]], #[], rfl, fnok74, ohas_c key 0 x w'⟩))) (.inr fun _ _ => ⟨(by repeat (first | exact SubO.nil | refine SubO.cons rfl ?_)), rfl, (by first | exact Vw.le.refl _ | assumption)⟩) (fun _ _ => ?_)
  refine h_one 8 (by kernel_rfl) ?_
  refine h_yield 8 rfl rfl rfl rfl (y_val tok rfl) ?_
  refine h_done [4] (by kernel_rfl) rfl ?_
  refine x_then ?_
  refine c_ret ?_
  refine b_ret tok rfl ?_
  intro E' w' hm _
  exact ⟨_, rfl, hm.rowFresh (Vw.le.refl _) (l := 1) rfl, hm.below (Vw.le.refl _)⟩

theorem lkTold_c (V : Vw) (tv : Value) (t : Tb) (key lo hi mode : Int) (w : World) (ht : t.Fit) (hV : V.le (vw w)) (h : TbIs V tv t) :
    Calls Try.prog 22 #[tv, I key, .agg #[I lo, I hi], I8 mode] w fun e w' => e = .returned (.tuple #[.bool (inH ⟨key, lo, hi, mode⟩ t.H), .bool (inH ⟨key, lo, hi, mode⟩ t.Q)]) ∧ Below w.heap.size w w' := by
  obtain ⟨a, n, c, a2, n2, c2, a3, n3, c3, rfl, h1, h2, h3⟩ := h
  have hh := ht.h
  have hq := ht.q
  have hlim : lim = 4398046511104 := rfl
  refine enter (E := E0) (O := []) (nl := 0) (V := vw w) [.a (.v (.agg #[.slice a n c, .slice a2 n2 c2, .slice a3 n3 c3])), .a (.v (I key)), .a (.v (.agg #[I lo, I hi])), .a (.v (I8 mode))] Try.func22 rfl rfl (mem0 E0 0 w) rfl rfl ?_
  refine c_seq ?_
  refine c_region ?_
  refine o_new tok rfl rfl rfl rfl ?_
  refine o_new tok rfl rfl rfl rfl ?_
  refine o_yield rfl rfl rfl (y_val tok rfl) ?_
  refine o_yield rfl rfl rfl (y_val tok rfl) ?_
  refine o_end [1, 3, 4, 6] rfl ?_
  refine x_then ?_
  refine c_seq ?_
  refine c_region ?_
  refine o_yield rfl rfl rfl (y_val tok rfl) ?_
  refine o_yield rfl rfl rfl (y_val tok rfl) ?_
  refine o_yield rfl rfl rfl (y_val tok rfl) ?_
  refine o_yield rfl rfl rfl (y_val tok rfl) ?_
  refine o_new tok rfl rfl rfl rfl ?_
  refine o_store tok rfl rfl rfl (by first | exact ⟨trivial, trivial⟩ | (repeat' first | exact trivial | exact rfl | apply And.intro); done | simp [onesP, oneP, lk, Value.oneCell']) ?_
  refine o_end [4, 10] rfl ?_
  refine x_then ?_
  refine c_seq ?_
  refine c_draw mixed (by kernel_rfl) ?_
  refine d_yield rfl rfl rfl (y_val tok rfl) rfl ?_
  refine d_yield rfl rfl rfl (y_val tok rfl) rfl ?_
  refine d_yield rfl rfl rfl (y_val tok rfl) rfl ?_
  refine d_call (.a (.v _)) rfl rfl fnok70 rfl rfl rfl (fun hg E w1 hm => by exact conH_c V _ t.H ⟨key, lo, hi, mode⟩ _ (hV.trans hm.leV) h2 (by omega)) ?_
  refine d_yield rfl rfl rfl (y_val tok rfl) rfl ?_
  refine d_yield rfl rfl rfl (y_val tok rfl) rfl ?_
  refine d_yield rfl rfl rfl (y_val tok rfl) rfl ?_
  refine d_call (.a (.v _)) rfl rfl fnok70 rfl rfl rfl (fun hg E w1 hm => by exact conH_c V _ t.Q ⟨key, lo, hi, mode⟩ _ (hV.trans hm.leV) h3 (by omega)) ?_
  refine d_yield rfl rfl rfl (y_val tok rfl) rfl ?_
  refine d_yield rfl rfl rfl (y_val tok rfl) rfl ?_
  refine d_end [8, 9] rfl ?_
  refine x_then ?_
  refine c_ret ?_
  refine b_ret tok rfl ?_
  intro E w' hm _
  refine ⟨?_, hm.below (Vw.le.refl _)⟩
  rfl
end Go.Proofs.Ytiapfhcimekdkaa

/- Locks: who waits for what a key has, what is wanted of it. -/
set_option linter.unusedVariables false
set_option linter.unusedSimpArgs false
set_option maxRecDepth 100000
namespace Go.Proofs.Ytiapfhcimekdkaa
open Go Go.Eng Go.RowKit

/-- The queue parted by a condition that looks at the book itself. -/
theorem removeQ2_c (g : Geo) (t : Tb) (ht : t.Fit) (pr : Hold → Bool) (sv : Value) (f : Nat) (caps : Array Value) (E : Env) (V : Vw) (w : World) (hm0 : Mem E (tbO g t) 4 V w) (hs : SlOf V encF 1 sv [.func (.func f) #[] caps])
    (hf : ∀ (W : Vw) s1 s2 s3, V.le W → W.get (E.ρ 0) = some (.cells (bkC s1 s2 s3 g).toArray 91 (0, 0)) → SlOf W Hold.cells 4 s2 t.H → Tells W (.func (.func f) #[] caps) pr) :
    Calls Try.prog 118 #[.pointer (some ⟨E.ρ 0, 0, none⟩), .pointer (some ⟨E.ρ 0, 2, none⟩), sv] w (TbLeft E g ⟨t.S, t.H, t.Q.filter fun h => !pr h⟩ V w) := by
  obtain ⟨sa, sn, sc, rfl⟩ := sl_shape hs.sl
  have hl := ht.q
  have hm1 := bookPin hm0
  refine enter [.a (.ptr 0 0), .a (.ptr 0 2), .a (.v (.slice sa sn sc))] Try.func118 rfl rfl (hm1) rfl rfl ?_
  refine c_seq ?_
  refine c_region ?_
  refine o_new tok rfl rfl rfl rfl ?_
  refine o_yield rfl rfl rfl (y_val tok rfl) ?_
  refine o_end [1, 5] rfl ?_
  refine x_then ?_
  refine c_seq ?_
  refine c_region ?_
  refine o_yield rfl rfl rfl (y_val tok rfl) ?_
  refine o_yield rfl rfl rfl (y_val tok rfl) ?_
  refine o_yield rfl rfl rfl (y_val tok rfl) ?_
  refine o_yield rfl rfl rfl (y_own (s := .a (.v (I t.Q.length))) 3 rfl rfl (fun v V' hv => y_len tok rfl (fun hg => hv))) ?_
  refine o_yield rfl rfl rfl (y_val tok rfl) ?_
  refine o_end [1, 5, 7] rfl ?_
  refine x_then ?_
  refine c_seq ?_
  refine c_region ?_
  refine o_yield rfl rfl rfl (y_val tok rfl) ?_
  refine o_yield rfl rfl rfl (y_val tok rfl) ?_
  refine o_yield rfl rfl rfl (y_val tok rfl) ?_
  refine o_yield rfl rfl rfl (y_val tok rfl) ?_
  refine o_yield rfl rfl rfl (y_val tok rfl) ?_
  refine o_step rfl rfl rfl rfl rfl (s_rowFn 43 4 (t.Q.filter fun h => !pr h).length ((t.Q.filter fun h => !pr h).flatMap Hold.cells) rfl fnok141 rfl (fun E1 w1 hm => delFunc_c _ _ pr t.Q w1 (hm.row 3 _ _ _ _ rfl) (by omega) (fun x w2 hle => ⟨142, _, rfl, fnok142, condAll_c _ x _ f caps pr _ (hm.litRow rfl (q := 6) rfl) (hs.mono (hm.leRow (l := 3) rfl)) (hf _ (E1.κ 1) (E1.κ 2) (E1.κ 3) (hm.leRow (l := 3) rfl) (by rw [← (hm.pin 4 0 _ rfl).1]; exact hm.litRow (l := 3) rfl (q := 0) rfl) (hm.rowSeen (l := 3) rfl (q := 2) rfl (by decide) (fun _ => rfl))) w2 hle⟩))) (fun _ _ => ?_)
  refine o_yield rfl rfl rfl (y_val tok rfl) ?_
  refine o_store tok rfl rfl rfl (by first | exact ⟨trivial, trivial⟩ | (repeat' first | exact trivial | exact rfl | apply And.intro); done | simp [onesP, oneP, lk, Value.oneCell']) ?_
  refine o_end [1, 7] rfl ?_
  refine x_then ?_
  refine c_seq ?_
  refine c_region ?_
  refine o_yield rfl rfl rfl (y_val tok rfl) ?_
  refine o_yield rfl rfl rfl (y_val tok rfl) ?_
  refine o_yield rfl rfl rfl (y_val tok rfl) ?_
  refine o_yield rfl rfl rfl (y_val tok rfl) ?_
  refine o_yield rfl rfl rfl (y_own (s := .a (.v (I (t.Q.filter fun h => !pr h).length))) 7 rfl rfl (fun v V' hv => y_len tok rfl (fun hg => hv))) ?_
  refine o_yield rfl rfl rfl (y_val tok rfl) ?_
  refine o_yield rfl rfl rfl (y_val tok rfl) ?_
  refine o_end [6] rfl ?_
  refine x_then ?_
  refine c_ret ?_
  refine b_ret tok rfl ?_
  intro E' w' hm _
  exact ⟨_, rfl, trivial, bookEnd hm (Vw.le.refl _) (a := 1) (b := 2) (c := 7) rfl rfl rfl rfl ⟨⟨by decide, by decide⟩, by decide⟩ rfl rfl⟩

theorem demFn1_c (x : Hold) (key : Int) (b : Nat) (V : Vw) (hb : V.get b = some (.cells [I key].toArray 3 (0, 0))) (w : World) (hV : V.le (vw w)) :
    Calls Try.prog 119 #[x.val, .pointer (some ⟨b, 0, none⟩)] w fun e w' => e = .returned (.bool (x.key != key)) ∧ Below w.heap.size w w' := by
  refine enter (E := E0) (O := []) (nl := 0) (V := vw w) [.a (.v x.val), .a (.v (.pointer (some ⟨b, 0, none⟩)))] Try.func119 rfl rfl (mem0 E0 0 w) rfl rfl ?_
  refine c_seq ?_
  refine c_region ?_
  refine o_new tok rfl rfl rfl rfl ?_
  refine o_yield rfl rfl rfl (y_val tok rfl) ?_
  refine o_end [1, 2] rfl ?_
  refine x_then ?_
  refine c_seq ?_
  refine c_region ?_
  refine o_yield rfl rfl rfl (y_val tok rfl) ?_
  refine o_yield rfl rfl rfl (y_val tok rfl) ?_
  refine o_yield rfl rfl rfl (y_ldp (cs := [I key]) tok rfl (fun hg => hV.get _ _ hb) rfl) ?_
  refine o_yield rfl rfl rfl (y_val tok rfl) ?_
  refine o_yield rfl rfl rfl (y_val tok rfl) ?_
  refine o_end [3] rfl ?_
  refine x_then ?_
  refine c_ret ?_
  refine b_ret tok rfl ?_
  intro E w' hm _
  refine ⟨?_, hm.below (Vw.le.refl _)⟩
  rfl

theorem demFn2_c (x : Hold) (g : Geo) (H : List Hold) (b5 b : Nat) (s1 s2 s3 : Value) (V : Vw) (h5 : V.get b5 = some (.cells [.pointer (some ⟨b, 0, none⟩)].toArray 88 (0, 0))) (hb : V.get b = some (.cells (bkC s1 s2 s3 g).toArray 91 (0, 0))) (hs : SlOf V Hold.cells 4 s2 H) (hn : H.length ≤ lim) (w : World) (hV : V.le (vw w)) :
    Calls Try.prog 120 #[x.val, .pointer (some ⟨b5, 0, none⟩)] w fun e w' => e = .returned (.bool (fits x H)) ∧ Below w.heap.size w w' := by
  obtain ⟨a, n, c, rfl⟩ := sl_shape hs.sl
  refine enter (E := E0) (O := []) (nl := 0) (V := vw w) [.a (.v x.val), .a (.v (.pointer (some ⟨b5, 0, none⟩)))] Try.func120 rfl rfl (mem0 E0 0 w) rfl rfl ?_
  refine c_seq ?_
  refine c_region ?_
  refine o_new tok rfl rfl rfl rfl ?_
  refine o_yield rfl rfl rfl (y_val tok rfl) ?_
  refine o_end [1, 2] rfl ?_
  refine x_then ?_
  refine c_seq ?_
  refine c_draw mixed (by kernel_rfl) ?_
  refine d_yield rfl rfl rfl (y_val tok rfl) rfl ?_
  refine d_yield rfl rfl rfl (y_ldp (cs := [.pointer (some ⟨b, 0, none⟩)]) tok rfl (fun hg => hV.get _ _ h5) rfl) rfl ?_
  refine d_yield rfl rfl rfl (y_val tok rfl) rfl ?_
  refine d_yield rfl rfl rfl (y_val tok rfl) rfl ?_
  refine d_yield rfl rfl rfl (y_val tok rfl) rfl ?_
  refine d_yield rfl rfl rfl (y_ldp (cs := bkC s1 (.slice a n c) s3 g) tok rfl (fun hg => hV.get _ _ hb) rfl) rfl ?_
  refine d_call (.a (.v _)) rfl rfl fnok77 rfl rfl rfl (fun hg E w1 hm => by exact spFits_c V x _ H _ (hV.trans hm.leV) hs hn) ?_
  refine d_yield rfl rfl rfl (y_val tok rfl) rfl ?_
  refine d_end [3] rfl ?_
  refine x_then ?_
  refine c_ret ?_
  refine b_ret tok rfl ?_
  intro E w' hm _
  refine ⟨?_, hm.below (Vw.le.refl _)⟩
  rfl

/-- Who waits for what a key has. -/
def demL (key : Int) (t : Tb) : List Hold := t.Q.filter fun h => !fits h (t.H.filter fun h => h.key == key)

theorem neneq (a b : Int) : (!(a != b)) = (a == b) := by simp [bne]

theorem tDemands_c (V : Vw) (tv : Value) (t : Tb) (key : Int) (w : World) (ht : t.Fit) (hV : V.le (vw w)) (h : TbIs V tv t) :
    Calls Try.prog 76 #[tv, I key] w (HRow (demL key t) w) := by
  obtain ⟨a, n, c, a2, n2, c2, a3, n3, c3, rfl, h1, h2, h3⟩ := id h
  have hh := ht.h
  have hlim : lim = 4398046511104 := rfl
  refine enter (E := E0) (O := []) (nl := 0) (V := vw w) [.a (.v (.agg #[.slice a n c, .slice a2 n2 c2, .slice a3 n3 c3])), .a (.v (I key))] Try.func76 rfl rfl (mem0 E0 0 w) rfl rfl ?_
  refine c_seq ?_
  refine c_region ?_
  refine o_new tok rfl rfl rfl rfl ?_
  refine o_new tok rfl rfl rfl rfl ?_
  refine o_yield rfl rfl rfl (y_val tok rfl) ?_
  refine o_end [2, 3] rfl ?_
  refine x_then ?_
  refine c_seq ?_
  refine c_region ?_
  refine o_yield rfl rfl rfl (y_val tok rfl) ?_
  refine o_yield rfl rfl rfl (y_val tok rfl) ?_
  refine o_step rfl rfl rfl rfl rfl (s_bookNew (e0 := 91) (gs := (⟨0, 0, 0, 0, 0, 0, 0, 0⟩ : Geo).cells) (R1 := slR t.S) (R2 := hoR t.H) (R3 := hoR t.Q) rfl fnok56 (fun E w1 hm => topen_c V ⟨0, 0, 0, 0, 0, 0, 0, 0⟩ _ t ht w1 (hV.trans hm.leV) h)) (fun _ _ => ?_)
  refine o_new tok rfl rfl rfl rfl ?_
  refine o_store tok rfl rfl rfl (by first | exact ⟨trivial, trivial⟩ | (repeat' first | exact trivial | exact rfl | apply And.intro); done | simp [onesP, oneP, lk, Value.oneCell']) ?_
  refine o_end [3, 5] rfl ?_
  refine x_then ?_
  refine c_seq ?_
  refine c_heldS [7] mixed rfl (by repeat (first | exact SubO.nil | refine SubO.cons rfl ?_)) (by first | rfl | simp [okCels, allOk_plain]) ?_
  refine t_takeD 0 rfl (by kernel_rfl) rfl rfl rfl (y_val tok rfl) rfl ?_
  refine t_takeD 1 rfl (by kernel_rfl) rfl rfl rfl (y_val tok rfl) rfl ?_
  refine t_takeD 2 rfl (by kernel_rfl) rfl rfl rfl (y_val tok rfl) rfl ?_
  refine t_takeD 3 rfl (by kernel_rfl) rfl rfl rfl (y_val tok rfl) rfl ?_
  refine t_takeD 4 rfl (by kernel_rfl) rfl rfl rfl (y_val tok rfl) rfl ?_
  refine t_takeD 5 rfl (by kernel_rfl) rfl rfl rfl (y_val tok rfl) rfl ?_
  refine t_go ?_
  refine h_one 6 (by kernel_rfl) ?_
  refine h_to 6 rfl rfl rfl rfl rfl rfl (s_bsA tok rfl) (.inr fun x hx => ⟨(by repeat (first | exact SubO.nil | refine SubO.cons rfl ?_)), rfl, (by first | exact Vw.le.refl _ | exact hx.1)⟩) (fun xa hxa => ?_)
  refine h_one 7 (by kernel_rfl) ?_
  refine h_to 7 rfl rfl rfl rfl rfl rfl (s_bookW (lo := 2) (a := 3) (b := 4) (c := 5) (fun _ => True) (slR t.S) (hoR (t.H.filter fun h => !(h.key != key))) (hoR t.Q) rfl fnok118 rfl rfl rfl rfl ⟨⟨by decide, by decide⟩, by decide⟩ (fun E w hm hin hle => removeH_c ⟨0, 0, 0, 0, 0, 0, 0, 0⟩ t ht (fun h => h.key != key) _ 119 #[.pointer (some ⟨E.ρ 1, 0, none⟩)] (bkE E 2 3 4 5) _ w hin (SlOf.ofBlock (enc := encF) (l := [.func (.func 119) #[] #[.pointer (some ⟨E.ρ 1, 0, none⟩)]]) (by rw [← (hm.pin 8 7 xa rfl).1]; exact hm.bkLit (a := 3) (b := 4) (c := 5) rfl rfl rfl rfl (q := 7) rfl ⟨⟨⟨by decide, by decide⟩, by decide⟩, by decide⟩) rfl (fun _ => rfl) (Nat.le_refl _)) (fun x w' hle => ⟨119, _, rfl, fnok119, demFn1_c x key _ _ (hm.bkLit (a := 3) (b := 4) (c := 5) rfl rfl rfl rfl (q := 1) rfl ⟨⟨⟨by decide, by decide⟩, by decide⟩, by decide⟩) w' hle⟩))) (.inl rfl) (fun _ _ => ?_)
  refine h_done [5] (by kernel_rfl) rfl ?_
  refine x_then ?_
  refine c_seq ?_
  refine c_heldS [7] mixed rfl (by repeat (first | exact SubO.nil | refine SubO.cons rfl ?_)) (by first | rfl | simp [okCels, allOk_plain]) ?_
  refine t_takeD 0 rfl (by kernel_rfl) rfl rfl rfl (y_val tok rfl) rfl ?_
  refine t_takeD 1 rfl (by kernel_rfl) rfl rfl rfl (y_val tok rfl) rfl ?_
  refine t_takeD 2 rfl (by kernel_rfl) rfl rfl rfl (y_val tok rfl) rfl ?_
  refine t_takeD 3 rfl (by kernel_rfl) rfl rfl rfl (y_val tok rfl) rfl ?_
  refine t_takeD 4 rfl (by kernel_rfl) rfl rfl rfl (y_val tok rfl) rfl ?_
  refine t_takeD 5 rfl (by kernel_rfl) rfl rfl rfl (y_val tok rfl) rfl ?_
  refine t_go ?_
  refine h_one 6 (by kernel_rfl) ?_
  simp only [neneq]
  have hd : demL key t = t.Q.filter fun h => !fits h (t.H.filter fun h => h.key == key) := rfl
  obtain ⟨H1, hH1⟩ : ∃ H1, H1 = t.H.filter fun h => h.key == key := ⟨_, rfl⟩
  have hH1l : H1.length ≤ t.H.length := by rw [hH1]; exact List.length_filter_le _ _
  rw [← hH1] at hd ⊢
  refine h_to 6 rfl rfl rfl rfl rfl rfl (s_bsA tok rfl) (.inr fun x hx => ⟨(by repeat (first | exact SubO.nil | refine SubO.cons rfl ?_)), rfl, (by first | exact Vw.le.refl _ | exact hx.1)⟩) (fun xb hxb => ?_)
  refine h_one 7 (by kernel_rfl) ?_
  refine h_to 7 rfl rfl rfl rfl rfl rfl (s_bookW (lo := 2) (a := 9) (b := 10) (c := 11) (fun _ => True) (slR t.S) (hoR H1) (hoR (t.Q.filter fun h => !fits h H1)) rfl fnok118 rfl rfl rfl rfl ⟨⟨by decide, by decide⟩, by decide⟩ (fun E w hm hin hle => removeQ2_c ⟨0, 0, 0, 0, 0, 0, 0, 0⟩ ⟨t.S, H1, t.Q⟩ ⟨ht.s, Nat.le_trans hH1l ht.h, ht.q⟩ (fun h => fits h H1) _ 120 #[.pointer (some ⟨E.ρ 6, 0, none⟩)] (bkE E 2 9 10 11) _ w hin (SlOf.ofBlock (enc := encF) (l := [.func (.func 120) #[] #[.pointer (some ⟨E.ρ 6, 0, none⟩)]]) (by rw [← (hm.pin 13 12 xb rfl).1]; exact hm.bkLit (a := 9) (b := 10) (c := 11) rfl rfl rfl rfl (q := 12) rfl ⟨⟨⟨by decide, by decide⟩, by decide⟩, by decide⟩) rfl (fun _ => rfl) (Nat.le_refl _)) (fun W s1 s2 s3 hW hg hsl x w' hle2 => ⟨120, _, rfl, fnok120, demFn2_c x ⟨0, 0, 0, 0, 0, 0, 0, 0⟩ H1 _ _ s1 s2 s3 W (hW.get _ _ (hm.bkLit (a := 9) (b := 10) (c := 11) rfl rfl rfl rfl (q := 6) rfl ⟨⟨⟨by decide, by decide⟩, by decide⟩, by decide⟩)) hg hsl (by omega) w' hle2⟩))) (.inl rfl) (fun _ _ => ?_)
  refine h_done [5] (by kernel_rfl) rfl ?_
  refine x_then ?_
  refine c_seq ?_
  refine c_region ?_
  refine o_yield rfl rfl rfl (y_val tok rfl) ?_
  refine o_yield rfl rfl rfl (y_val tok rfl) ?_
  refine o_yield rfl rfl rfl (y_val tok rfl) ?_
  refine o_yield rfl rfl rfl (y_val tok rfl) ?_
  refine o_yield rfl rfl rfl (y_val tok rfl) ?_
  refine o_yield rfl rfl rfl (y_val tok rfl) ?_
  refine o_end [4] rfl ?_
  refine x_then ?_
  refine c_ret ?_
  refine b_ret tok rfl ?_
  intro E' w' hm _
  rw [hd]
  exact ⟨_, rfl, hm.rowFresh (Vw.le.refl _) (l := 16) rfl, hm.below (Vw.le.refl _)⟩
end Go.Proofs.Ytiapfhcimekdkaa

/- Locks: what is wanted; the document's. -/
set_option linter.unusedVariables false
set_option linter.unusedSimpArgs false
set_option maxRecDepth 100000
namespace Go.Proofs.Ytiapfhcimekdkaa
open Go Go.Eng Go.RowKit

/-- What answers a row of spans of one's own. -/
def SRow (l : List Span) (w : World) (e : Ending) (w' : World) : Prop := ∃ v', e = .returned v' ∧ w'.ownsRow w.heap.size 34 2 v' l.length (l.flatMap Span.cells) ∧ Below w.heap.size w w'

def SOut (V : Vw) (l : List Span) (w : World) (e : Ending) (w' : World) : Prop := ∃ v V', e = .returned v ∧ Below w.heap.size w w' ∧ Vext w.heap.size V V' w' ∧ SlOf V' Span.cells 2 v l

theorem SRow.out {V : Vw} {l : List Span} {w : World} {e : Ending} {w' : World} (h : SRow l w e w') (hV : V.le (vw w)) : SOut V l w e w' := by
  obtain ⟨v, rfl, h1, h2⟩ := h
  exact ⟨v, _, rfl, h2, Vext.grown hV h2, SlOf.grown (enc := Span.cells) V h1 (fun _ => rfl)⟩

abbrev spOf (h : Hold) : Span := ⟨h.lo, h.hi⟩

theorem span_ones (l : List Span) : ∀ u ∈ l.flatMap Span.cells, u.oneCell' = true := by
  intro u hu
  obtain ⟨x, _, hx⟩ := List.mem_flatMap.1 hu
  simp only [Span.cells, List.mem_cons, List.not_mem_nil, or_false] at hx
  rcases hx with rfl | rfl <;> rfl

theorem span_snoc (L : List Span) (x : Span) : L.length + 1 = (L ++ [x]).length ∧ L.flatMap Span.cells ++ x.cells = (L ++ [x]).flatMap Span.cells := by simp

theorem smap_step {l : List Hold} {k : Nat} {x : Hold} (pr : Hold → Bool) (h : l[k]? = some x) : ((l.take (k + 1)).filter pr).map spOf = ((l.take k).filter pr).map spOf ++ (if pr x = true then [spOf x] else []) := by
  rw [filt_step pr h, List.map_append]
  cases hq : pr x <;> simp [hq]

theorem smap_len (l : List Hold) (k : Nat) (pr : Hold → Bool) : (((l.take k).filter pr).map spOf).length ≤ k := by rw [List.length_map]; exact filt_len l k pr

/-- What is wanted of a key. -/
def wantL (key : Int) (t : Tb) : List Span := ((hasL key false [] t.H).filter fun h => !fits h (demL key t)).map spOf

theorem lkWanted_c (V : Vw) (tv : Value) (t : Tb) (key : Int) (w : World) (ht : t.Fit) (hV : V.le (vw w)) (h : TbIs V tv t) :
    Calls Try.prog 30 #[tv, I key] w (SRow (wantL key t) w) := by
  obtain ⟨a, n, c, a2, n2, c2, a3, n3, c3, rfl, h1, h2, h3⟩ := id h
  have hh := ht.h
  have hq := ht.q
  have hlim : lim = 4398046511104 := rfl
  have hdl : (demL key t).length ≤ t.Q.length := List.length_filter_le _ _
  have hhl : (hasL key false [] t.H).length ≤ t.H.length := List.length_filter_le _ _
  have hwl : wantL key t = ((hasL key false [] t.H).filter fun h => !fits h (demL key t)).map spOf := rfl
  have hdem := fun w1 hw1 => tDemands_c V _ t key w1 ht hw1 h
  have hhas := fun w1 hw1 => lkHas_c V _ (.slice none 0 0) t key false [] w1 ht hw1 h (slNil V Span.cells 2 0 (fun _ => rfl)) (by simp)
  generalize demL key t = D at *
  generalize hasL key false [] t.H = L at *
  rw [hwl]
  refine enter (E := E0) (O := []) (nl := 0) (V := vw w) [.a (.v (.agg #[.slice a n c, .slice a2 n2 c2, .slice a3 n3 c3])), .a (.v (I key))] Try.func30 rfl rfl (mem0 E0 0 w) rfl rfl ?_
  refine c_seq ?_
  refine c_region ?_
  refine o_new tok rfl rfl rfl rfl ?_
  refine o_yield rfl rfl rfl (y_val tok rfl) ?_
  refine o_end [1, 2, 4] rfl ?_
  refine x_then ?_
  refine c_seq ?_
  refine c_region ?_
  refine o_yield rfl rfl rfl (y_val tok rfl) ?_
  refine o_yield rfl rfl rfl (y_val tok rfl) ?_
  refine o_step rfl rfl rfl rfl rfl (s_callRow 43 4 D.length (D.flatMap Hold.cells) rfl fnok76 (fun E w1 hm => hdem w1 (hV.trans hm.leV))) (fun _ _ => ?_)
  refine o_yield rfl rfl rfl (y_val tok rfl) ?_
  refine o_end [1, 2, 4, 5] rfl ?_
  refine x_then ?_
  refine c_seq ?_
  refine c_seq ?_
  refine c_region ?_
  refine o_yield rfl rfl rfl (y_val tok rfl) ?_
  refine o_yield rfl rfl rfl (y_val tok rfl) ?_
  refine o_step rfl rfl rfl rfl rfl (s_callRow 43 4 L.length (L.flatMap Hold.cells) rfl fnok25 (fun E w1 hm => hhas w1 (hV.trans hm.leV))) (fun _ _ => ?_)
  refine o_yield rfl rfl rfl (y_own (s := .a (.v (I L.length))) 2 rfl rfl (fun v V' hv => y_len tok rfl (fun hg => hv))) ?_
  refine o_yield rfl rfl rfl (y_val tok rfl) ?_
  refine o_end [4, 5, 13, 14, 15] rfl ?_
  refine x_then ?_
  refine c_block ?_
  refine k_nil 4 34 2 rfl rfl ?_
  refine c_loopK [5, 13, 14] [3] rfl rfl (σ := Nat) (fun k => [(4, .a (.row 3)), (15, .a (.v (I k)))]) (fun k => [(3, .row 34 2 (((L.take k).filter fun h => !fits h D).map spOf).length ((((L.take k).filter fun h => !fits h D).map spOf).flatMap Span.cells))]) (fun k => k ≤ L.length) (fun k => L.length - k) (0) (by omega) (by repeat (first | exact SubF.nil | refine SubF.cons rfl ?_)) (by repeat (first | exact SubO.nil | refine SubO.cons rfl ?_)) rfl ?_
  rintro k hk
  refine c_seq ?_
  refine c_region ?_
  refine o_yield rfl rfl rfl (y_val tok rfl) ?_
  refine o_end [4, 5, 13, 14, 15, 16] rfl ?_
  refine x_then ?_
  refine c_seq ?_
  refine c_cond rfl (fun h => ?_) (fun h => ?_)
  ·
    simp only [Bool.and_eq_true, Bool.or_eq_true, Bool.not_eq_true', Bool.or_eq_false_iff, Bool.and_eq_false_iff, decide_eq_true_eq, decide_eq_false_iff_not, beq_iff_eq, bne_iff_ne, Bool.not_eq_false', beq_eq_false_iff_ne, bne_eq_false_iff_eq, ne_eq, Decidable.not_not, Int.not_lt, Int.not_le] at h
    refine c_skip ?_
    refine x_then ?_
    refine c_seq ?_
    refine c_block ?_
    refine c_seq ?_
    refine c_region ?_
    obtain ⟨x, hx⟩ : ∃ x, L[k]? = some x := ⟨_, List.getElem?_eq_getElem (by omega)⟩
    have hwk : IntKind.i64.wrap ((k : Int) + 1) = ((k + 1 : Nat) : Int) := wrapI (by omega) (by omega)
    have hsl := smap_len L k (fun h => !fits h D)
    have hst := smap_step (fun h => !fits h D) hx
    refine o_yield rfl rfl rfl (y_own (s := .a (.rel 2 (k * 4))) 2 rfl rfl (fun v V' hv => y_idxK tok (k * 4) rfl (by simp) (fun hg => hv) (fun hg => by omega))) ?_
    refine o_yield rfl rfl rfl (y_own (s := .agg (x.cells.map .v)) 2 rfl rfl (fun v V' hv => y_lel (enc := Hold.cells) (l := L) tok k 0 x rfl (fun hg => ⟨hv, fun _ => rfl⟩) (fun hg => hx) rfl rfl)) ?_
    refine o_new tok rfl rfl rfl rfl ?_
    refine o_store tok rfl rfl rfl (by first | exact ⟨trivial, trivial⟩ | (repeat' first | exact trivial | exact rfl | apply And.intro); done | simp [onesP, oneP, lk, Value.oneCell']) ?_
    refine o_end [4, 5, 7, 13, 14, 15] rfl ?_
    refine x_then ?_
    refine c_seq ?_
    refine c_region ?_
    refine o_yield rfl rfl rfl (y_val tok rfl) ?_
    refine o_yield rfl rfl rfl (y_val tok rfl) ?_
    refine o_call (.a (.v _)) rfl rfl fnok77 rfl rfl rfl (fun hg E w1 hm => by exact spFits_c (vw w1) x (E.κ 1) D _ (Vw.le.refl _) (hm.rowOf 1 rfl (fun _ => rfl)) (by omega)) ?_
    refine o_yield rfl rfl rfl (y_val tok rfl) ?_
    refine o_end [4, 5, 7, 13, 14, 15, 22] rfl ?_
    refine x_then ?_
    refine c_cond rfl (fun h => ?_) (fun h => ?_)
    ·
      refine c_region ?_
      refine o_yield rfl rfl rfl (y_val tok rfl) ?_
      refine o_yield rfl rfl rfl (y_val tok rfl) ?_
      refine o_yield rfl rfl rfl (y_val tok rfl) ?_
      rw [if_pos h] at hst
      refine o_step rfl rfl rfl rfl rfl (s_bs tok 2 rfl rfl rfl) (fun _ _ => ?_)
      refine o_step rfl rfl rfl rfl rfl (s_app tok (spOf x).cells rfl (fun E w hm => ownsRow_src (hm.row _ _ _ _ _ rfl)) (fun _ _ _ => by simpa using span_ones [spOf x]) (by dsimp only; omega)) (fun _ _ => ?_)
      refine o_yield rfl rfl rfl (y_val tok rfl) ?_
      refine o_end [4, 5, 13, 14, 15] rfl ?_
      refine x_block ?_
      refine x_then ?_
      refine c_region ?_
      refine o_yield rfl rfl rfl (y_val tok rfl) ?_
      refine o_yield rfl rfl rfl (y_val tok rfl) ?_
      refine o_end [4, 5, 13, 14, 15] rfl ?_
      refine x_then ?_
      rw [(span_snoc _ (spOf x)).1, (span_snoc _ (spOf x)).2, ← hst, hwk]
      refine k_swap 3 6 rfl ?_
      refine x_round (k + 1) (by omega) (by first | omega | (dsimp only; omega)) (by repeat (first | exact SubF.nil | refine SubF.cons rfl ?_)) (by repeat (first | exact SubO.nil | refine SubO.cons rfl ?_)) rfl (Vw.le.refl _)
    ·
      refine c_skip ?_
      refine x_block ?_
      refine x_then ?_
      refine c_region ?_
      refine o_yield rfl rfl rfl (y_val tok rfl) ?_
      refine o_yield rfl rfl rfl (y_val tok rfl) ?_
      refine o_end [4, 5, 13, 14, 15] rfl ?_
      refine x_then ?_
      rw [if_neg (by rw [h]; simp), List.append_nil] at hst
      rw [← hst, hwk]
      refine x_round (k + 1) (by omega) (by first | omega | (dsimp only; omega)) (by repeat (first | exact SubF.nil | refine SubF.cons rfl ?_)) (by repeat (first | exact SubO.nil | refine SubO.cons rfl ?_)) rfl (Vw.le.refl _)
  ·
    simp only [Bool.and_eq_true, Bool.or_eq_true, Bool.not_eq_true', Bool.or_eq_false_iff, Bool.and_eq_false_iff, decide_eq_true_eq, decide_eq_false_iff_not, beq_iff_eq, bne_iff_ne, Bool.not_eq_false', beq_eq_false_iff_ne, bne_eq_false_iff_eq, ne_eq, Decidable.not_not, Int.not_lt, Int.not_le] at h
    have hkl : k = L.length := by omega
    subst hkl
    rw [List.take_length]
    clear h
    refine c_exit ?_
    refine x_then_exit ?_
    refine x_then_exit ?_
    refine x_block_hit ?_
    refine x_then ?_
    refine c_seq ?_
    refine c_region ?_
    refine o_yield rfl rfl rfl (y_val tok rfl) ?_
    refine o_yield rfl rfl rfl (y_val tok rfl) ?_
    refine o_end [4] rfl ?_
    refine x_then ?_
    refine c_ret ?_
    refine b_ret tok rfl ?_
    intro E' w' hm _
    exact ⟨_, rfl, hm.rowFresh (Vw.le.refl _) (l := 3) rfl, hm.below (Vw.le.refl _)⟩
end Go.Proofs.Ytiapfhcimekdkaa

/- Locks: the document's. -/
set_option linter.unusedVariables false
set_option linter.unusedSimpArgs false
set_option maxRecDepth 100000
namespace Go.Proofs.Ytiapfhcimekdkaa
open Go Go.Eng Go.RowKit

theorem Hold.eqB_refl (x : Hold) : x.eqB x = true := (Hold.eqB_iff x x).2 rfl

end Go.Proofs.Ytiapfhcimekdkaa

/- Locks: commands, or why there is none. -/
set_option linter.unusedVariables false
set_option linter.unusedSimpArgs false
set_option maxRecDepth 100000
namespace Go.Proofs.Ytiapfhcimekdkaa
open Go Go.Eng Go.RowKit

/-- A command with its owner. -/
abbrev ownC (key serial : Int) (c : Cmd) : Cmd := ⟨c.kind, key, serial, c.dead, c.was, c.lo, c.hi, c.mode⟩

def saysV (key serial : Int) (t : Tb) (c : Cmd) : ByteArray × Int :=
  if (decide (0 ≤ slotI t.S key) && (cbE (ownC key serial c) == 0)) = true then (cbV (ownC key serial c), 0) else (ByteArray.empty, 2)

theorem says_c (V : Vw) (tv : Value) (t : Tb) (key serial : Int) (c : Cmd) (w : World) (ht : t.Fit) (hV : V.le (vw w)) (h : TbIs V tv t) :
    Calls Try.prog 80 #[.agg #[I key, I serial], tv, c.val] w fun e w' => e = .returned (.tuple #[S (saysV key serial t c).1, I (saysV key serial t c).2]) ∧ Below w.heap.size w w' := by
  obtain ⟨a, n, c0, a2, n2, c2, a3, n3, c3, rfl, h1, h2, h3⟩ := id h
  have hs := ht.s
  have hlim : lim = 4398046511104 := rfl
  refine enter (E := E0) (O := []) (nl := 0) (V := vw w) [.a (.v (.agg #[I key, I serial])), .a (.v (.agg #[.slice a n c0, .slice a2 n2 c2, .slice a3 n3 c3])), .a (.v c.val)] Try.func80 rfl rfl (mem0 E0 0 w) rfl rfl ?_
  refine c_seq ?_
  refine c_region ?_
  refine o_new tok rfl rfl rfl rfl ?_
  refine o_new tok rfl rfl rfl rfl ?_
  refine o_new tok rfl rfl rfl rfl ?_
  refine o_yield rfl rfl rfl (y_val tok rfl) ?_
  refine o_yield rfl rfl rfl (y_val tok rfl) ?_
  refine o_end [3, 4, 5] rfl ?_
  refine x_then ?_
  refine c_seq ?_
  refine c_held [] ([(0, .lit [.v (I key), .v (I serial)] 100)]) mixed (by repeat (first | exact SubO.nil | refine SubO.cons rfl ?_)) (by first | rfl | simp [okCels, allOk_plain]) ?_
  refine t_take 0 rfl (by kernel_rfl) rfl rfl rfl (y_val tok rfl) rfl ?_
  refine t_take 1 rfl (by kernel_rfl) rfl rfl rfl (y_val tok rfl) rfl ?_
  refine t_take 2 rfl (by kernel_rfl) rfl rfl rfl (y_val tok rfl) rfl ?_
  refine t_take 3 rfl (by kernel_rfl) rfl rfl rfl (y_val tok rfl) rfl ?_
  refine t_take 4 rfl (by kernel_rfl) rfl rfl rfl (y_val tok rfl) rfl ?_
  refine t_go ?_
  refine h_one 5 (by kernel_rfl) ?_
  refine h_store 5 tok rfl rfl rfl rfl (by first | exact ⟨trivial, trivial⟩ | (repeat' first | exact trivial | exact rfl | apply And.intro); done | simp [onesP, oneP, lk, Value.oneCell']) (.inr ⟨(by repeat (first | exact SubO.nil | refine SubO.cons rfl ?_)), rfl, (by first | exact Vw.le.refl _ | assumption)⟩) ?_
  refine h_one 6 (by kernel_rfl) ?_
  refine h_yield 6 rfl rfl rfl rfl (y_val tok rfl) ?_
  refine h_one 7 (by kernel_rfl) ?_
  refine h_store 7 tok rfl rfl rfl rfl (by first | exact ⟨trivial, trivial⟩ | (repeat' first | exact trivial | exact rfl | apply And.intro); done | simp [onesP, oneP, lk, Value.oneCell']) (.inr ⟨(by repeat (first | exact SubO.nil | refine SubO.cons rfl ?_)), rfl, (by first | exact Vw.le.refl _ | assumption)⟩) ?_
  refine h_done [3, 4, 5] (by kernel_rfl) rfl ?_
  refine x_then ?_
  refine c_seq ?_
  refine c_region ?_
  refine o_yield rfl rfl rfl (y_val tok rfl) ?_
  refine o_yield rfl rfl rfl (y_val tok rfl) ?_
  refine o_yield rfl rfl rfl (y_val tok rfl) ?_
  refine o_call (.a (.v _)) rfl rfl fnok112 rfl rfl rfl (fun hg E w1 hm => by exact tSlot_c V a n c0 _ _ t.S key _ (hV.trans hm.leV) h1 (by omega)) ?_
  refine o_yield rfl rfl rfl (y_val tok rfl) ?_
  refine o_yield rfl rfl rfl (y_val tok rfl) ?_
  refine o_yield rfl rfl rfl (y_val tok rfl) ?_
  refine o_yield rfl rfl rfl (y_val tok rfl) ?_
  refine o_yield rfl rfl rfl (y_val tok rfl) ?_
  refine o_end [5, 9] rfl ?_
  refine x_then ?_
  refine c_seq ?_
  refine c_seq ?_
  refine c_region ?_
  refine o_yield rfl rfl rfl (y_val tok rfl) ?_
  refine o_call (.a (.v _)) rfl rfl fnok123 rfl rfl rfl (fun hg E w1 hm => by exact cmdBytes_c (ownC key serial c) _) ?_
  refine o_yield rfl rfl rfl (y_val tok rfl) ?_
  refine o_yield rfl rfl rfl (y_val tok rfl) ?_
  refine o_yield rfl rfl rfl (y_val tok rfl) ?_
  refine o_yield rfl rfl rfl (y_val tok rfl) ?_
  refine o_yield rfl rfl rfl (y_val tok rfl) ?_
  refine o_end [9, 10, 11] rfl ?_
  refine x_then ?_
  refine c_seq ?_
  refine c_region ?_
  refine o_yield rfl rfl rfl (y_val tok rfl) ?_
  refine o_yield rfl rfl rfl (y_val tok rfl) ?_
  refine o_yield rfl rfl rfl (y_val tok rfl) ?_
  refine o_yield rfl rfl rfl (y_val tok rfl) ?_
  refine o_yield rfl rfl rfl (y_val tok rfl) ?_
  refine o_end [10, 34] rfl ?_
  refine x_then ?_
  refine c_cond rfl (fun h => ?_) (fun h => ?_)
  ·
    refine c_seq ?_
    refine c_region ?_
    refine o_yield rfl rfl rfl (y_val tok rfl) ?_
    refine o_yield rfl rfl rfl (y_val tok rfl) ?_
    refine o_yield rfl rfl rfl (y_val tok rfl) ?_
    refine o_end [6, 7] rfl ?_
    refine x_then ?_
    refine c_ret ?_
    refine x_then_ret ?_
    refine b_ret tok rfl ?_
    intro E w' hm _
    refine ⟨?_, hm.below (Vw.le.refl _)⟩
    rw [saysV, if_pos h]; rfl
  ·
    refine c_skip ?_
    refine x_then ?_
    refine c_seq ?_
    refine c_region ?_
    refine o_yield rfl rfl rfl (y_val tok rfl) ?_
    refine o_yield rfl rfl rfl (y_val tok rfl) ?_
    refine o_end [6, 7] rfl ?_
    refine x_then ?_
    refine c_ret ?_
    refine b_ret tok rfl ?_
    intro E w' hm _
    refine ⟨?_, hm.below (Vw.le.refl _)⟩
    rw [saysV, if_neg (by rw [h]; simp)]; rfl

/-- What a key has and waits for. -/
def allL (key : Int) (t : Tb) : List Hold := (t.H ++ t.Q).filter fun h => h.key == key

theorem viewAll_c (V : Vw) (v1 v2 v3 : Value) (t : Tb) (key serial : Int) (w : World) (ht : t.Fit) (hV : V.le (vw w)) (h : TbIs V (.agg #[v1, v2, v3]) t) :
    Calls Try.prog 81 #[.agg #[I key, I serial, v1, v2, v3]] w (HRow (allL key t) w) := by
  obtain ⟨a, n, c, a2, n2, c2, a3, n3, c3, hv, h1, h2, h3⟩ := h
  simp only [Value.agg.injEq, Array.mk.injEq, List.cons.injEq, and_true] at hv
  obtain ⟨rfl, rfl, rfl⟩ := hv
  have hh := ht.h
  have hq := ht.q
  have hal : allL key t = (t.H ++ t.Q).filter fun h => h.key == key := rfl
  have hLl : (t.H ++ t.Q).length ≤ 200000 := by rw [List.length_append]; omega
  refine enter (E := E0) (O := []) (nl := 0) (V := vw w) [.a (.v (.agg #[I key, I serial, .slice a n c, .slice a2 n2 c2, .slice a3 n3 c3]))] Try.func81 rfl rfl (mem0 E0 0 w) rfl rfl ?_
  refine c_seq ?_
  refine c_region ?_
  refine o_new tok rfl rfl rfl rfl ?_
  refine o_yield rfl rfl rfl (y_val tok rfl) ?_
  refine o_end [1] rfl ?_
  refine x_then ?_
  refine c_seq ?_
  refine c_heldR mixed rfl (by repeat (first | exact SubO.nil | refine SubO.cons rfl ?_)) (by first | rfl | simp [okCels, allOk_plain]) ?_
  refine t_take 0 rfl (by kernel_rfl) rfl rfl rfl (y_val tok rfl) rfl ?_
  refine t_take 1 rfl (by kernel_rfl) rfl rfl rfl (y_val tok rfl) rfl ?_
  refine t_take 2 rfl (by kernel_rfl) rfl rfl rfl (y_val tok rfl) rfl ?_
  refine t_take 3 rfl (by kernel_rfl) rfl rfl rfl (y_val tok rfl) rfl ?_
  refine t_take 4 rfl (by kernel_rfl) rfl rfl rfl (y_val tok rfl) rfl ?_
  refine t_take 5 rfl (by kernel_rfl) rfl rfl rfl (y_val tok rfl) rfl ?_
  refine t_take 8 rfl (by kernel_rfl) rfl rfl rfl (y_val tok rfl) rfl ?_
  refine t_take 9 rfl (by kernel_rfl) rfl rfl rfl (y_val tok rfl) rfl ?_
  refine t_take 10 rfl (by kernel_rfl) rfl rfl rfl (y_mkb rfl) rfl ?_
  refine t_go ?_
  refine h_one 6 (by kernel_rfl) ?_
  refine h_to 6 rfl rfl rfl rfl rfl rfl (s_bs tok 1 rfl rfl rfl) (.inr fun _ _ => ⟨(by repeat (first | exact SubO.nil | refine SubO.cons rfl ?_)), rfl, (by first | exact Vw.le.refl _ | assumption)⟩) (fun _ _ => ?_)
  refine h_one 7 (by kernel_rfl) ?_
  refine h_to 7 rfl rfl rfl rfl rfl rfl (s_callRow 43 4 (t.H ++ t.Q).length ((t.H ++ t.Q).flatMap Hold.cells) rfl fnok62 (fun E w1 hm => by have h := concat_c (vw w1) (E.κ 1) [⟨.slice a2 n2 c2, t.H⟩, ⟨.slice a3 n3 c3, t.Q⟩] w1 (Vw.le.refl _) (hm.rowOf (enc := Sl.enc) 1 rfl (fun _ => rfl)) (by intro s hs; simp only [List.mem_cons, List.not_mem_nil, or_false] at hs; rcases hs with rfl | rfl <;> first | exact h2.mono (hV.trans hm.leV) | exact h3.mono (hV.trans hm.leV)) (by simp) (by rw [catL_two]; dsimp only; omega); rw [catL_two] at h; exact h)) (.inr fun _ _ => ⟨(by repeat (first | exact SubO.nil | refine SubO.cons rfl ?_)), rfl, (by first | exact Vw.le.refl _ | assumption)⟩) (fun _ _ => ?_)
  refine h_one 11 (by kernel_rfl) ?_
  obtain ⟨L, hL⟩ : ∃ L, L = t.H ++ t.Q := ⟨_, rfl⟩
  rw [← hL] at hLl hal ⊢
  refine h_to 11 rfl rfl rfl rfl rfl rfl (s_callRow 43 4 (allL key t).length ((allL key t).flatMap Hold.cells) rfl fnok72 (fun E w1 hm => by rw [hal]; exact choose_c (vw w1) _ _ (fun h => h.key == key) L w1 (Vw.le.refl _) (hm.rowOf 2 rfl (fun _ => rfl)) (by omega) (fun x w' hle => ⟨74, #[.agg #[I key, I serial]], #[], rfl, fnok74, ohas_c key serial x w'⟩))) (.inr fun _ _ => ⟨(by repeat (first | exact SubO.nil | refine SubO.cons rfl ?_)), rfl, (by first | exact Vw.le.refl _ | assumption)⟩) (fun _ _ => ?_)
  refine h_one 12 (by kernel_rfl) ?_
  refine h_yield 12 rfl rfl rfl rfl (y_val tok rfl) ?_
  refine h_done [2] (by kernel_rfl) rfl ?_
  refine x_then ?_
  refine c_ret ?_
  refine b_ret tok rfl ?_
  intro E' w' hm _
  exact ⟨_, rfl, hm.rowFresh (Vw.le.refl _) (l := 3) rfl, hm.below (Vw.le.refl _)⟩

theorem allL_len (key : Int) (t : Tb) : (allL key t).length ≤ t.H.length + t.Q.length := by
  rw [← List.length_append]; exact List.length_filter_le _ _

def askV (g : Geo) (t : Tb) (key serial lo hi mode : Int) : ByteArray × Int :=
  if (saysV key serial t ⟨2, 0, 0, 0, 0, lo, hi, mode⟩).2 ≠ 0 ∨ holdB g.blocks ⟨key, lo, hi, mode⟩ = false then (ByteArray.empty, 2)
  else if touches (allL key t) key lo hi = true then (ByteArray.empty, 251) else if 64 ≤ (allL key t).length then (ByteArray.empty, 252) else ((saysV key serial t ⟨2, 0, 0, 0, 0, lo, hi, mode⟩).1, 0)

theorem lkAsk_c (V : Vw) (g : Geo) (tv : Value) (t : Tb) (key serial lo hi mode : Int) (w : World) (ht : t.Fit) (hV : V.le (vw w)) (h : TbIs V tv t) :
    Calls Try.prog 33 #[g.val, tv, I key, I serial, .agg #[I lo, I hi], I8 mode] w fun e w' => e = .returned (.tuple #[S (askV g t key serial lo hi mode).1, I (askV g t key serial lo hi mode).2]) ∧ Below w.heap.size w w' := by
  obtain ⟨a, n, c0, a2, n2, c2, a3, n3, c3, rfl, h1, h2, h3⟩ := id h
  have hh := ht.h
  have hq := ht.q
  have hlim : lim = 4398046511104 := rfl
  have hall := allL_len key t
  have hA : askV g t key serial lo hi mode = if (saysV key serial t ⟨2, 0, 0, 0, 0, lo, hi, mode⟩).2 ≠ 0 ∨ holdB g.blocks ⟨key, lo, hi, mode⟩ = false then (ByteArray.empty, 2)
    else if touches (allL key t) key lo hi = true then (ByteArray.empty, 251) else if 64 ≤ (allL key t).length then (ByteArray.empty, 252) else ((saysV key serial t ⟨2, 0, 0, 0, 0, lo, hi, mode⟩).1, 0) := rfl
  have hsay := fun w1 hw1 => says_c V _ t key serial ⟨2, 0, 0, 0, 0, lo, hi, mode⟩ w1 ht hw1 h
  have hvw := fun w1 hw1 => viewAll_c V _ _ _ t key serial w1 ht hw1 h
  generalize saysV key serial t ⟨2, 0, 0, 0, 0, lo, hi, mode⟩ = sv at hA hsay
  generalize allL key t = L at hA hvw hall
  rw [hA]
  refine enter (E := E0) (O := []) (nl := 0) (V := vw w) [.a (.v g.val), .a (.v (.agg #[.slice a n c0, .slice a2 n2 c2, .slice a3 n3 c3])), .a (.v (I key)), .a (.v (I serial)), .a (.v (.agg #[I lo, I hi])), .a (.v (I8 mode))] Try.func33 rfl rfl (mem0 E0 0 w) rfl rfl ?_
  refine c_seq ?_
  refine c_region ?_
  refine o_new tok rfl rfl rfl rfl ?_
  refine o_new tok rfl rfl rfl rfl ?_
  refine o_new tok rfl rfl rfl rfl ?_
  refine o_yield rfl rfl rfl (y_val tok rfl) ?_
  refine o_yield rfl rfl rfl (y_val tok rfl) ?_
  refine o_end [2, 3, 5, 6, 7, 10] rfl ?_
  refine x_then ?_
  refine c_seq ?_
  refine c_region ?_
  refine o_yield rfl rfl rfl (y_val tok rfl) ?_
  refine o_yield rfl rfl rfl (y_val tok rfl) ?_
  refine o_yield rfl rfl rfl (y_val tok rfl) ?_
  refine o_call (.agg [.v (I key), .v (I serial), .v (.slice a n c0), .v (.slice a2 n2 c2), .v (.slice a3 n3 c3)]) rfl rfl fnok71 rfl rfl rfl (fun hg E w1 hm => by exact see_c _ _ _ _ _ _ _ _ _ _ _ _ rfl rfl rfl key serial _) ?_
  refine o_new tok rfl rfl rfl rfl ?_
  refine o_store tok rfl rfl rfl (by first | exact ⟨trivial, trivial⟩ | (repeat' first | exact trivial | exact rfl | apply And.intro); done | simp [onesP, oneP, lk, Value.oneCell']) ?_
  refine o_end [2, 5, 6, 7, 10, 14] rfl ?_
  refine x_then ?_
  refine c_seq ?_
  refine c_region ?_
  refine o_yield rfl rfl rfl (y_val tok rfl) ?_
  refine o_yield rfl rfl rfl (y_val tok rfl) ?_
  refine o_yield rfl rfl rfl (y_val tok rfl) ?_
  refine o_yield rfl rfl rfl (y_val tok rfl) ?_
  refine o_yield rfl rfl rfl (y_val tok rfl) ?_
  refine o_yield rfl rfl rfl (y_val tok rfl) ?_
  refine o_call (.tup [.v (S sv.1), .v (I sv.2)]) rfl rfl fnok80 rfl rfl rfl (fun hg E w1 hm => by exact hsay _ (hV.trans hm.leV)) ?_
  refine o_yield rfl rfl rfl (y_val tok rfl) ?_
  refine o_yield rfl rfl rfl (y_val tok rfl) ?_
  refine o_yield rfl rfl rfl (y_val tok rfl) ?_
  refine o_yield rfl rfl rfl (y_val tok rfl) ?_
  refine o_yield rfl rfl rfl (y_val tok rfl) ?_
  refine o_end [2, 5, 6, 10, 14, 15, 16] rfl ?_
  refine x_then ?_
  refine c_seq ?_
  refine c_region ?_
  refine o_yield rfl rfl rfl (y_val tok rfl) ?_
  refine o_step rfl rfl rfl rfl rfl (s_callRow 43 4 L.length (L.flatMap Hold.cells) rfl fnok81 (fun E w1 hm => hvw w1 (hV.trans hm.leV))) (fun _ _ => ?_)
  refine o_yield rfl rfl rfl (y_val tok rfl) ?_
  refine o_end [2, 5, 6, 10, 15, 16, 17] rfl ?_
  refine x_then ?_
  refine c_seq ?_
  refine c_block ?_
  refine c_seq ?_
  refine c_region ?_
  refine o_yield rfl rfl rfl (y_val tok rfl) ?_
  refine o_yield rfl rfl rfl (y_val tok rfl) ?_
  refine o_yield rfl rfl rfl (y_val tok rfl) ?_
  refine o_yield rfl rfl rfl (y_val tok rfl) ?_
  refine o_yield rfl rfl rfl (y_val tok rfl) ?_
  refine o_yield rfl rfl rfl (y_val tok rfl) ?_
  refine o_yield rfl rfl rfl (y_val tok rfl) ?_
  refine o_yield rfl rfl rfl (y_val tok rfl) ?_
  refine o_call (.a (.v _)) rfl rfl fnok64 rfl rfl rfl (fun hg E w1 hm => by exact spHold_c g ⟨key, lo, hi, mode⟩ _) ?_
  refine o_yield rfl rfl rfl (y_val tok rfl) ?_
  refine o_yield rfl rfl rfl (y_val tok rfl) ?_
  refine o_yield rfl rfl rfl (y_val tok rfl) ?_
  refine o_end [2, 10, 15, 17, 34] rfl ?_
  refine x_then ?_
  refine c_cond rfl (fun h => ?_) (fun h => ?_)
  ·
    refine c_seq ?_
    refine c_region ?_
    refine o_yield rfl rfl rfl (y_val tok rfl) ?_
    refine o_yield rfl rfl rfl (y_val tok rfl) ?_
    refine o_end [12, 13] rfl ?_
    refine x_then ?_
    refine c_ret ?_
    refine x_block_ret ?_
    refine x_then_ret ?_
    refine b_ret tok rfl ?_
    have hc : sv.2 ≠ 0 ∨ holdB g.blocks ⟨key, lo, hi, mode⟩ = false := by simpa using h
    intro E w' hm _
    refine ⟨?_, hm.below (Vw.le.refl _)⟩
    rw [if_pos hc]; rfl
  ·
    have hc : ¬ (sv.2 ≠ 0 ∨ holdB g.blocks ⟨key, lo, hi, mode⟩ = false) := by
      intro hc
      rcases hc with hc | hc <;> simp [hc] at h
    rw [if_neg hc]
    clear h
    refine c_seq ?_
    refine c_region ?_
    refine o_yield rfl rfl rfl (y_val tok rfl) ?_
    refine o_yield rfl rfl rfl (y_val tok rfl) ?_
    refine o_yield rfl rfl rfl (y_val tok rfl) ?_
    refine o_call (.a (.v _)) rfl rfl fnok65 rfl rfl rfl (fun hg E w1 hm => by exact spTouches_c (vw w1) (E.κ 4) L key lo hi _ (Vw.le.refl _) (hm.rowOf 4 rfl (fun _ => rfl)) (by omega)) ?_
    refine o_yield rfl rfl rfl (y_val tok rfl) ?_
    refine o_end [15, 17, 46] rfl ?_
    refine x_then ?_
    refine c_cond rfl (fun h => ?_) (fun h => ?_)
    ·
      refine c_seq ?_
      refine c_region ?_
      refine o_yield rfl rfl rfl (y_val tok rfl) ?_
      refine o_yield rfl rfl rfl (y_val tok rfl) ?_
      refine o_end [12, 13] rfl ?_
      refine x_then ?_
      refine c_ret ?_
      refine x_block_ret ?_
      refine x_then_ret ?_
      refine b_ret tok rfl ?_
      intro E w' hm _
      refine ⟨?_, hm.below (Vw.le.refl _)⟩
      rw [if_pos h]; rfl
    ·
      rw [if_neg (by rw [h]; simp)]
      clear h
      refine c_seq ?_
      refine c_region ?_
      refine o_yield rfl rfl rfl (y_val tok rfl) ?_
      refine o_yield rfl rfl rfl (y_own (s := .a (.v (I L.length))) 4 rfl rfl (fun v V' hv => y_len tok rfl (fun hg => hv))) ?_
      refine o_yield rfl rfl rfl (y_val tok rfl) ?_
      refine o_yield rfl rfl rfl (y_val tok rfl) ?_
      refine o_end [15, 51] rfl ?_
      refine x_then ?_
      refine c_cond rfl (fun h => ?_) (fun h => ?_)
      ·
        refine c_seq ?_
        refine c_region ?_
        refine o_yield rfl rfl rfl (y_val tok rfl) ?_
        refine o_yield rfl rfl rfl (y_val tok rfl) ?_
        refine o_end [12, 13] rfl ?_
        refine x_then ?_
        refine c_ret ?_
        refine x_block_ret ?_
        refine x_then_ret ?_
        refine b_ret tok rfl ?_
        have hc : 64 ≤ L.length := by simp at h; omega
        intro E w' hm _
        refine ⟨?_, hm.below (Vw.le.refl _)⟩
        rw [if_pos hc]; rfl
      ·
        refine c_skip ?_
        refine x_block ?_
        refine x_then ?_
        refine c_seq ?_
        refine c_region ?_
        refine o_yield rfl rfl rfl (y_val tok rfl) ?_
        refine o_yield rfl rfl rfl (y_val tok rfl) ?_
        refine o_yield rfl rfl rfl (y_val tok rfl) ?_
        refine o_end [12, 13] rfl ?_
        refine x_then ?_
        refine c_ret ?_
        refine b_ret tok rfl ?_
        have hc : ¬ 64 ≤ L.length := by simp at h; omega
        intro E w' hm _
        refine ⟨?_, hm.below (Vw.le.refl _)⟩
        rw [if_neg hc]; rfl

def spanF (lo hi : Int) (h : Hold) : Bool := h.lo == lo && h.hi == hi

def freeV (g : Geo) (t : Tb) (key serial lo hi : Int) : ByteArray × Int :=
  if (saysV key serial t ⟨3, 0, 0, 0, 0, lo, hi, 0⟩).2 ≠ 0 ∨ may g.blocks lo hi = false then (ByteArray.empty, 2)
  else if (allL key t).any (spanF lo hi) = false then (ByteArray.empty, 250) else ((saysV key serial t ⟨3, 0, 0, 0, 0, lo, hi, 0⟩).1, 0)

theorem lkFreeFn_c (x : Hold) (lo hi : Int) (b : Nat) (V : Vw) (hb : V.get b = some (.cells [I lo, I hi].toArray 34 (0, 0))) (w : World) (hV : V.le (vw w)) :
    Calls Try.prog 91 #[x.val, .pointer (some ⟨b, 0, none⟩)] w fun e w' => e = .returned (.bool (spanF lo hi x)) ∧ Below w.heap.size w w' := by
  refine enter (E := E0) (O := []) (nl := 0) (V := vw w) [.a (.v x.val), .a (.v (.pointer (some ⟨b, 0, none⟩)))] Try.func91 rfl rfl (mem0 E0 0 w) rfl rfl ?_
  refine c_seq ?_
  refine c_region ?_
  refine o_new tok rfl rfl rfl rfl ?_
  refine o_yield rfl rfl rfl (y_val tok rfl) ?_
  refine o_end [1, 2] rfl ?_
  refine x_then ?_
  refine c_seq ?_
  refine c_region ?_
  refine o_yield rfl rfl rfl (y_val tok rfl) ?_
  refine o_yield rfl rfl rfl (y_val tok rfl) ?_
  refine o_yield rfl rfl rfl (y_ldp (cs := [I lo, I hi]) tok rfl (fun hg => hV.get _ _ hb) rfl) ?_
  refine o_yield rfl rfl rfl (y_seq (.bool (x.lo == lo && x.hi == hi)) rfl (fun E w => spanEq x.lo x.hi lo hi w (.inl rfl))) ?_
  refine o_yield rfl rfl rfl (y_val tok rfl) ?_
  refine o_end [3] rfl ?_
  refine x_then ?_
  refine c_ret ?_
  refine b_ret tok rfl ?_
  intro E w' hm _
  refine ⟨?_, hm.below (Vw.le.refl _)⟩
  rfl

theorem lkFree_c (V : Vw) (g : Geo) (tv : Value) (t : Tb) (key serial lo hi : Int) (w : World) (ht : t.Fit) (hV : V.le (vw w)) (h : TbIs V tv t) :
    Calls Try.prog 37 #[g.val, tv, I key, I serial, .agg #[I lo, I hi]] w fun e w' => e = .returned (.tuple #[S (freeV g t key serial lo hi).1, I (freeV g t key serial lo hi).2]) ∧ Below w.heap.size w w' := by
  obtain ⟨a, n, c0, a2, n2, c2, a3, n3, c3, rfl, h1, h2, h3⟩ := id h
  have hh := ht.h
  have hq := ht.q
  have hlim : lim = 4398046511104 := rfl
  have hall := allL_len key t
  have hA : freeV g t key serial lo hi = if (saysV key serial t ⟨3, 0, 0, 0, 0, lo, hi, 0⟩).2 ≠ 0 ∨ may g.blocks lo hi = false then (ByteArray.empty, 2)
    else if (allL key t).any (spanF lo hi) = false then (ByteArray.empty, 250) else ((saysV key serial t ⟨3, 0, 0, 0, 0, lo, hi, 0⟩).1, 0) := rfl
  have hsay := fun w1 hw1 => says_c V _ t key serial ⟨3, 0, 0, 0, 0, lo, hi, 0⟩ w1 ht hw1 h
  have hvw := fun w1 hw1 => viewAll_c V _ _ _ t key serial w1 ht hw1 h
  generalize saysV key serial t ⟨3, 0, 0, 0, 0, lo, hi, 0⟩ = sv at hA hsay
  generalize allL key t = L at hA hvw hall
  rw [hA]
  refine enter (E := E0) (O := []) (nl := 0) (V := vw w) [.a (.v g.val), .a (.v (.agg #[.slice a n c0, .slice a2 n2 c2, .slice a3 n3 c3])), .a (.v (I key)), .a (.v (I serial)), .a (.v (.agg #[I lo, I hi]))] Try.func37 rfl rfl (mem0 E0 0 w) rfl rfl ?_
  refine c_seq ?_
  refine c_region ?_
  refine o_new tok rfl rfl rfl rfl ?_
  refine o_new tok rfl rfl rfl rfl ?_
  refine o_new tok rfl rfl rfl rfl ?_
  refine o_yield rfl rfl rfl (y_val tok rfl) ?_
  refine o_yield rfl rfl rfl (y_val tok rfl) ?_
  refine o_end [2, 3, 5, 6, 9] rfl ?_
  refine x_then ?_
  refine c_seq ?_
  refine c_region ?_
  refine o_yield rfl rfl rfl (y_val tok rfl) ?_
  refine o_yield rfl rfl rfl (y_val tok rfl) ?_
  refine o_yield rfl rfl rfl (y_val tok rfl) ?_
  refine o_call (.agg [.v (I key), .v (I serial), .v (.slice a n c0), .v (.slice a2 n2 c2), .v (.slice a3 n3 c3)]) rfl rfl fnok71 rfl rfl rfl (fun hg E w1 hm => by exact see_c _ _ _ _ _ _ _ _ _ _ _ _ rfl rfl rfl key serial _) ?_
  refine o_new tok rfl rfl rfl rfl ?_
  refine o_store tok rfl rfl rfl (by first | exact ⟨trivial, trivial⟩ | (repeat' first | exact trivial | exact rfl | apply And.intro); done | simp [onesP, oneP, lk, Value.oneCell']) ?_
  refine o_end [5, 6, 9, 12] rfl ?_
  refine x_then ?_
  refine c_seq ?_
  refine c_region ?_
  refine o_yield rfl rfl rfl (y_val tok rfl) ?_
  refine o_yield rfl rfl rfl (y_val tok rfl) ?_
  refine o_yield rfl rfl rfl (y_val tok rfl) ?_
  refine o_yield rfl rfl rfl (y_val tok rfl) ?_
  refine o_yield rfl rfl rfl (y_val tok rfl) ?_
  refine o_call (.tup [.v (S sv.1), .v (I sv.2)]) rfl rfl fnok80 rfl rfl rfl (fun hg E w1 hm => by exact hsay _ (hV.trans hm.leV)) ?_
  refine o_yield rfl rfl rfl (y_val tok rfl) ?_
  refine o_yield rfl rfl rfl (y_val tok rfl) ?_
  refine o_yield rfl rfl rfl (y_val tok rfl) ?_
  refine o_yield rfl rfl rfl (y_val tok rfl) ?_
  refine o_yield rfl rfl rfl (y_val tok rfl) ?_
  refine o_end [5, 9, 12, 13, 14] rfl ?_
  refine x_then ?_
  refine c_seq ?_
  refine c_block ?_
  refine c_seq ?_
  refine c_region ?_
  refine o_yield rfl rfl rfl (y_val tok rfl) ?_
  refine o_yield rfl rfl rfl (y_val tok rfl) ?_
  refine o_yield rfl rfl rfl (y_val tok rfl) ?_
  refine o_yield rfl rfl rfl (y_val tok rfl) ?_
  refine o_yield rfl rfl rfl (y_val tok rfl) ?_
  refine o_call (.a (.v _)) rfl rfl fnok89 rfl rfl rfl (fun hg E w1 hm => by exact spMay_c g lo hi _) ?_
  refine o_yield rfl rfl rfl (y_val tok rfl) ?_
  refine o_yield rfl rfl rfl (y_val tok rfl) ?_
  refine o_yield rfl rfl rfl (y_val tok rfl) ?_
  refine o_end [9, 12, 13, 28] rfl ?_
  refine x_then ?_
  refine c_cond rfl (fun h => ?_) (fun h => ?_)
  ·
    refine c_seq ?_
    refine c_region ?_
    refine o_yield rfl rfl rfl (y_val tok rfl) ?_
    refine o_yield rfl rfl rfl (y_val tok rfl) ?_
    refine o_end [10, 11] rfl ?_
    refine x_then ?_
    refine c_ret ?_
    refine x_block_ret ?_
    refine x_then_ret ?_
    refine b_ret tok rfl ?_
    have hc : sv.2 ≠ 0 ∨ may g.blocks lo hi = false := by simpa using h
    intro E w' hm _
    refine ⟨?_, hm.below (Vw.le.refl _)⟩
    rw [if_pos hc]; rfl
  ·
    have hc : ¬ (sv.2 ≠ 0 ∨ may g.blocks lo hi = false) := by
      intro hc
      rcases hc with hc | hc <;> simp [hc] at h
    rw [if_neg hc]
    clear h
    refine c_seq ?_
    refine c_region ?_
    refine o_yield rfl rfl rfl (y_val tok rfl) ?_
    refine o_step rfl rfl rfl rfl rfl (s_callRow 43 4 L.length (L.flatMap Hold.cells) rfl fnok81 (fun E w1 hm => hvw w1 (hV.trans hm.leV))) (fun _ _ => ?_)
    refine o_yield rfl rfl rfl (y_val tok rfl) ?_
    refine o_call (.a (.v _)) rfl rfl fnok90 rfl rfl rfl (fun hg E w1 hm => by exact spContainsFunc_c (vw w1) _ (E.κ 4) (spanF lo hi) L _ (Vw.le.refl _) (hm.rowOf 4 rfl (fun _ => rfl)) (by omega) (fun x w' hle => ⟨91, _, rfl, fnok91, lkFreeFn_c x lo hi _ (vw w1) (hm.lit 2 _ _ rfl) w' hle⟩)) ?_
    refine o_yield rfl rfl rfl (y_val tok rfl) ?_
    refine o_yield rfl rfl rfl (y_val tok rfl) ?_
    refine o_end [13, 37] rfl ?_
    refine x_then ?_
    refine c_cond rfl (fun h => ?_) (fun h => ?_)
    ·
      refine c_seq ?_
      refine c_region ?_
      refine o_yield rfl rfl rfl (y_val tok rfl) ?_
      refine o_yield rfl rfl rfl (y_val tok rfl) ?_
      refine o_end [10, 11] rfl ?_
      refine x_then ?_
      refine c_ret ?_
      refine x_block_ret ?_
      refine x_then_ret ?_
      refine b_ret tok rfl ?_
      intro E w' hm _
      refine ⟨?_, hm.below (Vw.le.refl _)⟩
      rw [if_pos (by simpa using h)]; rfl
    ·
      refine c_skip ?_
      refine x_block ?_
      refine x_then ?_
      refine c_seq ?_
      refine c_region ?_
      refine o_yield rfl rfl rfl (y_val tok rfl) ?_
      refine o_yield rfl rfl rfl (y_val tok rfl) ?_
      refine o_yield rfl rfl rfl (y_val tok rfl) ?_
      refine o_end [10, 11] rfl ?_
      refine x_then ?_
      refine c_ret ?_
      refine b_ret tok rfl ?_
      intro E w' hm _
      refine ⟨?_, hm.below (Vw.le.refl _)⟩
      rw [if_neg (by simpa using h)]; rfl

theorem lkLeave_c (V : Vw) (tv : Value) (t : Tb) (key serial : Int) (w : World) (ht : t.Fit) (hV : V.le (vw w)) (h : TbIs V tv t) :
    Calls Try.prog 38 #[tv, I key, I serial] w fun e w' => e = .returned (.tuple #[S (saysV key serial t ⟨1, 0, 0, 0, 0, 0, 0, 0⟩).1, I (saysV key serial t ⟨1, 0, 0, 0, 0, 0, 0, 0⟩).2]) ∧ Below w.heap.size w w' := by
  obtain ⟨a, n, c0, a2, n2, c2, a3, n3, c3, rfl, h1, h2, h3⟩ := id h
  refine enter (E := E0) (O := []) (nl := 0) (V := vw w) [.a (.v (.agg #[.slice a n c0, .slice a2 n2 c2, .slice a3 n3 c3])), .a (.v (I key)), .a (.v (I serial))] Try.func38 rfl rfl (mem0 E0 0 w) rfl rfl ?_
  refine c_seq ?_
  refine c_region ?_
  refine o_new tok rfl rfl rfl rfl ?_
  refine o_yield rfl rfl rfl (y_val tok rfl) ?_
  refine o_yield rfl rfl rfl (y_val tok rfl) ?_
  refine o_end [1, 2, 3] rfl ?_
  refine x_then ?_
  refine c_seq ?_
  refine c_region ?_
  refine o_yield rfl rfl rfl (y_val tok rfl) ?_
  refine o_yield rfl rfl rfl (y_val tok rfl) ?_
  refine o_yield rfl rfl rfl (y_val tok rfl) ?_
  refine o_yield rfl rfl rfl (y_val tok rfl) ?_
  refine o_yield rfl rfl rfl (y_val tok rfl) ?_
  refine o_call (.tup [.v (S (saysV key serial t ⟨1, 0, 0, 0, 0, 0, 0, 0⟩).1), .v (I (saysV key serial t ⟨1, 0, 0, 0, 0, 0, 0, 0⟩).2)]) rfl rfl fnok80 rfl rfl rfl (fun hg E w1 hm => by exact says_c V _ t key serial ⟨1, 0, 0, 0, 0, 0, 0, 0⟩ _ ht (hV.trans hm.leV) h) ?_
  refine o_yield rfl rfl rfl (y_val tok rfl) ?_
  refine o_yield rfl rfl rfl (y_val tok rfl) ?_
  refine o_yield rfl rfl rfl (y_val tok rfl) ?_
  refine o_yield rfl rfl rfl (y_val tok rfl) ?_
  refine o_end [6, 7] rfl ?_
  refine x_then ?_
  refine c_ret ?_
  refine b_ret tok rfl ?_
  intro E w' hm _
  refine ⟨?_, hm.below (Vw.le.refl _)⟩
  rfl
end Go.Proofs.Ytiapfhcimekdkaa

/- THE LAW LockTells: what a key has, waits for, what is wanted of it, what was told it. -/
set_option linter.unusedVariables false
set_option linter.unusedSimpArgs false
set_option maxRecDepth 100000
namespace Go.Proofs.Ytiapfhcimekdkaa
open Go Go.Eng Go.RowKit

def greatT (t : Tb) : Bool := (decide (40 < (t.S.length : Int)) || decide (100 < (t.H.length : Int))) || decide (100 < (t.Q.length : Int))

/-- A table that came in. -/
def Table.tb (a : Table) : Tb := ⟨a.slots.l, a.holds.l, a.queue.l⟩

theorem Table.Ok.is {V : Vw} {a : Table} (h : Table.Ok V a) : TbIs V a.val a.tb := by
  obtain ⟨x1, x2, x3, e1⟩ := sl_shape h.slots.sl.sl
  obtain ⟨y1, y2, y3, e2⟩ := sl_shape h.holds.sl.sl
  obtain ⟨z1, z2, z3, e3⟩ := sl_shape h.queue.sl.sl
  refine ⟨x1, x2, x3, y1, y2, y3, z1, z2, z3, ?_, ?_, ?_, ?_⟩
  · rw [Table.val, e1, e2, e3]
  · rw [← e1]; exact h.slots.sl
  · rw [← e2]; exact h.holds.sl
  · rw [← e3]; exact h.queue.sl

abbrev gW5 : Geo := ⟨0, 2, 4, 0, 0, 0, 0, 0⟩
abbrev tW5 : Tb := ⟨[⟨17, 0⟩, ⟨18, 0⟩], [⟨17, 0, 3, 2⟩], [⟨18, 2, 2, 1⟩]⟩
abbrev sp03 : Span := ⟨0, 3⟩
theorem wantW5 : wantL 17 tW5 = [⟨0, 3⟩] := rfl
theorem askW5 : askV gW5 tW5 17 1 3 3 2 = (ByteArray.empty, 251) := by
  unfold askV
  rw [if_neg, if_pos]
  · decide
  · have h1 : (saysV 17 1 tW5 ⟨2, 0, 0, 0, 0, 3, 3, 2⟩).2 = 0 := by
      rw [saysV, if_pos (by decide)]
    rw [h1]; decide
theorem freeW5 : freeV gW5 tW5 17 1 0 2 = (ByteArray.empty, 250) := by
  unfold freeV
  rw [if_neg, if_pos]
  · decide
  · have h1 : (saysV 17 1 tW5 ⟨3, 0, 0, 0, 0, 0, 2, 0⟩).2 = 0 := by
      rw [saysV, if_pos (by decide)]
    rw [h1]; decide

theorem wakes25_c (w : World) : Calls Try.prog 21 #[] w fun e w' => e = .returned (.bool true) ∧ Below w.heap.size w w' := by
  refine enter (E := E0) (O := []) (nl := 0) (V := vw w) [] Try.func21 rfl rfl (mem0 E0 0 w) rfl rfl ?_
  refine c_seq ?_
  refine c_region ?_
  refine o_yield rfl rfl rfl (y_val tok rfl) ?_
  refine o_end [] rfl ?_
  refine x_then ?_
  refine c_seq ?_
  refine c_region ?_
  refine o_yield rfl rfl rfl (y_val tok rfl) ?_
  refine o_new tok rfl rfl rfl rfl ?_
  refine o_store tok rfl rfl rfl (by first | exact ⟨trivial, trivial⟩ | (repeat' first | exact trivial | exact rfl | apply And.intro); done | simp [onesP, oneP, lk, Value.oneCell']) ?_
  refine o_end [1] rfl ?_
  refine x_then ?_
  refine c_seq ?_
  refine c_region ?_
  refine o_yield rfl rfl rfl (y_val tok rfl) ?_
  refine o_yield rfl rfl rfl (y_val tok rfl) ?_
  refine o_bs tok rfl rfl rfl rfl (fun b1 W1 hlw1 hb1 => ?_)
  refine o_yield rfl rfl rfl (y_val tok rfl) ?_
  refine o_yield rfl rfl rfl (y_val tok rfl) ?_
  refine o_bs tok rfl rfl rfl rfl (fun b2 W2 hlw2 hb2 => ?_)
  refine o_yield rfl rfl rfl (y_val tok rfl) ?_
  refine o_yield rfl rfl rfl (y_val tok rfl) ?_
  refine o_bs tok rfl rfl rfl rfl (fun b3 W3 hlw3 hb3 => ?_)
  refine o_yield rfl rfl rfl (y_val tok rfl) ?_
  refine o_new tok rfl rfl rfl rfl ?_
  refine o_store tok rfl rfl rfl (by first | exact ⟨trivial, trivial⟩ | (repeat' first | exact trivial | exact rfl | apply And.intro); done | simp [onesP, oneP, lk, Value.oneCell']) ?_
  refine o_end [1, 2] rfl ?_
  refine x_then ?_
  refine c_seq ?_
  refine c_region ?_
  refine o_yield rfl rfl rfl (y_val tok rfl) ?_
  have hS : SlOf W1 Slot.cells 2 (.slice (some ⟨b1, 0, none⟩) 2 2) tW5.S := SlOf.ofBlock (enc := Slot.cells) (sz := 2) (l := tW5.S) (hb1 rfl) rfl (fun _ => rfl) (Nat.le_refl _)
  have hH : SlOf W2 Hold.cells 4 (.slice (some ⟨b2, 0, none⟩) 1 1) tW5.H := SlOf.ofBlock (enc := Hold.cells) (sz := 4) (l := tW5.H) (hb2 rfl) rfl (fun _ => rfl) (Nat.le_refl _)
  have hQ : SlOf W3 Hold.cells 4 (.slice (some ⟨b3, 0, none⟩) 1 1) tW5.Q := SlOf.ofBlock (enc := Hold.cells) (sz := 4) (l := tW5.Q) (hb3 rfl) rfl (fun _ => rfl) (Nat.le_refl _)
  have hT : TbIs W3 (.agg #[.slice (some ⟨b1, 0, none⟩) 2 2, .slice (some ⟨b2, 0, none⟩) 1 1, .slice (some ⟨b3, 0, none⟩) 1 1]) tW5 := ⟨_, _, _, _, _, _, _, _, _, rfl, hS.mono (hlw2.trans hlw3), hH.mono hlw3, hQ⟩
  have hF : tW5.Fit := ⟨by decide, by decide, by decide⟩
  clear hS hH hQ hb1 hb2 hb3
  refine o_callV (fun v V' => SlOf V' Span.cells 2 v (wantL 17 tW5)) rfl rfl fnok30 rfl rfl (fun hg E w1 hm => by exact (lkWanted_c W3 _ tW5 17 _ hF hm.leV hT).mono fun e w' h => h.out hm.leV) ?_
  rintro v4 W4 hlw4 hv4
  have hw4 := hv4 rfl
  rw [wantW5] at hw4
  obtain ⟨a4, n4, c4, rfl⟩ := sl_shape hw4.sl
  clear hv4
  have hT4 := hT.mono hlw4
  refine o_yield rfl rfl rfl (y_val tok rfl) ?_
  refine o_end [1, 2, 3] rfl ?_
  refine x_then ?_
  refine c_seq ?_
  refine c_region ?_
  refine o_yield rfl rfl rfl (y_val tok rfl) ?_
  refine o_yield rfl rfl rfl (y_val tok rfl) ?_
  refine o_yield rfl rfl rfl (y_val tok rfl) ?_
  refine o_call (.tup [.v (S ByteArray.empty), .v (I 251)]) rfl rfl fnok33 rfl rfl rfl (fun hg E w1 hm => by exact (by have h := lkAsk_c W4 gW5 _ tW5 17 1 3 3 2 w1 hF hm.leV hT4; rw [askW5] at h; exact h)) ?_
  refine o_yield rfl rfl rfl (y_val tok rfl) ?_
  refine o_yield rfl rfl rfl (y_val tok rfl) ?_
  refine o_yield rfl rfl rfl (y_val tok rfl) ?_
  refine o_yield rfl rfl rfl (y_val tok rfl) ?_
  refine o_yield rfl rfl rfl (y_val tok rfl) ?_
  refine o_end [1, 2, 3, 5] rfl ?_
  refine x_then ?_
  refine c_seq ?_
  refine c_region ?_
  refine o_yield rfl rfl rfl (y_val tok rfl) ?_
  refine o_yield rfl rfl rfl (y_val tok rfl) ?_
  refine o_yield rfl rfl rfl (y_val tok rfl) ?_
  refine o_call (.tup [.v (S ByteArray.empty), .v (I 250)]) rfl rfl fnok37 rfl rfl rfl (fun hg E w1 hm => by exact (by have h := lkFree_c W4 gW5 _ tW5 17 1 0 2 w1 hF hm.leV hT4; rw [freeW5] at h; exact h)) ?_
  refine o_yield rfl rfl rfl (y_val tok rfl) ?_
  refine o_yield rfl rfl rfl (y_val tok rfl) ?_
  refine o_yield rfl rfl rfl (y_val tok rfl) ?_
  refine o_yield rfl rfl rfl (y_val tok rfl) ?_
  refine o_yield rfl rfl rfl (y_val tok rfl) ?_
  refine o_end [2, 3, 5, 7] rfl ?_
  refine x_then ?_
  refine c_seq ?_
  refine c_region ?_
  refine o_yield rfl rfl rfl (y_val tok rfl) ?_
  have hx03 : ([sp03] : List Span)[0]? = some sp03 := rfl
  refine o_yield rfl rfl rfl (y_len tok rfl (fun hg => hw4.sl)) ?_
  refine o_yield rfl rfl rfl (y_val tok rfl) ?_
  refine o_yield rfl rfl rfl (y_val tok rfl) ?_
  refine o_yield rfl rfl rfl (y_val tok rfl) ?_
  have hlt_sp03 := lt_of_at hx03
  refine o_yield rfl rfl rfl (y_idx tok rfl (fun hg => hw4.sl) (fun hg => ⟨by decide, by decide⟩)) ?_
  refine o_yield rfl rfl rfl (y_fel tok rfl (fun hg => hw4.sl) (fun hg => by omega)) ?_
  refine o_yield rfl rfl rfl (y_lel tok (0) 1 (sp03) rfl (fun hg => hw4) (fun hg => hx03) rfl rfl) ?_
  refine o_yield rfl rfl rfl (y_val tok rfl) ?_
  refine o_yield rfl rfl rfl (y_val tok rfl) ?_
  refine o_yield rfl rfl rfl (y_val tok rfl) ?_
  refine o_yield rfl rfl rfl (y_val tok rfl) ?_
  refine o_callV (fun v V' => SlOf V' Hold.cells 4 v [⟨17, 0, 3, 2⟩]) rfl rfl fnok25 rfl rfl (fun hg E w1 hm => by exact (lkHas_c W4 _ (.slice none 0 0) tW5 17 false [] _ hF hm.leV hT4 (slNil _ _ _ _ (fun _ => rfl)) (by simp)).mono fun e w' h => HRow.out (l := [⟨17, 0, 3, 2⟩]) h hm.leV) ?_
  rintro v5 W5 hlw5 hv5
  refine o_yield rfl rfl rfl (y_len tok rfl (fun hg => (hv5 rfl).sl)) ?_
  refine o_yield rfl rfl rfl (y_val tok rfl) ?_
  refine o_yield rfl rfl rfl (y_val tok rfl) ?_
  refine o_yield rfl rfl rfl (y_val tok rfl) ?_
  refine o_yield rfl rfl rfl (y_val tok rfl) ?_
  refine o_yield rfl rfl rfl (y_val tok rfl) ?_
  refine o_callV (fun v V' => SlOf V' Hold.cells 4 v []) rfl rfl fnok25 rfl rfl (fun hg E w1 hm => by exact (lkHas_c W5 _ _ tW5 17 false [sp03] _ hF hm.leV (hT4.mono hlw5) (hw4.mono hlw5) (by decide)).mono fun e w' h => HRow.out (l := []) h hm.leV) ?_
  rintro v6 W6 hlw6 hv6
  refine o_yield rfl rfl rfl (y_len tok rfl (fun hg => (hv6 rfl).sl)) ?_
  refine o_yield rfl rfl rfl (y_val tok rfl) ?_
  refine o_yield rfl rfl rfl (y_val tok rfl) ?_
  refine o_yield rfl rfl rfl (y_val tok rfl) ?_
  refine o_yield rfl rfl rfl (y_val tok rfl) ?_
  refine o_callV (fun v V' => SlOf V' Hold.cells 4 v [⟨18, 2, 2, 1⟩]) rfl rfl fnok27 rfl rfl (fun hg E w1 hm => by exact (lkWaits_c W6 _ tW5 18 _ hF hm.leV (hT4.mono (hlw5.trans hlw6))).mono fun e w' h => HRow.out (l := [⟨18, 2, 2, 1⟩]) h hm.leV) ?_
  rintro v7 W7 hlw7 hv7
  refine o_yield rfl rfl rfl (y_len tok rfl (fun hg => (hv7 rfl).sl)) ?_
  refine o_yield rfl rfl rfl (y_val tok rfl) ?_
  refine o_yield rfl rfl rfl (y_val tok rfl) ?_
  refine o_yield rfl rfl rfl (y_val tok rfl) ?_
  refine o_yield rfl rfl rfl (y_val tok rfl) ?_
  refine o_yield rfl rfl rfl (y_val tok rfl) ?_
  refine o_yield rfl rfl rfl (y_val tok rfl) ?_
  refine o_yield rfl rfl rfl (y_val tok rfl) ?_
  refine o_yield rfl rfl rfl (y_val tok rfl) ?_
  refine o_yield rfl rfl rfl (y_val tok rfl) ?_
  refine o_yield rfl rfl rfl (y_val tok rfl) ?_
  refine o_yield rfl rfl rfl (y_val tok rfl) ?_
  refine o_end [0] rfl ?_
  refine x_then ?_
  refine c_ret ?_
  refine b_ret tok rfl ?_
  intro E w' hm _
  refine ⟨?_, hm.below (by repeat (first | exact Vw.le.refl _ | assumption | (refine Vw.le.trans ?_ (by assumption))))⟩
  rfl

end Go.Proofs.Ytiapfhcimekdkaa

/- What commands say and what comes of them: plain. -/
set_option linter.unusedVariables false
set_option linter.unusedSimpArgs false
set_option maxRecDepth 100000
namespace Go.Proofs.Ytiapfhcimekdkaa
open Go Go.Eng Go.RowKit

theorem grant_sum (t : Tb) : t.grant.H.length + t.grant.Q.length = t.H.length + t.Q.length := by
  have := grant_len' t.Q t.H []
  simp only [List.length_nil, Nat.add_zero] at this
  exact this

theorem clear_sum (t : Tb) (k : Nat) : (t.clear k).H.length + (t.clear k).Q.length ≤ t.H.length + t.Q.length := by
  rw [Tb.clear, grant_sum]
  have h1 := List.length_filter_le (fun h : Hold => !(h.key == slotKey t.S k)) t.H
  have h2 := List.length_filter_le (fun h : Hold => !(h.key == slotKey t.S k)) t.Q
  dsimp only
  omega

/-- A command brings one hold at most. -/
theorem apply_sum (blocks : Int) (t : Tb) (c : Cmd) : (t.apply blocks c).H.length + (t.apply blocks c).Q.length ≤ t.H.length + t.Q.length + 1 := by
  unfold Tb.apply
  split
  · unfold Tb.mount
    split
    · omega
    · split <;> first | omega | (dsimp only; omega)
  · split
    · unfold Tb.leave
      split
      · have := clear_sum t (by assumption); omega
      · omega
    · split
      · unfold Tb.ask
        split
        · rw [grant_sum]; dsimp only; rw [List.length_append]; dsimp only [List.length]; omega
        · omega
      · split
        · unfold Tb.free
          split
          · rw [grant_sum]; dsimp only; have := (erase_sub t.H (by assumption)).length_le; omega
          · split
            · rw [grant_sum]; dsimp only; have := (erase_sub t.Q (by assumption)).length_le; omega
            · omega
        · split
          · unfold Tb.claim
            split
            · split <;> first | omega | (dsimp only; omega)
            · omega
          · split
            · unfold Tb.purge
              split
              · split
                · have := clear_sum t (by assumption); omega
                · omega
              · omega
            · omega

theorem TbOk.fitS {n blocks : Int} {t : Tb} (h : TbOk n blocks t) (hn : n ≤ 16) (hs : t.H.length + t.Q.length ≤ 1000) : t.Fit ∧ t.Q.length + 1 ≤ 100000 := by
  have := h.n
  exact ⟨⟨by omega, by omega, by omega⟩, by omega⟩

theorem cmdB_key {c : Cmd} (h : cmdB c = true) : 16 ≤ c.by_ := by
  simp only [cmdB, Bool.and_eq_true] at h
  have := h.1.1.1
  simp only [keyB, Bool.and_eq_true, decide_eq_true_eq] at this
  exact this.1

theorem new_ok {g : Geo} (h1 : 1 ≤ g.slots) (h2 : g.slots ≤ 16) : TbOk g.slots g.blocks (newT g.slots) := by
  have := TbOk.new (newN g.slots) g.blocks
  rwa [show ((newN g.slots : Nat) : Int) = g.slots by rw [newN]; omega] at this

theorem saysV_zero {key serial : Int} {t : Tb} {c : Cmd} (h : (saysV key serial t c).2 = 0) : 0 ≤ slotI t.S key ∧ cmdB (ownC key serial c) = true ∧ (saysV key serial t c).1 = strOf (cmdL (ownC key serial c)) := by
  rw [saysV] at h ⊢
  split at h
  · rename_i hc
    rw [if_pos hc]
    simp only [Bool.and_eq_true, decide_eq_true_eq, beq_iff_eq] at hc
    have hb : cmdB (ownC key serial c) = true := by
      have := hc.2
      rw [cbE] at this
      split at this
      · assumption
      · omega
    exact ⟨hc.1, hb, (cbV_pos hb).1⟩
  · exact absurd h (by decide)

theorem saysV_same {key serial : Int} {t t' : Tb} (h : t'.S = t.S) (c : Cmd) : saysV key serial t' c = saysV key serial t c := by rw [saysV, saysV, h]

theorem inH_iff (x : Hold) (l : List Hold) : inH x l = true ↔ x ∈ l := by
  rw [inH, List.any_eq_true]
  constructor
  · rintro ⟨y, hy, he⟩
    rw [(Hold.eqB_iff x y).1 he]; exact hy
  · intro h
    exact ⟨x, h, Hold.eqB_refl x⟩

theorem mem_allL {key : Int} {t : Tb} {y : Hold} : y ∈ allL key t ↔ y ∈ t.H ++ t.Q ∧ y.key = key := by
  rw [allL, List.mem_filter, beq_iff_eq]

theorem grant_permT (t : Tb) : (t.grant.H ++ t.grant.Q).Perm (t.H ++ t.Q) := by
  have := grant_perm t.Q t.H []
  rwa [List.append_nil] at this

def askC (key serial lo hi mode : Int) : Cmd := ⟨2, key, serial, 0, 0, lo, hi, mode⟩
def freeC (key serial lo hi : Int) : Cmd := ⟨3, key, serial, 0, 0, lo, hi, 0⟩
def leaveC (key serial : Int) : Cmd := ⟨1, key, serial, 0, 0, 0, 0, 0⟩

theorem ask_does {n : Int} {g : Geo} {t : Tb} {key serial lo hi mode : Int} (hok : TbOk n g.blocks t) (h : (askV g t key serial lo hi mode).2 = 0) :
    (cmdB (askC key serial lo hi mode) = true ∧ (askV g t key serial lo hi mode).1 = strOf (cmdL (askC key serial lo hi mode))) ∧
    (t.apply g.blocks (askC key serial lo hi mode)).H.length + (t.apply g.blocks (askC key serial lo hi mode)).Q.length = t.H.length + t.Q.length + 1 ∧
    (inH ⟨key, lo, hi, mode⟩ (t.apply g.blocks (askC key serial lo hi mode)).H == inH ⟨key, lo, hi, mode⟩ (t.apply g.blocks (askC key serial lo hi mode)).Q) = false ∧
    (askV g (t.apply g.blocks (askC key serial lo hi mode)) key serial lo hi mode).2 = 251 := by
  rw [askV] at h ⊢
  split at h
  · exact absurd h (by decide)
  rename_i n1
  split at h
  · exact absurd h (by decide)
  rename_i n2
  split at h
  · exact absurd h (by decide)
  rename_i n3
  rw [if_neg n1, if_neg n2, if_neg n3]
  have hs0 : (saysV key serial t ⟨2, 0, 0, 0, 0, lo, hi, mode⟩).2 = 0 := Classical.byContradiction fun hc => n1 (Or.inl hc)
  have hB : holdB g.blocks ⟨key, lo, hi, mode⟩ = true := by
    cases hb : holdB g.blocks ⟨key, lo, hi, mode⟩ with
    | true => rfl
    | false => exact absurd (Or.inr hb) n1
  have hself := holdB_self hB
  obtain ⟨k0, hcb, hx⟩ := saysV_zero hs0
  have htch : touches (t.H ++ t.Q) key lo hi = false := by
    rw [← touches_own]; exact Bool.eq_false_iff.2 n2
  have hasks : t.asks g.blocks ⟨key, lo, hi, mode⟩ = true := by
    rw [Tb.asks, slot_isSome, hB]
    dsimp only
    rw [htch, decide_eq_true k0, decide_eq_true (show ownN (t.H ++ t.Q) key < 64 by show (allL key t).length < 64; omega)]
    rfl
  have hap : t.apply g.blocks (askC key serial lo hi mode) = Tb.grant ⟨t.S, t.H, t.Q ++ [⟨key, lo, hi, mode⟩]⟩ := by
    rw [show t.apply g.blocks (askC key serial lo hi mode) = t.ask g.blocks ⟨key, lo, hi, mode⟩ from rfl, Tb.ask, if_pos hasks]
  have hok2 := hok.ask ⟨key, lo, hi, mode⟩
  rw [Tb.ask, if_pos hasks] at hok2
  rw [hap]
  have hperm := grant_permT ⟨t.S, t.H, t.Q ++ [⟨key, lo, hi, mode⟩]⟩
  have hsum := grant_sum ⟨t.S, t.H, t.Q ++ [⟨key, lo, hi, mode⟩]⟩
  have hSS : (Tb.grant ⟨t.S, t.H, t.Q ++ [⟨key, lo, hi, mode⟩]⟩).S = t.S := rfl
  generalize Tb.grant ⟨t.S, t.H, t.Q ++ [⟨key, lo, hi, mode⟩]⟩ = t' at hperm hsum hSS hok2 ⊢
  have hin : (⟨key, lo, hi, mode⟩ : Hold) ∈ t'.H ++ t'.Q := hperm.mem_iff.2 (by simp)
  refine ⟨⟨hcb, hx⟩, ?_, ?_, ?_⟩
  · rw [hsum]; dsimp only; rw [List.length_append]; dsimp only [List.length]; omega
  · have hpw := List.pairwise_append.1 hok2.apart
    rw [List.mem_append] at hin
    by_cases a1 : (⟨key, lo, hi, mode⟩ : Hold) ∈ t'.H
    · have a2 : ¬ (⟨key, lo, hi, mode⟩ : Hold) ∈ t'.Q := fun a2 => hpw.2.2 _ a1 _ a2 ⟨rfl, hself⟩
      rw [(inH_iff _ _).2 a1, Bool.eq_false_iff.2 (fun e => a2 ((inH_iff _ _).1 e))]
      rfl
    · have a2 := hin.resolve_left a1
      rw [(inH_iff _ _).2 a2, Bool.eq_false_iff.2 (fun e => a1 ((inH_iff _ _).1 e))]
      rfl
  · rw [askV, saysV_same hSS, if_neg n1, if_pos]
    rw [touches, List.any_eq_true]
    exact ⟨_, mem_allL.2 ⟨hin, rfl⟩, by rw [touchesAt]; dsimp only; rw [hself]; simp⟩

theorem erase_perm {l : List Hold} {i : Nat} {x : Hold} (hx : l[i]? = some x) : l.Perm (x :: (l.take i ++ l.drop (i + 1))) := by
  have h := List.getElem?_eq_some_iff.1 hx
  obtain ⟨hi, he⟩ := h
  have e : l = l.take i ++ x :: l.drop (i + 1) := by
    rw [← he, ← List.drop_eq_getElem_cons hi, List.take_append_drop]
  conv => lhs; rw [e]
  exact List.perm_middle

theorem free_does {n : Int} {g : Geo} {t : Tb} {key serial lo hi : Int} (hok : TbOk n g.blocks t) (h : (freeV g t key serial lo hi).2 = 0) :
    (cmdB (freeC key serial lo hi) = true ∧ (freeV g t key serial lo hi).1 = strOf (cmdL (freeC key serial lo hi))) ∧
    (t.apply g.blocks (freeC key serial lo hi)).H.length + (t.apply g.blocks (freeC key serial lo hi)).Q.length + 1 = t.H.length + t.Q.length ∧
    (freeV g (t.apply g.blocks (freeC key serial lo hi)) key serial lo hi).2 = 250 := by
  rw [freeV] at h ⊢
  split at h
  · exact absurd h (by decide)
  rename_i n1
  split at h
  · exact absurd h (by decide)
  rename_i n2
  rw [if_neg n1, if_neg n2]
  have hs0 : (saysV key serial t ⟨3, 0, 0, 0, 0, lo, hi, 0⟩).2 = 0 := Classical.byContradiction fun hc => n1 (Or.inl hc)
  obtain ⟨k0, hcb, hx⟩ := saysV_zero hs0
  refine ⟨⟨hcb, hx⟩, ?_⟩
  rw [Bool.not_eq_false, List.any_eq_true] at n2
  obtain ⟨y, hy, hys⟩ := n2
  obtain ⟨hym, hyk⟩ := mem_allL.1 hy
  have hyj : justB key lo hi y = true := by
    rw [justB, hyk, beq_self_eq_true, Bool.true_and]; exact hys
  have core : ∀ (x : Hold) (H Q : List Hold), justB key lo hi x = true → (t.H ++ t.Q).Perm (x :: (H ++ Q)) →
      (Tb.grant ⟨t.S, H, Q⟩).H.length + (Tb.grant ⟨t.S, H, Q⟩).Q.length + 1 = t.H.length + t.Q.length ∧ (freeV g (Tb.grant ⟨t.S, H, Q⟩) key serial lo hi).2 = 250 := by
    intro x H Q hxj hp
    have hl := hp.length_eq
    simp only [List.length_append, List.length_cons] at hl
    have hsum := grant_sum ⟨t.S, H, Q⟩
    have hperm := grant_permT ⟨t.S, H, Q⟩
    have hSS : (Tb.grant ⟨t.S, H, Q⟩).S = t.S := rfl
    generalize Tb.grant ⟨t.S, H, Q⟩ = t' at hsum hperm hSS ⊢
    refine ⟨by rw [hsum]; dsimp only; omega, ?_⟩
    rw [freeV, saysV_same hSS, if_neg n1, if_pos]
    rw [List.any_eq_false]
    intro z hz hzs
    obtain ⟨hzm, hzk⟩ := mem_allL.1 hz
    have hz2 : z ∈ H ++ Q := hperm.mem_iff.1 hzm
    have hap := List.rel_of_pairwise_cons (pairwise_perm hp.symm hok.apart) hz2
    have hzB := (hok.mem z (hp.mem_iff.2 (List.mem_cons_of_mem _ hz2))).2
    have hzz := holdB_self hzB
    simp only [spanF, justB, Bool.and_eq_true, beq_iff_eq] at hzs hxj
    refine hap ⟨hxj.1.trans hzk.symm, ?_⟩
    rw [hxj.2.1, hxj.2.2, ← hzs.1, ← hzs.2]
    exact hzz
  rw [show t.apply g.blocks (freeC key serial lo hi) = t.free key lo hi from rfl, Tb.free]
  rcases findIdx_cases (justB key lo hi) t.H with ⟨e1, e2⟩ | ⟨i, x, e1, e2, e3, _⟩
  · rw [e1]
    dsimp only
    rcases findIdx_cases (justB key lo hi) t.Q with ⟨e4, e5⟩ | ⟨i, x, e4, e5, e6, _⟩
    · rcases List.mem_append.1 hym with hm | hm
      · rw [e2 y hm] at hyj; cases hyj
      · rw [e5 y hm] at hyj; cases hyj
    · rw [e4]
      exact core x _ _ e6 (((erase_perm e5).append_left t.H).trans List.perm_middle)
  · rw [e1]
    exact core x _ _ e3 ((erase_perm e2).append_right t.Q)

theorem leave_does {n : Int} {g : Geo} {t : Tb} {key serial : Int} (hok : TbOk n g.blocks t) (h : (saysV key serial t ⟨1, 0, 0, 0, 0, 0, 0, 0⟩).2 = 0) :
    (cmdB (leaveC key serial) = true ∧ (saysV key serial t ⟨1, 0, 0, 0, 0, 0, 0, 0⟩).1 = strOf (cmdL (leaveC key serial))) ∧
    slotI (t.apply g.blocks (leaveC key serial)).S key = -1 ∧ hasL key false [] (t.apply g.blocks (leaveC key serial)).H = [] ∧ waitsL key (t.apply g.blocks (leaveC key serial)).Q = [] := by
  obtain ⟨k0, hcb, hx⟩ := saysV_zero h
  refine ⟨⟨hcb, hx⟩, ?_⟩
  rw [show t.apply g.blocks (leaveC key serial) = t.leave key from rfl, Tb.leave]
  rcases slotI_slot t key with ⟨e1, e2⟩ | ⟨k, e1, e2, hkl⟩
  · omega
  · rw [e1]
    obtain ⟨hk1, x, hxk, hxe⟩ := slot_some e1
    dsimp only
    have hperm := grant_permT ⟨t.S.set k ⟨0, 0⟩, t.H.filter (fun h => !(h.key == slotKey t.S k)), t.Q.filter (fun h => !(h.key == slotKey t.S k))⟩
    dsimp only at hperm
    rw [slotKey_at hxk, hxe] at hperm
    have hno : ∀ y ∈ (t.clear k).H ++ (t.clear k).Q, ¬ y.key = key := by
      intro y hy
      have hy2 := hperm.mem_iff.1 (by rw [Tb.clear, slotKey_at hxk, hxe] at hy; exact hy)
      rw [← List.filter_append, List.mem_filter] at hy2
      simpa using hy2.2
    refine ⟨?_, ?_, ?_⟩
    · refine slotI_no ?_
      intro j y hy
      have hy' : (t.S.set k ⟨0, 0⟩)[j]? = some y := hy
      rw [List.getElem?_set] at hy'
      by_cases ej : k = j
      · subst ej
        rw [if_pos rfl, if_pos hkl] at hy'
        cases hy'
        simp only [beq_eq_false_iff_ne]; omega
      · rw [if_neg ej] at hy'
        simp only [beq_eq_false_iff_ne]
        intro e
        exact ej (hok.slots.two hxk hy' (by rw [hxe, e]) (by omega))
    · rw [hasL, List.filter_eq_nil_iff]
      intro y hy
      have := hno y (List.mem_append.2 (Or.inl hy))
      simp [hasF, this]
    · rw [waitsL, List.filter_eq_nil_iff]
      intro y hy
      have := hno y (List.mem_append.2 (Or.inr hy))
      simpa using this
end Go.Proofs.Ytiapfhcimekdkaa

/- law25.table: the table that a log makes. -/
set_option linter.unusedVariables false
set_option linter.unusedSimpArgs false
set_option maxRecDepth 100000
namespace Go.Proofs.Ytiapfhcimekdkaa
open Go Go.Eng Go.RowKit

/-- A callee's answer, told over a smaller view. -/
theorem small_view {V V0 : Vw} {Φ : Value → Vw → Prop} {n : Nat} {w1 w' : World} {e : Ending} (hn : n ≤ w1.heap.size) (hV : V.le V0) (h0 : V0.le (vw w1))
    (h : ∃ v V2, e = .returned v ∧ Below w1.heap.size w1 w' ∧ Vext w1.heap.size V V2 w' ∧ Φ v V2) :
    ∃ v V', e = .returned v ∧ Below w1.heap.size w1 w' ∧ Vext w1.heap.size V0 V' w' ∧ ∃ V2 : Vw, V2.le V' ∧ V.le V2 ∧ (∀ k o, V2.get k = some o → V.get k = some o ∨ n ≤ k) ∧ Φ v V2 := by
  obtain ⟨v, V2, e1, hb, hx, hp⟩ := h
  refine ⟨v, V0.grown w1 w', e1, hb, Vext.grown h0 hb, V2, ⟨?_, ?_, ?_, ?_⟩, hx.le, fun k o hk => (hx.get k o hk).2.imp id (Nat.le_trans hn), hp⟩
  · intro k o hk
    obtain ⟨h1, h2⟩ := hx.get k o hk
    simp only [Vw.grown]
    rcases h2 with h2 | h2
    · rw [if_pos (h0.lt (hV.get _ _ h2))]
      exact hV.get _ _ h2
    · rw [if_neg (by omega)]
      exact h1
  · exact hV.os.trans hx.le.os.symm
  · exact hV.tape.trans hx.le.tape.symm
  · exact hV.output.trans hx.le.output.symm

abbrev TabP (g : Geo) (V' : Vw) (v : Value) : Prop := v = .tuple #[.agg #[.slice none 0 0, .slice none 0 0, .slice none 0 0], .bool false] ∨
  ∃ tv t, v = .tuple #[tv, .bool true] ∧ TbIs V' tv t ∧ TbOk g.slots g.blocks t ∧ g.slots ≤ 16 ∧ t.H.length + t.Q.length ≤ 60

theorem table25_c (V : Vw) (g : Geo) (lv : Value) (l : List Cmd) (w : World) (hV : V.le (vw w)) (hs0 : SlOf V Cmd.cells 8 lv l) :
    Calls Try.prog 32 #[g.val, lv] w fun e w' => ∃ v V', e = .returned v ∧ Below w.heap.size w w' ∧ Vext w.heap.size V V' w' ∧ TabP g V' v := by
  obtain ⟨a0, n0, c0, rfl⟩ := sl_shape hs0.sl
  have hs := hs0.mono hV
  refine enter (E := E0) (O := []) (nl := 0) (V := vw w) [.a (.v g.val), .a (.v (.slice a0 n0 c0))] Try.func32 rfl rfl (mem0 E0 0 w) rfl rfl ?_
  refine c_seq ?_
  refine c_region ?_
  refine o_new tok rfl rfl rfl rfl ?_
  refine o_new tok rfl rfl rfl rfl ?_
  refine o_yield rfl rfl rfl (y_val tok rfl) ?_
  refine o_end [1, 2, 4] rfl ?_
  refine x_then ?_
  refine c_seq ?_
  refine c_seq ?_
  refine c_region ?_
  refine o_yield rfl rfl rfl (y_val tok rfl) ?_
  refine o_yield rfl rfl rfl (y_len tok rfl (fun hg => hs.sl)) ?_
  refine o_yield rfl rfl rfl (y_val tok rfl) ?_
  refine o_yield rfl rfl rfl (y_val tok rfl) ?_
  refine o_yield rfl rfl rfl (y_val tok rfl) ?_
  refine o_yield rfl rfl rfl (y_val tok rfl) ?_
  refine o_yield rfl rfl rfl (y_val tok rfl) ?_
  refine o_yield rfl rfl rfl (y_val tok rfl) ?_
  refine o_yield rfl rfl rfl (y_val tok rfl) ?_
  refine o_yield rfl rfl rfl (y_val tok rfl) ?_
  refine o_yield rfl rfl rfl (y_val tok rfl) ?_
  refine o_yield rfl rfl rfl (y_val tok rfl) ?_
  refine o_yield rfl rfl rfl (y_val tok rfl) ?_
  refine o_yield rfl rfl rfl (y_val tok rfl) ?_
  refine o_yield rfl rfl rfl (y_val tok rfl) ?_
  refine o_yield rfl rfl rfl (y_val tok rfl) ?_
  refine o_yield rfl rfl rfl (y_val tok rfl) ?_
  refine o_yield rfl rfl rfl (y_val tok rfl) ?_
  refine o_yield rfl rfl rfl (y_val tok rfl) ?_
  refine o_yield rfl rfl rfl (y_val tok rfl) ?_
  refine o_yield rfl rfl rfl (y_val tok rfl) ?_
  refine o_yield rfl rfl rfl (y_val tok rfl) ?_
  refine o_yield rfl rfl rfl (y_val tok rfl) ?_
  refine o_end [1, 2, 4, 30] rfl ?_
  refine x_then ?_
  refine c_cond rfl (fun h => ?_) (fun h => ?_)
  ·
    simp only [Bool.and_eq_true, Bool.or_eq_true, Bool.not_eq_true', Bool.or_eq_false_iff, Bool.and_eq_false_iff, decide_eq_true_eq, decide_eq_false_iff_not, beq_iff_eq, bne_iff_ne, Bool.not_eq_false', beq_eq_false_iff_ne, bne_eq_false_iff_eq, ne_eq, Decidable.not_not, Int.not_lt, Int.not_le] at h
    refine c_seq ?_
    refine c_region ?_
    refine o_yield rfl rfl rfl (y_val tok rfl) ?_
    refine o_store tok rfl rfl rfl (by first | exact ⟨trivial, trivial⟩ | (repeat' first | exact trivial | exact rfl | apply And.intro); done | simp [onesP, oneP, lk, Value.oneCell']) ?_
    refine o_yield rfl rfl rfl (y_val tok rfl) ?_
    refine o_end [4, 5] rfl ?_
    refine x_then ?_
    refine c_ret ?_
    refine x_then_ret ?_
    refine b_ret tok rfl ?_
    intro E' w' hm _
    exact ⟨_, _, rfl, hm.below (Vw.le.refl _), Vext.grown hV (hm.below (Vw.le.refl _)), Or.inl rfl⟩
  ·
    simp only [Bool.and_eq_true, Bool.or_eq_true, Bool.not_eq_true', Bool.or_eq_false_iff, Bool.and_eq_false_iff, decide_eq_true_eq, decide_eq_false_iff_not, beq_iff_eq, bne_iff_ne, Bool.not_eq_false', beq_eq_false_iff_ne, bne_eq_false_iff_eq, ne_eq, Decidable.not_not, Int.not_lt, Int.not_le] at h
    obtain ⟨⟨⟨⟨h1, h2⟩, h3⟩, h4⟩, h5⟩ := h
    refine c_skip ?_
    refine x_then ?_
    refine c_seq ?_
    refine c_region ?_
    refine o_yield rfl rfl rfl (y_val tok rfl) ?_
    refine o_callV (fun v V' => ∃ V2 : Vw, V2.le V' ∧ V.le V2 ∧ (∀ k o, V2.get k = some o → V.get k = some o ∨ w.heap.size ≤ k) ∧ TbIs V2 v (newT g.slots)) rfl rfl fnok79 rfl rfl (fun hg E w1 hm => by exact (rnew_c V g _ (hV.trans hm.leV)).mono fun e w' h => small_view (hm.below (Vw.le.refl _)).size hV hm.leV h) ?_
    rintro v1 W0 hle0 hv0
    obtain ⟨W1, hW10, hle1, hget1, hT1⟩ := hv0 rfl
    obtain ⟨d1, m1, e1, d2, m2, e2, d3, m3, e3, rfl, _⟩ := id hT1
    refine o_new tok rfl rfl rfl rfl ?_
    refine o_store tok rfl rfl rfl (by first | exact ⟨trivial, trivial⟩ | (repeat' first | exact trivial | exact rfl | apply And.intro); done | simp [onesP, oneP, lk, Value.oneCell']) ?_
    refine o_end [1, 2, 4, 6] rfl ?_
    refine x_then ?_
    refine c_seq ?_
    refine c_seq ?_
    refine c_region ?_
    refine o_yield rfl rfl rfl (y_val tok rfl) ?_
    refine o_end [1, 2, 4, 6, 7] rfl ?_
    refine x_then ?_
    refine c_block ?_
    refine c_loopV [1, 2, 4, 6] [2] rfl rfl (σ := Nat × Value × Value × Value × Tb × Vw × Vw) (fun (i, s, u, q, t, W, Z) => [(7, .a (.v (I i)))]) (fun (i, s, u, q, t, W, Z) => [(2, .lit [.v s, .v u, .v q] 29)]) (fun (i, s, u, q, t, W, Z) => W) (fun (i, s, u, q, t, W, Z) => (i ≤ l.length ∧ t.H.length + t.Q.length ≤ i) ∧ ((vw w).le W ∧ Z.le W) ∧ V.le Z ∧ TbIs Z (.agg #[s, u, q]) t ∧ TbOk g.slots g.blocks t ∧ ∀ k o, Z.get k = some o → V.get k = some o ∨ w.heap.size ≤ k) (fun (i, s, u, q, t, W, Z) => l.length - i) ((0, _, _, _, newT g.slots, W0, W1)) (⟨⟨by omega, Nat.le_refl _⟩, ⟨hle0, hW10⟩, hle1, hT1, new_ok (by omega) (by omega), hget1⟩) (by repeat (first | exact SubF.nil | refine SubF.cons rfl ?_)) (by repeat (first | exact SubO.nil | refine SubO.cons rfl ?_)) rfl (Vw.le.refl _) ?_
    rintro ⟨i, s, u, q, t, W, Z⟩ ⟨⟨hi, hsum⟩, ⟨hwW, hZW⟩, hle, hT, hok, hgt⟩
    dsimp only at hi hsum hwW hZW hle hT hok hgt ⊢
    have hs' := (hs0.mono hle).mono hZW
    have hfit := hok.fitS (by omega) (by omega)
    refine c_seq ?_
    refine c_seq ?_
    refine c_region ?_
    refine o_yield rfl rfl rfl (y_val tok rfl) ?_
    refine o_yield rfl rfl rfl (y_val tok rfl) ?_
    refine o_yield rfl rfl rfl (y_len tok rfl (fun hg => hs'.sl)) ?_
    refine o_yield rfl rfl rfl (y_val tok rfl) ?_
    refine o_end [1, 2, 4, 6, 7, 37] rfl ?_
    refine x_then ?_
    refine c_cond rfl (fun h => ?_) (fun h => ?_)
    ·
      simp only [Bool.and_eq_true, Bool.or_eq_true, Bool.not_eq_true', Bool.or_eq_false_iff, Bool.and_eq_false_iff, decide_eq_true_eq, decide_eq_false_iff_not, beq_iff_eq, bne_iff_ne, Bool.not_eq_false', beq_eq_false_iff_ne, bne_eq_false_iff_eq, ne_eq, Decidable.not_not, Int.not_lt, Int.not_le] at h
      refine c_skip ?_
      refine x_then ?_
      refine c_seq ?_
      refine c_block ?_
      refine c_seq ?_
      refine c_region ?_
      refine o_yield rfl rfl rfl (y_val tok rfl) ?_
      refine o_yield rfl rfl rfl (y_val tok rfl) ?_
      obtain ⟨c, h_c⟩ := hs'.at (k := i) (by omega)
      have hlt_c := lt_of_at h_c
      refine o_yield rfl rfl rfl (y_idx tok rfl (fun hg => hs'.sl) (fun hg => ⟨by omega, by omega⟩)) ?_
      refine o_yield rfl rfl rfl (y_lel tok (i) 0 (c) rfl (fun hg => hs') (fun hg => h_c) rfl rfl) ?_
      have hwi : IntKind.i64.wrap ((i : Int) + 1) = ((i + 1 : Nat) : Int) := wrapI (by omega) (by omega)
      refine o_call (.a (.v _)) rfl rfl fnok13 rfl rfl rfl (fun hg E w1 hm => by exact refCmdMay_c c _) ?_
      refine o_end [1, 2, 4, 6, 7, 44] rfl ?_
      refine x_then ?_
      refine c_cond rfl (fun h => ?_) (fun h => ?_)
      ·
        have hcm : cmdB c = true := by simpa using h
        clear h
        have hok2 := hok.apply (c := c) (cmdB_key hcm)
        have hsum2 := apply_sum g.blocks t c
        refine c_heldS [7] mixed rfl (by repeat (first | exact SubO.nil | refine SubO.cons rfl ?_)) (by first | rfl | simp [okCels, allOk_plain]) ?_
        refine t_takeD 0 rfl (by kernel_rfl) rfl rfl rfl (y_val tok rfl) rfl ?_
        refine t_takeD 1 rfl (by kernel_rfl) rfl rfl rfl (y_val tok rfl) rfl ?_
        refine t_takeD 2 rfl (by kernel_rfl) rfl rfl rfl (y_val tok rfl) rfl ?_
        refine t_takeD 3 rfl (by kernel_rfl) rfl rfl rfl (y_val tok rfl) rfl ?_
        have hlt_c := lt_of_at h_c
        refine t_takeD 4 rfl (by kernel_rfl) rfl rfl rfl (y_idx tok rfl (fun hg => hs'.sl) (fun hg => ⟨by omega, by omega⟩)) rfl ?_
        refine t_takeD 5 rfl (by kernel_rfl) rfl rfl rfl (y_lel tok (i) 0 (c) rfl (fun hg => hs') (fun hg => h_c) rfl rfl) rfl ?_
        refine t_go ?_
        refine h_one 6 (by kernel_rfl) ?_
        refine h_callV 6 (fun v V' => ∃ V2 : Vw, V2.le V' ∧ Z.le V2 ∧ (∀ k o, V2.get k = some o → Z.get k = some o ∨ w.heap.size ≤ k) ∧ TbIs V2 v (t.apply g.blocks c)) rfl rfl rfl fnok35 rfl rfl (fun hg E w1 hm => by exact (rapply_c Z g _ t c _ hfit.1 hfit.2 (hZW.trans hm.leV) hT).mono fun e w' h => small_view (hm.below hwW).size hZW hm.leV h) ?_
        rintro v2 W2 hle2 hv2
        obtain ⟨Z2, hZ2, hZZ, hgt2, hT2⟩ := hv2 rfl
        obtain ⟨x1, y1, z1, x2, y2, z2, x3, y3, z3, rfl, _⟩ := id hT2
        refine h_one 7 (by kernel_rfl) ?_
        refine h_store 7 tok rfl rfl rfl rfl (by first | exact ⟨trivial, trivial⟩ | (repeat' first | exact trivial | exact rfl | apply And.intro); done | simp [onesP, oneP, lk, Value.oneCell']) (.inl rfl) ?_
        refine h_done [1, 2, 4, 6, 7] (by kernel_rfl) rfl ?_
        refine x_block ?_
        refine x_then ?_
        refine c_region ?_
        refine o_yield rfl rfl rfl (y_val tok rfl) ?_
        refine o_yield rfl rfl rfl (y_val tok rfl) ?_
        refine o_yield rfl rfl rfl (y_val tok rfl) ?_
        refine o_end [1, 2, 4, 6, 7] rfl ?_
        refine x_then ?_
        rw [hwi]
        refine x_round ((i + 1, _, _, _, t.apply g.blocks c, W2, Z2)) (⟨⟨by dsimp only; omega, by dsimp only; omega⟩, ⟨hwW.trans hle2, hZ2⟩, hle.trans hZZ, hT2, hok2, fun k o hk => (hgt2 k o hk).elim (hgt k o) .inr⟩) (by first | omega | (dsimp only; omega)) (by repeat (first | exact SubF.nil | refine SubF.cons rfl ?_)) (by repeat (first | exact SubO.nil | refine SubO.cons rfl ?_)) rfl (Vw.le.refl _)
      ·
        refine c_skip ?_
        refine x_block ?_
        refine x_then ?_
        refine c_region ?_
        refine o_yield rfl rfl rfl (y_val tok rfl) ?_
        refine o_yield rfl rfl rfl (y_val tok rfl) ?_
        refine o_yield rfl rfl rfl (y_val tok rfl) ?_
        refine o_end [1, 2, 4, 6, 7] rfl ?_
        refine x_then ?_
        rw [hwi]
        refine x_round ((i + 1, s, u, q, t, W, Z)) (⟨⟨by dsimp only; omega, by dsimp only; omega⟩, ⟨hwW, hZW⟩, hle, hT, hok, hgt⟩) (by first | omega | (dsimp only; omega)) (by repeat (first | exact SubF.nil | refine SubF.cons rfl ?_)) (by repeat (first | exact SubO.nil | refine SubO.cons rfl ?_)) rfl (Vw.le.refl _)
    ·
      simp only [Bool.and_eq_true, Bool.or_eq_true, Bool.not_eq_true', Bool.or_eq_false_iff, Bool.and_eq_false_iff, decide_eq_true_eq, decide_eq_false_iff_not, beq_iff_eq, bne_iff_ne, Bool.not_eq_false', beq_eq_false_iff_ne, bne_eq_false_iff_eq, ne_eq, Decidable.not_not, Int.not_lt, Int.not_le] at h
      clear h
      obtain ⟨x1, y1, z1, x2, y2, z2, x3, y3, z3, hv, _⟩ := id hT
      simp only [Value.agg.injEq, Array.mk.injEq, List.cons.injEq, and_true] at hv
      obtain ⟨rfl, rfl, rfl⟩ := hv
      refine c_exit ?_
      refine x_then_exit ?_
      refine x_then_exit ?_
      refine x_block_hit ?_
      refine x_then ?_
      refine c_seq ?_
      refine c_region ?_
      refine o_yield rfl rfl rfl (y_val tok rfl) ?_
      refine o_store tok rfl rfl rfl (by first | exact ⟨trivial, trivial⟩ | (repeat' first | exact trivial | exact rfl | apply And.intro); done | simp [onesP, oneP, lk, Value.oneCell']) ?_
      refine o_yield rfl rfl rfl (y_val tok rfl) ?_
      refine o_end [4, 5] rfl ?_
      refine x_then ?_
      refine c_ret ?_
      refine b_ret tok rfl ?_
      intro E' w' hm _
      exact ⟨_, Z, rfl, hm.below hwW, ⟨hle, fun k o hk => ⟨(hZW.trans hm.leV).get k o hk, hgt k o hk⟩⟩, Or.inr ⟨_, t, rfl, hT, hok, by omega, by omega⟩⟩
end Go.Proofs.Ytiapfhcimekdkaa

/- THE LAW LockDoes: what the locks' commands do to a table. -/
set_option linter.unusedVariables false
set_option linter.unusedSimpArgs false
set_option maxRecDepth 100000
namespace Go.Proofs.Ytiapfhcimekdkaa
open Go Go.Eng Go.RowKit

theorem rMine_c (c : Cmd) (key serial : Int) (w : World) : Calls Try.prog 36 #[c.val, I key, I serial] w fun e w' => e = .returned (.bool ((c.by_ == key) && (c.serial == serial))) ∧ Below w.heap.size w w' := by
  refine enter (E := E0) (O := []) (nl := 0) (V := vw w) [.a (.v c.val), .a (.v (I key)), .a (.v (I serial))] Try.func36 rfl rfl (mem0 E0 0 w) rfl rfl ?_
  refine c_seq ?_
  refine c_region ?_
  refine o_new tok rfl rfl rfl rfl ?_
  refine o_yield rfl rfl rfl (y_val tok rfl) ?_
  refine o_end [1, 2, 3] rfl ?_
  refine x_then ?_
  refine c_seq ?_
  refine c_region ?_
  refine o_yield rfl rfl rfl (y_val tok rfl) ?_
  refine o_yield rfl rfl rfl (y_val tok rfl) ?_
  refine o_yield rfl rfl rfl (y_val tok rfl) ?_
  refine o_yield rfl rfl rfl (y_val tok rfl) ?_
  refine o_yield rfl rfl rfl (y_val tok rfl) ?_
  refine o_yield rfl rfl rfl (y_val tok rfl) ?_
  refine o_yield rfl rfl rfl (y_val tok rfl) ?_
  refine o_yield rfl rfl rfl (y_val tok rfl) ?_
  refine o_yield rfl rfl rfl (y_val tok rfl) ?_
  refine o_yield rfl rfl rfl (y_val tok rfl) ?_
  refine o_yield rfl rfl rfl (y_val tok rfl) ?_
  refine o_end [6] rfl ?_
  refine x_then ?_
  refine c_ret ?_
  refine b_ret tok rfl ?_
  intro E w' hm _
  refine ⟨?_, hm.below (Vw.le.refl _)⟩
  rfl

theorem sl_nil {V : Vw} {v : Value} {sz : Nat} {xs : List Value} (h : IsSl V v sz 0 xs) : ∃ a c, v = .slice a 0 c := by
  rcases h.2 with ⟨a, c, h, _⟩ | ⟨b, off, cap, _, _, _, h, _⟩
  · exact ⟨a, c, h⟩
  · exact ⟨_, cap, h⟩

theorem lockDoes_law (w : World) {v0 v1 v2 v3 v4 v5 : Value} (R0 : ∃ g : Geo, v0 = g.val ∧ g.Ok) (R1 : ∃ l : List Cmd, SlOf (vw w) Cmd.cells 8 v1 l ∧ l.length ≤ maxLen ∧ ∀ a ∈ l, Cmd.Ok a) (R2 : ∃ n : Int, v2 = I n ∧ R64 n) (R3 : ∃ n : Int, v3 = I n ∧ R64 n) (R4 : ∃ a : Span, v4 = a.val ∧ Span.Ok a) (R5 : ∃ n : Int, v5 = I8 n ∧ R8 n) :
    Calls Try.prog 7 #[v0, v1, v2, v3, v4, v5] w fun e w' => e = .returned (.bool true) ∧ Below w.heap.size w w' := by
  obtain ⟨g, rfl, _⟩ := R0
  obtain ⟨l, hs0, _, _⟩ := R1
  obtain ⟨key, rfl, _⟩ := R2
  obtain ⟨serial, rfl, _⟩ := R3
  obtain ⟨⟨lo, hi⟩, rfl, _⟩ := R4
  obtain ⟨mode, rfl, _⟩ := R5
  refine enter (E := E0) (O := []) (nl := 0) (V := vw w) [.a (.v g.val), .a (.v v1), .a (.v (I key)), .a (.v (I serial)), .a (.v (.agg #[I lo, I hi])), .a (.v (I8 mode))] Try.func7 rfl rfl (mem0 E0 0 w) rfl rfl ?_
  refine c_seq ?_
  refine c_region ?_
  refine o_new tok rfl rfl rfl rfl ?_
  refine o_new tok rfl rfl rfl rfl ?_
  refine o_yield rfl rfl rfl (y_val tok rfl) ?_
  refine o_end [1, 2, 3, 5, 6, 10] rfl ?_
  refine x_then ?_
  refine c_seq ?_
  refine c_region ?_
  refine o_yield rfl rfl rfl (y_val tok rfl) ?_
  refine o_yield rfl rfl rfl (y_val tok rfl) ?_
  refine o_callV (fun v V' => TabP g V' v) rfl rfl fnok32 rfl rfl (fun hg E w1 hm => by exact table25_c (vw w) g _ l _ hm.leV hs0) ?_
  rintro v6 W6 hle6 hv6
  rcases hv6 rfl with rfl | ⟨tv, t, rfl, hT, hok, hsl, hsum⟩
  ·
    refine o_yield rfl rfl rfl (y_val tok rfl) ?_
    refine o_yield rfl rfl rfl (y_val tok rfl) ?_
    refine o_yield rfl rfl rfl (y_val tok rfl) ?_
    refine o_new tok rfl rfl rfl rfl ?_
    refine o_store tok rfl rfl rfl (by first | exact ⟨trivial, trivial⟩ | (repeat' first | exact trivial | exact rfl | apply And.intro); done | simp [onesP, oneP, lk, Value.oneCell']) ?_
    refine o_yield rfl rfl rfl (y_val tok rfl) ?_
    refine o_end [2, 3, 5, 6, 10, 13, 14] rfl ?_
    refine x_then ?_
    refine c_seq ?_
    refine c_seq ?_
    refine c_region ?_
    refine o_yield rfl rfl rfl (y_val tok rfl) ?_
    refine o_yield rfl rfl rfl (y_val tok rfl) ?_
    refine o_end [2, 3, 5, 6, 10, 13, 41] rfl ?_
    refine x_then ?_
    refine c_cond rfl (fun h => ?_) (fun h => ?_)
    ·
      refine c_seq ?_
      refine c_region ?_
      refine o_call (.a (.v _)) rfl rfl fnok21 rfl rfl rfl (fun hg E w1 hm => by exact wakes25_c _) ?_
      refine o_yield rfl rfl rfl (y_val tok rfl) ?_
      refine o_end [12] rfl ?_
      refine x_then ?_
      refine c_ret ?_
      refine x_then_ret ?_
      refine b_ret tok rfl ?_
      intro E w' hm _
      refine ⟨?_, hm.below (by repeat (first | exact Vw.le.refl _ | assumption | (refine Vw.le.trans ?_ (by assumption))))⟩
      rfl
    ·
      cases h
  · obtain ⟨a, n, c0, a2, n2, c2, a3, n3, c3, rfl, tS, tH, tQ⟩ := id hT
    have hfit := hok.fitS hsl (by omega)
    refine o_yield rfl rfl rfl (y_val tok rfl) ?_
    refine o_yield rfl rfl rfl (y_val tok rfl) ?_
    refine o_yield rfl rfl rfl (y_val tok rfl) ?_
    refine o_new tok rfl rfl rfl rfl ?_
    refine o_store tok rfl rfl rfl (by first | exact ⟨trivial, trivial⟩ | (repeat' first | exact trivial | exact rfl | apply And.intro); done | simp [onesP, oneP, lk, Value.oneCell']) ?_
    refine o_yield rfl rfl rfl (y_val tok rfl) ?_
    refine o_end [2, 3, 5, 6, 10, 13, 14] rfl ?_
    refine x_then ?_
    refine c_seq ?_
    refine c_seq ?_
    refine c_region ?_
    refine o_yield rfl rfl rfl (y_val tok rfl) ?_
    refine o_yield rfl rfl rfl (y_val tok rfl) ?_
    refine o_end [2, 3, 5, 6, 10, 13, 41] rfl ?_
    refine x_then ?_
    refine c_cond rfl (fun h => ?_) (fun h => ?_)
    ·
      cases h
    ·
      clear h
      obtain ⟨x1, y1, hA⟩ : ∃ x y, askV g t key serial lo hi mode = (x, y) := ⟨_, _, rfl⟩
      have c1 := fun w1 hw1 => lkAsk_c W6 g _ t key serial lo hi mode w1 hfit.1 hw1 hT
      rw [hA] at c1
      refine c_skip ?_
      refine x_then ?_
      refine c_seq ?_
      refine c_region ?_
      refine o_yield rfl rfl rfl (y_val tok rfl) ?_
      refine o_yield rfl rfl rfl (y_val tok rfl) ?_
      refine o_yield rfl rfl rfl (y_val tok rfl) ?_
      refine o_yield rfl rfl rfl (y_val tok rfl) ?_
      refine o_yield rfl rfl rfl (y_val tok rfl) ?_
      refine o_yield rfl rfl rfl (y_val tok rfl) ?_
      refine o_call (.tup [.v (S x1), .v (I y1)]) rfl rfl fnok33 rfl rfl rfl (fun hg E w1 hm => by exact c1 _ hm.leV) ?_
      refine o_yield rfl rfl rfl (y_val tok rfl) ?_
      refine o_yield rfl rfl rfl (y_val tok rfl) ?_
      refine o_yield rfl rfl rfl (y_val tok rfl) ?_
      refine o_yield rfl rfl rfl (y_val tok rfl) ?_
      refine o_yield rfl rfl rfl (y_val tok rfl) ?_
      refine o_end [2, 3, 5, 6, 10, 13, 15, 16] rfl ?_
      refine x_then ?_
      refine c_cut (σ := Value × Value × Value × Tb × Vw) (fun (b1, b2, b3, T, W) => [(2, .a (.v (I key))), (3, .a (.v (I serial))), (6, .a (.ptr 0 0)), (10, .a (.ptr 1 0)), (13, .a (.ptr 2 0))]) (fun (b1, b2, b3, T, W) => [(0, .lit (g.cells.map .v) 23), (1, .lit [.v (I lo), .v (I hi)] 34), (2, .lit [.v b1, .v b2, .v b3] 29)]) (20) (fun (b1, b2, b3, T, W) => W) (fun (b1, b2, b3, T, W) => ((vw w).le W ∧ TbIs W (.agg #[b1, b2, b3]) T) ∧ TbOk g.slots g.blocks T ∧ T.H.length + T.Q.length ≤ 61) ?_ ?_
      ·
        refine c_seq ?_
        refine c_region ?_
        refine o_yield rfl rfl rfl (y_val tok rfl) ?_
        refine o_yield rfl rfl rfl (y_val tok rfl) ?_
        refine o_end [2, 3, 5, 6, 10, 13, 15, 54] rfl ?_
        refine x_then ?_
        refine c_cond rfl (fun h => ?_) (fun h => ?_)
        ·
          have hy : y1 = 0 := by simpa using h
          clear h
          obtain ⟨⟨hcb, hx⟩, hlen, htold, hagain⟩ := ask_does hok (by rw [hA, hy])
          rw [hA] at hx
          dsimp only at hx
          obtain ⟨c, hc⟩ : ∃ c, c = askC key serial lo hi mode := ⟨_, rfl⟩
          rw [← hc] at hcb hx hlen htold hagain
          have hcm : ((c.by_ == key) && (c.serial == serial)) = true := by rw [hc]; simp [askC]
          have happ := fun w1 hw1 => rapply_c W6 g _ t c w1 hfit.1 hfit.2 hw1 hT
          have hokn := hok.apply (c := c) (cmdB_key hcb)
          obtain ⟨tn, htn⟩ : ∃ tn, tn = t.apply g.blocks c := ⟨_, rfl⟩
          rw [← htn] at hlen htold hagain happ hokn
          have hfitn := hokn.fitS hsl (by omega)
          subst hx hy
          refine c_seq ?_
          refine c_region ?_
          refine o_yield rfl rfl rfl (y_val tok rfl) ?_
          refine o_call (.a (.v _)) rfl rfl fnok34 rfl rfl rfl (fun hg E w1 hm => by exact refCmdRead_good c hcb _) ?_
          refine o_yield rfl rfl rfl (y_val tok rfl) ?_
          refine o_yield rfl rfl rfl (y_val tok rfl) ?_
          refine o_yield rfl rfl rfl (y_val tok rfl) ?_
          refine o_new tok rfl rfl rfl rfl ?_
          refine o_store tok rfl rfl rfl (by first | exact ⟨trivial, trivial⟩ | (repeat' first | exact trivial | exact rfl | apply And.intro); done | simp [onesP, oneP, lk, Value.oneCell']) ?_
          refine o_yield rfl rfl rfl (y_val tok rfl) ?_
          refine o_end [2, 3, 5, 6, 10, 13, 17, 18] rfl ?_
          refine x_then ?_
          refine c_seq ?_
          refine c_region ?_
          refine o_yield rfl rfl rfl (y_val tok rfl) ?_
          refine o_yield rfl rfl rfl (y_val tok rfl) ?_
          refine o_yield rfl rfl rfl (y_val tok rfl) ?_
          refine o_callV (fun v V' => TbIs V' v tn) rfl rfl fnok35 rfl rfl (fun hg E w1 hm => by exact happ _ hm.leV) ?_
          rintro v7 W7 hle7 hv7
          have hTn := hv7 rfl
          obtain ⟨p1, q1, r1, p2, q2, r2, p3, q3, r3, rfl, nS, nH, nQ⟩ := id hTn
          obtain ⟨x2, hB⟩ : ∃ x, askV g tn key serial lo hi mode = (x, 251) := ⟨(askV g tn key serial lo hi mode).1, by rw [← hagain]⟩
          have d1 := fun w1 hw1 => lkAsk_c W7 g _ tn key serial lo hi mode w1 hfitn.1 hw1 hTn
          rw [hB] at d1
          have hH := tH.mono hle7
          have hQ := tQ.mono hle7
          refine o_new tok rfl rfl rfl rfl ?_
          refine o_store tok rfl rfl rfl (by first | exact ⟨trivial, trivial⟩ | (repeat' first | exact trivial | exact rfl | apply And.intro); done | simp [onesP, oneP, lk, Value.oneCell']) ?_
          refine o_end [2, 3, 5, 6, 10, 13, 17, 18, 19] rfl ?_
          refine x_then ?_
          refine c_seq ?_
          refine c_region ?_
          refine o_yield rfl rfl rfl (y_val tok rfl) ?_
          refine o_yield rfl rfl rfl (y_val tok rfl) ?_
          refine o_yield rfl rfl rfl (y_val tok rfl) ?_
          refine o_yield rfl rfl rfl (y_val tok rfl) ?_
          refine o_call (.tup [.v (.bool (inH ⟨key, lo, hi, mode⟩ tn.H)), .v (.bool (inH ⟨key, lo, hi, mode⟩ tn.Q))]) rfl rfl fnok22 rfl rfl rfl (fun hg E w1 hm => by exact lkTold_c W7 _ tn key lo hi mode _ hfitn.1 hm.leV hTn) ?_
          refine o_yield rfl rfl rfl (y_val tok rfl) ?_
          refine o_yield rfl rfl rfl (y_val tok rfl) ?_
          refine o_yield rfl rfl rfl (y_val tok rfl) ?_
          refine o_yield rfl rfl rfl (y_val tok rfl) ?_
          refine o_yield rfl rfl rfl (y_val tok rfl) ?_
          refine o_end [2, 3, 5, 6, 10, 13, 17, 18, 19, 20, 21] rfl ?_
          refine x_then ?_
          refine c_seq ?_
          refine c_seq ?_
          refine c_region ?_
          refine o_yield rfl rfl rfl (y_val tok rfl) ?_
          refine o_yield rfl rfl rfl (y_val tok rfl) ?_
          refine o_yield rfl rfl rfl (y_val tok rfl) ?_
          refine o_yield rfl rfl rfl (y_val tok rfl) ?_
          refine o_yield rfl rfl rfl (y_val tok rfl) ?_
          refine o_yield rfl rfl rfl (y_val tok rfl) ?_
          refine o_call (.a (.v _)) rfl rfl fnok36 rfl rfl rfl (fun hg E w1 hm => by exact rMine_c c key serial _) ?_
          refine o_yield rfl rfl rfl (y_val tok rfl) ?_
          refine o_yield rfl rfl rfl (y_val tok rfl) ?_
          refine o_yield rfl rfl rfl (y_val tok rfl) ?_
          refine o_yield rfl rfl rfl (y_val tok rfl) ?_
          refine o_yield rfl rfl rfl (y_val tok rfl) ?_
          refine o_yield rfl rfl rfl (y_val tok rfl) ?_
          refine o_yield rfl rfl rfl (y_val tok rfl) ?_
          refine o_yield rfl rfl rfl (y_val tok rfl) ?_
          refine o_yield rfl rfl rfl (y_val tok rfl) ?_
          refine o_yield rfl rfl rfl (y_val tok rfl) ?_
          refine o_yield rfl rfl rfl (y_len tok rfl (fun hg => nH.sl)) ?_
          refine o_yield rfl rfl rfl (y_val tok rfl) ?_
          refine o_yield rfl rfl rfl (y_val tok rfl) ?_
          refine o_yield rfl rfl rfl (y_len tok rfl (fun hg => nQ.sl)) ?_
          refine o_yield rfl rfl rfl (y_val tok rfl) ?_
          refine o_yield rfl rfl rfl (y_val tok rfl) ?_
          refine o_yield rfl rfl rfl (y_val tok rfl) ?_
          refine o_yield rfl rfl rfl (y_len tok rfl (fun hg => hH.sl)) ?_
          refine o_yield rfl rfl rfl (y_val tok rfl) ?_
          refine o_yield rfl rfl rfl (y_val tok rfl) ?_
          refine o_yield rfl rfl rfl (y_len tok rfl (fun hg => hQ.sl)) ?_
          refine o_yield rfl rfl rfl (y_val tok rfl) ?_
          refine o_yield rfl rfl rfl (y_val tok rfl) ?_
          refine o_yield rfl rfl rfl (y_val tok rfl) ?_
          refine o_yield rfl rfl rfl (y_val tok rfl) ?_
          refine o_end [2, 3, 5, 6, 10, 13, 19, 103] rfl ?_
          refine x_then ?_
          refine c_cond rfl (fun h => ?_) (fun h => ?_)
          ·
            refine c_seq ?_
            refine c_region ?_
            refine o_yield rfl rfl rfl (y_val tok rfl) ?_
            refine o_end [12] rfl ?_
            refine x_then ?_
            refine c_ret ?_
            refine x_then_ret ?_
            refine x_then_ret ?_
            refine b_ret tok rfl ?_
            exfalso
            rw [hcm, htold, wrapI (show -9223372036854775808 ≤ (tn.H.length : Int) + tn.Q.length by omega) (by omega), wrapI (show -9223372036854775808 ≤ (t.H.length : Int) + t.Q.length by omega) (by omega), wrapI (show -9223372036854775808 ≤ (t.H.length : Int) + t.Q.length + 1 by omega) (by omega)] at h
            simp at h
            omega
          ·
            clear h
            refine c_skip ?_
            refine x_then ?_
            refine c_seq ?_
            refine c_region ?_
            refine o_yield rfl rfl rfl (y_val tok rfl) ?_
            refine o_store tok rfl rfl rfl (by first | exact ⟨trivial, trivial⟩ | (repeat' first | exact trivial | exact rfl | apply And.intro); done | simp [onesP, oneP, lk, Value.oneCell']) ?_
            refine o_end [2, 3, 5, 6, 10, 13] rfl ?_
            refine x_then ?_
            refine c_seq ?_
            refine c_region ?_
            refine o_yield rfl rfl rfl (y_val tok rfl) ?_
            refine o_yield rfl rfl rfl (y_val tok rfl) ?_
            refine o_yield rfl rfl rfl (y_val tok rfl) ?_
            refine o_yield rfl rfl rfl (y_val tok rfl) ?_
            refine o_yield rfl rfl rfl (y_val tok rfl) ?_
            refine o_yield rfl rfl rfl (y_val tok rfl) ?_
            refine o_call (.tup [.v (S x2), .v (I 251)]) rfl rfl fnok33 rfl rfl rfl (fun hg E w1 hm => by exact d1 _ hm.leV) ?_
            refine o_yield rfl rfl rfl (y_val tok rfl) ?_
            refine o_yield rfl rfl rfl (y_val tok rfl) ?_
            refine o_yield rfl rfl rfl (y_val tok rfl) ?_
            refine o_yield rfl rfl rfl (y_val tok rfl) ?_
            refine o_yield rfl rfl rfl (y_val tok rfl) ?_
            refine o_end [2, 3, 6, 10, 13, 23] rfl ?_
            refine x_then ?_
            refine c_seq ?_
            refine c_region ?_
            refine o_yield rfl rfl rfl (y_val tok rfl) ?_
            refine o_yield rfl rfl rfl (y_val tok rfl) ?_
            refine o_end [2, 3, 6, 10, 13, 116] rfl ?_
            refine x_then ?_
            refine c_cond rfl (fun h => ?_) (fun h => ?_)
            ·
              refine c_seq ?_
              refine c_region ?_
              refine o_yield rfl rfl rfl (y_val tok rfl) ?_
              refine o_end [12] rfl ?_
              refine x_then ?_
              refine c_ret ?_
              refine x_then_ret ?_
              refine b_ret tok rfl ?_
              exfalso
              simp at h
            ·
              refine c_skip ?_
              refine x_then ?_
              exact x_meet ((_, _, _, tn, W7)) (⟨⟨hle6.trans hle7, hTn⟩, hokn, by omega⟩) (by repeat (first | exact SubF.nil | refine SubF.cons rfl ?_)) (by repeat (first | exact SubO.nil | refine SubO.cons rfl ?_)) rfl (by repeat (first | exact Vw.le.refl _ | assumption | (refine Vw.le.trans ?_ (by assumption))))
        ·
          refine c_skip ?_
          refine x_then ?_
          exact x_meet ((_, _, _, t, W6)) (⟨⟨hle6, hT⟩, hok, by omega⟩) (by repeat (first | exact SubF.nil | refine SubF.cons rfl ?_)) (by repeat (first | exact SubO.nil | refine SubO.cons rfl ?_)) rfl (by repeat (first | exact Vw.le.refl _ | assumption | (refine Vw.le.trans ?_ (by assumption))))
      · rintro ⟨b1, b2, b3, T, W⟩ ⟨⟨hleW, hTT⟩, hokT, hsumT⟩
        dsimp only at hleW hTT hokT hsumT ⊢
        obtain ⟨u1, m1, k1, u2, m2, k2, u3, m3, k3, hv, TS, TH, TQ⟩ := id hTT
        simp only [Value.agg.injEq, Array.mk.injEq, List.cons.injEq, and_true] at hv
        obtain ⟨rfl, rfl, rfl⟩ := hv
        have hfitT := hokT.fitS hsl (by omega)
        obtain ⟨x3, y3, hF⟩ : ∃ x y, freeV g T key serial lo hi = (x, y) := ⟨_, _, rfl⟩
        have c2' := fun w1 hw1 => lkFree_c W g _ T key serial lo hi w1 hfitT.1 hw1 hTT
        rw [hF] at c2'
        refine c_seq ?_
        refine c_region ?_
        refine o_yield rfl rfl rfl (y_val tok rfl) ?_
        refine o_yield rfl rfl rfl (y_val tok rfl) ?_
        refine o_yield rfl rfl rfl (y_val tok rfl) ?_
        refine o_yield rfl rfl rfl (y_val tok rfl) ?_
        refine o_yield rfl rfl rfl (y_val tok rfl) ?_
        refine o_call (.tup [.v (S x3), .v (I y3)]) rfl rfl fnok37 rfl rfl rfl (fun hg E w1 hm => by exact c2' _ hm.leV) ?_
        refine o_yield rfl rfl rfl (y_val tok rfl) ?_
        refine o_yield rfl rfl rfl (y_val tok rfl) ?_
        refine o_yield rfl rfl rfl (y_val tok rfl) ?_
        refine o_yield rfl rfl rfl (y_val tok rfl) ?_
        refine o_yield rfl rfl rfl (y_val tok rfl) ?_
        refine o_end [2, 3, 6, 10, 13, 15, 16] rfl ?_
        refine x_then ?_
        refine c_cut (σ := Vw) (fun W8 => [(2, .a (.v (I key))), (3, .a (.v (I serial))), (6, .a (.ptr 0 0)), (13, .a (.ptr 2 0))]) (fun W8 => [(0, .lit (g.cells.map .v) 23), (2, .lit [.v (.slice u1 m1 k1), .v (.slice u2 m2 k2), .v (.slice u3 m3 k3)] 29)]) (40) (fun W8 => W8) (fun W8 => W.le W8) ?_ ?_
        ·
          refine c_seq ?_
          refine c_region ?_
          refine o_yield rfl rfl rfl (y_val tok rfl) ?_
          refine o_yield rfl rfl rfl (y_val tok rfl) ?_
          refine o_end [2, 3, 6, 10, 13, 15, 127] rfl ?_
          refine x_then ?_
          refine c_cond rfl (fun h => ?_) (fun h => ?_)
          ·
            have hy : y3 = 0 := by simpa using h
            clear h
            obtain ⟨⟨hcb, hx⟩, hlen, hagain⟩ := free_does hokT (by rw [hF, hy])
            rw [hF] at hx
            dsimp only at hx
            obtain ⟨c, hc⟩ : ∃ c, c = freeC key serial lo hi := ⟨_, rfl⟩
            rw [← hc] at hcb hx hlen hagain
            have happ := fun w1 hw1 => rapply_c W g _ T c w1 hfitT.1 hfitT.2 hw1 hTT
            have hokn := hokT.apply (c := c) (cmdB_key hcb)
            obtain ⟨tn, htn⟩ : ∃ tn, tn = T.apply g.blocks c := ⟨_, rfl⟩
            rw [← htn] at hlen hagain happ hokn
            have hfitn := hokn.fitS hsl (by omega)
            subst hx hy
            refine c_seq ?_
            refine c_region ?_
            refine o_yield rfl rfl rfl (y_val tok rfl) ?_
            refine o_call (.a (.v _)) rfl rfl fnok34 rfl rfl rfl (fun hg E w1 hm => by exact refCmdRead_good c hcb _) ?_
            refine o_yield rfl rfl rfl (y_val tok rfl) ?_
            refine o_yield rfl rfl rfl (y_val tok rfl) ?_
            refine o_yield rfl rfl rfl (y_val tok rfl) ?_
            refine o_new tok rfl rfl rfl rfl ?_
            refine o_store tok rfl rfl rfl (by first | exact ⟨trivial, trivial⟩ | (repeat' first | exact trivial | exact rfl | apply And.intro); done | simp [onesP, oneP, lk, Value.oneCell']) ?_
            refine o_yield rfl rfl rfl (y_val tok rfl) ?_
            refine o_end [2, 3, 6, 10, 13, 24, 25] rfl ?_
            refine x_then ?_
            refine c_seq ?_
            refine c_region ?_
            refine o_yield rfl rfl rfl (y_val tok rfl) ?_
            refine o_yield rfl rfl rfl (y_val tok rfl) ?_
            refine o_yield rfl rfl rfl (y_val tok rfl) ?_
            refine o_callV (fun v V' => TbIs V' v tn) rfl rfl fnok35 rfl rfl (fun hg E w1 hm => by exact happ _ hm.leV) ?_
            rintro v7 W7 hle7 hv7
            have hTn := hv7 rfl
            obtain ⟨p1, q1, r1, p2, q2, r2, p3, q3, r3, rfl, nS, nH, nQ⟩ := id hTn
            obtain ⟨x2, hB⟩ : ∃ x, freeV g tn key serial lo hi = (x, 250) := ⟨(freeV g tn key serial lo hi).1, by rw [← hagain]⟩
            have d1 := fun w1 hw1 => lkFree_c W7 g _ tn key serial lo hi w1 hfitn.1 hw1 hTn
            rw [hB] at d1
            have hH := TH.mono hle7
            have hQ := TQ.mono hle7
            refine o_new tok rfl rfl rfl rfl ?_
            refine o_store tok rfl rfl rfl (by first | exact ⟨trivial, trivial⟩ | (repeat' first | exact trivial | exact rfl | apply And.intro); done | simp [onesP, oneP, lk, Value.oneCell']) ?_
            refine o_end [2, 3, 6, 10, 13, 25, 26] rfl ?_
            refine x_then ?_
            refine c_seq ?_
            refine c_region ?_
            refine o_yield rfl rfl rfl (y_val tok rfl) ?_
            refine o_yield rfl rfl rfl (y_val tok rfl) ?_
            refine o_yield rfl rfl rfl (y_val tok rfl) ?_
            refine o_yield rfl rfl rfl (y_val tok rfl) ?_
            refine o_yield rfl rfl rfl (y_val tok rfl) ?_
            refine o_call (.tup [.v (S x2), .v (I 250)]) rfl rfl fnok37 rfl rfl rfl (fun hg E w1 hm => by exact d1 _ hm.leV) ?_
            refine o_yield rfl rfl rfl (y_val tok rfl) ?_
            refine o_yield rfl rfl rfl (y_val tok rfl) ?_
            refine o_yield rfl rfl rfl (y_val tok rfl) ?_
            refine o_yield rfl rfl rfl (y_val tok rfl) ?_
            refine o_yield rfl rfl rfl (y_val tok rfl) ?_
            refine o_end [2, 3, 6, 13, 25, 26, 28] rfl ?_
            refine x_then ?_
            refine c_seq ?_
            refine c_region ?_
            refine o_yield rfl rfl rfl (y_val tok rfl) ?_
            refine o_yield rfl rfl rfl (y_val tok rfl) ?_
            refine o_yield rfl rfl rfl (y_val tok rfl) ?_
            refine o_yield rfl rfl rfl (y_val tok rfl) ?_
            refine o_yield rfl rfl rfl (y_val tok rfl) ?_
            refine o_yield rfl rfl rfl (y_len tok rfl (fun hg => nH.sl)) ?_
            refine o_yield rfl rfl rfl (y_val tok rfl) ?_
            refine o_yield rfl rfl rfl (y_val tok rfl) ?_
            refine o_yield rfl rfl rfl (y_len tok rfl (fun hg => nQ.sl)) ?_
            refine o_yield rfl rfl rfl (y_val tok rfl) ?_
            refine o_yield rfl rfl rfl (y_val tok rfl) ?_
            refine o_yield rfl rfl rfl (y_val tok rfl) ?_
            refine o_yield rfl rfl rfl (y_len tok rfl (fun hg => hH.sl)) ?_
            refine o_yield rfl rfl rfl (y_val tok rfl) ?_
            refine o_yield rfl rfl rfl (y_val tok rfl) ?_
            refine o_yield rfl rfl rfl (y_len tok rfl (fun hg => hQ.sl)) ?_
            refine o_yield rfl rfl rfl (y_val tok rfl) ?_
            refine o_yield rfl rfl rfl (y_val tok rfl) ?_
            refine o_yield rfl rfl rfl (y_val tok rfl) ?_
            refine o_yield rfl rfl rfl (y_val tok rfl) ?_
            refine o_yield rfl rfl rfl (y_val tok rfl) ?_
            refine o_yield rfl rfl rfl (y_val tok rfl) ?_
            refine o_yield rfl rfl rfl (y_val tok rfl) ?_
            refine o_yield rfl rfl rfl (y_val tok rfl) ?_
            refine o_end [2, 3, 6, 13, 169] rfl ?_
            refine x_then ?_
            refine c_cond rfl (fun h => ?_) (fun h => ?_)
            ·
              refine c_seq ?_
              refine c_region ?_
              refine o_yield rfl rfl rfl (y_val tok rfl) ?_
              refine o_end [12] rfl ?_
              refine x_then ?_
              refine c_ret ?_
              refine x_then_ret ?_
              refine b_ret tok rfl ?_
              exfalso
              rw [wrapI (show -9223372036854775808 ≤ (tn.H.length : Int) + tn.Q.length by omega) (by omega), wrapI (show -9223372036854775808 ≤ (T.H.length : Int) + T.Q.length by omega) (by omega), wrapI (show -9223372036854775808 ≤ (T.H.length : Int) + T.Q.length - 1 by omega) (by omega)] at h
              simp at h
              omega
            ·
              refine c_skip ?_
              refine x_then ?_
              exact x_meet (W7) (hle7) (by repeat (first | exact SubF.nil | refine SubF.cons rfl ?_)) (by repeat (first | exact SubO.nil | refine SubO.cons rfl ?_)) rfl (by repeat (first | exact Vw.le.refl _ | assumption | (refine Vw.le.trans ?_ (by assumption))))
          ·
            refine c_skip ?_
            refine x_then ?_
            exact x_meet (W) (Vw.le.refl _) (by repeat (first | exact SubF.nil | refine SubF.cons rfl ?_)) (by repeat (first | exact SubO.nil | refine SubO.cons rfl ?_)) rfl (by repeat (first | exact Vw.le.refl _ | assumption | (refine Vw.le.trans ?_ (by assumption))))
        · rintro W8 hle8
          have hT8 := hTT.mono hle8
          obtain ⟨x4, y4, hL⟩ : ∃ x y, saysV key serial T ⟨1, 0, 0, 0, 0, 0, 0, 0⟩ = (x, y) := ⟨_, _, rfl⟩
          have c3' := fun w1 hw1 => lkLeave_c W8 _ T key serial w1 hfitT.1 hw1 hT8
          rw [hL] at c3'
          refine c_seq ?_
          refine c_region ?_
          refine o_yield rfl rfl rfl (y_val tok rfl) ?_
          refine o_yield rfl rfl rfl (y_val tok rfl) ?_
          refine o_yield rfl rfl rfl (y_val tok rfl) ?_
          refine o_call (.tup [.v (S x4), .v (I y4)]) rfl rfl fnok38 rfl rfl rfl (fun hg E w1 hm => by exact c3' _ hm.leV) ?_
          refine o_yield rfl rfl rfl (y_val tok rfl) ?_
          refine o_yield rfl rfl rfl (y_val tok rfl) ?_
          refine o_yield rfl rfl rfl (y_val tok rfl) ?_
          refine o_yield rfl rfl rfl (y_val tok rfl) ?_
          refine o_yield rfl rfl rfl (y_val tok rfl) ?_
          refine o_end [2, 6, 13, 15, 16] rfl ?_
          refine x_then ?_
          refine c_seq ?_
          refine c_seq ?_
          refine c_region ?_
          refine o_yield rfl rfl rfl (y_val tok rfl) ?_
          refine o_yield rfl rfl rfl (y_val tok rfl) ?_
          refine o_end [2, 6, 13, 15, 178] rfl ?_
          refine x_then ?_
          refine c_cond rfl (fun h => ?_) (fun h => ?_)
          ·
            refine c_seq ?_
            refine c_region ?_
            refine o_call (.a (.v _)) rfl rfl fnok21 rfl rfl rfl (fun hg E w1 hm => by exact wakes25_c _) ?_
            refine o_yield rfl rfl rfl (y_val tok rfl) ?_
            refine o_end [12] rfl ?_
            refine x_then ?_
            refine c_ret ?_
            refine x_then_ret ?_
            refine b_ret tok rfl ?_
            intro E w' hm _
            refine ⟨?_, hm.below ((hleW.trans hle8))⟩
            rfl
          ·
            have hy : y4 = 0 := by simpa using h
            clear h
            obtain ⟨⟨hcb, hx⟩, hslot, hhas, hwait⟩ := leave_does hokT (by rw [hL, hy])
            rw [hL] at hx
            dsimp only at hx
            obtain ⟨c, hc⟩ : ∃ c, c = leaveC key serial := ⟨_, rfl⟩
            rw [← hc] at hcb hx hslot hhas hwait
            have happ := fun w1 hw1 => rapply_c W8 g _ T c w1 hfitT.1 hfitT.2 hw1 hT8
            have hokn := hokT.apply (c := c) (cmdB_key hcb)
            have hsumn := apply_sum g.blocks T c
            obtain ⟨tn, htn⟩ : ∃ tn, tn = T.apply g.blocks c := ⟨_, rfl⟩
            rw [← htn] at hslot hhas hwait happ hokn hsumn
            have hfitn := hokn.fitS hsl (by omega)
            subst hx hy
            refine c_skip ?_
            refine x_then ?_
            refine c_seq ?_
            refine c_region ?_
            refine o_yield rfl rfl rfl (y_val tok rfl) ?_
            refine o_call (.a (.v _)) rfl rfl fnok34 rfl rfl rfl (fun hg E w1 hm => by exact refCmdRead_good c hcb _) ?_
            refine o_yield rfl rfl rfl (y_val tok rfl) ?_
            refine o_yield rfl rfl rfl (y_val tok rfl) ?_
            refine o_yield rfl rfl rfl (y_val tok rfl) ?_
            refine o_new tok rfl rfl rfl rfl ?_
            refine o_store tok rfl rfl rfl (by first | exact ⟨trivial, trivial⟩ | (repeat' first | exact trivial | exact rfl | apply And.intro); done | simp [onesP, oneP, lk, Value.oneCell']) ?_
            refine o_yield rfl rfl rfl (y_val tok rfl) ?_
            refine o_end [2, 6, 13, 29, 30] rfl ?_
            refine x_then ?_
            refine c_seq ?_
            refine c_region ?_
            refine o_yield rfl rfl rfl (y_val tok rfl) ?_
            refine o_yield rfl rfl rfl (y_val tok rfl) ?_
            refine o_yield rfl rfl rfl (y_val tok rfl) ?_
            refine o_callV (fun v V' => TbIs V' v tn) rfl rfl fnok35 rfl rfl (fun hg E w1 hm => by exact happ _ hm.leV) ?_
            rintro v7 W7 hle7 hv7
            have hTn := hv7 rfl
            obtain ⟨p1, q1, r1, p2, q2, r2, p3, q3, r3, rfl, nS, nH, nQ⟩ := id hTn
            have s1 := hfitn.1.s
            have hlim : lim = 4398046511104 := rfl
            have e1 := fun w1 hw1 => rSlot_c W7 p1 q1 r1 (.slice p2 q2 r2) (.slice p3 q3 r3) tn.S key w1 hw1 nS (by omega)
            rw [hslot] at e1
            refine o_new tok rfl rfl rfl rfl ?_
            refine o_store tok rfl rfl rfl (by first | exact ⟨trivial, trivial⟩ | (repeat' first | exact trivial | exact rfl | apply And.intro); done | simp [onesP, oneP, lk, Value.oneCell']) ?_
            refine o_end [2, 30, 31] rfl ?_
            refine x_then ?_
            refine c_seq ?_
            refine c_region ?_
            refine o_yield rfl rfl rfl (y_val tok rfl) ?_
            refine o_yield rfl rfl rfl (y_val tok rfl) ?_
            refine o_call (.a (.v _)) rfl rfl fnok39 rfl rfl rfl (fun hg E w1 hm => by exact e1 _ hm.leV) ?_
            refine o_yield rfl rfl rfl (y_val tok rfl) ?_
            refine o_yield rfl rfl rfl (y_val tok rfl) ?_
            refine o_yield rfl rfl rfl (y_val tok rfl) ?_
            refine o_yield rfl rfl rfl (y_val tok rfl) ?_
            refine o_yield rfl rfl rfl (y_val tok rfl) ?_
            refine o_end [2, 30, 31, 33] rfl ?_
            refine x_then ?_
            refine c_seq ?_
            refine c_heldR mixed rfl (by repeat (first | exact SubO.nil | refine SubO.cons rfl ?_)) (by first | rfl | simp [okCels, allOk_plain]) ?_
            refine t_take 0 rfl (by kernel_rfl) rfl rfl rfl (y_val tok rfl) rfl ?_
            refine t_take 1 rfl (by kernel_rfl) rfl rfl rfl (y_val tok rfl) rfl ?_
            refine t_take 2 rfl (by kernel_rfl) rfl rfl rfl (y_val tok rfl) rfl ?_
            refine t_take 3 rfl (by kernel_rfl) rfl rfl rfl (y_val tok rfl) rfl ?_
            refine t_take 4 rfl (by kernel_rfl) rfl rfl rfl (y_val tok rfl) rfl ?_
            refine t_take 5 rfl (by kernel_rfl) rfl rfl rfl (y_val tok rfl) rfl ?_
            refine t_take 6 rfl (by kernel_rfl) rfl rfl rfl (y_val tok rfl) rfl ?_
            refine t_take 7 rfl (by kernel_rfl) rfl rfl rfl (y_val tok rfl) rfl ?_
            refine t_take 8 rfl (by kernel_rfl) rfl rfl rfl (y_val tok rfl) rfl ?_
            refine t_take 11 rfl (by kernel_rfl) rfl rfl rfl (y_val tok rfl) rfl ?_
            refine t_take 12 rfl (by kernel_rfl) rfl rfl rfl (y_val tok rfl) rfl ?_
            refine t_go ?_
            refine h_one 9 (by kernel_rfl) ?_
            refine h_callV 9 (fun v V' => SlOf V' Hold.cells 4 v []) rfl rfl rfl fnok25 rfl rfl (fun hg E w1 hm => by exact (lkHas_c W7 _ (.slice none 0 0) tn key false [] _ hfitn.1 hm.leV hTn (slNil _ _ _ _ (fun _ => rfl)) (by simp)).mono fun e w' h => HRow.out (l := []) (by rw [hhas] at h; exact h) hm.leV) ?_
            rintro v9 W9 hle9 hv9
            obtain ⟨a9, k9, rfl⟩ := sl_nil (hv9 rfl).sl
            refine h_take 10 rfl (by kernel_rfl) rfl rfl rfl rfl (y_lenP tok rfl) rfl ?_
            refine h_one 13 (by kernel_rfl) ?_
            refine h_callV 13 (fun v V' => SlOf V' Hold.cells 4 v []) rfl rfl rfl fnok27 rfl rfl (fun hg E w1 hm => by exact (lkWaits_c W9 _ tn key _ hfitn.1 hm.leV (hTn.mono hle9)).mono fun e w' h => HRow.out (l := []) (by rw [hwait] at h; exact h) hm.leV) ?_
            rintro vA WA hleA hvA
            refine h_one 14 (by kernel_rfl) ?_
            refine h_yield 14 rfl rfl rfl rfl (y_len tok rfl (fun hg => (hvA hg).sl)) ?_
            refine h_one 15 (by kernel_rfl) ?_
            refine h_yield 15 rfl rfl rfl rfl (y_val tok rfl) ?_
            refine h_one 16 (by kernel_rfl) ?_
            refine h_yield 16 rfl rfl rfl rfl (y_val tok rfl) ?_
            refine h_one 17 (by kernel_rfl) ?_
            refine h_yield 17 rfl rfl rfl rfl (y_val tok rfl) ?_
            refine h_one 18 (by kernel_rfl) ?_
            refine h_yield 18 rfl rfl rfl rfl (y_val tok rfl) ?_
            refine h_one 19 (by kernel_rfl) ?_
            refine h_call 19 (.a (.v _)) rfl rfl rfl fnok21 rfl rfl rfl (fun hg E w1 hm => by exact wakes25_c _) ?_
            refine h_one 20 (by kernel_rfl) ?_
            refine h_yield 20 rfl rfl rfl rfl (y_val tok rfl) ?_
            refine h_one 21 (by kernel_rfl) ?_
            refine h_yield 21 rfl rfl rfl rfl (y_val tok rfl) ?_
            refine h_done [12] (by kernel_rfl) rfl ?_
            refine x_then ?_
            refine c_ret ?_
            refine b_ret tok rfl ?_
            intro E w' hm _
            refine ⟨?_, hm.below ((hleW.trans (hle8.trans (hle7.trans (hle9.trans hleA)))))⟩
            rfl
end Go.Proofs.Ytiapfhcimekdkaa
