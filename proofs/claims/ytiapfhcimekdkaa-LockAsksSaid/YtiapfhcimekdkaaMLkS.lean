import Derived.Test.YtiapfhcimekdkaaMTAsk
import Derived.Test.YtiapfhcimekdkaaEng38
/- Locks: what is chosen, what is among some. -/
set_option linter.unusedVariables false
set_option linter.unusedSimpArgs false
set_option maxRecDepth 100000
namespace Go.Proofs.Ytiapfhcimekdkaa
open Go Go.Eng Go.RowKit

/-- A function value that tells pr, whatever it has already. -/
def TellsB (V : Vw) (fv : Value) (pr : Hold → Bool) : Prop :=
  ∀ (x : Hold) w', V.le (vw w') → CallsB Try.prog fv [x.val] w' fun e w'' => e = .returned (.bool (pr x)) ∧ Below w'.heap.size w' w''

theorem filt_step {l : List Hold} {k : Nat} {x : Hold} (pr : Hold → Bool) (h : l[k]? = some x) : (l.take (k + 1)).filter pr = (l.take k).filter pr ++ (if pr x = true then [x] else []) := by
  rw [take_succ_at' h, List.filter_append]
  cases hq : pr x <;> simp [hq]

theorem filt_len (l : List Hold) (k : Nat) (pr : Hold → Bool) : ((l.take k).filter pr).length ≤ k := Nat.le_trans (List.length_filter_le _ _) (by rw [List.length_take]; omega)

theorem choose_c (V : Vw) (fv sv : Value) (pr : Hold → Bool) (l : List Hold) (w : World) (hV : V.le (vw w)) (hs0 : SlOf V Hold.cells 4 sv l) (hn : l.length ≤ 1000000) (hf : TellsB V fv pr) :
    Calls Try.prog 72 #[sv, fv] w (HRow (l.filter pr) w) := by
  have hs := hs0.mono hV
  refine enter (E := E0) (O := []) (nl := 0) (V := vw w) [.a (.v sv), .a (.v fv)] Try.func72 rfl rfl (mem0 E0 0 w) rfl rfl ?_
  refine c_seq ?_
  refine c_region ?_
  refine o_yield rfl rfl rfl (y_val tok rfl) ?_
  refine o_end [0, 1, 4] rfl ?_
  refine x_then ?_
  refine c_seq ?_
  refine c_seq ?_
  refine c_region ?_
  refine o_yield rfl rfl rfl (y_val tok rfl) ?_
  refine o_yield rfl rfl rfl (y_len tok rfl (fun hg => hs.sl)) ?_
  refine o_yield rfl rfl rfl (y_val tok rfl) ?_
  refine o_end [1, 4, 7, 8, 9] rfl ?_
  refine x_then ?_
  refine c_block ?_
  refine k_nil 4 43 4 rfl rfl ?_
  refine c_loopK [1, 7, 8] [0] rfl rfl (σ := Nat) (fun k => [(4, .a (.row 0)), (9, .a (.v (I k)))]) (fun k => [(0, .row 43 4 ((l.take k).filter pr).length (((l.take k).filter pr).flatMap Hold.cells))]) (fun k => k ≤ l.length) (fun k => l.length - k) (0) (by omega) (by repeat (first | exact SubF.nil | refine SubF.cons rfl ?_)) (by repeat (first | exact SubO.nil | refine SubO.cons rfl ?_)) rfl ?_
  rintro k hk
  refine c_seq ?_
  refine c_region ?_
  refine o_yield rfl rfl rfl (y_val tok rfl) ?_
  refine o_end [1, 4, 7, 8, 9, 10] rfl ?_
  refine x_then ?_
  refine c_seq ?_
  refine c_cond rfl (fun h => ?_) (fun h => ?_)
  ·
    simp only [Bool.and_eq_true, Bool.or_eq_true, Bool.not_eq_true', Bool.or_eq_false_iff, Bool.and_eq_false_iff, decide_eq_true_eq, decide_eq_false_iff_not, beq_iff_eq, bne_iff_ne, Bool.not_eq_false', beq_eq_false_iff_ne, bne_eq_false_iff_eq, ne_eq, Decidable.not_not, Int.not_lt, Int.not_le] at h
    refine c_skip ?_
    refine x_then ?_
    refine c_seq ?_
    refine c_block ?_
    refine c_seq ?_
    refine c_region ?_
    have hfl := filt_len l k pr
    have hwk : IntKind.i64.wrap ((k : Int) + 1) = ((k + 1 : Nat) : Int) := wrapI (by omega) (by omega)
    obtain ⟨x, h_x⟩ := hs.at (k := k) (by omega)
    have hlt_x := lt_of_at h_x
    refine o_yield rfl rfl rfl (y_idx tok rfl (fun hg => hs.sl) (fun hg => ⟨by omega, by omega⟩)) ?_
    refine o_yield rfl rfl rfl (y_lel tok (k) 0 (x) rfl (fun hg => hs) (fun hg => h_x) rfl rfl) ?_
    refine o_new tok rfl rfl rfl rfl ?_
    refine o_store tok rfl rfl rfl (by first | exact ⟨trivial, trivial⟩ | (repeat' first | exact trivial | exact rfl | apply And.intro); done | simp [onesP, oneP, lk, Value.oneCell']) ?_
    refine o_end [1, 4, 6, 7, 8, 9] rfl ?_
    refine x_then ?_
    refine c_seq ?_
    refine c_region ?_
    refine o_yield rfl rfl rfl (y_val tok rfl) ?_
    refine o_yield rfl rfl rfl (y_val tok rfl) ?_
    have hft := filt_step pr h_x
    refine o_callB (.a (.v (.bool (pr x)))) rfl rfl rfl rfl rfl (fun hg E w1 hm => hf x w1 (hV.trans hm.leV)) ?_
    refine o_end [1, 4, 6, 7, 8, 9, 15] rfl ?_
    refine x_then ?_
    refine c_cond rfl (fun h => ?_) (fun h => ?_)
    ·
      refine c_region ?_
      refine o_yield rfl rfl rfl (y_val tok rfl) ?_
      refine o_yield rfl rfl rfl (y_val tok rfl) ?_
      rw [if_pos h] at hft
      refine o_step rfl rfl rfl rfl rfl (s_bs tok 4 rfl rfl rfl) (fun _ _ => ?_)
      refine o_step rfl rfl rfl rfl rfl (s_app tok x.cells rfl (fun E w hm => ownsRow_src (hm.row _ _ _ _ _ rfl)) (fun _ _ _ => by simpa using hold_ones [x]) (by dsimp only; omega)) (fun _ _ => ?_)
      refine o_yield rfl rfl rfl (y_val tok rfl) ?_
      refine o_end [1, 4, 7, 8, 9] rfl ?_
      refine x_block ?_
      refine x_then ?_
      refine c_region ?_
      refine o_yield rfl rfl rfl (y_val tok rfl) ?_
      refine o_yield rfl rfl rfl (y_val tok rfl) ?_
      refine o_end [1, 4, 7, 8, 9] rfl ?_
      refine x_then ?_
      rw [(hold_snoc _ x).1, (hold_snoc _ x).2, ← hft, hwk]
      refine k_swap 0 3 rfl ?_
      refine x_round (k + 1) (by omega) (by first | omega | (dsimp only; omega)) (by repeat (first | exact SubF.nil | refine SubF.cons rfl ?_)) (by repeat (first | exact SubO.nil | refine SubO.cons rfl ?_)) rfl (Vw.le.refl _)
    ·
      refine c_skip ?_
      refine x_block ?_
      refine x_then ?_
      refine c_region ?_
      refine o_yield rfl rfl rfl (y_val tok rfl) ?_
      refine o_yield rfl rfl rfl (y_val tok rfl) ?_
      refine o_end [1, 4, 7, 8, 9] rfl ?_
      refine x_then ?_
      rw [if_neg (by rw [h]; simp), List.append_nil] at hft
      rw [← hft, hwk]
      refine x_round (k + 1) (by omega) (by first | omega | (dsimp only; omega)) (by repeat (first | exact SubF.nil | refine SubF.cons rfl ?_)) (by repeat (first | exact SubO.nil | refine SubO.cons rfl ?_)) rfl (Vw.le.refl _)
  ·
    simp only [Bool.and_eq_true, Bool.or_eq_true, Bool.not_eq_true', Bool.or_eq_false_iff, Bool.and_eq_false_iff, decide_eq_true_eq, decide_eq_false_iff_not, beq_iff_eq, bne_iff_ne, Bool.not_eq_false', beq_eq_false_iff_ne, bne_eq_false_iff_eq, ne_eq, Decidable.not_not, Int.not_lt, Int.not_le] at h
    have hkl : k = l.length := by omega
    subst hkl
    rw [List.take_length]
    clear h
    refine c_exit ?_
    refine x_then_exit ?_
    refine x_then_exit ?_
    refine x_block_hit ?_
    refine x_then ?_
    refine c_seq ?_
    refine c_region ?_
    refine o_yield rfl rfl rfl (y_val tok rfl) ?_
    refine o_yield rfl rfl rfl (y_val tok rfl) ?_
    refine o_end [4] rfl ?_
    refine x_then ?_
    refine c_ret ?_
    refine b_ret tok rfl ?_
    intro E' w' hm _
    exact ⟨_, rfl, hm.rowFresh (Vw.le.refl _) (l := 0) rfl, hm.below (Vw.le.refl _)⟩

theorem ohas_c (key serial : Int) (h : Hold) (w : World) : Calls Try.prog 74 #[.agg #[I key, I serial], h.val] w fun e w' => e = .returned (.bool (h.key == key)) ∧ Below w.heap.size w w' := by
  refine enter (E := E0) (O := []) (nl := 0) (V := vw w) [.a (.v (.agg #[I key, I serial])), .a (.v h.val)] Try.func74 rfl rfl (mem0 E0 0 w) rfl rfl ?_
  refine c_seq ?_
  refine c_region ?_
  refine o_new tok rfl rfl rfl rfl ?_
  refine o_new tok rfl rfl rfl rfl ?_
  refine o_yield rfl rfl rfl (y_val tok rfl) ?_
  refine o_end [2, 3] rfl ?_
  refine x_then ?_
  refine c_seq ?_
  refine c_region ?_
  refine o_yield rfl rfl rfl (y_val tok rfl) ?_
  refine o_yield rfl rfl rfl (y_val tok rfl) ?_
  refine o_yield rfl rfl rfl (y_val tok rfl) ?_
  refine o_yield rfl rfl rfl (y_val tok rfl) ?_
  refine o_yield rfl rfl rfl (y_val tok rfl) ?_
  refine o_yield rfl rfl rfl (y_val tok rfl) ?_
  refine o_end [4] rfl ?_
  refine x_then ?_
  refine c_ret ?_
  refine b_ret tok rfl ?_
  intro E w' hm _
  refine ⟨?_, hm.below (Vw.le.refl _)⟩
  rfl

def spIn (gs : List Span) (lo hi : Int) : Bool := gs.any fun s => lo == s.lo && hi == s.hi

theorem idxSp_c (V : Vw) (sv : Value) (gs : List Span) (lo hi : Int) (w : World) (hV : V.le (vw w)) (hs0 : SlOf V Span.cells 2 sv gs) (hn : gs.length ≤ lim) :
    Calls Try.prog 117 #[sv, .agg #[I lo, I hi]] w fun e w' => e = .returned (I (idxOf (fun s : Span => lo == s.lo && hi == s.hi) gs)) ∧ Below w.heap.size w w' := by
  unfold lim at hn
  have hs := hs0.mono hV
  refine enter (E := E0) (O := []) (nl := 0) (V := vw w) [.a (.v sv), .a (.v (.agg #[I lo, I hi]))] Try.func117 rfl rfl (mem0 E0 0 w) rfl rfl ?_
  refine c_seq ?_
  refine c_region ?_
  refine o_new tok rfl rfl rfl rfl ?_
  refine o_yield rfl rfl rfl (y_val tok rfl) ?_
  refine o_end [0, 3] rfl ?_
  refine x_then ?_
  refine c_seq ?_
  refine c_seq ?_
  refine c_region ?_
  refine o_yield rfl rfl rfl (y_val tok rfl) ?_
  refine o_yield rfl rfl rfl (y_len tok rfl (fun hg => hs.sl)) ?_
  refine o_yield rfl rfl rfl (y_val tok rfl) ?_
  refine o_end [0, 3, 7, 8] rfl ?_
  refine x_then ?_
  refine c_block ?_
  refine c_loopK [0, 3, 7] [] rfl rfl (σ := Nat) (fun k => [(8, .a (.v (I k)))]) (fun k => []) (fun k => k ≤ gs.length ∧ ∀ (j : Nat) (x : Span), j < k → gs[j]? = some x → (lo == x.lo && hi == x.hi) = false) (fun k => gs.length - k) (0) (⟨by omega, by simp⟩) (by repeat (first | exact SubF.nil | refine SubF.cons rfl ?_)) (by repeat (first | exact SubO.nil | refine SubO.cons rfl ?_)) rfl ?_
  rintro k ⟨hk, hall⟩
  refine c_seq ?_
  refine c_region ?_
  refine o_yield rfl rfl rfl (y_val tok rfl) ?_
  refine o_end [0, 3, 7, 8, 9] rfl ?_
  refine x_then ?_
  refine c_seq ?_
  refine c_cond rfl (fun h => ?_) (fun h => ?_)
  ·
    simp only [Bool.and_eq_true, Bool.or_eq_true, Bool.not_eq_true', Bool.or_eq_false_iff, Bool.and_eq_false_iff, decide_eq_true_eq, decide_eq_false_iff_not, beq_iff_eq, bne_iff_ne, Bool.not_eq_false', beq_eq_false_iff_ne, bne_eq_false_iff_eq, ne_eq, Decidable.not_not, Int.not_lt, Int.not_le] at h
    refine c_skip ?_
    refine x_then ?_
    refine c_seq ?_
    refine c_block ?_
    refine c_seq ?_
    refine c_region ?_
    refine o_yield rfl rfl rfl (y_val tok rfl) ?_
    refine o_yield rfl rfl rfl (y_val tok rfl) ?_
    refine o_end [0, 3, 5, 7, 8] rfl ?_
    refine x_then ?_
    refine c_seq ?_
    refine c_draw mixed (by kernel_rfl) ?_
    refine d_yield rfl rfl rfl (y_val tok rfl) rfl ?_
    refine d_yield rfl rfl rfl (y_val tok rfl) rfl ?_
    refine d_yield rfl rfl rfl (y_val tok rfl) rfl ?_
    obtain ⟨x, h_x⟩ := hs.at (k := k) (by omega)
    have hlt_x := lt_of_at h_x
    refine d_yield rfl rfl rfl (y_idx tok rfl (fun hg => hs.sl) (fun hg => ⟨by omega, by omega⟩)) rfl ?_
    refine d_yield rfl rfl rfl (y_lel tok (k) 0 (x) rfl (fun hg => hs) (fun hg => h_x) rfl rfl) rfl ?_
    refine d_yield rfl rfl rfl (y_seq (.bool (lo == x.lo && hi == x.hi)) rfl (fun E w => spanEq lo hi x.lo x.hi w (.inl rfl))) rfl ?_
    refine d_end [0, 3, 5, 7, 8, 16] rfl ?_
    refine x_then ?_
    refine c_cond rfl (fun h => ?_) (fun h => ?_)
    ·
      refine c_seq ?_
      refine c_region ?_
      refine o_yield rfl rfl rfl (y_val tok rfl) ?_
      refine o_yield rfl rfl rfl (y_val tok rfl) ?_
      refine o_end [4] rfl ?_
      refine x_then ?_
      refine c_ret ?_
      refine x_block_ret ?_
      refine x_then_ret ?_
      refine x_then_ret ?_
      refine x_block_ret ?_
      refine x_then_ret ?_
      refine b_ret tok rfl ?_
      intro E w' hm _
      refine ⟨?_, hm.below (Vw.le.refl _)⟩
      rw [idxOf, findIdx?_at h_x h hall]; rfl
    ·
      refine c_skip ?_
      refine x_block ?_
      refine x_then ?_
      refine c_region ?_
      refine o_yield rfl rfl rfl (y_val tok rfl) ?_
      refine o_yield rfl rfl rfl (y_val tok rfl) ?_
      refine o_end [0, 3, 7, 8] rfl ?_
      refine x_then ?_
      rw [wrapI (n := (k : Int) + 1) (by omega) (by omega)]
      refine x_round (k + 1) (⟨by omega, ahead_succ h_x hall h⟩) (by first | omega | (dsimp only; omega)) (by repeat (first | exact SubF.nil | refine SubF.cons rfl ?_)) (by repeat (first | exact SubO.nil | refine SubO.cons rfl ?_)) rfl (Vw.le.refl _)
  ·
    simp only [Bool.and_eq_true, Bool.or_eq_true, Bool.not_eq_true', Bool.or_eq_false_iff, Bool.and_eq_false_iff, decide_eq_true_eq, decide_eq_false_iff_not, beq_iff_eq, bne_iff_ne, Bool.not_eq_false', beq_eq_false_iff_ne, bne_eq_false_iff_eq, ne_eq, Decidable.not_not, Int.not_lt, Int.not_le] at h
    refine c_exit ?_
    refine x_then_exit ?_
    refine x_then_exit ?_
    refine x_block_hit ?_
    refine x_then ?_
    refine c_seq ?_
    refine c_region ?_
    refine o_yield rfl rfl rfl (y_val tok rfl) ?_
    refine o_end [4] rfl ?_
    refine x_then ?_
    refine c_ret ?_
    refine b_ret tok rfl ?_
    have hge : k = gs.length := by omega
    intro E w' hm _
    refine ⟨?_, hm.below (Vw.le.refl _)⟩
    rw [idxOf, findIdx?_no (hge ▸ hall)]; rfl

theorem idx_any {α : Type} (pr : α → Bool) (l : List α) : decide (0 ≤ idxOf pr l) = l.any pr := by
  rw [← any_findIdx, idxOf]
  cases l.findIdx? pr <;> simp

theorem conSp_c (V : Vw) (sv : Value) (gs : List Span) (lo hi : Int) (w : World) (hV : V.le (vw w)) (hs0 : SlOf V Span.cells 2 sv gs) (hn : gs.length ≤ lim) :
    Calls Try.prog 75 #[sv, .agg #[I lo, I hi]] w fun e w' => e = .returned (.bool (spIn gs lo hi)) ∧ Below w.heap.size w w' := by
  refine enter (E := E0) (O := []) (nl := 0) (V := vw w) [.a (.v sv), .a (.v (.agg #[I lo, I hi]))] Try.func75 rfl rfl (mem0 E0 0 w) rfl rfl ?_
  refine c_seq ?_
  refine c_region ?_
  refine o_new tok rfl rfl rfl rfl ?_
  refine o_yield rfl rfl rfl (y_val tok rfl) ?_
  refine o_end [0, 3] rfl ?_
  refine x_then ?_
  refine c_seq ?_
  refine c_region ?_
  refine o_yield rfl rfl rfl (y_val tok rfl) ?_
  refine o_yield rfl rfl rfl (y_val tok rfl) ?_
  refine o_call (.a (.v _)) rfl rfl fnok117 rfl rfl rfl (fun hg E w1 hm => by exact idxSp_c V sv gs lo hi _ (hV.trans hm.leV) hs0 hn) ?_
  refine o_yield rfl rfl rfl (y_val tok rfl) ?_
  refine o_yield rfl rfl rfl (y_val tok rfl) ?_
  refine o_end [4] rfl ?_
  refine x_then ?_
  refine c_ret ?_
  refine b_ret tok rfl ?_
  intro E w' hm _
  refine ⟨?_, hm.below (Vw.le.refl _)⟩
  rw [spIn, ← idx_any]; rfl

def Hold.eqB (a b : Hold) : Bool := a.key == b.key && ((a.lo == b.lo && a.hi == b.hi) && a.mode == b.mode)

theorem Hold.eqB_iff (a b : Hold) : a.eqB b = true ↔ a = b := by
  obtain ⟨a1, a2, a3, a4⟩ := a
  obtain ⟨b1, b2, b3, b4⟩ := b
  simp [Hold.eqB, and_assoc]

theorem holdEq {op : BinOp} {ox oy : Operand} (a b : Hold) (w : World) (hop : op = .eql ∨ op = .neq) :
    (do eqGuard op 43 ox oy a.val b.val; binOp op 43 a.val b.val : Sem Value).run Try.prog w = .ok (.bool (if op = .eql then a.eqB b else !(a.eqB b))) w := by
  have hS : Try.prog.underlying 43 = some (.struct (Try.prog.fieldsOf 43)) := by kernel_rfl
  have hp : Try.prog.stoodInHeld 43 = false := by kernel_rfl
  have hg : Try.prog.eqGuardType Try.prog.depth 43 = false := by kernel_rfl
  have hS2 : Try.prog.underlying 34 = some (.struct (Try.prog.fieldsOf 34)) := by kernel_rfl
  have hp2 : Try.prog.stoodInHeld 34 = false := by kernel_rfl
  have key2 : ∀ a b c d : Int, (Op.equalIn 9999 34 (.agg #[I a, I b]) (.agg #[I c, I d])).run Try.prog w = .ok (a == c && b == d) w := by
    intro a b c d
    have u3 := Try.underlying3
    have a3 := Try.isAgg3
    have z3 := Try.sizeOf3
    rw [show (9999 : Nat) = 9998 + 1 from rfl, run_equalIn_agg w 9998 34 _ _ hS2 hp2]
    simp only [Program.fieldsOf, Try.underlying34]
    go_simp
    by_cases h1 : a = c <;> by_cases h2 : b = d <;> simp [h1, h2]
  have key : (Op.equalIn 10000 43 a.val b.val).run Try.prog w = .ok (a.eqB b) w := by
    have u3 := Try.underlying3
    have a3 := Try.isAgg3
    have z3 := Try.sizeOf3
    have u8 := Try.underlying32
    have a8 := Try.isAgg32
    have z8 := Try.sizeOf32
    have asp := Try.isAgg34
    have zsp := Try.sizeOf34
    rw [show (10000 : Nat) = 9999 + 1 from rfl, run_equalIn_agg w 9999 43 _ _ hS hp]
    simp only [Program.fieldsOf, Try.underlying43]
    have e := fun (k : IntKind) (x y : Int) (t : Nat) (hu : Try.prog.underlying t = some (.int k)) => run_equalIn_int (P := Try.prog) w 9998 t k k x y hu
    refine (eqF_cons (by simp) (by go_simp; rfl) (by go_simp; rfl) (e .i64 _ _ _ u3) <| eqF_cons (a := .agg #[I a.lo, I a.hi]) (b := .agg #[I b.lo, I b.hi]) (by simp) (by go_simp) (by go_simp) (key2 _ _ _ _) <|
      eqF_cons (by simp) (by go_simp; rfl) (by go_simp; rfl) (e .i8 _ _ _ u8) eqF_nil).trans ?_
    rw [Bool.and_true]
    rfl
  rw [Sem.run_bind, run_eqGuard_agg w _ _ _ _ _ _ hg]
  rcases hop with rfl | rfl
  · simp only [Result.andThen_ok, run_eql_struct, key]; rfl
  · simp only [Result.andThen_ok, run_neq_struct, key]; rfl

def inH (h : Hold) (l : List Hold) : Bool := l.any fun x => h.eqB x

theorem idxH_c (V : Vw) (sv : Value) (l : List Hold) (x : Hold) (w : World) (hV : V.le (vw w)) (hs0 : SlOf V Hold.cells 4 sv l) (hn : l.length ≤ lim) :
    Calls Try.prog 116 #[sv, x.val] w fun e w' => e = .returned (I (idxOf (fun y => x.eqB y) l)) ∧ Below w.heap.size w w' := by
  unfold lim at hn
  have hs := hs0.mono hV
  refine enter (E := E0) (O := []) (nl := 0) (V := vw w) [.a (.v sv), .a (.v x.val)] Try.func116 rfl rfl (mem0 E0 0 w) rfl rfl ?_
  refine c_seq ?_
  refine c_region ?_
  refine o_new tok rfl rfl rfl rfl ?_
  refine o_yield rfl rfl rfl (y_val tok rfl) ?_
  refine o_end [0, 3] rfl ?_
  refine x_then ?_
  refine c_seq ?_
  refine c_seq ?_
  refine c_region ?_
  refine o_yield rfl rfl rfl (y_val tok rfl) ?_
  refine o_yield rfl rfl rfl (y_len tok rfl (fun hg => hs.sl)) ?_
  refine o_yield rfl rfl rfl (y_val tok rfl) ?_
  refine o_end [0, 3, 7, 8] rfl ?_
  refine x_then ?_
  refine c_block ?_
  refine c_loopK [0, 3, 7] [] rfl rfl (σ := Nat) (fun k => [(8, .a (.v (I k)))]) (fun k => []) (fun k => k ≤ l.length ∧ ∀ (j : Nat) (y : Hold), j < k → l[j]? = some y → x.eqB y = false) (fun k => l.length - k) (0) (⟨by omega, by simp⟩) (by repeat (first | exact SubF.nil | refine SubF.cons rfl ?_)) (by repeat (first | exact SubO.nil | refine SubO.cons rfl ?_)) rfl ?_
  rintro k ⟨hk, hall⟩
  refine c_seq ?_
  refine c_region ?_
  refine o_yield rfl rfl rfl (y_val tok rfl) ?_
  refine o_end [0, 3, 7, 8, 9] rfl ?_
  refine x_then ?_
  refine c_seq ?_
  refine c_cond rfl (fun h => ?_) (fun h => ?_)
  ·
    simp only [Bool.and_eq_true, Bool.or_eq_true, Bool.not_eq_true', Bool.or_eq_false_iff, Bool.and_eq_false_iff, decide_eq_true_eq, decide_eq_false_iff_not, beq_iff_eq, bne_iff_ne, Bool.not_eq_false', beq_eq_false_iff_ne, bne_eq_false_iff_eq, ne_eq, Decidable.not_not, Int.not_lt, Int.not_le] at h
    refine c_skip ?_
    refine x_then ?_
    refine c_seq ?_
    refine c_block ?_
    refine c_seq ?_
    refine c_region ?_
    refine o_yield rfl rfl rfl (y_val tok rfl) ?_
    refine o_yield rfl rfl rfl (y_val tok rfl) ?_
    refine o_end [0, 3, 5, 7, 8] rfl ?_
    refine x_then ?_
    refine c_seq ?_
    refine c_draw mixed (by kernel_rfl) ?_
    refine d_yield rfl rfl rfl (y_val tok rfl) rfl ?_
    refine d_yield rfl rfl rfl (y_val tok rfl) rfl ?_
    refine d_yield rfl rfl rfl (y_val tok rfl) rfl ?_
    obtain ⟨y, h_y⟩ := hs.at (k := k) (by omega)
    have hlt_y := lt_of_at h_y
    refine d_yield rfl rfl rfl (y_idx tok rfl (fun hg => hs.sl) (fun hg => ⟨by omega, by omega⟩)) rfl ?_
    refine d_yield rfl rfl rfl (y_lel tok (k) 0 (y) rfl (fun hg => hs) (fun hg => h_y) rfl rfl) rfl ?_
    refine d_yield rfl rfl rfl (y_seq (.bool (x.eqB y)) rfl (fun E w => holdEq x y w (.inl rfl))) rfl ?_
    refine d_end [0, 3, 5, 7, 8, 16] rfl ?_
    refine x_then ?_
    refine c_cond rfl (fun h => ?_) (fun h => ?_)
    ·
      refine c_seq ?_
      refine c_region ?_
      refine o_yield rfl rfl rfl (y_val tok rfl) ?_
      refine o_yield rfl rfl rfl (y_val tok rfl) ?_
      refine o_end [4] rfl ?_
      refine x_then ?_
      refine c_ret ?_
      refine x_block_ret ?_
      refine x_then_ret ?_
      refine x_then_ret ?_
      refine x_block_ret ?_
      refine x_then_ret ?_
      refine b_ret tok rfl ?_
      intro E w' hm _
      refine ⟨?_, hm.below (Vw.le.refl _)⟩
      rw [idxOf, findIdx?_at h_y h hall]; rfl
    ·
      refine c_skip ?_
      refine x_block ?_
      refine x_then ?_
      refine c_region ?_
      refine o_yield rfl rfl rfl (y_val tok rfl) ?_
      refine o_yield rfl rfl rfl (y_val tok rfl) ?_
      refine o_end [0, 3, 7, 8] rfl ?_
      refine x_then ?_
      rw [wrapI (n := (k : Int) + 1) (by omega) (by omega)]
      refine x_round (k + 1) (⟨by omega, ahead_succ h_y hall h⟩) (by first | omega | (dsimp only; omega)) (by repeat (first | exact SubF.nil | refine SubF.cons rfl ?_)) (by repeat (first | exact SubO.nil | refine SubO.cons rfl ?_)) rfl (Vw.le.refl _)
  ·
    simp only [Bool.and_eq_true, Bool.or_eq_true, Bool.not_eq_true', Bool.or_eq_false_iff, Bool.and_eq_false_iff, decide_eq_true_eq, decide_eq_false_iff_not, beq_iff_eq, bne_iff_ne, Bool.not_eq_false', beq_eq_false_iff_ne, bne_eq_false_iff_eq, ne_eq, Decidable.not_not, Int.not_lt, Int.not_le] at h
    refine c_exit ?_
    refine x_then_exit ?_
    refine x_then_exit ?_
    refine x_block_hit ?_
    refine x_then ?_
    refine c_seq ?_
    refine c_region ?_
    refine o_yield rfl rfl rfl (y_val tok rfl) ?_
    refine o_end [4] rfl ?_
    refine x_then ?_
    refine c_ret ?_
    refine b_ret tok rfl ?_
    have hge : k = l.length := by omega
    intro E w' hm _
    refine ⟨?_, hm.below (Vw.le.refl _)⟩
    rw [idxOf, findIdx?_no (hge ▸ hall)]; rfl

theorem conH_c (V : Vw) (sv : Value) (l : List Hold) (x : Hold) (w : World) (hV : V.le (vw w)) (hs0 : SlOf V Hold.cells 4 sv l) (hn : l.length ≤ lim) :
    Calls Try.prog 70 #[sv, x.val] w fun e w' => e = .returned (.bool (inH x l)) ∧ Below w.heap.size w w' := by
  refine enter (E := E0) (O := []) (nl := 0) (V := vw w) [.a (.v sv), .a (.v x.val)] Try.func70 rfl rfl (mem0 E0 0 w) rfl rfl ?_
  refine c_seq ?_
  refine c_region ?_
  refine o_new tok rfl rfl rfl rfl ?_
  refine o_yield rfl rfl rfl (y_val tok rfl) ?_
  refine o_end [0, 3] rfl ?_
  refine x_then ?_
  refine c_seq ?_
  refine c_region ?_
  refine o_yield rfl rfl rfl (y_val tok rfl) ?_
  refine o_yield rfl rfl rfl (y_val tok rfl) ?_
  refine o_call (.a (.v _)) rfl rfl fnok116 rfl rfl rfl (fun hg E w1 hm => by exact idxH_c V sv l x _ (hV.trans hm.leV) hs0 hn) ?_
  refine o_yield rfl rfl rfl (y_val tok rfl) ?_
  refine o_yield rfl rfl rfl (y_val tok rfl) ?_
  refine o_end [4] rfl ?_
  refine x_then ?_
  refine c_ret ?_
  refine b_ret tok rfl ?_
  intro E w' hm _
  refine ⟨?_, hm.below (Vw.le.refl _)⟩
  rw [inH, ← idx_any]; rfl
end Go.Proofs.Ytiapfhcimekdkaa

/- Locks: what a key has, waits for, is told. -/
set_option linter.unusedVariables false
set_option linter.unusedSimpArgs false
set_option maxRecDepth 100000
namespace Go.Proofs.Ytiapfhcimekdkaa
open Go Go.Eng Go.RowKit

theorem see_c (v1 v2 v3 : Value) (a n c a2 n2 c2 a3 n3 c3) (h1 : v1 = .slice a n c) (h2 : v2 = .slice a2 n2 c2) (h3 : v3 = .slice a3 n3 c3) (key serial : Int) (w : World) :
    Calls Try.prog 71 #[.agg #[v1, v2, v3], I key, I serial] w fun e w' => e = .returned (.agg #[I key, I serial, v1, v2, v3]) ∧ Below w.heap.size w w' := by
  subst h1 h2 h3
  refine enter (E := E0) (O := []) (nl := 0) (V := vw w) [.a (.v (.agg #[.slice a n c, .slice a2 n2 c2, .slice a3 n3 c3])), .a (.v (I key)), .a (.v (I serial))] Try.func71 rfl rfl (mem0 E0 0 w) rfl rfl ?_
  refine c_seq ?_
  refine c_region ?_
  refine o_new tok rfl rfl rfl rfl ?_
  refine o_new tok rfl rfl rfl rfl ?_
  refine o_end [1, 2, 3, 6] rfl ?_
  refine x_then ?_
  refine c_seq ?_
  refine c_region ?_
  refine o_yield rfl rfl rfl (y_val tok rfl) ?_
  refine o_yield rfl rfl rfl (y_val tok rfl) ?_
  refine o_yield rfl rfl rfl (y_val tok rfl) ?_
  refine o_yield rfl rfl rfl (y_val tok rfl) ?_
  refine o_yield rfl rfl rfl (y_val tok rfl) ?_
  refine o_store tok rfl rfl rfl (by first | exact ⟨trivial, trivial⟩ | (repeat' first | exact trivial | exact rfl | apply And.intro); done | simp [onesP, oneP, lk, Value.oneCell']) ?_
  refine o_end [6] rfl ?_
  refine x_then ?_
  refine c_ret ?_
  refine b_ret tok rfl ?_
  intro E w' hm _
  refine ⟨?_, hm.below (Vw.le.refl _)⟩
  rfl

def hasF (key : Int) (all : Bool) (gs : List Span) (h : Hold) : Bool := ((h.key == key) && !all) && !spIn gs h.lo h.hi

theorem hasFn_c (x : Hold) (key : Int) (all : Bool) (gv v1 v2 v3 : Value) (gs : List Span) (b1 b2 b3 : Nat) (V : Vw) (h1 : V.get b1 = some (.cells [I key, I 0, v1, v2, v3].toArray 102 (0, 0))) (h2 : V.get b2 = some (.cells [.bool all].toArray 4 (0, 0)))
    (h3 : V.get b3 = some (.cells [gv].toArray 50 (0, 0))) (hs : SlOf V Span.cells 2 gv gs) (hn : gs.length ≤ lim) (w : World) (hV : V.le (vw w)) :
    Calls Try.prog 73 #[x.val, .pointer (some ⟨b1, 0, none⟩), .pointer (some ⟨b2, 0, none⟩), .pointer (some ⟨b3, 0, none⟩)] w fun e w' => e = .returned (.bool (hasF key all gs x)) ∧ Below w.heap.size w w' := by
  obtain ⟨a, n, c, rfl⟩ := sl_shape hs.sl
  refine enter (E := E0) (O := []) (nl := 0) (V := vw w) [.a (.v x.val), .a (.v (.pointer (some ⟨b1, 0, none⟩))), .a (.v (.pointer (some ⟨b2, 0, none⟩))), .a (.v (.pointer (some ⟨b3, 0, none⟩)))] Try.func73 rfl rfl (mem0 E0 0 w) rfl rfl ?_
  refine c_seq ?_
  refine c_region ?_
  refine o_new tok rfl rfl rfl rfl ?_
  refine o_yield rfl rfl rfl (y_val tok rfl) ?_
  refine o_end [1, 2, 3, 4] rfl ?_
  refine x_then ?_
  refine c_seq ?_
  refine c_region ?_
  refine o_yield rfl rfl rfl (y_val tok rfl) ?_
  refine o_yield rfl rfl rfl (y_ldp (cs := [I key, I 0, v1, v2, v3]) tok rfl (fun hg => hV.get _ _ h1) rfl) ?_
  refine o_yield rfl rfl rfl (y_val tok rfl) ?_
  refine o_call (.a (.v _)) rfl rfl fnok74 rfl rfl rfl (fun hg E w1 hm => by exact ohas_c key 0 x _) ?_
  refine o_yield rfl rfl rfl (y_val tok rfl) ?_
  refine o_yield rfl rfl rfl (y_ldp (cs := [.bool all]) tok rfl (fun hg => hV.get _ _ h2) rfl) ?_
  refine o_yield rfl rfl rfl (y_val tok rfl) ?_
  refine o_yield rfl rfl rfl (y_val tok rfl) ?_
  refine o_yield rfl rfl rfl (y_val tok rfl) ?_
  refine o_yield rfl rfl rfl (y_ldp (cs := [.slice a n c]) tok rfl (fun hg => hV.get _ _ h3) rfl) ?_
  refine o_yield rfl rfl rfl (y_val tok rfl) ?_
  refine o_yield rfl rfl rfl (y_val tok rfl) ?_
  refine o_call (.a (.v _)) rfl rfl fnok75 rfl rfl rfl (fun hg E w1 hm => by exact conSp_c V _ gs x.lo x.hi _ (hV.trans hm.leV) hs hn) ?_
  refine o_yield rfl rfl rfl (y_val tok rfl) ?_
  refine o_yield rfl rfl rfl (y_val tok rfl) ?_
  refine o_yield rfl rfl rfl (y_val tok rfl) ?_
  refine o_end [5] rfl ?_
  refine x_then ?_
  refine c_ret ?_
  refine b_ret tok rfl ?_
  intro E w' hm _
  refine ⟨?_, hm.below (Vw.le.refl _)⟩
  rfl

def hasL (key : Int) (all : Bool) (gs : List Span) (H : List Hold) : List Hold := H.filter (hasF key all gs)

theorem lkHas_c (V : Vw) (tv gv : Value) (t : Tb) (key : Int) (all : Bool) (gs : List Span) (w : World) (ht : t.Fit) (hV : V.le (vw w)) (h : TbIs V tv t) (hg : SlOf V Span.cells 2 gv gs) (hn : gs.length ≤ lim) :
    Calls Try.prog 25 #[tv, I key, .bool all, gv] w (HRow (hasL key all gs t.H) w) := by
  obtain ⟨a, n, c, a2, n2, c2, a3, n3, c3, rfl, h1, h2, h3⟩ := h
  obtain ⟨a4, n4, c4, rfl⟩ := sl_shape hg.sl
  have hh := ht.h
  refine enter (E := E0) (O := []) (nl := 0) (V := vw w) [.a (.v (.agg #[.slice a n c, .slice a2 n2 c2, .slice a3 n3 c3])), .a (.v (I key)), .a (.v (.bool all)), .a (.v (.slice a4 n4 c4))] Try.func25 rfl rfl (mem0 E0 0 w) rfl rfl ?_
  refine c_seq ?_
  refine c_region ?_
  refine o_new tok rfl rfl rfl rfl ?_
  refine o_new tok rfl rfl rfl rfl ?_
  refine o_new tok rfl rfl rfl rfl ?_
  refine o_yield rfl rfl rfl (y_val tok rfl) ?_
  refine o_end [1, 4, 6, 7] rfl ?_
  refine x_then ?_
  refine c_seq ?_
  refine c_region ?_
  refine o_yield rfl rfl rfl (y_val tok rfl) ?_
  refine o_yield rfl rfl rfl (y_val tok rfl) ?_
  refine o_call (.agg [.v (I key), .v (I 0), .v (.slice a n c), .v (.slice a2 n2 c2), .v (.slice a3 n3 c3)]) rfl rfl fnok71 rfl rfl rfl (fun hg E w1 hm => by exact see_c _ _ _ _ _ _ _ _ _ _ _ _ rfl rfl rfl key 0 _) ?_
  refine o_new tok rfl rfl rfl rfl ?_
  refine o_store tok rfl rfl rfl (by first | exact ⟨trivial, trivial⟩ | (repeat' first | exact trivial | exact rfl | apply And.intro); done | simp [onesP, oneP, lk, Value.oneCell']) ?_
  refine o_end [4, 6, 7, 9] rfl ?_
  refine x_then ?_
  refine c_seq ?_
  refine c_region ?_
  refine o_yield rfl rfl rfl (y_val tok rfl) ?_
  refine o_yield rfl rfl rfl (y_val tok rfl) ?_
  refine o_yield rfl rfl rfl (y_val tok rfl) ?_
  refine o_step rfl rfl rfl rfl rfl (s_callRow 43 4 (hasL key all gs t.H).length ((hasL key all gs t.H).flatMap Hold.cells) rfl fnok72 (fun E w1 hm => choose_c (vw w1) _ _ (hasF key all gs) t.H w1 (Vw.le.refl _) (h2.mono (hV.trans hm.leV)) (by omega) (fun x w' hle => CallsFn.b ⟨73, _, rfl, fnok73, hasFn_c x key all _ _ _ _ gs _ _ _ (vw w1) (hm.lit 3 _ _ rfl) (hm.lit 1 _ _ rfl) (hm.lit 2 _ _ rfl) (hg.mono (hV.trans hm.leV)) hn w' hle⟩))) (fun _ _ => ?_)
  refine o_yield rfl rfl rfl (y_val tok rfl) ?_
  refine o_end [8] rfl ?_
  refine x_then ?_
  refine c_ret ?_
  refine b_ret tok rfl ?_
  intro E' w' hm _
  exact ⟨_, rfl, hm.rowFresh (Vw.le.refl _) (l := 4) rfl, hm.below (Vw.le.refl _)⟩

def waitsL (key : Int) (Q : List Hold) : List Hold := Q.filter fun h => h.key == key

theorem lkWaits_c (V : Vw) (tv : Value) (t : Tb) (key : Int) (w : World) (ht : t.Fit) (hV : V.le (vw w)) (h : TbIs V tv t) :
    Calls Try.prog 27 #[tv, I key] w (HRow (waitsL key t.Q) w) := by
  obtain ⟨a, n, c, a2, n2, c2, a3, n3, c3, rfl, h1, h2, h3⟩ := h
  have hq := ht.q
  refine enter (E := E0) (O := []) (nl := 0) (V := vw w) [.a (.v (.agg #[.slice a n c, .slice a2 n2 c2, .slice a3 n3 c3])), .a (.v (I key))] Try.func27 rfl rfl (mem0 E0 0 w) rfl rfl ?_
  refine c_seq ?_
  refine c_region ?_
  refine o_new tok rfl rfl rfl rfl ?_
  refine o_yield rfl rfl rfl (y_val tok rfl) ?_
  refine o_end [1, 2] rfl ?_
  refine x_then ?_
  refine c_seq ?_
  refine c_heldR mixed rfl (by repeat (first | exact SubO.nil | refine SubO.cons rfl ?_)) (by first | rfl | simp [okCels, allOk_plain]) ?_
  refine t_take 0 rfl (by kernel_rfl) rfl rfl rfl (y_val tok rfl) rfl ?_
  refine t_take 1 rfl (by kernel_rfl) rfl rfl rfl (y_val tok rfl) rfl ?_
  refine t_take 2 rfl (by kernel_rfl) rfl rfl rfl (y_val tok rfl) rfl ?_
  refine t_take 3 rfl (by kernel_rfl) rfl rfl rfl (y_val tok rfl) rfl ?_
  refine t_go ?_
  refine h_one 4 (by kernel_rfl) ?_
  refine h_call 4 (.agg [.v (I key), .v (I 0), .v (.slice a n c), .v (.slice a2 n2 c2), .v (.slice a3 n3 c3)]) rfl rfl rfl fnok71 rfl rfl rfl (fun hg E w1 hm => by exact see_c _ _ _ _ _ _ _ _ _ _ _ _ rfl rfl rfl key 0 _) ?_
  refine h_one 5 (by kernel_rfl) ?_
  refine h_yield 5 rfl rfl rfl rfl (y_val tok rfl) ?_
  refine h_one 6 (by kernel_rfl) ?_
  refine h_yield 6 rfl rfl rfl rfl (y_mkb rfl) ?_
  refine h_one 7 (by kernel_rfl) ?_
  refine h_to 7 rfl rfl rfl rfl rfl rfl (s_callRow 43 4 (waitsL key t.Q).length ((waitsL key t.Q).flatMap Hold.cells) rfl fnok72 (fun E w1 hm => choose_c V _ _ (fun h => h.key == key) t.Q w1 (hV.trans hm.leV) h3 (by omega) (fun x w' hle => ⟨74, #[.agg #[I key, I 0]], #[], rfl, fnok74, ohas_c key 0 x w'⟩))) (.inr fun _ _ => ⟨(by repeat (first | exact SubO.nil | refine SubO.cons rfl ?_)), rfl, (by first | exact Vw.le.refl _ | assumption)⟩) (fun _ _ => ?_)
  refine h_one 8 (by kernel_rfl) ?_
  refine h_yield 8 rfl rfl rfl rfl (y_val tok rfl) ?_
  refine h_done [4] (by kernel_rfl) rfl ?_
  refine x_then ?_
  refine c_ret ?_
  refine b_ret tok rfl ?_
  intro E' w' hm _
  exact ⟨_, rfl, hm.rowFresh (Vw.le.refl _) (l := 1) rfl, hm.below (Vw.le.refl _)⟩

theorem lkTold_c (V : Vw) (tv : Value) (t : Tb) (key lo hi mode : Int) (w : World) (ht : t.Fit) (hV : V.le (vw w)) (h : TbIs V tv t) :
    Calls Try.prog 22 #[tv, I key, .agg #[I lo, I hi], I8 mode] w fun e w' => e = .returned (.tuple #[.bool (inH ⟨key, lo, hi, mode⟩ t.H), .bool (inH ⟨key, lo, hi, mode⟩ t.Q)]) ∧ Below w.heap.size w w' := by
  obtain ⟨a, n, c, a2, n2, c2, a3, n3, c3, rfl, h1, h2, h3⟩ := h
  have hh := ht.h
  have hq := ht.q
  have hlim : lim = 4398046511104 := rfl
  refine enter (E := E0) (O := []) (nl := 0) (V := vw w) [.a (.v (.agg #[.slice a n c, .slice a2 n2 c2, .slice a3 n3 c3])), .a (.v (I key)), .a (.v (.agg #[I lo, I hi])), .a (.v (I8 mode))] Try.func22 rfl rfl (mem0 E0 0 w) rfl rfl ?_
  refine c_seq ?_
  refine c_region ?_
  refine o_new tok rfl rfl rfl rfl ?_
  refine o_new tok rfl rfl rfl rfl ?_
  refine o_yield rfl rfl rfl (y_val tok rfl) ?_
  refine o_yield rfl rfl rfl (y_val tok rfl) ?_
  refine o_end [1, 3, 4, 6] rfl ?_
  refine x_then ?_
  refine c_seq ?_
  refine c_region ?_
  refine o_yield rfl rfl rfl (y_val tok rfl) ?_
  refine o_yield rfl rfl rfl (y_val tok rfl) ?_
  refine o_yield rfl rfl rfl (y_val tok rfl) ?_
  refine o_yield rfl rfl rfl (y_val tok rfl) ?_
  refine o_new tok rfl rfl rfl rfl ?_
  refine o_store tok rfl rfl rfl (by first | exact ⟨trivial, trivial⟩ | (repeat' first | exact trivial | exact rfl | apply And.intro); done | simp [onesP, oneP, lk, Value.oneCell']) ?_
  refine o_end [4, 10] rfl ?_
  refine x_then ?_
  refine c_seq ?_
  refine c_draw mixed (by kernel_rfl) ?_
  refine d_yield rfl rfl rfl (y_val tok rfl) rfl ?_
  refine d_yield rfl rfl rfl (y_val tok rfl) rfl ?_
  refine d_yield rfl rfl rfl (y_val tok rfl) rfl ?_
  refine d_call (.a (.v _)) rfl rfl fnok70 rfl rfl rfl (fun hg E w1 hm => by exact conH_c V _ t.H ⟨key, lo, hi, mode⟩ _ (hV.trans hm.leV) h2 (by omega)) ?_
  refine d_yield rfl rfl rfl (y_val tok rfl) rfl ?_
  refine d_yield rfl rfl rfl (y_val tok rfl) rfl ?_
  refine d_yield rfl rfl rfl (y_val tok rfl) rfl ?_
  refine d_call (.a (.v _)) rfl rfl fnok70 rfl rfl rfl (fun hg E w1 hm => by exact conH_c V _ t.Q ⟨key, lo, hi, mode⟩ _ (hV.trans hm.leV) h3 (by omega)) ?_
  refine d_yield rfl rfl rfl (y_val tok rfl) rfl ?_
  refine d_yield rfl rfl rfl (y_val tok rfl) rfl ?_
  refine d_end [8, 9] rfl ?_
  refine x_then ?_
  refine c_ret ?_
  refine b_ret tok rfl ?_
  intro E w' hm _
  refine ⟨?_, hm.below (Vw.le.refl _)⟩
  rfl
end Go.Proofs.Ytiapfhcimekdkaa

/- Locks: who waits for what a key has, what is wanted of it. -/
set_option linter.unusedVariables false
set_option linter.unusedSimpArgs false
set_option maxRecDepth 100000
namespace Go.Proofs.Ytiapfhcimekdkaa
open Go Go.Eng Go.RowKit

/-- The queue parted by a condition that looks at the book itself. -/
theorem removeQ2_c (g : Geo) (t : Tb) (ht : t.Fit) (pr : Hold → Bool) (sv : Value) (f : Nat) (caps : Array Value) (E : Env) (V : Vw) (w : World) (hm0 : Mem E (tbO g t) 4 V w) (hs : SlOf V encF 1 sv [.func (.func f) #[] caps])
    (hf : ∀ (W : Vw) s1 s2 s3, V.le W → W.get (E.ρ 0) = some (.cells (bkC s1 s2 s3 g).toArray 91 (0, 0)) → SlOf W Hold.cells 4 s2 t.H → Tells W (.func (.func f) #[] caps) pr) :
    Calls Try.prog 118 #[.pointer (some ⟨E.ρ 0, 0, none⟩), .pointer (some ⟨E.ρ 0, 2, none⟩), sv] w (TbLeft E g ⟨t.S, t.H, t.Q.filter fun h => !pr h⟩ V w) := by
  obtain ⟨sa, sn, sc, rfl⟩ := sl_shape hs.sl
  have hl := ht.q
  have hm1 := bookPin hm0
  refine enter [.a (.ptr 0 0), .a (.ptr 0 2), .a (.v (.slice sa sn sc))] Try.func118 rfl rfl (hm1) rfl rfl ?_
  refine c_seq ?_
  refine c_region ?_
  refine o_new tok rfl rfl rfl rfl ?_
  refine o_yield rfl rfl rfl (y_val tok rfl) ?_
  refine o_end [1, 5] rfl ?_
  refine x_then ?_
  refine c_seq ?_
  refine c_region ?_
  refine o_yield rfl rfl rfl (y_val tok rfl) ?_
  refine o_yield rfl rfl rfl (y_val tok rfl) ?_
  refine o_yield rfl rfl rfl (y_val tok rfl) ?_
  refine o_yield rfl rfl rfl (y_own (s := .a (.v (I t.Q.length))) 3 rfl rfl (fun v V' hv => y_len tok rfl (fun hg => hv))) ?_
  refine o_yield rfl rfl rfl (y_val tok rfl) ?_
  refine o_end [1, 5, 7] rfl ?_
  refine x_then ?_
  refine c_seq ?_
  refine c_region ?_
  refine o_yield rfl rfl rfl (y_val tok rfl) ?_
  refine o_yield rfl rfl rfl (y_val tok rfl) ?_
  refine o_yield rfl rfl rfl (y_val tok rfl) ?_
  refine o_yield rfl rfl rfl (y_val tok rfl) ?_
  refine o_yield rfl rfl rfl (y_val tok rfl) ?_
  refine o_step rfl rfl rfl rfl rfl (s_rowFn 43 4 (t.Q.filter fun h => !pr h).length ((t.Q.filter fun h => !pr h).flatMap Hold.cells) rfl fnok141 rfl (fun E1 w1 hm => delFunc_c _ _ pr t.Q w1 (hm.row 3 _ _ _ _ rfl) (by omega) (fun x w2 hle => ⟨142, _, rfl, fnok142, condAll_c _ x _ f caps pr _ (hm.litRow rfl (q := 6) rfl) (hs.mono (hm.leRow (l := 3) rfl)) (hf _ (E1.κ 1) (E1.κ 2) (E1.κ 3) (hm.leRow (l := 3) rfl) (by rw [← (hm.pin 4 0 _ rfl).1]; exact hm.litRow (l := 3) rfl (q := 0) rfl) (hm.rowSeen (l := 3) rfl (q := 2) rfl (by decide) (fun _ => rfl))) w2 hle⟩))) (fun _ _ => ?_)
  refine o_yield rfl rfl rfl (y_val tok rfl) ?_
  refine o_store tok rfl rfl rfl (by first | exact ⟨trivial, trivial⟩ | (repeat' first | exact trivial | exact rfl | apply And.intro); done | simp [onesP, oneP, lk, Value.oneCell']) ?_
  refine o_end [1, 7] rfl ?_
  refine x_then ?_
  refine c_seq ?_
  refine c_region ?_
  refine o_yield rfl rfl rfl (y_val tok rfl) ?_
  refine o_yield rfl rfl rfl (y_val tok rfl) ?_
  refine o_yield rfl rfl rfl (y_val tok rfl) ?_
  refine o_yield rfl rfl rfl (y_val tok rfl) ?_
  refine o_yield rfl rfl rfl (y_own (s := .a (.v (I (t.Q.filter fun h => !pr h).length))) 7 rfl rfl (fun v V' hv => y_len tok rfl (fun hg => hv))) ?_
  refine o_yield rfl rfl rfl (y_val tok rfl) ?_
  refine o_yield rfl rfl rfl (y_val tok rfl) ?_
  refine o_end [6] rfl ?_
  refine x_then ?_
  refine c_ret ?_
  refine b_ret tok rfl ?_
  intro E' w' hm _
  exact ⟨_, rfl, trivial, bookEnd hm (Vw.le.refl _) (a := 1) (b := 2) (c := 7) rfl rfl rfl rfl ⟨⟨by decide, by decide⟩, by decide⟩ rfl rfl⟩

theorem demFn1_c (x : Hold) (key : Int) (b : Nat) (V : Vw) (hb : V.get b = some (.cells [I key].toArray 3 (0, 0))) (w : World) (hV : V.le (vw w)) :
    Calls Try.prog 119 #[x.val, .pointer (some ⟨b, 0, none⟩)] w fun e w' => e = .returned (.bool (x.key != key)) ∧ Below w.heap.size w w' := by
  refine enter (E := E0) (O := []) (nl := 0) (V := vw w) [.a (.v x.val), .a (.v (.pointer (some ⟨b, 0, none⟩)))] Try.func119 rfl rfl (mem0 E0 0 w) rfl rfl ?_
  refine c_seq ?_
  refine c_region ?_
  refine o_new tok rfl rfl rfl rfl ?_
  refine o_yield rfl rfl rfl (y_val tok rfl) ?_
  refine o_end [1, 2] rfl ?_
  refine x_then ?_
  refine c_seq ?_
  refine c_region ?_
  refine o_yield rfl rfl rfl (y_val tok rfl) ?_
  refine o_yield rfl rfl rfl (y_val tok rfl) ?_
  refine o_yield rfl rfl rfl (y_ldp (cs := [I key]) tok rfl (fun hg => hV.get _ _ hb) rfl) ?_
  refine o_yield rfl rfl rfl (y_val tok rfl) ?_
  refine o_yield rfl rfl rfl (y_val tok rfl) ?_
  refine o_end [3] rfl ?_
  refine x_then ?_
  refine c_ret ?_
  refine b_ret tok rfl ?_
  intro E w' hm _
  refine ⟨?_, hm.below (Vw.le.refl _)⟩
  rfl

theorem demFn2_c (x : Hold) (g : Geo) (H : List Hold) (b5 b : Nat) (s1 s2 s3 : Value) (V : Vw) (h5 : V.get b5 = some (.cells [.pointer (some ⟨b, 0, none⟩)].toArray 88 (0, 0))) (hb : V.get b = some (.cells (bkC s1 s2 s3 g).toArray 91 (0, 0))) (hs : SlOf V Hold.cells 4 s2 H) (hn : H.length ≤ lim) (w : World) (hV : V.le (vw w)) :
    Calls Try.prog 120 #[x.val, .pointer (some ⟨b5, 0, none⟩)] w fun e w' => e = .returned (.bool (fits x H)) ∧ Below w.heap.size w w' := by
  obtain ⟨a, n, c, rfl⟩ := sl_shape hs.sl
  refine enter (E := E0) (O := []) (nl := 0) (V := vw w) [.a (.v x.val), .a (.v (.pointer (some ⟨b5, 0, none⟩)))] Try.func120 rfl rfl (mem0 E0 0 w) rfl rfl ?_
  refine c_seq ?_
  refine c_region ?_
  refine o_new tok rfl rfl rfl rfl ?_
  refine o_yield rfl rfl rfl (y_val tok rfl) ?_
  refine o_end [1, 2] rfl ?_
  refine x_then ?_
  refine c_seq ?_
  refine c_draw mixed (by kernel_rfl) ?_
  refine d_yield rfl rfl rfl (y_val tok rfl) rfl ?_
  refine d_yield rfl rfl rfl (y_ldp (cs := [.pointer (some ⟨b, 0, none⟩)]) tok rfl (fun hg => hV.get _ _ h5) rfl) rfl ?_
  refine d_yield rfl rfl rfl (y_val tok rfl) rfl ?_
  refine d_yield rfl rfl rfl (y_val tok rfl) rfl ?_
  refine d_yield rfl rfl rfl (y_val tok rfl) rfl ?_
  refine d_yield rfl rfl rfl (y_ldp (cs := bkC s1 (.slice a n c) s3 g) tok rfl (fun hg => hV.get _ _ hb) rfl) rfl ?_
  refine d_call (.a (.v _)) rfl rfl fnok77 rfl rfl rfl (fun hg E w1 hm => by exact spFits_c V x _ H _ (hV.trans hm.leV) hs hn) ?_
  refine d_yield rfl rfl rfl (y_val tok rfl) rfl ?_
  refine d_end [3] rfl ?_
  refine x_then ?_
  refine c_ret ?_
  refine b_ret tok rfl ?_
  intro E w' hm _
  refine ⟨?_, hm.below (Vw.le.refl _)⟩
  rfl

/-- Who waits for what a key has. -/
def demL (key : Int) (t : Tb) : List Hold := t.Q.filter fun h => !fits h (t.H.filter fun h => h.key == key)

theorem neneq (a b : Int) : (!(a != b)) = (a == b) := by simp [bne]

theorem tDemands_c (V : Vw) (tv : Value) (t : Tb) (key : Int) (w : World) (ht : t.Fit) (hV : V.le (vw w)) (h : TbIs V tv t) :
    Calls Try.prog 76 #[tv, I key] w (HRow (demL key t) w) := by
  obtain ⟨a, n, c, a2, n2, c2, a3, n3, c3, rfl, h1, h2, h3⟩ := id h
  have hh := ht.h
  have hlim : lim = 4398046511104 := rfl
  refine enter (E := E0) (O := []) (nl := 0) (V := vw w) [.a (.v (.agg #[.slice a n c, .slice a2 n2 c2, .slice a3 n3 c3])), .a (.v (I key))] Try.func76 rfl rfl (mem0 E0 0 w) rfl rfl ?_
  refine c_seq ?_
  refine c_region ?_
  refine o_new tok rfl rfl rfl rfl ?_
  refine o_new tok rfl rfl rfl rfl ?_
  refine o_yield rfl rfl rfl (y_val tok rfl) ?_
  refine o_end [2, 3] rfl ?_
  refine x_then ?_
  refine c_seq ?_
  refine c_region ?_
  refine o_yield rfl rfl rfl (y_val tok rfl) ?_
  refine o_yield rfl rfl rfl (y_val tok rfl) ?_
  refine o_step rfl rfl rfl rfl rfl (s_bookNew (e0 := 91) (gs := (⟨0, 0, 0, 0, 0, 0, 0, 0⟩ : Geo).cells) (R1 := slR t.S) (R2 := hoR t.H) (R3 := hoR t.Q) rfl fnok56 (fun E w1 hm => topen_c V ⟨0, 0, 0, 0, 0, 0, 0, 0⟩ _ t ht w1 (hV.trans hm.leV) h)) (fun _ _ => ?_)
  refine o_new tok rfl rfl rfl rfl ?_
  refine o_store tok rfl rfl rfl (by first | exact ⟨trivial, trivial⟩ | (repeat' first | exact trivial | exact rfl | apply And.intro); done | simp [onesP, oneP, lk, Value.oneCell']) ?_
  refine o_end [3, 5] rfl ?_
  refine x_then ?_
  refine c_seq ?_
  refine c_heldS [7] mixed rfl (by repeat (first | exact SubO.nil | refine SubO.cons rfl ?_)) (by first | rfl | simp [okCels, allOk_plain]) ?_
  refine t_takeD 0 rfl (by kernel_rfl) rfl rfl rfl (y_val tok rfl) rfl ?_
  refine t_takeD 1 rfl (by kernel_rfl) rfl rfl rfl (y_val tok rfl) rfl ?_
  refine t_takeD 2 rfl (by kernel_rfl) rfl rfl rfl (y_val tok rfl) rfl ?_
  refine t_takeD 3 rfl (by kernel_rfl) rfl rfl rfl (y_val tok rfl) rfl ?_
  refine t_takeD 4 rfl (by kernel_rfl) rfl rfl rfl (y_val tok rfl) rfl ?_
  refine t_takeD 5 rfl (by kernel_rfl) rfl rfl rfl (y_val tok rfl) rfl ?_
  refine t_go ?_
  refine h_one 6 (by kernel_rfl) ?_
  refine h_to 6 rfl rfl rfl rfl rfl rfl (s_bsA tok rfl) (.inr fun x hx => ⟨(by repeat (first | exact SubO.nil | refine SubO.cons rfl ?_)), rfl, (by first | exact Vw.le.refl _ | exact hx.1)⟩) (fun xa hxa => ?_)
  refine h_one 7 (by kernel_rfl) ?_
  refine h_to 7 rfl rfl rfl rfl rfl rfl (s_bookW (lo := 2) (a := 3) (b := 4) (c := 5) (fun _ => True) (slR t.S) (hoR (t.H.filter fun h => !(h.key != key))) (hoR t.Q) rfl fnok118 rfl rfl rfl rfl ⟨⟨by decide, by decide⟩, by decide⟩ (fun E w hm hin hle => removeH_c ⟨0, 0, 0, 0, 0, 0, 0, 0⟩ t ht (fun h => h.key != key) _ 119 #[.pointer (some ⟨E.ρ 1, 0, none⟩)] (bkE E 2 3 4 5) _ w hin (SlOf.ofBlock (enc := encF) (l := [.func (.func 119) #[] #[.pointer (some ⟨E.ρ 1, 0, none⟩)]]) (by rw [← (hm.pin 8 7 xa rfl).1]; exact hm.bkLit (a := 3) (b := 4) (c := 5) rfl rfl rfl rfl (q := 7) rfl ⟨⟨⟨by decide, by decide⟩, by decide⟩, by decide⟩) rfl (fun _ => rfl) (Nat.le_refl _)) (fun x w' hle => ⟨119, _, rfl, fnok119, demFn1_c x key _ _ (hm.bkLit (a := 3) (b := 4) (c := 5) rfl rfl rfl rfl (q := 1) rfl ⟨⟨⟨by decide, by decide⟩, by decide⟩, by decide⟩) w' hle⟩))) (.inl rfl) (fun _ _ => ?_)
  refine h_done [5] (by kernel_rfl) rfl ?_
  refine x_then ?_
  refine c_seq ?_
  refine c_heldS [7] mixed rfl (by repeat (first | exact SubO.nil | refine SubO.cons rfl ?_)) (by first | rfl | simp [okCels, allOk_plain]) ?_
  refine t_takeD 0 rfl (by kernel_rfl) rfl rfl rfl (y_val tok rfl) rfl ?_
  refine t_takeD 1 rfl (by kernel_rfl) rfl rfl rfl (y_val tok rfl) rfl ?_
  refine t_takeD 2 rfl (by kernel_rfl) rfl rfl rfl (y_val tok rfl) rfl ?_
  refine t_takeD 3 rfl (by kernel_rfl) rfl rfl rfl (y_val tok rfl) rfl ?_
  refine t_takeD 4 rfl (by kernel_rfl) rfl rfl rfl (y_val tok rfl) rfl ?_
  refine t_takeD 5 rfl (by kernel_rfl) rfl rfl rfl (y_val tok rfl) rfl ?_
  refine t_go ?_
  refine h_one 6 (by kernel_rfl) ?_
  simp only [neneq]
  have hd : demL key t = t.Q.filter fun h => !fits h (t.H.filter fun h => h.key == key) := rfl
  obtain ⟨H1, hH1⟩ : ∃ H1, H1 = t.H.filter fun h => h.key == key := ⟨_, rfl⟩
  have hH1l : H1.length ≤ t.H.length := by rw [hH1]; exact List.length_filter_le _ _
  rw [← hH1] at hd ⊢
  refine h_to 6 rfl rfl rfl rfl rfl rfl (s_bsA tok rfl) (.inr fun x hx => ⟨(by repeat (first | exact SubO.nil | refine SubO.cons rfl ?_)), rfl, (by first | exact Vw.le.refl _ | exact hx.1)⟩) (fun xb hxb => ?_)
  refine h_one 7 (by kernel_rfl) ?_
  refine h_to 7 rfl rfl rfl rfl rfl rfl (s_bookW (lo := 2) (a := 9) (b := 10) (c := 11) (fun _ => True) (slR t.S) (hoR H1) (hoR (t.Q.filter fun h => !fits h H1)) rfl fnok118 rfl rfl rfl rfl ⟨⟨by decide, by decide⟩, by decide⟩ (fun E w hm hin hle => removeQ2_c ⟨0, 0, 0, 0, 0, 0, 0, 0⟩ ⟨t.S, H1, t.Q⟩ ⟨ht.s, Nat.le_trans hH1l ht.h, ht.q⟩ (fun h => fits h H1) _ 120 #[.pointer (some ⟨E.ρ 6, 0, none⟩)] (bkE E 2 9 10 11) _ w hin (SlOf.ofBlock (enc := encF) (l := [.func (.func 120) #[] #[.pointer (some ⟨E.ρ 6, 0, none⟩)]]) (by rw [← (hm.pin 13 12 xb rfl).1]; exact hm.bkLit (a := 9) (b := 10) (c := 11) rfl rfl rfl rfl (q := 12) rfl ⟨⟨⟨by decide, by decide⟩, by decide⟩, by decide⟩) rfl (fun _ => rfl) (Nat.le_refl _)) (fun W s1 s2 s3 hW hg hsl x w' hle2 => ⟨120, _, rfl, fnok120, demFn2_c x ⟨0, 0, 0, 0, 0, 0, 0, 0⟩ H1 _ _ s1 s2 s3 W (hW.get _ _ (hm.bkLit (a := 9) (b := 10) (c := 11) rfl rfl rfl rfl (q := 6) rfl ⟨⟨⟨by decide, by decide⟩, by decide⟩, by decide⟩)) hg hsl (by omega) w' hle2⟩))) (.inl rfl) (fun _ _ => ?_)
  refine h_done [5] (by kernel_rfl) rfl ?_
  refine x_then ?_
  refine c_seq ?_
  refine c_region ?_
  refine o_yield rfl rfl rfl (y_val tok rfl) ?_
  refine o_yield rfl rfl rfl (y_val tok rfl) ?_
  refine o_yield rfl rfl rfl (y_val tok rfl) ?_
  refine o_yield rfl rfl rfl (y_val tok rfl) ?_
  refine o_yield rfl rfl rfl (y_val tok rfl) ?_
  refine o_yield rfl rfl rfl (y_val tok rfl) ?_
  refine o_end [4] rfl ?_
  refine x_then ?_
  refine c_ret ?_
  refine b_ret tok rfl ?_
  intro E' w' hm _
  rw [hd]
  exact ⟨_, rfl, hm.rowFresh (Vw.le.refl _) (l := 16) rfl, hm.below (Vw.le.refl _)⟩
end Go.Proofs.Ytiapfhcimekdkaa

/- Locks: what is wanted; the document's. -/
set_option linter.unusedVariables false
set_option linter.unusedSimpArgs false
set_option maxRecDepth 100000
namespace Go.Proofs.Ytiapfhcimekdkaa
open Go Go.Eng Go.RowKit

/-- What answers a row of spans of one's own. -/
def SRow (l : List Span) (w : World) (e : Ending) (w' : World) : Prop := ∃ v', e = .returned v' ∧ w'.ownsRow w.heap.size 34 2 v' l.length (l.flatMap Span.cells) ∧ Below w.heap.size w w'

def SOut (V : Vw) (l : List Span) (w : World) (e : Ending) (w' : World) : Prop := ∃ v V', e = .returned v ∧ Below w.heap.size w w' ∧ Vext w.heap.size V V' w' ∧ SlOf V' Span.cells 2 v l

theorem SRow.out {V : Vw} {l : List Span} {w : World} {e : Ending} {w' : World} (h : SRow l w e w') (hV : V.le (vw w)) : SOut V l w e w' := by
  obtain ⟨v, rfl, h1, h2⟩ := h
  exact ⟨v, _, rfl, h2, Vext.grown hV h2, SlOf.grown (enc := Span.cells) V h1 (fun _ => rfl)⟩

abbrev spOf (h : Hold) : Span := ⟨h.lo, h.hi⟩

theorem span_ones (l : List Span) : ∀ u ∈ l.flatMap Span.cells, u.oneCell' = true := by
  intro u hu
  obtain ⟨x, _, hx⟩ := List.mem_flatMap.1 hu
  simp only [Span.cells, List.mem_cons, List.not_mem_nil, or_false] at hx
  rcases hx with rfl | rfl <;> rfl

theorem span_snoc (L : List Span) (x : Span) : L.length + 1 = (L ++ [x]).length ∧ L.flatMap Span.cells ++ x.cells = (L ++ [x]).flatMap Span.cells := by simp

theorem smap_step {l : List Hold} {k : Nat} {x : Hold} (pr : Hold → Bool) (h : l[k]? = some x) : ((l.take (k + 1)).filter pr).map spOf = ((l.take k).filter pr).map spOf ++ (if pr x = true then [spOf x] else []) := by
  rw [filt_step pr h, List.map_append]
  cases hq : pr x <;> simp [hq]

theorem smap_len (l : List Hold) (k : Nat) (pr : Hold → Bool) : (((l.take k).filter pr).map spOf).length ≤ k := by rw [List.length_map]; exact filt_len l k pr

/-- What is wanted of a key. -/
def wantL (key : Int) (t : Tb) : List Span := ((hasL key false [] t.H).filter fun h => !fits h (demL key t)).map spOf

theorem lkWanted_c (V : Vw) (tv : Value) (t : Tb) (key : Int) (w : World) (ht : t.Fit) (hV : V.le (vw w)) (h : TbIs V tv t) :
    Calls Try.prog 30 #[tv, I key] w (SRow (wantL key t) w) := by
  obtain ⟨a, n, c, a2, n2, c2, a3, n3, c3, rfl, h1, h2, h3⟩ := id h
  have hh := ht.h
  have hq := ht.q
  have hlim : lim = 4398046511104 := rfl
  have hdl : (demL key t).length ≤ t.Q.length := List.length_filter_le _ _
  have hhl : (hasL key false [] t.H).length ≤ t.H.length := List.length_filter_le _ _
  have hwl : wantL key t = ((hasL key false [] t.H).filter fun h => !fits h (demL key t)).map spOf := rfl
  have hdem := fun w1 hw1 => tDemands_c V _ t key w1 ht hw1 h
  have hhas := fun w1 hw1 => lkHas_c V _ (.slice none 0 0) t key false [] w1 ht hw1 h (slNil V Span.cells 2 0 (fun _ => rfl)) (by simp)
  generalize demL key t = D at *
  generalize hasL key false [] t.H = L at *
  rw [hwl]
  refine enter (E := E0) (O := []) (nl := 0) (V := vw w) [.a (.v (.agg #[.slice a n c, .slice a2 n2 c2, .slice a3 n3 c3])), .a (.v (I key))] Try.func30 rfl rfl (mem0 E0 0 w) rfl rfl ?_
  refine c_seq ?_
  refine c_region ?_
  refine o_new tok rfl rfl rfl rfl ?_
  refine o_yield rfl rfl rfl (y_val tok rfl) ?_
  refine o_end [1, 2, 4] rfl ?_
  refine x_then ?_
  refine c_seq ?_
  refine c_region ?_
  refine o_yield rfl rfl rfl (y_val tok rfl) ?_
  refine o_yield rfl rfl rfl (y_val tok rfl) ?_
  refine o_step rfl rfl rfl rfl rfl (s_callRow 43 4 D.length (D.flatMap Hold.cells) rfl fnok76 (fun E w1 hm => hdem w1 (hV.trans hm.leV))) (fun _ _ => ?_)
  refine o_yield rfl rfl rfl (y_val tok rfl) ?_
  refine o_end [1, 2, 4, 5] rfl ?_
  refine x_then ?_
  refine c_seq ?_
  refine c_seq ?_
  refine c_region ?_
  refine o_yield rfl rfl rfl (y_val tok rfl) ?_
  refine o_yield rfl rfl rfl (y_val tok rfl) ?_
  refine o_step rfl rfl rfl rfl rfl (s_callRow 43 4 L.length (L.flatMap Hold.cells) rfl fnok25 (fun E w1 hm => hhas w1 (hV.trans hm.leV))) (fun _ _ => ?_)
  refine o_yield rfl rfl rfl (y_own (s := .a (.v (I L.length))) 2 rfl rfl (fun v V' hv => y_len tok rfl (fun hg => hv))) ?_
  refine o_yield rfl rfl rfl (y_val tok rfl) ?_
  refine o_end [4, 5, 13, 14, 15] rfl ?_
  refine x_then ?_
  refine c_block ?_
  refine k_nil 4 34 2 rfl rfl ?_
  refine c_loopK [5, 13, 14] [3] rfl rfl (σ := Nat) (fun k => [(4, .a (.row 3)), (15, .a (.v (I k)))]) (fun k => [(3, .row 34 2 (((L.take k).filter fun h => !fits h D).map spOf).length ((((L.take k).filter fun h => !fits h D).map spOf).flatMap Span.cells))]) (fun k => k ≤ L.length) (fun k => L.length - k) (0) (by omega) (by repeat (first | exact SubF.nil | refine SubF.cons rfl ?_)) (by repeat (first | exact SubO.nil | refine SubO.cons rfl ?_)) rfl ?_
  rintro k hk
  refine c_seq ?_
  refine c_region ?_
  refine o_yield rfl rfl rfl (y_val tok rfl) ?_
  refine o_end [4, 5, 13, 14, 15, 16] rfl ?_
  refine x_then ?_
  refine c_seq ?_
  refine c_cond rfl (fun h => ?_) (fun h => ?_)
  ·
    simp only [Bool.and_eq_true, Bool.or_eq_true, Bool.not_eq_true', Bool.or_eq_false_iff, Bool.and_eq_false_iff, decide_eq_true_eq, decide_eq_false_iff_not, beq_iff_eq, bne_iff_ne, Bool.not_eq_false', beq_eq_false_iff_ne, bne_eq_false_iff_eq, ne_eq, Decidable.not_not, Int.not_lt, Int.not_le] at h
    refine c_skip ?_
    refine x_then ?_
    refine c_seq ?_
    refine c_block ?_
    refine c_seq ?_
    refine c_region ?_
    obtain ⟨x, hx⟩ : ∃ x, L[k]? = some x := ⟨_, List.getElem?_eq_getElem (by omega)⟩
    have hwk : IntKind.i64.wrap ((k : Int) + 1) = ((k + 1 : Nat) : Int) := wrapI (by omega) (by omega)
    have hsl := smap_len L k (fun h => !fits h D)
    have hst := smap_step (fun h => !fits h D) hx
    refine o_yield rfl rfl rfl (y_own (s := .a (.rel 2 (k * 4))) 2 rfl rfl (fun v V' hv => y_idxK tok (k * 4) rfl (by simp) (fun hg => hv) (fun hg => by omega))) ?_
    refine o_yield rfl rfl rfl (y_own (s := .agg (x.cells.map .v)) 2 rfl rfl (fun v V' hv => y_lel (enc := Hold.cells) (l := L) tok k 0 x rfl (fun hg => ⟨hv, fun _ => rfl⟩) (fun hg => hx) rfl rfl)) ?_
    refine o_new tok rfl rfl rfl rfl ?_
    refine o_store tok rfl rfl rfl (by first | exact ⟨trivial, trivial⟩ | (repeat' first | exact trivial | exact rfl | apply And.intro); done | simp [onesP, oneP, lk, Value.oneCell']) ?_
    refine o_end [4, 5, 7, 13, 14, 15] rfl ?_
    refine x_then ?_
    refine c_seq ?_
    refine c_region ?_
    refine o_yield rfl rfl rfl (y_val tok rfl) ?_
    refine o_yield rfl rfl rfl (y_val tok rfl) ?_
    refine o_call (.a (.v _)) rfl rfl fnok77 rfl rfl rfl (fun hg E w1 hm => by exact spFits_c (vw w1) x (E.κ 1) D _ (Vw.le.refl _) (hm.rowOf 1 rfl (fun _ => rfl)) (by omega)) ?_
    refine o_yield rfl rfl rfl (y_val tok rfl) ?_
    refine o_end [4, 5, 7, 13, 14, 15, 22] rfl ?_
    refine x_then ?_
    refine c_cond rfl (fun h => ?_) (fun h => ?_)
    ·
      refine c_region ?_
      refine o_yield rfl rfl rfl (y_val tok rfl) ?_
      refine o_yield rfl rfl rfl (y_val tok rfl) ?_
      refine o_yield rfl rfl rfl (y_val tok rfl) ?_
      rw [if_pos h] at hst
      refine o_step rfl rfl rfl rfl rfl (s_bs tok 2 rfl rfl rfl) (fun _ _ => ?_)
      refine o_step rfl rfl rfl rfl rfl (s_app tok (spOf x).cells rfl (fun E w hm => ownsRow_src (hm.row _ _ _ _ _ rfl)) (fun _ _ _ => by simpa using span_ones [spOf x]) (by dsimp only; omega)) (fun _ _ => ?_)
      refine o_yield rfl rfl rfl (y_val tok rfl) ?_
      refine o_end [4, 5, 13, 14, 15] rfl ?_
      refine x_block ?_
      refine x_then ?_
      refine c_region ?_
      refine o_yield rfl rfl rfl (y_val tok rfl) ?_
      refine o_yield rfl rfl rfl (y_val tok rfl) ?_
      refine o_end [4, 5, 13, 14, 15] rfl ?_
      refine x_then ?_
      rw [(span_snoc _ (spOf x)).1, (span_snoc _ (spOf x)).2, ← hst, hwk]
      refine k_swap 3 6 rfl ?_
      refine x_round (k + 1) (by omega) (by first | omega | (dsimp only; omega)) (by repeat (first | exact SubF.nil | refine SubF.cons rfl ?_)) (by repeat (first | exact SubO.nil | refine SubO.cons rfl ?_)) rfl (Vw.le.refl _)
    ·
      refine c_skip ?_
      refine x_block ?_
      refine x_then ?_
      refine c_region ?_
      refine o_yield rfl rfl rfl (y_val tok rfl) ?_
      refine o_yield rfl rfl rfl (y_val tok rfl) ?_
      refine o_end [4, 5, 13, 14, 15] rfl ?_
      refine x_then ?_
      rw [if_neg (by rw [h]; simp), List.append_nil] at hst
      rw [← hst, hwk]
      refine x_round (k + 1) (by omega) (by first | omega | (dsimp only; omega)) (by repeat (first | exact SubF.nil | refine SubF.cons rfl ?_)) (by repeat (first | exact SubO.nil | refine SubO.cons rfl ?_)) rfl (Vw.le.refl _)
  ·
    simp only [Bool.and_eq_true, Bool.or_eq_true, Bool.not_eq_true', Bool.or_eq_false_iff, Bool.and_eq_false_iff, decide_eq_true_eq, decide_eq_false_iff_not, beq_iff_eq, bne_iff_ne, Bool.not_eq_false', beq_eq_false_iff_ne, bne_eq_false_iff_eq, ne_eq, Decidable.not_not, Int.not_lt, Int.not_le] at h
    have hkl : k = L.length := by omega
    subst hkl
    rw [List.take_length]
    clear h
    refine c_exit ?_
    refine x_then_exit ?_
    refine x_then_exit ?_
    refine x_block_hit ?_
    refine x_then ?_
    refine c_seq ?_
    refine c_region ?_
    refine o_yield rfl rfl rfl (y_val tok rfl) ?_
    refine o_yield rfl rfl rfl (y_val tok rfl) ?_
    refine o_end [4] rfl ?_
    refine x_then ?_
    refine c_ret ?_
    refine b_ret tok rfl ?_
    intro E' w' hm _
    exact ⟨_, rfl, hm.rowFresh (Vw.le.refl _) (l := 3) rfl, hm.below (Vw.le.refl _)⟩
end Go.Proofs.Ytiapfhcimekdkaa

/- Locks: the document's. -/
set_option linter.unusedVariables false
set_option linter.unusedSimpArgs false
set_option maxRecDepth 100000
namespace Go.Proofs.Ytiapfhcimekdkaa
open Go Go.Eng Go.RowKit

theorem spIn_comm (gs : List Span) (lo hi : Int) : (gs.any fun s => s.lo == lo && s.hi == hi) = spIn gs lo hi := by
  have h : (fun s : Span => s.lo == lo && s.hi == hi) = fun s => lo == s.lo && hi == s.hi := by
    funext s
    rw [show (s.lo == lo) = (lo == s.lo) by rw [Bool.eq_iff_iff]; simp; exact eq_comm, show (s.hi == hi) = (hi == s.hi) by rw [Bool.eq_iff_iff]; simp; exact eq_comm]
  rw [spIn, h]

theorem any_take {α : Type} {l : List α} {k : Nat} {x : α} (pr : α → Bool) (h : l[k]? = some x) : (l.take (k + 1)).any pr = ((l.take k).any pr || pr x) := by
  rw [take_succ_at' h, List.any_append]; simp

theorem hasF_all (key : Int) (gs : List Span) (l : List Hold) : l.filter (hasF key true gs) = [] := by
  rw [List.filter_eq_nil_iff]
  intro x _
  simp [hasF]

theorem rHas_c (V : Vw) (tv gv : Value) (t : Tb) (key : Int) (all : Bool) (gs : List Span) (w : World) (ht : t.Fit) (hV : V.le (vw w)) (h : TbIs V tv t) (hg0 : SlOf V Span.cells 2 gv gs) (hn : gs.length ≤ lim) :
    Calls Try.prog 26 #[tv, I key, .bool all, gv] w (HRow (hasL key all gs t.H) w) := by
  obtain ⟨a, n, c, a2, n2, c2, a3, n3, c3, rfl, h1, h2, h3⟩ := h
  obtain ⟨a4, n4, c4, rfl⟩ := sl_shape hg0.sl
  have hh := ht.h
  unfold lim at hn
  have hH := h2.mono hV
  have hG := hg0.mono hV
  refine enter (E := E0) (O := []) (nl := 0) (V := vw w) [.a (.v (.agg #[.slice a n c, .slice a2 n2 c2, .slice a3 n3 c3])), .a (.v (I key)), .a (.v (.bool all)), .a (.v (.slice a4 n4 c4))] Try.func26 rfl rfl (mem0 E0 0 w) rfl rfl ?_
  refine c_seq ?_
  refine c_region ?_
  refine o_new tok rfl rfl rfl rfl ?_
  refine o_yield rfl rfl rfl (y_val tok rfl) ?_
  refine o_end [1, 2, 3, 4] rfl ?_
  refine x_then ?_
  refine c_seq ?_
  refine c_region ?_
  refine o_yield rfl rfl rfl (y_val tok rfl) ?_
  refine o_end [1, 2, 3, 4, 9] rfl ?_
  refine x_then ?_
  refine c_seq ?_
  refine c_seq ?_
  refine c_region ?_
  refine o_yield rfl rfl rfl (y_val tok rfl) ?_
  refine o_end [1, 2, 3, 4, 9, 10] rfl ?_
  refine x_then ?_
  refine c_block ?_
  refine k_nil 9 43 4 rfl rfl ?_
  refine c_loopK [1, 2, 3, 4] [1] rfl rfl (σ := Nat) (fun i => [(9, .a (.row 1)), (10, .a (.v (I i)))]) (fun i => [(1, .row 43 4 ((t.H.take i).filter (hasF key all gs)).length (((t.H.take i).filter (hasF key all gs)).flatMap Hold.cells))]) (fun i => i ≤ t.H.length) (fun i => t.H.length - i) (0) (by omega) (by repeat (first | exact SubF.nil | refine SubF.cons rfl ?_)) (by repeat (first | exact SubO.nil | refine SubO.cons rfl ?_)) rfl ?_
  rintro i hi
  refine c_seq ?_
  refine c_seq ?_
  refine c_region ?_
  refine o_yield rfl rfl rfl (y_val tok rfl) ?_
  refine o_yield rfl rfl rfl (y_val tok rfl) ?_
  refine o_yield rfl rfl rfl (y_val tok rfl) ?_
  refine o_yield rfl rfl rfl (y_len tok rfl (fun hg => hH.sl)) ?_
  refine o_yield rfl rfl rfl (y_val tok rfl) ?_
  refine o_yield rfl rfl rfl (y_val tok rfl) ?_
  refine o_yield rfl rfl rfl (y_val tok rfl) ?_
  refine o_yield rfl rfl rfl (y_val tok rfl) ?_
  refine o_yield rfl rfl rfl (y_val tok rfl) ?_
  refine o_end [1, 2, 3, 4, 9, 10, 22] rfl ?_
  refine x_then ?_
  refine c_cond rfl (fun h => ?_) (fun h => ?_)
  ·
    simp only [Bool.and_eq_true, Bool.or_eq_true, Bool.not_eq_true', Bool.or_eq_false_iff, Bool.and_eq_false_iff, decide_eq_true_eq, decide_eq_false_iff_not, beq_iff_eq, bne_iff_ne, Bool.not_eq_false', beq_eq_false_iff_ne, bne_eq_false_iff_eq, ne_eq, Decidable.not_not, Int.not_lt, Int.not_le] at h
    refine c_skip ?_
    refine x_then ?_
    refine c_seq ?_
    refine c_block ?_
    refine c_seq ?_
    refine c_region ?_
    refine o_yield rfl rfl rfl (y_val tok rfl) ?_
    refine o_yield rfl rfl rfl (y_val tok rfl) ?_
    refine o_yield rfl rfl rfl (y_val tok rfl) ?_
    obtain ⟨hlt, hall⟩ := h
    have hwi : IntKind.i64.wrap ((i : Int) + 1) = ((i + 1 : Nat) : Int) := wrapI (by omega) (by omega)
    have hfl := filt_len t.H i (hasF key all gs)
    obtain ⟨x, h_x⟩ := hH.at (k := i) (by omega)
    have hlt_x := lt_of_at h_x
    refine o_yield rfl rfl rfl (y_idx tok rfl (fun hg => hH.sl) (fun hg => ⟨by omega, by omega⟩)) ?_
    refine o_yield rfl rfl rfl (y_lel tok (i) 0 (x) rfl (fun hg => hH) (fun hg => h_x) rfl rfl) ?_
    refine o_new tok rfl rfl rfl rfl ?_
    refine o_store tok rfl rfl rfl (by first | exact ⟨trivial, trivial⟩ | (repeat' first | exact trivial | exact rfl | apply And.intro); done | simp [onesP, oneP, lk, Value.oneCell']) ?_
    refine o_end [1, 2, 3, 4, 9, 10, 11] rfl ?_
    refine x_then ?_
    refine c_seq ?_
    refine c_region ?_
    refine o_yield rfl rfl rfl (y_val tok rfl) ?_
    refine o_end [1, 2, 3, 4, 9, 10, 11, 12] rfl ?_
    refine x_then ?_
    refine c_seq ?_
    refine c_seq ?_
    refine c_region ?_
    refine o_yield rfl rfl rfl (y_val tok rfl) ?_
    refine o_end [1, 2, 3, 4, 9, 10, 11, 12, 13] rfl ?_
    refine x_then ?_
    refine c_block ?_
    have hft := filt_step (hasF key all gs) h_x
    refine c_loopK [1, 2, 3, 4, 9, 10, 11] [] rfl rfl (σ := Nat) (fun k => [(12, .a (.v (.bool ((gs.take k).any fun s => s.lo == x.lo && s.hi == x.hi)))), (13, .a (.v (I k)))]) (fun k => []) (fun k => k ≤ gs.length) (fun k => gs.length - k) (0) (by omega) (by repeat (first | exact SubF.nil | refine SubF.cons rfl ?_)) (by repeat (first | exact SubO.nil | refine SubO.cons rfl ?_)) rfl ?_
    rintro k hk
    refine c_seq ?_
    refine c_seq ?_
    refine c_region ?_
    refine o_yield rfl rfl rfl (y_val tok rfl) ?_
    refine o_yield rfl rfl rfl (y_val tok rfl) ?_
    refine o_yield rfl rfl rfl (y_len tok rfl (fun hg => hG.sl)) ?_
    refine o_yield rfl rfl rfl (y_val tok rfl) ?_
    refine o_end [1, 2, 3, 4, 9, 10, 11, 12, 13, 33] rfl ?_
    refine x_then ?_
    refine c_cond rfl (fun h => ?_) (fun h => ?_)
    ·
      simp only [Bool.and_eq_true, Bool.or_eq_true, Bool.not_eq_true', Bool.or_eq_false_iff, Bool.and_eq_false_iff, decide_eq_true_eq, decide_eq_false_iff_not, beq_iff_eq, bne_iff_ne, Bool.not_eq_false', beq_eq_false_iff_ne, bne_eq_false_iff_eq, ne_eq, Decidable.not_not, Int.not_lt, Int.not_le] at h
      refine c_skip ?_
      refine x_then ?_
      refine c_seq ?_
      refine c_block ?_
      refine c_draw mixed (by kernel_rfl) ?_
      refine d_yield rfl rfl rfl (y_val tok rfl) rfl ?_
      refine d_yield rfl rfl rfl (y_val tok rfl) rfl ?_
      refine d_yield rfl rfl rfl (y_val tok rfl) rfl ?_
      refine d_yield rfl rfl rfl (y_val tok rfl) rfl ?_
      have hwk : IntKind.i64.wrap ((k : Int) + 1) = ((k + 1 : Nat) : Int) := wrapI (by omega) (by omega)
      obtain ⟨s, h_s⟩ := hG.at (k := k) (by omega)
      have hlt_s := lt_of_at h_s
      refine d_yield rfl rfl rfl (y_idx tok rfl (fun hg => hG.sl) (fun hg => ⟨by omega, by omega⟩)) rfl ?_
      refine d_yield rfl rfl rfl (y_lel tok (k) 0 (s) rfl (fun hg => hG) (fun hg => h_s) rfl rfl) rfl ?_
      refine d_yield rfl rfl rfl (y_val tok rfl) rfl ?_
      refine d_yield rfl rfl rfl (y_val tok rfl) rfl ?_
      have hat := any_take (fun s : Span => s.lo == x.lo && s.hi == x.hi) h_s
      refine d_yield rfl rfl rfl (y_seq (.bool (s.lo == x.lo && s.hi == x.hi)) rfl (fun E w => spanEq s.lo s.hi x.lo x.hi w (.inl rfl))) rfl ?_
      refine d_yield rfl rfl rfl (y_val tok rfl) rfl ?_
      refine d_yield rfl rfl rfl (y_val tok rfl) rfl ?_
      refine d_end [1, 2, 3, 4, 9, 10, 11, 12, 13] rfl ?_
      refine x_block ?_
      refine x_then ?_
      refine c_region ?_
      refine o_yield rfl rfl rfl (y_val tok rfl) ?_
      refine o_yield rfl rfl rfl (y_val tok rfl) ?_
      refine o_yield rfl rfl rfl (y_val tok rfl) ?_
      refine o_end [1, 2, 3, 4, 9, 10, 11, 12, 13] rfl ?_
      refine x_then ?_
      rw [← hat, hwk]
      refine x_round (k + 1) (by omega) (by first | omega | (dsimp only; omega)) (by repeat (first | exact SubF.nil | refine SubF.cons rfl ?_)) (by repeat (first | exact SubO.nil | refine SubO.cons rfl ?_)) rfl (Vw.le.refl _)
    ·
      simp only [Bool.and_eq_true, Bool.or_eq_true, Bool.not_eq_true', Bool.or_eq_false_iff, Bool.and_eq_false_iff, decide_eq_true_eq, decide_eq_false_iff_not, beq_iff_eq, bne_iff_ne, Bool.not_eq_false', beq_eq_false_iff_ne, bne_eq_false_iff_eq, ne_eq, Decidable.not_not, Int.not_lt, Int.not_le] at h
      have hkl : k = gs.length := by omega
      subst hkl
      rw [List.take_length, spIn_comm]
      clear h
      refine c_exit ?_
      refine x_then_exit ?_
      refine x_then_exit ?_
      refine x_block_hit ?_
      refine x_then ?_
      refine c_seq ?_
      refine c_region ?_
      refine o_yield rfl rfl rfl (y_val tok rfl) ?_
      refine o_yield rfl rfl rfl (y_val tok rfl) ?_
      refine o_yield rfl rfl rfl (y_val tok rfl) ?_
      refine o_yield rfl rfl rfl (y_val tok rfl) ?_
      refine o_yield rfl rfl rfl (y_val tok rfl) ?_
      refine o_yield rfl rfl rfl (y_val tok rfl) ?_
      refine o_yield rfl rfl rfl (y_val tok rfl) ?_
      refine o_yield rfl rfl rfl (y_val tok rfl) ?_
      refine o_end [1, 2, 3, 4, 9, 10, 11, 53] rfl ?_
      refine x_then ?_
      refine c_cond rfl (fun h => ?_) (fun h => ?_)
      ·
        refine c_region ?_
        refine o_yield rfl rfl rfl (y_val tok rfl) ?_
        refine o_yield rfl rfl rfl (y_val tok rfl) ?_
        rw [if_pos (by rw [hasF, hall, Bool.not_false, Bool.and_true]; exact h)] at hft
        refine o_step rfl rfl rfl rfl rfl (s_bs tok 4 rfl rfl rfl) (fun _ _ => ?_)
        refine o_step rfl rfl rfl rfl rfl (s_app tok x.cells rfl (fun E w hm => ownsRow_src (hm.row _ _ _ _ _ rfl)) (fun _ _ _ => by simpa using hold_ones [x]) (by dsimp only; omega)) (fun _ _ => ?_)
        refine o_yield rfl rfl rfl (y_val tok rfl) ?_
        refine o_end [1, 2, 3, 4, 9, 10] rfl ?_
        refine x_block ?_
        refine x_then ?_
        refine c_region ?_
        refine o_yield rfl rfl rfl (y_val tok rfl) ?_
        refine o_yield rfl rfl rfl (y_val tok rfl) ?_
        refine o_yield rfl rfl rfl (y_val tok rfl) ?_
        refine o_end [1, 2, 3, 4, 9, 10] rfl ?_
        refine x_then ?_
        rw [(hold_snoc _ x).1, (hold_snoc _ x).2, ← hft, hwi]
        refine k_swap 1 4 rfl ?_
        refine x_round (i + 1) (by omega) (by first | omega | (dsimp only; omega)) (by repeat (first | exact SubF.nil | refine SubF.cons rfl ?_)) (by repeat (first | exact SubO.nil | refine SubO.cons rfl ?_)) rfl (Vw.le.refl _)
      ·
        refine c_skip ?_
        refine x_block ?_
        refine x_then ?_
        refine c_region ?_
        refine o_yield rfl rfl rfl (y_val tok rfl) ?_
        refine o_yield rfl rfl rfl (y_val tok rfl) ?_
        refine o_yield rfl rfl rfl (y_val tok rfl) ?_
        refine o_end [1, 2, 3, 4, 9, 10] rfl ?_
        refine x_then ?_
        rw [if_neg (by rw [hasF, hall, Bool.not_false, Bool.and_true, h]; simp), List.append_nil] at hft
        rw [← hft, hwi]
        refine x_round (i + 1) (by omega) (by first | omega | (dsimp only; omega)) (by repeat (first | exact SubF.nil | refine SubF.cons rfl ?_)) (by repeat (first | exact SubO.nil | refine SubO.cons rfl ?_)) rfl (Vw.le.refl _)
  ·
    simp only [Bool.and_eq_true, Bool.or_eq_true, Bool.not_eq_true', Bool.or_eq_false_iff, Bool.and_eq_false_iff, decide_eq_true_eq, decide_eq_false_iff_not, beq_iff_eq, bne_iff_ne, Bool.not_eq_false', beq_eq_false_iff_ne, bne_eq_false_iff_eq, ne_eq, Decidable.not_not, Int.not_lt, Int.not_le] at h
    refine c_exit ?_
    refine x_then_exit ?_
    refine x_then_exit ?_
    refine x_block_hit ?_
    refine x_then ?_
    refine c_seq ?_
    refine c_region ?_
    refine o_yield rfl rfl rfl (y_val tok rfl) ?_
    refine o_yield rfl rfl rfl (y_val tok rfl) ?_
    refine o_end [8] rfl ?_
    refine x_then ?_
    refine c_ret ?_
    refine b_ret tok rfl ?_
    have hres : hasL key all gs t.H = (t.H.take i).filter (hasF key all gs) := by
      rcases h with h | h
      · rw [hasL, List.take_of_length_le (by omega)]
      · rw [hasL, h, hasF_all, hasF_all]
    rw [hres]
    intro E' w' hm _
    exact ⟨_, rfl, hm.rowFresh (Vw.le.refl _) (l := 1) rfl, hm.below (Vw.le.refl _)⟩

theorem rWaits_c (V : Vw) (tv : Value) (t : Tb) (key : Int) (w : World) (ht : t.Fit) (hV : V.le (vw w)) (h : TbIs V tv t) :
    Calls Try.prog 28 #[tv, I key] w (HRow (waitsL key t.Q) w) := by
  obtain ⟨a, n, c, a2, n2, c2, a3, n3, c3, rfl, h1, h2, h3⟩ := h
  have hq := ht.q
  have hQ := h3.mono hV
  refine enter (E := E0) (O := []) (nl := 0) (V := vw w) [.a (.v (.agg #[.slice a n c, .slice a2 n2 c2, .slice a3 n3 c3])), .a (.v (I key))] Try.func28 rfl rfl (mem0 E0 0 w) rfl rfl ?_
  refine c_seq ?_
  refine c_region ?_
  refine o_new tok rfl rfl rfl rfl ?_
  refine o_yield rfl rfl rfl (y_val tok rfl) ?_
  refine o_end [1, 2] rfl ?_
  refine x_then ?_
  refine c_seq ?_
  refine c_region ?_
  refine o_yield rfl rfl rfl (y_val tok rfl) ?_
  refine o_end [1, 2, 5] rfl ?_
  refine x_then ?_
  refine c_seq ?_
  refine c_seq ?_
  refine c_region ?_
  refine o_yield rfl rfl rfl (y_val tok rfl) ?_
  refine o_end [1, 2, 5, 6] rfl ?_
  refine x_then ?_
  refine c_block ?_
  refine k_nil 5 43 4 rfl rfl ?_
  refine c_loopK [1, 2] [1] rfl rfl (σ := Nat) (fun i => [(5, .a (.row 1)), (6, .a (.v (I i)))]) (fun i => [(1, .row 43 4 ((t.Q.take i).filter fun h => h.key == key).length (((t.Q.take i).filter fun h => h.key == key).flatMap Hold.cells))]) (fun i => i ≤ t.Q.length) (fun i => t.Q.length - i) (0) (by omega) (by repeat (first | exact SubF.nil | refine SubF.cons rfl ?_)) (by repeat (first | exact SubO.nil | refine SubO.cons rfl ?_)) rfl ?_
  rintro i hi
  refine c_seq ?_
  refine c_seq ?_
  refine c_region ?_
  refine o_yield rfl rfl rfl (y_val tok rfl) ?_
  refine o_yield rfl rfl rfl (y_val tok rfl) ?_
  refine o_yield rfl rfl rfl (y_val tok rfl) ?_
  refine o_yield rfl rfl rfl (y_len tok rfl (fun hg => hQ.sl)) ?_
  refine o_yield rfl rfl rfl (y_val tok rfl) ?_
  refine o_end [1, 2, 5, 6, 11] rfl ?_
  refine x_then ?_
  refine c_cond rfl (fun h => ?_) (fun h => ?_)
  ·
    simp only [Bool.and_eq_true, Bool.or_eq_true, Bool.not_eq_true', Bool.or_eq_false_iff, Bool.and_eq_false_iff, decide_eq_true_eq, decide_eq_false_iff_not, beq_iff_eq, bne_iff_ne, Bool.not_eq_false', beq_eq_false_iff_ne, bne_eq_false_iff_eq, ne_eq, Decidable.not_not, Int.not_lt, Int.not_le] at h
    refine c_skip ?_
    refine x_then ?_
    refine c_seq ?_
    refine c_block ?_
    refine c_seq ?_
    refine c_region ?_
    refine o_yield rfl rfl rfl (y_val tok rfl) ?_
    refine o_yield rfl rfl rfl (y_val tok rfl) ?_
    refine o_yield rfl rfl rfl (y_val tok rfl) ?_
    have hwi : IntKind.i64.wrap ((i : Int) + 1) = ((i + 1 : Nat) : Int) := wrapI (by omega) (by omega)
    have hfl := filt_len t.Q i (fun h => h.key == key)
    obtain ⟨x, h_x⟩ := hQ.at (k := i) (by omega)
    have hlt_x := lt_of_at h_x
    refine o_yield rfl rfl rfl (y_idx tok rfl (fun hg => hQ.sl) (fun hg => ⟨by omega, by omega⟩)) ?_
    refine o_yield rfl rfl rfl (y_fel tok rfl (fun hg => hQ.sl) (fun hg => by omega)) ?_
    refine o_yield rfl rfl rfl (y_lel tok (i) 0 (x) rfl (fun hg => hQ) (fun hg => h_x) rfl rfl) ?_
    refine o_yield rfl rfl rfl (y_val tok rfl) ?_
    refine o_yield rfl rfl rfl (y_val tok rfl) ?_
    refine o_end [1, 2, 5, 6, 21] rfl ?_
    refine x_then ?_
    refine c_cond rfl (fun h => ?_) (fun h => ?_)
    ·
      refine c_region ?_
      refine o_yield rfl rfl rfl (y_val tok rfl) ?_
      refine o_yield rfl rfl rfl (y_val tok rfl) ?_
      refine o_yield rfl rfl rfl (y_val tok rfl) ?_
      refine o_yield rfl rfl rfl (y_val tok rfl) ?_
      have hft := filt_step (fun h => h.key == key) h_x
      rw [if_pos h] at hft
      have hlt_x := lt_of_at h_x
      refine o_yield rfl rfl rfl (y_idx tok rfl (fun hg => hQ.sl) (fun hg => ⟨by omega, by omega⟩)) ?_
      refine o_yield rfl rfl rfl (y_lel tok (i) 0 (x) rfl (fun hg => hQ) (fun hg => h_x) rfl rfl) ?_
      refine o_step rfl rfl rfl rfl rfl (s_bs tok 4 rfl rfl rfl) (fun _ _ => ?_)
      refine o_step rfl rfl rfl rfl rfl (s_app tok x.cells rfl (fun E w hm => ownsRow_src (hm.row _ _ _ _ _ rfl)) (fun _ _ _ => by simpa using hold_ones [x]) (by dsimp only; omega)) (fun _ _ => ?_)
      refine o_yield rfl rfl rfl (y_val tok rfl) ?_
      refine o_end [1, 2, 5, 6] rfl ?_
      refine x_block ?_
      refine x_then ?_
      refine c_region ?_
      refine o_yield rfl rfl rfl (y_val tok rfl) ?_
      refine o_yield rfl rfl rfl (y_val tok rfl) ?_
      refine o_yield rfl rfl rfl (y_val tok rfl) ?_
      refine o_end [1, 2, 5, 6] rfl ?_
      refine x_then ?_
      rw [(hold_snoc _ x).1, (hold_snoc _ x).2, ← hft, hwi]
      refine k_swap 1 3 rfl ?_
      refine x_round (i + 1) (by omega) (by first | omega | (dsimp only; omega)) (by repeat (first | exact SubF.nil | refine SubF.cons rfl ?_)) (by repeat (first | exact SubO.nil | refine SubO.cons rfl ?_)) rfl (Vw.le.refl _)
    ·
      refine c_skip ?_
      refine x_block ?_
      refine x_then ?_
      refine c_region ?_
      refine o_yield rfl rfl rfl (y_val tok rfl) ?_
      refine o_yield rfl rfl rfl (y_val tok rfl) ?_
      refine o_yield rfl rfl rfl (y_val tok rfl) ?_
      refine o_end [1, 2, 5, 6] rfl ?_
      refine x_then ?_
      have hft := filt_step (fun h => h.key == key) h_x
      rw [if_neg (by rw [h]; simp), List.append_nil] at hft
      rw [← hft, hwi]
      refine x_round (i + 1) (by omega) (by first | omega | (dsimp only; omega)) (by repeat (first | exact SubF.nil | refine SubF.cons rfl ?_)) (by repeat (first | exact SubO.nil | refine SubO.cons rfl ?_)) rfl (Vw.le.refl _)
  ·
    simp only [Bool.and_eq_true, Bool.or_eq_true, Bool.not_eq_true', Bool.or_eq_false_iff, Bool.and_eq_false_iff, decide_eq_true_eq, decide_eq_false_iff_not, beq_iff_eq, bne_iff_ne, Bool.not_eq_false', beq_eq_false_iff_ne, bne_eq_false_iff_eq, ne_eq, Decidable.not_not, Int.not_lt, Int.not_le] at h
    refine c_exit ?_
    refine x_then_exit ?_
    refine x_then_exit ?_
    refine x_block_hit ?_
    refine x_then ?_
    refine c_seq ?_
    refine c_region ?_
    refine o_yield rfl rfl rfl (y_val tok rfl) ?_
    refine o_yield rfl rfl rfl (y_val tok rfl) ?_
    refine o_end [4] rfl ?_
    refine x_then ?_
    refine c_ret ?_
    refine b_ret tok rfl ?_
    have hil : i = t.Q.length := by omega
    subst hil
    rw [List.take_length]
    intro E' w' hm _
    exact ⟨_, rfl, hm.rowFresh (Vw.le.refl _) (l := 1) rfl, hm.below (Vw.le.refl _)⟩

theorem Hold.eqB_comm (a b : Hold) : a.eqB b = b.eqB a := by
  rw [Bool.eq_iff_iff, Hold.eqB_iff, Hold.eqB_iff]; exact eq_comm

theorem inH_comm (h : Hold) (l : List Hold) : (l.any fun x => x.eqB h) = inH h l := by
  rw [inH]
  congr 1
  funext x
  exact Hold.eqB_comm x h

theorem rTold_c (V : Vw) (tv : Value) (t : Tb) (key lo hi mode : Int) (w : World) (ht : t.Fit) (hV : V.le (vw w)) (h : TbIs V tv t) :
    Calls Try.prog 23 #[tv, I key, .agg #[I lo, I hi], I8 mode] w fun e w' => e = .returned (.tuple #[.bool (inH ⟨key, lo, hi, mode⟩ t.H), .bool (inH ⟨key, lo, hi, mode⟩ t.Q)]) ∧ Below w.heap.size w w' := by
  obtain ⟨a, n, c, a2, n2, c2, a3, n3, c3, rfl, h1, h2, h3⟩ := h
  have hh := ht.h
  have hq := ht.q
  have hH := h2.mono hV
  have hQ := h3.mono hV
  refine enter (E := E0) (O := []) (nl := 0) (V := vw w) [.a (.v (.agg #[.slice a n c, .slice a2 n2 c2, .slice a3 n3 c3])), .a (.v (I key)), .a (.v (.agg #[I lo, I hi])), .a (.v (I8 mode))] Try.func23 rfl rfl (mem0 E0 0 w) rfl rfl ?_
  refine c_seq ?_
  refine c_region ?_
  refine o_new tok rfl rfl rfl rfl ?_
  refine o_new tok rfl rfl rfl rfl ?_
  refine o_yield rfl rfl rfl (y_val tok rfl) ?_
  refine o_yield rfl rfl rfl (y_val tok rfl) ?_
  refine o_end [1, 3, 4, 6] rfl ?_
  refine x_then ?_
  refine c_seq ?_
  refine c_region ?_
  refine o_yield rfl rfl rfl (y_val tok rfl) ?_
  refine o_yield rfl rfl rfl (y_val tok rfl) ?_
  refine o_yield rfl rfl rfl (y_val tok rfl) ?_
  refine o_yield rfl rfl rfl (y_val tok rfl) ?_
  refine o_new tok rfl rfl rfl rfl ?_
  refine o_store tok rfl rfl rfl (by first | exact ⟨trivial, trivial⟩ | (repeat' first | exact trivial | exact rfl | apply And.intro); done | simp [onesP, oneP, lk, Value.oneCell']) ?_
  refine o_end [4, 10] rfl ?_
  refine x_then ?_
  refine c_seq ?_
  refine c_region ?_
  refine o_yield rfl rfl rfl (y_val tok rfl) ?_
  refine o_yield rfl rfl rfl (y_val tok rfl) ?_
  refine o_end [4, 10, 11, 12] rfl ?_
  refine x_then ?_
  refine c_seq ?_
  refine c_seq ?_
  refine c_region ?_
  refine o_yield rfl rfl rfl (y_val tok rfl) ?_
  refine o_end [4, 10, 11, 12, 13] rfl ?_
  refine x_then ?_
  refine c_block ?_
  refine c_loopK [4, 10, 12] [] rfl rfl (σ := Nat) (fun i => [(11, .a (.v (.bool ((t.H.take i).any fun x => x.eqB ⟨key, lo, hi, mode⟩)))), (13, .a (.v (I i)))]) (fun i => []) (fun i => i ≤ t.H.length) (fun i => t.H.length - i) (0) (by omega) (by repeat (first | exact SubF.nil | refine SubF.cons rfl ?_)) (by repeat (first | exact SubO.nil | refine SubO.cons rfl ?_)) rfl ?_
  rintro i hil
  refine c_seq ?_
  refine c_seq ?_
  refine c_region ?_
  refine o_yield rfl rfl rfl (y_val tok rfl) ?_
  refine o_yield rfl rfl rfl (y_val tok rfl) ?_
  refine o_yield rfl rfl rfl (y_val tok rfl) ?_
  refine o_yield rfl rfl rfl (y_len tok rfl (fun hg => hH.sl)) ?_
  refine o_yield rfl rfl rfl (y_val tok rfl) ?_
  refine o_end [4, 10, 11, 12, 13, 23] rfl ?_
  refine x_then ?_
  refine c_cond rfl (fun h => ?_) (fun h => ?_)
  ·
    simp only [Bool.and_eq_true, Bool.or_eq_true, Bool.not_eq_true', Bool.or_eq_false_iff, Bool.and_eq_false_iff, decide_eq_true_eq, decide_eq_false_iff_not, beq_iff_eq, bne_iff_ne, Bool.not_eq_false', beq_eq_false_iff_ne, bne_eq_false_iff_eq, ne_eq, Decidable.not_not, Int.not_lt, Int.not_le] at h
    refine c_skip ?_
    refine x_then ?_
    refine c_seq ?_
    refine c_block ?_
    refine c_draw mixed (by kernel_rfl) ?_
    refine d_yield rfl rfl rfl (y_val tok rfl) rfl ?_
    refine d_yield rfl rfl rfl (y_val tok rfl) rfl ?_
    refine d_yield rfl rfl rfl (y_val tok rfl) rfl ?_
    refine d_yield rfl rfl rfl (y_val tok rfl) rfl ?_
    refine d_yield rfl rfl rfl (y_val tok rfl) rfl ?_
    have hwi : IntKind.i64.wrap ((i : Int) + 1) = ((i + 1 : Nat) : Int) := wrapI (by omega) (by omega)
    obtain ⟨x, h_x⟩ := hH.at (k := i) (by omega)
    have hlt_x := lt_of_at h_x
    refine d_yield rfl rfl rfl (y_idx tok rfl (fun hg => hH.sl) (fun hg => ⟨by omega, by omega⟩)) rfl ?_
    refine d_yield rfl rfl rfl (y_lel tok (i) 0 (x) rfl (fun hg => hH) (fun hg => h_x) rfl rfl) rfl ?_
    refine d_yield rfl rfl rfl (y_val tok rfl) rfl ?_
    have hat := any_take (fun x : Hold => x.eqB ⟨key, lo, hi, mode⟩) h_x
    refine d_yield rfl rfl rfl (y_seq (.bool (x.eqB ⟨key, lo, hi, mode⟩)) rfl (fun E w => holdEq x ⟨key, lo, hi, mode⟩ w (.inl rfl))) rfl ?_
    refine d_yield rfl rfl rfl (y_val tok rfl) rfl ?_
    refine d_yield rfl rfl rfl (y_val tok rfl) rfl ?_
    refine d_end [4, 10, 11, 12, 13] rfl ?_
    refine x_block ?_
    refine x_then ?_
    refine c_region ?_
    refine o_yield rfl rfl rfl (y_val tok rfl) ?_
    refine o_yield rfl rfl rfl (y_val tok rfl) ?_
    refine o_yield rfl rfl rfl (y_val tok rfl) ?_
    refine o_end [4, 10, 11, 12, 13] rfl ?_
    refine x_then ?_
    rw [← hat, hwi]
    refine x_round (i + 1) (by omega) (by first | omega | (dsimp only; omega)) (by repeat (first | exact SubF.nil | refine SubF.cons rfl ?_)) (by repeat (first | exact SubO.nil | refine SubO.cons rfl ?_)) rfl (Vw.le.refl _)
  ·
    simp only [Bool.and_eq_true, Bool.or_eq_true, Bool.not_eq_true', Bool.or_eq_false_iff, Bool.and_eq_false_iff, decide_eq_true_eq, decide_eq_false_iff_not, beq_iff_eq, bne_iff_ne, Bool.not_eq_false', beq_eq_false_iff_ne, bne_eq_false_iff_eq, ne_eq, Decidable.not_not, Int.not_lt, Int.not_le] at h
    have hkl : i = t.H.length := by omega
    subst hkl
    rw [List.take_length, inH_comm]
    clear h
    refine c_exit ?_
    refine x_then_exit ?_
    refine x_then_exit ?_
    refine x_block_hit ?_
    refine x_then ?_
    refine c_seq ?_
    refine c_seq ?_
    refine c_region ?_
    refine o_yield rfl rfl rfl (y_val tok rfl) ?_
    refine o_end [4, 10, 11, 12, 14] rfl ?_
    refine x_then ?_
    refine c_block ?_
    refine c_loopK [4, 10, 11] [] rfl rfl (σ := Nat) (fun i => [(12, .a (.v (.bool ((t.Q.take i).any fun x => x.eqB ⟨key, lo, hi, mode⟩)))), (14, .a (.v (I i)))]) (fun i => []) (fun i => i ≤ t.Q.length) (fun i => t.Q.length - i) (0) (by omega) (by repeat (first | exact SubF.nil | refine SubF.cons rfl ?_)) (by repeat (first | exact SubO.nil | refine SubO.cons rfl ?_)) rfl ?_
    rintro i hil
    refine c_seq ?_
    refine c_seq ?_
    refine c_region ?_
    refine o_yield rfl rfl rfl (y_val tok rfl) ?_
    refine o_yield rfl rfl rfl (y_val tok rfl) ?_
    refine o_yield rfl rfl rfl (y_val tok rfl) ?_
    refine o_yield rfl rfl rfl (y_len tok rfl (fun hg => hQ.sl)) ?_
    refine o_yield rfl rfl rfl (y_val tok rfl) ?_
    refine o_end [4, 10, 11, 12, 14, 40] rfl ?_
    refine x_then ?_
    refine c_cond rfl (fun h => ?_) (fun h => ?_)
    ·
      simp only [Bool.and_eq_true, Bool.or_eq_true, Bool.not_eq_true', Bool.or_eq_false_iff, Bool.and_eq_false_iff, decide_eq_true_eq, decide_eq_false_iff_not, beq_iff_eq, bne_iff_ne, Bool.not_eq_false', beq_eq_false_iff_ne, bne_eq_false_iff_eq, ne_eq, Decidable.not_not, Int.not_lt, Int.not_le] at h
      refine c_skip ?_
      refine x_then ?_
      refine c_seq ?_
      refine c_block ?_
      refine c_draw mixed (by kernel_rfl) ?_
      refine d_yield rfl rfl rfl (y_val tok rfl) rfl ?_
      refine d_yield rfl rfl rfl (y_val tok rfl) rfl ?_
      refine d_yield rfl rfl rfl (y_val tok rfl) rfl ?_
      refine d_yield rfl rfl rfl (y_val tok rfl) rfl ?_
      refine d_yield rfl rfl rfl (y_val tok rfl) rfl ?_
      have hwi : IntKind.i64.wrap ((i : Int) + 1) = ((i + 1 : Nat) : Int) := wrapI (by omega) (by omega)
      obtain ⟨x, h_x⟩ := hQ.at (k := i) (by omega)
      have hlt_x := lt_of_at h_x
      refine d_yield rfl rfl rfl (y_idx tok rfl (fun hg => hQ.sl) (fun hg => ⟨by omega, by omega⟩)) rfl ?_
      refine d_yield rfl rfl rfl (y_lel tok (i) 0 (x) rfl (fun hg => hQ) (fun hg => h_x) rfl rfl) rfl ?_
      refine d_yield rfl rfl rfl (y_val tok rfl) rfl ?_
      have hat := any_take (fun x : Hold => x.eqB ⟨key, lo, hi, mode⟩) h_x
      refine d_yield rfl rfl rfl (y_seq (.bool (x.eqB ⟨key, lo, hi, mode⟩)) rfl (fun E w => holdEq x ⟨key, lo, hi, mode⟩ w (.inl rfl))) rfl ?_
      refine d_yield rfl rfl rfl (y_val tok rfl) rfl ?_
      refine d_yield rfl rfl rfl (y_val tok rfl) rfl ?_
      refine d_end [4, 10, 11, 12, 14] rfl ?_
      refine x_block ?_
      refine x_then ?_
      refine c_region ?_
      refine o_yield rfl rfl rfl (y_val tok rfl) ?_
      refine o_yield rfl rfl rfl (y_val tok rfl) ?_
      refine o_yield rfl rfl rfl (y_val tok rfl) ?_
      refine o_end [4, 10, 11, 12, 14] rfl ?_
      refine x_then ?_
      rw [← hat, hwi]
      refine x_round (i + 1) (by omega) (by first | omega | (dsimp only; omega)) (by repeat (first | exact SubF.nil | refine SubF.cons rfl ?_)) (by repeat (first | exact SubO.nil | refine SubO.cons rfl ?_)) rfl (Vw.le.refl _)
    ·
      simp only [Bool.and_eq_true, Bool.or_eq_true, Bool.not_eq_true', Bool.or_eq_false_iff, Bool.and_eq_false_iff, decide_eq_true_eq, decide_eq_false_iff_not, beq_iff_eq, bne_iff_ne, Bool.not_eq_false', beq_eq_false_iff_ne, bne_eq_false_iff_eq, ne_eq, Decidable.not_not, Int.not_lt, Int.not_le] at h
      have hkl : i = t.Q.length := by omega
      subst hkl
      rw [List.take_length, inH_comm]
      clear h
      refine c_exit ?_
      refine x_then_exit ?_
      refine x_then_exit ?_
      refine x_block_hit ?_
      refine x_then ?_
      refine c_seq ?_
      refine c_region ?_
      refine o_yield rfl rfl rfl (y_val tok rfl) ?_
      refine o_yield rfl rfl rfl (y_val tok rfl) ?_
      refine o_yield rfl rfl rfl (y_val tok rfl) ?_
      refine o_yield rfl rfl rfl (y_val tok rfl) ?_
      refine o_end [8, 9] rfl ?_
      refine x_then ?_
      refine c_ret ?_
      refine b_ret tok rfl ?_
      intro E w' hm _
      refine ⟨?_, hm.below (Vw.le.refl _)⟩
      rfl

theorem rDemands_c (V : Vw) (tv : Value) (t : Tb) (key : Int) (w : World) (ht : t.Fit) (hV : V.le (vw w)) (h : TbIs V tv t) :
    Calls Try.prog 41 #[tv, I key] w (HRow (demL key t) w) := by
  obtain ⟨a, n, c, a2, n2, c2, a3, n3, c3, rfl, h1, h2, h3⟩ := h
  have hh := ht.h
  have hq := ht.q
  have hlim : lim = 4398046511104 := rfl
  have hH := h2.mono hV
  have hQ := h3.mono hV
  have hd : demL key t = t.Q.filter fun h => !fits h (t.H.filter fun h => h.key == key) := rfl
  refine enter (E := E0) (O := []) (nl := 0) (V := vw w) [.a (.v (.agg #[.slice a n c, .slice a2 n2 c2, .slice a3 n3 c3])), .a (.v (I key))] Try.func41 rfl rfl (mem0 E0 0 w) rfl rfl ?_
  refine c_seq ?_
  refine c_region ?_
  refine o_new tok rfl rfl rfl rfl ?_
  refine o_yield rfl rfl rfl (y_val tok rfl) ?_
  refine o_end [1, 2] rfl ?_
  refine x_then ?_
  refine c_seq ?_
  refine c_region ?_
  refine o_yield rfl rfl rfl (y_val tok rfl) ?_
  refine o_end [1, 2, 5] rfl ?_
  refine x_then ?_
  refine c_seq ?_
  refine c_seq ?_
  refine c_region ?_
  refine o_yield rfl rfl rfl (y_val tok rfl) ?_
  refine o_end [1, 2, 5, 6] rfl ?_
  refine x_then ?_
  refine c_block ?_
  refine k_nil 5 43 4 rfl rfl ?_
  refine c_loopK [1, 2] [1] rfl rfl (σ := Nat) (fun i => [(5, .a (.row 1)), (6, .a (.v (I i)))]) (fun i => [(1, .row 43 4 ((t.H.take i).filter fun h => h.key == key).length (((t.H.take i).filter fun h => h.key == key).flatMap Hold.cells))]) (fun i => i ≤ t.H.length) (fun i => t.H.length - i) (0) (by omega) (by repeat (first | exact SubF.nil | refine SubF.cons rfl ?_)) (by repeat (first | exact SubO.nil | refine SubO.cons rfl ?_)) rfl ?_
  rintro i hi
  refine c_seq ?_
  refine c_seq ?_
  refine c_region ?_
  refine o_yield rfl rfl rfl (y_val tok rfl) ?_
  refine o_yield rfl rfl rfl (y_val tok rfl) ?_
  refine o_yield rfl rfl rfl (y_val tok rfl) ?_
  refine o_yield rfl rfl rfl (y_len tok rfl (fun hg => hH.sl)) ?_
  refine o_yield rfl rfl rfl (y_val tok rfl) ?_
  refine o_end [1, 2, 5, 6, 13] rfl ?_
  refine x_then ?_
  refine c_cond rfl (fun h => ?_) (fun h => ?_)
  ·
    simp only [Bool.and_eq_true, Bool.or_eq_true, Bool.not_eq_true', Bool.or_eq_false_iff, Bool.and_eq_false_iff, decide_eq_true_eq, decide_eq_false_iff_not, beq_iff_eq, bne_iff_ne, Bool.not_eq_false', beq_eq_false_iff_ne, bne_eq_false_iff_eq, ne_eq, Decidable.not_not, Int.not_lt, Int.not_le] at h
    refine c_skip ?_
    refine x_then ?_
    refine c_seq ?_
    refine c_block ?_
    refine c_seq ?_
    refine c_region ?_
    refine o_yield rfl rfl rfl (y_val tok rfl) ?_
    refine o_yield rfl rfl rfl (y_val tok rfl) ?_
    refine o_yield rfl rfl rfl (y_val tok rfl) ?_
    have hwi : IntKind.i64.wrap ((i : Int) + 1) = ((i + 1 : Nat) : Int) := wrapI (by omega) (by omega)
    have hfl := filt_len t.H i (fun h => h.key == key)
    obtain ⟨x, h_x⟩ := hH.at (k := i) (by omega)
    have hlt_x := lt_of_at h_x
    refine o_yield rfl rfl rfl (y_idx tok rfl (fun hg => hH.sl) (fun hg => ⟨by omega, by omega⟩)) ?_
    refine o_yield rfl rfl rfl (y_fel tok rfl (fun hg => hH.sl) (fun hg => by omega)) ?_
    refine o_yield rfl rfl rfl (y_lel tok (i) 0 (x) rfl (fun hg => hH) (fun hg => h_x) rfl rfl) ?_
    refine o_yield rfl rfl rfl (y_val tok rfl) ?_
    refine o_yield rfl rfl rfl (y_val tok rfl) ?_
    refine o_end [1, 2, 5, 6, 23] rfl ?_
    refine x_then ?_
    refine c_cond rfl (fun h => ?_) (fun h => ?_)
    ·
      refine c_region ?_
      refine o_yield rfl rfl rfl (y_val tok rfl) ?_
      refine o_yield rfl rfl rfl (y_val tok rfl) ?_
      refine o_yield rfl rfl rfl (y_val tok rfl) ?_
      refine o_yield rfl rfl rfl (y_val tok rfl) ?_
      have hft := filt_step (fun h => h.key == key) h_x
      rw [if_pos h] at hft
      have hlt_x := lt_of_at h_x
      refine o_yield rfl rfl rfl (y_idx tok rfl (fun hg => hH.sl) (fun hg => ⟨by omega, by omega⟩)) ?_
      refine o_yield rfl rfl rfl (y_lel tok (i) 0 (x) rfl (fun hg => hH) (fun hg => h_x) rfl rfl) ?_
      refine o_step rfl rfl rfl rfl rfl (s_bs tok 4 rfl rfl rfl) (fun _ _ => ?_)
      refine o_step rfl rfl rfl rfl rfl (s_app tok x.cells rfl (fun E w hm => ownsRow_src (hm.row _ _ _ _ _ rfl)) (fun _ _ _ => by simpa using hold_ones [x]) (by dsimp only; omega)) (fun _ _ => ?_)
      refine o_yield rfl rfl rfl (y_val tok rfl) ?_
      refine o_end [1, 2, 5, 6] rfl ?_
      refine x_block ?_
      refine x_then ?_
      refine c_region ?_
      refine o_yield rfl rfl rfl (y_val tok rfl) ?_
      refine o_yield rfl rfl rfl (y_val tok rfl) ?_
      refine o_yield rfl rfl rfl (y_val tok rfl) ?_
      refine o_end [1, 2, 5, 6] rfl ?_
      refine x_then ?_
      rw [(hold_snoc _ x).1, (hold_snoc _ x).2, ← hft, hwi]
      refine k_swap 1 3 rfl ?_
      refine x_round (i + 1) (by omega) (by first | omega | (dsimp only; omega)) (by repeat (first | exact SubF.nil | refine SubF.cons rfl ?_)) (by repeat (first | exact SubO.nil | refine SubO.cons rfl ?_)) rfl (Vw.le.refl _)
    ·
      refine c_skip ?_
      refine x_block ?_
      refine x_then ?_
      refine c_region ?_
      refine o_yield rfl rfl rfl (y_val tok rfl) ?_
      refine o_yield rfl rfl rfl (y_val tok rfl) ?_
      refine o_yield rfl rfl rfl (y_val tok rfl) ?_
      refine o_end [1, 2, 5, 6] rfl ?_
      refine x_then ?_
      have hft := filt_step (fun h => h.key == key) h_x
      rw [if_neg (by rw [h]; simp), List.append_nil] at hft
      rw [← hft, hwi]
      refine x_round (i + 1) (by omega) (by first | omega | (dsimp only; omega)) (by repeat (first | exact SubF.nil | refine SubF.cons rfl ?_)) (by repeat (first | exact SubO.nil | refine SubO.cons rfl ?_)) rfl (Vw.le.refl _)
  ·
    simp only [Bool.and_eq_true, Bool.or_eq_true, Bool.not_eq_true', Bool.or_eq_false_iff, Bool.and_eq_false_iff, decide_eq_true_eq, decide_eq_false_iff_not, beq_iff_eq, bne_iff_ne, Bool.not_eq_false', beq_eq_false_iff_ne, bne_eq_false_iff_eq, ne_eq, Decidable.not_not, Int.not_lt, Int.not_le] at h
    have hil : i = t.H.length := by omega
    subst hil
    rw [List.take_length]
    obtain ⟨M, hM⟩ : ∃ M, M = t.H.filter fun h => h.key == key := ⟨_, rfl⟩
    have hMl : M.length ≤ t.H.length := by rw [hM]; exact List.length_filter_le _ _
    rw [← hM] at hd ⊢
    clear h
    refine c_exit ?_
    refine x_then_exit ?_
    refine x_then_exit ?_
    refine x_block_hit ?_
    refine x_then ?_
    refine c_seq ?_
    refine c_region ?_
    refine o_yield rfl rfl rfl (y_val tok rfl) ?_
    refine o_end [2, 5, 7] rfl ?_
    refine x_then ?_
    refine c_seq ?_
    refine c_seq ?_
    refine c_region ?_
    refine o_yield rfl rfl rfl (y_val tok rfl) ?_
    refine o_end [2, 5, 7, 8] rfl ?_
    refine x_then ?_
    refine c_block ?_
    refine k_nil 7 43 4 rfl rfl ?_
    refine c_loopK [2, 5] [2] rfl rfl (σ := Nat) (fun i => [(7, .a (.row 2)), (8, .a (.v (I i)))]) (fun i => [(2, .row 43 4 ((t.Q.take i).filter fun h => !fits h M).length (((t.Q.take i).filter fun h => !fits h M).flatMap Hold.cells))]) (fun i => i ≤ t.Q.length) (fun i => t.Q.length - i) (0) (by omega) (by repeat (first | exact SubF.nil | refine SubF.cons rfl ?_)) (by repeat (first | exact SubO.nil | refine SubO.cons rfl ?_)) rfl ?_
    rintro i hi
    refine c_seq ?_
    refine c_seq ?_
    refine c_region ?_
    refine o_yield rfl rfl rfl (y_val tok rfl) ?_
    refine o_yield rfl rfl rfl (y_val tok rfl) ?_
    refine o_yield rfl rfl rfl (y_val tok rfl) ?_
    refine o_yield rfl rfl rfl (y_len tok rfl (fun hg => hQ.sl)) ?_
    refine o_yield rfl rfl rfl (y_val tok rfl) ?_
    refine o_end [2, 5, 7, 8, 36] rfl ?_
    refine x_then ?_
    refine c_cond rfl (fun h => ?_) (fun h => ?_)
    ·
      simp only [Bool.and_eq_true, Bool.or_eq_true, Bool.not_eq_true', Bool.or_eq_false_iff, Bool.and_eq_false_iff, decide_eq_true_eq, decide_eq_false_iff_not, beq_iff_eq, bne_iff_ne, Bool.not_eq_false', beq_eq_false_iff_ne, bne_eq_false_iff_eq, ne_eq, Decidable.not_not, Int.not_lt, Int.not_le] at h
      refine c_skip ?_
      refine x_then ?_
      refine c_seq ?_
      refine c_block ?_
      refine c_seq ?_
      refine c_region ?_
      refine o_yield rfl rfl rfl (y_val tok rfl) ?_
      refine o_yield rfl rfl rfl (y_val tok rfl) ?_
      refine o_yield rfl rfl rfl (y_val tok rfl) ?_
      have hwi : IntKind.i64.wrap ((i : Int) + 1) = ((i + 1 : Nat) : Int) := wrapI (by omega) (by omega)
      have hfl := filt_len t.Q i (fun h => !fits h M)
      obtain ⟨x, h_x⟩ := hQ.at (k := i) (by omega)
      have hlt_x := lt_of_at h_x
      refine o_yield rfl rfl rfl (y_idx tok rfl (fun hg => hQ.sl) (fun hg => ⟨by omega, by omega⟩)) ?_
      refine o_yield rfl rfl rfl (y_lel tok (i) 0 (x) rfl (fun hg => hQ) (fun hg => h_x) rfl rfl) ?_
      refine o_yield rfl rfl rfl (y_val tok rfl) ?_
      refine o_call (.a (.v _)) rfl rfl fnok78 rfl rfl rfl (fun hg E w1 hm => by exact spRfits_c (vw w1) x (E.κ 1) M _ (Vw.le.refl _) (hm.rowOf 1 rfl (fun _ => rfl)) (by omega)) ?_
      refine o_yield rfl rfl rfl (y_val tok rfl) ?_
      refine o_end [2, 5, 7, 8, 46] rfl ?_
      refine x_then ?_
      refine c_cond rfl (fun h => ?_) (fun h => ?_)
      ·
        refine c_region ?_
        refine o_yield rfl rfl rfl (y_val tok rfl) ?_
        refine o_yield rfl rfl rfl (y_val tok rfl) ?_
        refine o_yield rfl rfl rfl (y_val tok rfl) ?_
        refine o_yield rfl rfl rfl (y_val tok rfl) ?_
        have hft := filt_step (fun h => !fits h M) h_x
        rw [if_pos h] at hft
        have hlt_x := lt_of_at h_x
        refine o_yield rfl rfl rfl (y_idx tok rfl (fun hg => hQ.sl) (fun hg => ⟨by omega, by omega⟩)) ?_
        refine o_yield rfl rfl rfl (y_lel tok (i) 0 (x) rfl (fun hg => hQ) (fun hg => h_x) rfl rfl) ?_
        refine o_step rfl rfl rfl rfl rfl (s_bs tok 4 rfl rfl rfl) (fun _ _ => ?_)
        refine o_step rfl rfl rfl rfl rfl (s_app tok x.cells rfl (fun E w hm => ownsRow_src (hm.row _ _ _ _ _ rfl)) (fun _ _ _ => by simpa using hold_ones [x]) (by dsimp only; omega)) (fun _ _ => ?_)
        refine o_yield rfl rfl rfl (y_val tok rfl) ?_
        refine o_end [2, 5, 7, 8] rfl ?_
        refine x_block ?_
        refine x_then ?_
        refine c_region ?_
        refine o_yield rfl rfl rfl (y_val tok rfl) ?_
        refine o_yield rfl rfl rfl (y_val tok rfl) ?_
        refine o_yield rfl rfl rfl (y_val tok rfl) ?_
        refine o_end [2, 5, 7, 8] rfl ?_
        refine x_then ?_
        rw [(hold_snoc _ x).1, (hold_snoc _ x).2, ← hft, hwi]
        refine k_swap 2 4 rfl ?_
        refine x_round (i + 1) (by omega) (by first | omega | (dsimp only; omega)) (by repeat (first | exact SubF.nil | refine SubF.cons rfl ?_)) (by repeat (first | exact SubO.nil | refine SubO.cons rfl ?_)) rfl (Vw.le.refl _)
      ·
        refine c_skip ?_
        refine x_block ?_
        refine x_then ?_
        refine c_region ?_
        refine o_yield rfl rfl rfl (y_val tok rfl) ?_
        refine o_yield rfl rfl rfl (y_val tok rfl) ?_
        refine o_yield rfl rfl rfl (y_val tok rfl) ?_
        refine o_end [2, 5, 7, 8] rfl ?_
        refine x_then ?_
        have hft := filt_step (fun h => !fits h M) h_x
        rw [if_neg (by rw [h]; simp), List.append_nil] at hft
        rw [← hft, hwi]
        refine x_round (i + 1) (by omega) (by first | omega | (dsimp only; omega)) (by repeat (first | exact SubF.nil | refine SubF.cons rfl ?_)) (by repeat (first | exact SubO.nil | refine SubO.cons rfl ?_)) rfl (Vw.le.refl _)
    ·
      simp only [Bool.and_eq_true, Bool.or_eq_true, Bool.not_eq_true', Bool.or_eq_false_iff, Bool.and_eq_false_iff, decide_eq_true_eq, decide_eq_false_iff_not, beq_iff_eq, bne_iff_ne, Bool.not_eq_false', beq_eq_false_iff_ne, bne_eq_false_iff_eq, ne_eq, Decidable.not_not, Int.not_lt, Int.not_le] at h
      refine c_exit ?_
      refine x_then_exit ?_
      refine x_then_exit ?_
      refine x_block_hit ?_
      refine x_then ?_
      refine c_seq ?_
      refine c_region ?_
      refine o_yield rfl rfl rfl (y_val tok rfl) ?_
      refine o_yield rfl rfl rfl (y_val tok rfl) ?_
      refine o_end [4] rfl ?_
      refine x_then ?_
      refine c_ret ?_
      refine b_ret tok rfl ?_
      have hil : i = t.Q.length := by omega
      subst hil
      rw [List.take_length, hd]
      intro E' w' hm _
      exact ⟨_, rfl, hm.rowFresh (Vw.le.refl _) (l := 2) rfl, hm.below (Vw.le.refl _)⟩

theorem wantL_eq (key : Int) (t : Tb) : wantL key t = (t.H.filter fun h => (h.key == key) && !fits h (demL key t)).map spOf := by
  rw [wantL, hasL, List.filter_filter]
  congr 2
  funext h
  simp [hasF, spIn, Bool.and_comm]

theorem rWanted_c (V : Vw) (tv : Value) (t : Tb) (key : Int) (w : World) (ht : t.Fit) (hV : V.le (vw w)) (h : TbIs V tv t) :
    Calls Try.prog 31 #[tv, I key] w (SRow (wantL key t) w) := by
  obtain ⟨a, n, c, a2, n2, c2, a3, n3, c3, rfl, h1, h2, h3⟩ := id h
  have hh := ht.h
  have hq := ht.q
  have hlim : lim = 4398046511104 := rfl
  have hH := h2.mono hV
  have hdl : (demL key t).length ≤ t.Q.length := List.length_filter_le _ _
  have hwl := wantL_eq key t
  have hdem := fun w1 hw1 => rDemands_c V _ t key w1 ht hw1 h
  generalize demL key t = D at *
  rw [hwl]
  refine enter (E := E0) (O := []) (nl := 0) (V := vw w) [.a (.v (.agg #[.slice a n c, .slice a2 n2 c2, .slice a3 n3 c3])), .a (.v (I key))] Try.func31 rfl rfl (mem0 E0 0 w) rfl rfl ?_
  refine c_seq ?_
  refine c_region ?_
  refine o_new tok rfl rfl rfl rfl ?_
  refine o_yield rfl rfl rfl (y_val tok rfl) ?_
  refine o_end [1, 2] rfl ?_
  refine x_then ?_
  refine c_seq ?_
  refine c_region ?_
  refine o_yield rfl rfl rfl (y_val tok rfl) ?_
  refine o_yield rfl rfl rfl (y_val tok rfl) ?_
  refine o_step rfl rfl rfl rfl rfl (s_callRow 43 4 D.length (D.flatMap Hold.cells) rfl fnok41 (fun E w1 hm => hdem w1 (hV.trans hm.leV))) (fun _ _ => ?_)
  refine o_yield rfl rfl rfl (y_val tok rfl) ?_
  refine o_end [1, 2, 5] rfl ?_
  refine x_then ?_
  refine c_seq ?_
  refine c_region ?_
  refine o_yield rfl rfl rfl (y_val tok rfl) ?_
  refine o_end [1, 2, 5, 6] rfl ?_
  refine x_then ?_
  refine c_seq ?_
  refine c_seq ?_
  refine c_region ?_
  refine o_yield rfl rfl rfl (y_val tok rfl) ?_
  refine o_end [1, 2, 5, 6, 7] rfl ?_
  refine x_then ?_
  refine c_block ?_
  refine k_nil 6 34 2 rfl rfl ?_
  refine c_loopK [1, 2, 5] [2] rfl rfl (σ := Nat) (fun i => [(6, .a (.row 2)), (7, .a (.v (I i)))]) (fun i => [(2, .row 34 2 (((t.H.take i).filter fun h => (h.key == key) && !fits h D).map spOf).length ((((t.H.take i).filter fun h => (h.key == key) && !fits h D).map spOf).flatMap Span.cells))]) (fun i => i ≤ t.H.length) (fun i => t.H.length - i) (0) (by omega) (by repeat (first | exact SubF.nil | refine SubF.cons rfl ?_)) (by repeat (first | exact SubO.nil | refine SubO.cons rfl ?_)) rfl ?_
  rintro i hi
  refine c_seq ?_
  refine c_seq ?_
  refine c_region ?_
  refine o_yield rfl rfl rfl (y_val tok rfl) ?_
  refine o_yield rfl rfl rfl (y_val tok rfl) ?_
  refine o_yield rfl rfl rfl (y_val tok rfl) ?_
  refine o_yield rfl rfl rfl (y_len tok rfl (fun hg => hH.sl)) ?_
  refine o_yield rfl rfl rfl (y_val tok rfl) ?_
  refine o_end [1, 2, 5, 6, 7, 15] rfl ?_
  refine x_then ?_
  refine c_cond rfl (fun h => ?_) (fun h => ?_)
  ·
    simp only [Bool.and_eq_true, Bool.or_eq_true, Bool.not_eq_true', Bool.or_eq_false_iff, Bool.and_eq_false_iff, decide_eq_true_eq, decide_eq_false_iff_not, beq_iff_eq, bne_iff_ne, Bool.not_eq_false', beq_eq_false_iff_ne, bne_eq_false_iff_eq, ne_eq, Decidable.not_not, Int.not_lt, Int.not_le] at h
    refine c_skip ?_
    refine x_then ?_
    refine c_seq ?_
    refine c_block ?_
    refine c_seq ?_
    refine c_region ?_
    refine o_yield rfl rfl rfl (y_val tok rfl) ?_
    refine o_yield rfl rfl rfl (y_val tok rfl) ?_
    refine o_yield rfl rfl rfl (y_val tok rfl) ?_
    have hwi : IntKind.i64.wrap ((i : Int) + 1) = ((i + 1 : Nat) : Int) := wrapI (by omega) (by omega)
    have hsl := smap_len t.H i (fun h => (h.key == key) && !fits h D)
    obtain ⟨x, h_x⟩ := hH.at (k := i) (by omega)
    have hlt_x := lt_of_at h_x
    refine o_yield rfl rfl rfl (y_idx tok rfl (fun hg => hH.sl) (fun hg => ⟨by omega, by omega⟩)) ?_
    refine o_yield rfl rfl rfl (y_fel tok rfl (fun hg => hH.sl) (fun hg => by omega)) ?_
    refine o_yield rfl rfl rfl (y_lel tok (i) 0 (x) rfl (fun hg => hH) (fun hg => h_x) rfl rfl) ?_
    refine o_yield rfl rfl rfl (y_val tok rfl) ?_
    refine o_yield rfl rfl rfl (y_val tok rfl) ?_
    refine o_yield rfl rfl rfl (y_val tok rfl) ?_
    refine o_yield rfl rfl rfl (y_val tok rfl) ?_
    refine o_yield rfl rfl rfl (y_val tok rfl) ?_
    refine o_yield rfl rfl rfl (y_val tok rfl) ?_
    have hst := smap_step (fun h => (h.key == key) && !fits h D) h_x
    have hlt_x := lt_of_at h_x
    refine o_yield rfl rfl rfl (y_idx tok rfl (fun hg => hH.sl) (fun hg => ⟨by omega, by omega⟩)) ?_
    refine o_yield rfl rfl rfl (y_lel tok (i) 0 (x) rfl (fun hg => hH) (fun hg => h_x) rfl rfl) ?_
    refine o_yield rfl rfl rfl (y_val tok rfl) ?_
    refine o_call (.a (.v _)) rfl rfl fnok78 rfl rfl rfl (fun hg E w1 hm => by exact spRfits_c (vw w1) x (E.κ 1) D _ (Vw.le.refl _) (hm.rowOf 1 rfl (fun _ => rfl)) (by omega)) ?_
    refine o_yield rfl rfl rfl (y_val tok rfl) ?_
    refine o_yield rfl rfl rfl (y_val tok rfl) ?_
    refine o_end [1, 2, 5, 6, 7, 35] rfl ?_
    refine x_then ?_
    refine c_cond rfl (fun h => ?_) (fun h => ?_)
    ·
      refine c_region ?_
      refine o_yield rfl rfl rfl (y_val tok rfl) ?_
      refine o_yield rfl rfl rfl (y_val tok rfl) ?_
      refine o_yield rfl rfl rfl (y_val tok rfl) ?_
      refine o_yield rfl rfl rfl (y_val tok rfl) ?_
      rw [if_pos h] at hst
      have hlt_x := lt_of_at h_x
      refine o_yield rfl rfl rfl (y_idx tok rfl (fun hg => hH.sl) (fun hg => ⟨by omega, by omega⟩)) ?_
      refine o_yield rfl rfl rfl (y_fel tok rfl (fun hg => hH.sl) (fun hg => by omega)) ?_
      refine o_yield rfl rfl rfl (y_lel tok (i) 1 (x) rfl (fun hg => hH) (fun hg => h_x) rfl rfl) ?_
      refine o_step rfl rfl rfl rfl rfl (s_bs tok 2 rfl rfl rfl) (fun _ _ => ?_)
      refine o_step rfl rfl rfl rfl rfl (s_app tok (spOf x).cells rfl (fun E w hm => ownsRow_src (hm.row _ _ _ _ _ rfl)) (fun _ _ _ => by simpa using span_ones [spOf x]) (by dsimp only; omega)) (fun _ _ => ?_)
      refine o_yield rfl rfl rfl (y_val tok rfl) ?_
      refine o_end [1, 2, 5, 6, 7] rfl ?_
      refine x_block ?_
      refine x_then ?_
      refine c_region ?_
      refine o_yield rfl rfl rfl (y_val tok rfl) ?_
      refine o_yield rfl rfl rfl (y_val tok rfl) ?_
      refine o_yield rfl rfl rfl (y_val tok rfl) ?_
      refine o_end [1, 2, 5, 6, 7] rfl ?_
      refine x_then ?_
      rw [(span_snoc _ (spOf x)).1, (span_snoc _ (spOf x)).2, ← hst, hwi]
      refine k_swap 2 4 rfl ?_
      refine x_round (i + 1) (by omega) (by first | omega | (dsimp only; omega)) (by repeat (first | exact SubF.nil | refine SubF.cons rfl ?_)) (by repeat (first | exact SubO.nil | refine SubO.cons rfl ?_)) rfl (Vw.le.refl _)
    ·
      refine c_skip ?_
      refine x_block ?_
      refine x_then ?_
      refine c_region ?_
      refine o_yield rfl rfl rfl (y_val tok rfl) ?_
      refine o_yield rfl rfl rfl (y_val tok rfl) ?_
      refine o_yield rfl rfl rfl (y_val tok rfl) ?_
      refine o_end [1, 2, 5, 6, 7] rfl ?_
      refine x_then ?_
      rw [if_neg (by rw [h]; simp), List.append_nil] at hst
      rw [← hst, hwi]
      refine x_round (i + 1) (by omega) (by first | omega | (dsimp only; omega)) (by repeat (first | exact SubF.nil | refine SubF.cons rfl ?_)) (by repeat (first | exact SubO.nil | refine SubO.cons rfl ?_)) rfl (Vw.le.refl _)
  ·
    simp only [Bool.and_eq_true, Bool.or_eq_true, Bool.not_eq_true', Bool.or_eq_false_iff, Bool.and_eq_false_iff, decide_eq_true_eq, decide_eq_false_iff_not, beq_iff_eq, bne_iff_ne, Bool.not_eq_false', beq_eq_false_iff_ne, bne_eq_false_iff_eq, ne_eq, Decidable.not_not, Int.not_lt, Int.not_le] at h
    refine c_exit ?_
    refine x_then_exit ?_
    refine x_then_exit ?_
    refine x_block_hit ?_
    refine x_then ?_
    refine c_seq ?_
    refine c_region ?_
    refine o_yield rfl rfl rfl (y_val tok rfl) ?_
    refine o_yield rfl rfl rfl (y_val tok rfl) ?_
    refine o_end [4] rfl ?_
    refine x_then ?_
    refine c_ret ?_
    refine b_ret tok rfl ?_
    have hil : i = t.H.length := by omega
    subst hil
    rw [List.take_length]
    intro E' w' hm _
    exact ⟨_, rfl, hm.rowFresh (Vw.le.refl _) (l := 2) rfl, hm.below (Vw.le.refl _)⟩

theorem Hold.eqB_refl (x : Hold) : x.eqB x = true := (Hold.eqB_iff x x).2 rfl

theorem sameHolds_c (V : Vw) (sv tv : Value) (l : List Hold) (w : World) (hV : V.le (vw w)) (hs0 : SlOf V Hold.cells 4 sv l) (ht0 : SlOf V Hold.cells 4 tv l) (hn : l.length ≤ lim) :
    Calls Try.prog 24 #[sv, tv] w fun e w' => e = .returned (.bool true) ∧ Below w.heap.size w w' := by
  unfold lim at hn
  have hs := hs0.mono hV
  have ht := ht0.mono hV
  refine enter (E := E0) (O := []) (nl := 0) (V := vw w) [.a (.v sv), .a (.v tv)] Try.func24 rfl rfl (mem0 E0 0 w) rfl rfl ?_
  refine c_seq ?_
  refine c_region ?_
  refine o_yield rfl rfl rfl (y_val tok rfl) ?_
  refine o_end [0, 1] rfl ?_
  refine x_then ?_
  refine c_seq ?_
  refine c_seq ?_
  refine c_region ?_
  refine o_yield rfl rfl rfl (y_val tok rfl) ?_
  refine o_yield rfl rfl rfl (y_len tok rfl (fun hg => hs.sl)) ?_
  refine o_yield rfl rfl rfl (y_val tok rfl) ?_
  refine o_yield rfl rfl rfl (y_len tok rfl (fun hg => ht.sl)) ?_
  refine o_yield rfl rfl rfl (y_val tok rfl) ?_
  refine o_end [0, 1, 10] rfl ?_
  refine x_then ?_
  refine c_cond rfl (fun h => ?_) (fun h => ?_)
  ·
    refine c_seq ?_
    refine c_region ?_
    refine o_yield rfl rfl rfl (y_val tok rfl) ?_
    refine o_end [4] rfl ?_
    refine x_then ?_
    refine c_ret ?_
    refine x_then_ret ?_
    refine b_ret tok rfl ?_
    simp at h
  ·
    refine c_skip ?_
    refine x_then ?_
    refine c_seq ?_
    refine c_seq ?_
    refine c_region ?_
    refine o_yield rfl rfl rfl (y_val tok rfl) ?_
    refine o_end [0, 1, 5] rfl ?_
    refine x_then ?_
    refine c_block ?_
    refine c_loopK [0, 1] [] rfl rfl (σ := Nat) (fun i => [(5, .a (.v (I i)))]) (fun i => []) (fun i => i ≤ l.length) (fun i => l.length - i) (0) (by omega) (by repeat (first | exact SubF.nil | refine SubF.cons rfl ?_)) (by repeat (first | exact SubO.nil | refine SubO.cons rfl ?_)) rfl ?_
    rintro i hi
    refine c_seq ?_
    refine c_seq ?_
    refine c_region ?_
    refine o_yield rfl rfl rfl (y_val tok rfl) ?_
    refine o_yield rfl rfl rfl (y_val tok rfl) ?_
    refine o_yield rfl rfl rfl (y_len tok rfl (fun hg => hs.sl)) ?_
    refine o_yield rfl rfl rfl (y_val tok rfl) ?_
    refine o_end [0, 1, 5, 14] rfl ?_
    refine x_then ?_
    refine c_cond rfl (fun h => ?_) (fun h => ?_)
    ·
      simp only [Bool.and_eq_true, Bool.or_eq_true, Bool.not_eq_true', Bool.or_eq_false_iff, Bool.and_eq_false_iff, decide_eq_true_eq, decide_eq_false_iff_not, beq_iff_eq, bne_iff_ne, Bool.not_eq_false', beq_eq_false_iff_ne, bne_eq_false_iff_eq, ne_eq, Decidable.not_not, Int.not_lt, Int.not_le] at h
      refine c_skip ?_
      refine x_then ?_
      refine c_seq ?_
      refine c_block ?_
      refine c_seq ?_
      refine c_draw mixed (by kernel_rfl) ?_
      refine d_yield rfl rfl rfl (y_val tok rfl) rfl ?_
      refine d_yield rfl rfl rfl (y_val tok rfl) rfl ?_
      obtain ⟨x, h_x⟩ := hs.at (k := i) (by omega)
      have hlt_x := lt_of_at h_x
      refine d_yield rfl rfl rfl (y_idx tok rfl (fun hg => hs.sl) (fun hg => ⟨by omega, by omega⟩)) rfl ?_
      refine d_yield rfl rfl rfl (y_lel tok (i) 0 (x) rfl (fun hg => hs) (fun hg => h_x) rfl rfl) rfl ?_
      refine d_yield rfl rfl rfl (y_val tok rfl) rfl ?_
      refine d_yield rfl rfl rfl (y_val tok rfl) rfl ?_
      have hlt_x := lt_of_at h_x
      refine d_yield rfl rfl rfl (y_idx tok rfl (fun hg => ht.sl) (fun hg => ⟨by omega, by omega⟩)) rfl ?_
      refine d_yield rfl rfl rfl (y_lel tok (i) 0 (x) rfl (fun hg => ht) (fun hg => h_x) rfl rfl) rfl ?_
      refine d_yield rfl rfl rfl (y_seq (.bool (!(x.eqB x))) rfl (fun E w => holdEq x x w (.inr rfl))) rfl ?_
      refine d_end [0, 1, 5, 25] rfl ?_
      refine x_then ?_
      refine c_cond rfl (fun h => ?_) (fun h => ?_)
      ·
        refine c_seq ?_
        refine c_region ?_
        refine o_yield rfl rfl rfl (y_val tok rfl) ?_
        refine o_end [4] rfl ?_
        refine x_then ?_
        refine c_ret ?_
        refine x_block_ret ?_
        refine x_then_ret ?_
        refine x_then_ret ?_
        refine x_block_ret ?_
        refine x_then_ret ?_
        refine b_ret tok rfl ?_
        rw [Hold.eqB_refl] at h; simp at h
      ·
        refine c_skip ?_
        refine x_block ?_
        refine x_then ?_
        refine c_region ?_
        refine o_yield rfl rfl rfl (y_val tok rfl) ?_
        refine o_yield rfl rfl rfl (y_val tok rfl) ?_
        refine o_yield rfl rfl rfl (y_val tok rfl) ?_
        refine o_end [0, 1, 5] rfl ?_
        refine x_then ?_
        rw [wrapI (by omega) (by omega)]
        refine x_round (i + 1) (by omega) (by first | omega | (dsimp only; omega)) (by repeat (first | exact SubF.nil | refine SubF.cons rfl ?_)) (by repeat (first | exact SubO.nil | refine SubO.cons rfl ?_)) rfl (Vw.le.refl _)
    ·
      simp only [Bool.and_eq_true, Bool.or_eq_true, Bool.not_eq_true', Bool.or_eq_false_iff, Bool.and_eq_false_iff, decide_eq_true_eq, decide_eq_false_iff_not, beq_iff_eq, bne_iff_ne, Bool.not_eq_false', beq_eq_false_iff_ne, bne_eq_false_iff_eq, ne_eq, Decidable.not_not, Int.not_lt, Int.not_le] at h
      refine c_exit ?_
      refine x_then_exit ?_
      refine x_then_exit ?_
      refine x_block_hit ?_
      refine x_then ?_
      refine c_seq ?_
      refine c_region ?_
      refine o_yield rfl rfl rfl (y_val tok rfl) ?_
      refine o_end [4] rfl ?_
      refine x_then ?_
      refine c_ret ?_
      refine b_ret tok rfl ?_
      intro E w' hm _
      refine ⟨?_, hm.below (Vw.le.refl _)⟩
      rfl

theorem spans25_c (V : Vw) (sv tv : Value) (l : List Span) (w : World) (hV : V.le (vw w)) (hs0 : SlOf V Span.cells 2 sv l) (ht0 : SlOf V Span.cells 2 tv l) (hn : l.length ≤ lim) :
    Calls Try.prog 29 #[sv, tv] w fun e w' => e = .returned (.bool true) ∧ Below w.heap.size w w' := by
  unfold lim at hn
  have hs := hs0.mono hV
  have ht := ht0.mono hV
  refine enter (E := E0) (O := []) (nl := 0) (V := vw w) [.a (.v sv), .a (.v tv)] Try.func29 rfl rfl (mem0 E0 0 w) rfl rfl ?_
  refine c_seq ?_
  refine c_region ?_
  refine o_yield rfl rfl rfl (y_val tok rfl) ?_
  refine o_end [0, 1] rfl ?_
  refine x_then ?_
  refine c_seq ?_
  refine c_seq ?_
  refine c_region ?_
  refine o_yield rfl rfl rfl (y_val tok rfl) ?_
  refine o_yield rfl rfl rfl (y_len tok rfl (fun hg => hs.sl)) ?_
  refine o_yield rfl rfl rfl (y_val tok rfl) ?_
  refine o_yield rfl rfl rfl (y_len tok rfl (fun hg => ht.sl)) ?_
  refine o_yield rfl rfl rfl (y_val tok rfl) ?_
  refine o_end [0, 1, 10] rfl ?_
  refine x_then ?_
  refine c_cond rfl (fun h => ?_) (fun h => ?_)
  ·
    refine c_seq ?_
    refine c_region ?_
    refine o_yield rfl rfl rfl (y_val tok rfl) ?_
    refine o_end [4] rfl ?_
    refine x_then ?_
    refine c_ret ?_
    refine x_then_ret ?_
    refine b_ret tok rfl ?_
    simp at h
  ·
    refine c_skip ?_
    refine x_then ?_
    refine c_seq ?_
    refine c_seq ?_
    refine c_region ?_
    refine o_yield rfl rfl rfl (y_val tok rfl) ?_
    refine o_end [0, 1, 5] rfl ?_
    refine x_then ?_
    refine c_block ?_
    refine c_loopK [0, 1] [] rfl rfl (σ := Nat) (fun i => [(5, .a (.v (I i)))]) (fun i => []) (fun i => i ≤ l.length) (fun i => l.length - i) (0) (by omega) (by repeat (first | exact SubF.nil | refine SubF.cons rfl ?_)) (by repeat (first | exact SubO.nil | refine SubO.cons rfl ?_)) rfl ?_
    rintro i hi
    refine c_seq ?_
    refine c_seq ?_
    refine c_region ?_
    refine o_yield rfl rfl rfl (y_val tok rfl) ?_
    refine o_yield rfl rfl rfl (y_val tok rfl) ?_
    refine o_yield rfl rfl rfl (y_len tok rfl (fun hg => hs.sl)) ?_
    refine o_yield rfl rfl rfl (y_val tok rfl) ?_
    refine o_end [0, 1, 5, 14] rfl ?_
    refine x_then ?_
    refine c_cond rfl (fun h => ?_) (fun h => ?_)
    ·
      simp only [Bool.and_eq_true, Bool.or_eq_true, Bool.not_eq_true', Bool.or_eq_false_iff, Bool.and_eq_false_iff, decide_eq_true_eq, decide_eq_false_iff_not, beq_iff_eq, bne_iff_ne, Bool.not_eq_false', beq_eq_false_iff_ne, bne_eq_false_iff_eq, ne_eq, Decidable.not_not, Int.not_lt, Int.not_le] at h
      refine c_skip ?_
      refine x_then ?_
      refine c_seq ?_
      refine c_block ?_
      refine c_seq ?_
      refine c_draw mixed (by kernel_rfl) ?_
      refine d_yield rfl rfl rfl (y_val tok rfl) rfl ?_
      refine d_yield rfl rfl rfl (y_val tok rfl) rfl ?_
      obtain ⟨x, h_x⟩ := hs.at (k := i) (by omega)
      have hlt_x := lt_of_at h_x
      refine d_yield rfl rfl rfl (y_idx tok rfl (fun hg => hs.sl) (fun hg => ⟨by omega, by omega⟩)) rfl ?_
      refine d_yield rfl rfl rfl (y_lel tok (i) 0 (x) rfl (fun hg => hs) (fun hg => h_x) rfl rfl) rfl ?_
      refine d_yield rfl rfl rfl (y_val tok rfl) rfl ?_
      refine d_yield rfl rfl rfl (y_val tok rfl) rfl ?_
      have hlt_x := lt_of_at h_x
      refine d_yield rfl rfl rfl (y_idx tok rfl (fun hg => ht.sl) (fun hg => ⟨by omega, by omega⟩)) rfl ?_
      refine d_yield rfl rfl rfl (y_lel tok (i) 0 (x) rfl (fun hg => ht) (fun hg => h_x) rfl rfl) rfl ?_
      refine d_yield rfl rfl rfl (y_seq (.bool (!(x.lo == x.lo && x.hi == x.hi))) rfl (fun E w => spanEq x.lo x.hi x.lo x.hi w (.inr rfl))) rfl ?_
      refine d_end [0, 1, 5, 25] rfl ?_
      refine x_then ?_
      refine c_cond rfl (fun h => ?_) (fun h => ?_)
      ·
        refine c_seq ?_
        refine c_region ?_
        refine o_yield rfl rfl rfl (y_val tok rfl) ?_
        refine o_end [4] rfl ?_
        refine x_then ?_
        refine c_ret ?_
        refine x_block_ret ?_
        refine x_then_ret ?_
        refine x_then_ret ?_
        refine x_block_ret ?_
        refine x_then_ret ?_
        refine b_ret tok rfl ?_
        simp at h
      ·
        refine c_skip ?_
        refine x_block ?_
        refine x_then ?_
        refine c_region ?_
        refine o_yield rfl rfl rfl (y_val tok rfl) ?_
        refine o_yield rfl rfl rfl (y_val tok rfl) ?_
        refine o_yield rfl rfl rfl (y_val tok rfl) ?_
        refine o_end [0, 1, 5] rfl ?_
        refine x_then ?_
        rw [wrapI (by omega) (by omega)]
        refine x_round (i + 1) (by omega) (by first | omega | (dsimp only; omega)) (by repeat (first | exact SubF.nil | refine SubF.cons rfl ?_)) (by repeat (first | exact SubO.nil | refine SubO.cons rfl ?_)) rfl (Vw.le.refl _)
    ·
      simp only [Bool.and_eq_true, Bool.or_eq_true, Bool.not_eq_true', Bool.or_eq_false_iff, Bool.and_eq_false_iff, decide_eq_true_eq, decide_eq_false_iff_not, beq_iff_eq, bne_iff_ne, Bool.not_eq_false', beq_eq_false_iff_ne, bne_eq_false_iff_eq, ne_eq, Decidable.not_not, Int.not_lt, Int.not_le] at h
      refine c_exit ?_
      refine x_then_exit ?_
      refine x_then_exit ?_
      refine x_block_hit ?_
      refine x_then ?_
      refine c_seq ?_
      refine c_region ?_
      refine o_yield rfl rfl rfl (y_val tok rfl) ?_
      refine o_end [4] rfl ?_
      refine x_then ?_
      refine c_ret ?_
      refine b_ret tok rfl ?_
      intro E w' hm _
      refine ⟨?_, hm.below (Vw.le.refl _)⟩
      rfl
end Go.Proofs.Ytiapfhcimekdkaa

/- Locks: commands, or why there is none. -/
set_option linter.unusedVariables false
set_option linter.unusedSimpArgs false
set_option maxRecDepth 100000
namespace Go.Proofs.Ytiapfhcimekdkaa
open Go Go.Eng Go.RowKit

/-- A command with its owner. -/
abbrev ownC (key serial : Int) (c : Cmd) : Cmd := ⟨c.kind, key, serial, c.dead, c.was, c.lo, c.hi, c.mode⟩

def saysV (key serial : Int) (t : Tb) (c : Cmd) : ByteArray × Int :=
  if (decide (0 ≤ slotI t.S key) && (cbE (ownC key serial c) == 0)) = true then (cbV (ownC key serial c), 0) else (ByteArray.empty, 2)

theorem says_c (V : Vw) (tv : Value) (t : Tb) (key serial : Int) (c : Cmd) (w : World) (ht : t.Fit) (hV : V.le (vw w)) (h : TbIs V tv t) :
    Calls Try.prog 80 #[.agg #[I key, I serial], tv, c.val] w fun e w' => e = .returned (.tuple #[S (saysV key serial t c).1, I (saysV key serial t c).2]) ∧ Below w.heap.size w w' := by
  obtain ⟨a, n, c0, a2, n2, c2, a3, n3, c3, rfl, h1, h2, h3⟩ := id h
  have hs := ht.s
  have hlim : lim = 4398046511104 := rfl
  refine enter (E := E0) (O := []) (nl := 0) (V := vw w) [.a (.v (.agg #[I key, I serial])), .a (.v (.agg #[.slice a n c0, .slice a2 n2 c2, .slice a3 n3 c3])), .a (.v c.val)] Try.func80 rfl rfl (mem0 E0 0 w) rfl rfl ?_
  refine c_seq ?_
  refine c_region ?_
  refine o_new tok rfl rfl rfl rfl ?_
  refine o_new tok rfl rfl rfl rfl ?_
  refine o_new tok rfl rfl rfl rfl ?_
  refine o_yield rfl rfl rfl (y_val tok rfl) ?_
  refine o_yield rfl rfl rfl (y_val tok rfl) ?_
  refine o_end [3, 4, 5] rfl ?_
  refine x_then ?_
  refine c_seq ?_
  refine c_held [] ([(0, .lit [.v (I key), .v (I serial)] 100)]) mixed (by repeat (first | exact SubO.nil | refine SubO.cons rfl ?_)) (by first | rfl | simp [okCels, allOk_plain]) ?_
  refine t_take 0 rfl (by kernel_rfl) rfl rfl rfl (y_val tok rfl) rfl ?_
  refine t_take 1 rfl (by kernel_rfl) rfl rfl rfl (y_val tok rfl) rfl ?_
  refine t_take 2 rfl (by kernel_rfl) rfl rfl rfl (y_val tok rfl) rfl ?_
  refine t_take 3 rfl (by kernel_rfl) rfl rfl rfl (y_val tok rfl) rfl ?_
  refine t_take 4 rfl (by kernel_rfl) rfl rfl rfl (y_val tok rfl) rfl ?_
  refine t_go ?_
  refine h_one 5 (by kernel_rfl) ?_
  refine h_store 5 tok rfl rfl rfl rfl (by first | exact ⟨trivial, trivial⟩ | (repeat' first | exact trivial | exact rfl | apply And.intro); done | simp [onesP, oneP, lk, Value.oneCell']) (.inr ⟨(by repeat (first | exact SubO.nil | refine SubO.cons rfl ?_)), rfl, (by first | exact Vw.le.refl _ | assumption)⟩) ?_
  refine h_one 6 (by kernel_rfl) ?_
  refine h_yield 6 rfl rfl rfl rfl (y_val tok rfl) ?_
  refine h_one 7 (by kernel_rfl) ?_
  refine h_store 7 tok rfl rfl rfl rfl (by first | exact ⟨trivial, trivial⟩ | (repeat' first | exact trivial | exact rfl | apply And.intro); done | simp [onesP, oneP, lk, Value.oneCell']) (.inr ⟨(by repeat (first | exact SubO.nil | refine SubO.cons rfl ?_)), rfl, (by first | exact Vw.le.refl _ | assumption)⟩) ?_
  refine h_done [3, 4, 5] (by kernel_rfl) rfl ?_
  refine x_then ?_
  refine c_seq ?_
  refine c_region ?_
  refine o_yield rfl rfl rfl (y_val tok rfl) ?_
  refine o_yield rfl rfl rfl (y_val tok rfl) ?_
  refine o_yield rfl rfl rfl (y_val tok rfl) ?_
  refine o_call (.a (.v _)) rfl rfl fnok112 rfl rfl rfl (fun hg E w1 hm => by exact tSlot_c V a n c0 _ _ t.S key _ (hV.trans hm.leV) h1 (by omega)) ?_
  refine o_yield rfl rfl rfl (y_val tok rfl) ?_
  refine o_yield rfl rfl rfl (y_val tok rfl) ?_
  refine o_yield rfl rfl rfl (y_val tok rfl) ?_
  refine o_yield rfl rfl rfl (y_val tok rfl) ?_
  refine o_yield rfl rfl rfl (y_val tok rfl) ?_
  refine o_end [5, 9] rfl ?_
  refine x_then ?_
  refine c_seq ?_
  refine c_seq ?_
  refine c_region ?_
  refine o_yield rfl rfl rfl (y_val tok rfl) ?_
  refine o_call (.a (.v _)) rfl rfl fnok123 rfl rfl rfl (fun hg E w1 hm => by exact cmdBytes_c (ownC key serial c) _) ?_
  refine o_yield rfl rfl rfl (y_val tok rfl) ?_
  refine o_yield rfl rfl rfl (y_val tok rfl) ?_
  refine o_yield rfl rfl rfl (y_val tok rfl) ?_
  refine o_yield rfl rfl rfl (y_val tok rfl) ?_
  refine o_yield rfl rfl rfl (y_val tok rfl) ?_
  refine o_end [9, 10, 11] rfl ?_
  refine x_then ?_
  refine c_seq ?_
  refine c_region ?_
  refine o_yield rfl rfl rfl (y_val tok rfl) ?_
  refine o_yield rfl rfl rfl (y_val tok rfl) ?_
  refine o_yield rfl rfl rfl (y_val tok rfl) ?_
  refine o_yield rfl rfl rfl (y_val tok rfl) ?_
  refine o_yield rfl rfl rfl (y_val tok rfl) ?_
  refine o_end [10, 34] rfl ?_
  refine x_then ?_
  refine c_cond rfl (fun h => ?_) (fun h => ?_)
  ·
    refine c_seq ?_
    refine c_region ?_
    refine o_yield rfl rfl rfl (y_val tok rfl) ?_
    refine o_yield rfl rfl rfl (y_val tok rfl) ?_
    refine o_yield rfl rfl rfl (y_val tok rfl) ?_
    refine o_end [6, 7] rfl ?_
    refine x_then ?_
    refine c_ret ?_
    refine x_then_ret ?_
    refine b_ret tok rfl ?_
    intro E w' hm _
    refine ⟨?_, hm.below (Vw.le.refl _)⟩
    rw [saysV, if_pos h]; rfl
  ·
    refine c_skip ?_
    refine x_then ?_
    refine c_seq ?_
    refine c_region ?_
    refine o_yield rfl rfl rfl (y_val tok rfl) ?_
    refine o_yield rfl rfl rfl (y_val tok rfl) ?_
    refine o_end [6, 7] rfl ?_
    refine x_then ?_
    refine c_ret ?_
    refine b_ret tok rfl ?_
    intro E w' hm _
    refine ⟨?_, hm.below (Vw.le.refl _)⟩
    rw [saysV, if_neg (by rw [h]; simp)]; rfl

/-- What a key has and waits for. -/
def allL (key : Int) (t : Tb) : List Hold := (t.H ++ t.Q).filter fun h => h.key == key

theorem viewAll_c (V : Vw) (v1 v2 v3 : Value) (t : Tb) (key serial : Int) (w : World) (ht : t.Fit) (hV : V.le (vw w)) (h : TbIs V (.agg #[v1, v2, v3]) t) :
    Calls Try.prog 81 #[.agg #[I key, I serial, v1, v2, v3]] w (HRow (allL key t) w) := by
  obtain ⟨a, n, c, a2, n2, c2, a3, n3, c3, hv, h1, h2, h3⟩ := h
  simp only [Value.agg.injEq, Array.mk.injEq, List.cons.injEq, and_true] at hv
  obtain ⟨rfl, rfl, rfl⟩ := hv
  have hh := ht.h
  have hq := ht.q
  have hal : allL key t = (t.H ++ t.Q).filter fun h => h.key == key := rfl
  have hLl : (t.H ++ t.Q).length ≤ 200000 := by rw [List.length_append]; omega
  refine enter (E := E0) (O := []) (nl := 0) (V := vw w) [.a (.v (.agg #[I key, I serial, .slice a n c, .slice a2 n2 c2, .slice a3 n3 c3]))] Try.func81 rfl rfl (mem0 E0 0 w) rfl rfl ?_
  refine c_seq ?_
  refine c_region ?_
  refine o_new tok rfl rfl rfl rfl ?_
  refine o_yield rfl rfl rfl (y_val tok rfl) ?_
  refine o_end [1] rfl ?_
  refine x_then ?_
  refine c_seq ?_
  refine c_heldR mixed rfl (by repeat (first | exact SubO.nil | refine SubO.cons rfl ?_)) (by first | rfl | simp [okCels, allOk_plain]) ?_
  refine t_take 0 rfl (by kernel_rfl) rfl rfl rfl (y_val tok rfl) rfl ?_
  refine t_take 1 rfl (by kernel_rfl) rfl rfl rfl (y_val tok rfl) rfl ?_
  refine t_take 2 rfl (by kernel_rfl) rfl rfl rfl (y_val tok rfl) rfl ?_
  refine t_take 3 rfl (by kernel_rfl) rfl rfl rfl (y_val tok rfl) rfl ?_
  refine t_take 4 rfl (by kernel_rfl) rfl rfl rfl (y_val tok rfl) rfl ?_
  refine t_take 5 rfl (by kernel_rfl) rfl rfl rfl (y_val tok rfl) rfl ?_
  refine t_take 8 rfl (by kernel_rfl) rfl rfl rfl (y_val tok rfl) rfl ?_
  refine t_take 9 rfl (by kernel_rfl) rfl rfl rfl (y_val tok rfl) rfl ?_
  refine t_take 10 rfl (by kernel_rfl) rfl rfl rfl (y_mkb rfl) rfl ?_
  refine t_go ?_
  refine h_one 6 (by kernel_rfl) ?_
  refine h_to 6 rfl rfl rfl rfl rfl rfl (s_bs tok 1 rfl rfl rfl) (.inr fun _ _ => ⟨(by repeat (first | exact SubO.nil | refine SubO.cons rfl ?_)), rfl, (by first | exact Vw.le.refl _ | assumption)⟩) (fun _ _ => ?_)
  refine h_one 7 (by kernel_rfl) ?_
  refine h_to 7 rfl rfl rfl rfl rfl rfl (s_callRow 43 4 (t.H ++ t.Q).length ((t.H ++ t.Q).flatMap Hold.cells) rfl fnok62 (fun E w1 hm => by have h := concat_c (vw w1) (E.κ 1) [⟨.slice a2 n2 c2, t.H⟩, ⟨.slice a3 n3 c3, t.Q⟩] w1 (Vw.le.refl _) (hm.rowOf (enc := Sl.enc) 1 rfl (fun _ => rfl)) (by intro s hs; simp only [List.mem_cons, List.not_mem_nil, or_false] at hs; rcases hs with rfl | rfl <;> first | exact h2.mono (hV.trans hm.leV) | exact h3.mono (hV.trans hm.leV)) (by simp) (by rw [catL_two]; dsimp only; omega); rw [catL_two] at h; exact h)) (.inr fun _ _ => ⟨(by repeat (first | exact SubO.nil | refine SubO.cons rfl ?_)), rfl, (by first | exact Vw.le.refl _ | assumption)⟩) (fun _ _ => ?_)
  refine h_one 11 (by kernel_rfl) ?_
  obtain ⟨L, hL⟩ : ∃ L, L = t.H ++ t.Q := ⟨_, rfl⟩
  rw [← hL] at hLl hal ⊢
  refine h_to 11 rfl rfl rfl rfl rfl rfl (s_callRow 43 4 (allL key t).length ((allL key t).flatMap Hold.cells) rfl fnok72 (fun E w1 hm => by rw [hal]; exact choose_c (vw w1) _ _ (fun h => h.key == key) L w1 (Vw.le.refl _) (hm.rowOf 2 rfl (fun _ => rfl)) (by omega) (fun x w' hle => ⟨74, #[.agg #[I key, I serial]], #[], rfl, fnok74, ohas_c key serial x w'⟩))) (.inr fun _ _ => ⟨(by repeat (first | exact SubO.nil | refine SubO.cons rfl ?_)), rfl, (by first | exact Vw.le.refl _ | assumption)⟩) (fun _ _ => ?_)
  refine h_one 12 (by kernel_rfl) ?_
  refine h_yield 12 rfl rfl rfl rfl (y_val tok rfl) ?_
  refine h_done [2] (by kernel_rfl) rfl ?_
  refine x_then ?_
  refine c_ret ?_
  refine b_ret tok rfl ?_
  intro E' w' hm _
  exact ⟨_, rfl, hm.rowFresh (Vw.le.refl _) (l := 3) rfl, hm.below (Vw.le.refl _)⟩

theorem allL_len (key : Int) (t : Tb) : (allL key t).length ≤ t.H.length + t.Q.length := by
  rw [← List.length_append]; exact List.length_filter_le _ _

def askV (g : Geo) (t : Tb) (key serial lo hi mode : Int) : ByteArray × Int :=
  if (saysV key serial t ⟨2, 0, 0, 0, 0, lo, hi, mode⟩).2 ≠ 0 ∨ holdB g.blocks ⟨key, lo, hi, mode⟩ = false then (ByteArray.empty, 2)
  else if touches (allL key t) key lo hi = true then (ByteArray.empty, 251) else if 64 ≤ (allL key t).length then (ByteArray.empty, 252) else ((saysV key serial t ⟨2, 0, 0, 0, 0, lo, hi, mode⟩).1, 0)

theorem lkAsk_c (V : Vw) (g : Geo) (tv : Value) (t : Tb) (key serial lo hi mode : Int) (w : World) (ht : t.Fit) (hV : V.le (vw w)) (h : TbIs V tv t) :
    Calls Try.prog 33 #[g.val, tv, I key, I serial, .agg #[I lo, I hi], I8 mode] w fun e w' => e = .returned (.tuple #[S (askV g t key serial lo hi mode).1, I (askV g t key serial lo hi mode).2]) ∧ Below w.heap.size w w' := by
  obtain ⟨a, n, c0, a2, n2, c2, a3, n3, c3, rfl, h1, h2, h3⟩ := id h
  have hh := ht.h
  have hq := ht.q
  have hlim : lim = 4398046511104 := rfl
  have hall := allL_len key t
  have hA : askV g t key serial lo hi mode = if (saysV key serial t ⟨2, 0, 0, 0, 0, lo, hi, mode⟩).2 ≠ 0 ∨ holdB g.blocks ⟨key, lo, hi, mode⟩ = false then (ByteArray.empty, 2)
    else if touches (allL key t) key lo hi = true then (ByteArray.empty, 251) else if 64 ≤ (allL key t).length then (ByteArray.empty, 252) else ((saysV key serial t ⟨2, 0, 0, 0, 0, lo, hi, mode⟩).1, 0) := rfl
  have hsay := fun w1 hw1 => says_c V _ t key serial ⟨2, 0, 0, 0, 0, lo, hi, mode⟩ w1 ht hw1 h
  have hvw := fun w1 hw1 => viewAll_c V _ _ _ t key serial w1 ht hw1 h
  generalize saysV key serial t ⟨2, 0, 0, 0, 0, lo, hi, mode⟩ = sv at hA hsay
  generalize allL key t = L at hA hvw hall
  rw [hA]
  refine enter (E := E0) (O := []) (nl := 0) (V := vw w) [.a (.v g.val), .a (.v (.agg #[.slice a n c0, .slice a2 n2 c2, .slice a3 n3 c3])), .a (.v (I key)), .a (.v (I serial)), .a (.v (.agg #[I lo, I hi])), .a (.v (I8 mode))] Try.func33 rfl rfl (mem0 E0 0 w) rfl rfl ?_
  refine c_seq ?_
  refine c_region ?_
  refine o_new tok rfl rfl rfl rfl ?_
  refine o_new tok rfl rfl rfl rfl ?_
  refine o_new tok rfl rfl rfl rfl ?_
  refine o_yield rfl rfl rfl (y_val tok rfl) ?_
  refine o_yield rfl rfl rfl (y_val tok rfl) ?_
  refine o_end [2, 3, 5, 6, 7, 10] rfl ?_
  refine x_then ?_
  refine c_seq ?_
  refine c_region ?_
  refine o_yield rfl rfl rfl (y_val tok rfl) ?_
  refine o_yield rfl rfl rfl (y_val tok rfl) ?_
  refine o_yield rfl rfl rfl (y_val tok rfl) ?_
  refine o_call (.agg [.v (I key), .v (I serial), .v (.slice a n c0), .v (.slice a2 n2 c2), .v (.slice a3 n3 c3)]) rfl rfl fnok71 rfl rfl rfl (fun hg E w1 hm => by exact see_c _ _ _ _ _ _ _ _ _ _ _ _ rfl rfl rfl key serial _) ?_
  refine o_new tok rfl rfl rfl rfl ?_
  refine o_store tok rfl rfl rfl (by first | exact ⟨trivial, trivial⟩ | (repeat' first | exact trivial | exact rfl | apply And.intro); done | simp [onesP, oneP, lk, Value.oneCell']) ?_
  refine o_end [2, 5, 6, 7, 10, 14] rfl ?_
  refine x_then ?_
  refine c_seq ?_
  refine c_region ?_
  refine o_yield rfl rfl rfl (y_val tok rfl) ?_
  refine o_yield rfl rfl rfl (y_val tok rfl) ?_
  refine o_yield rfl rfl rfl (y_val tok rfl) ?_
  refine o_yield rfl rfl rfl (y_val tok rfl) ?_
  refine o_yield rfl rfl rfl (y_val tok rfl) ?_
  refine o_yield rfl rfl rfl (y_val tok rfl) ?_
  refine o_call (.tup [.v (S sv.1), .v (I sv.2)]) rfl rfl fnok80 rfl rfl rfl (fun hg E w1 hm => by exact hsay _ (hV.trans hm.leV)) ?_
  refine o_yield rfl rfl rfl (y_val tok rfl) ?_
  refine o_yield rfl rfl rfl (y_val tok rfl) ?_
  refine o_yield rfl rfl rfl (y_val tok rfl) ?_
  refine o_yield rfl rfl rfl (y_val tok rfl) ?_
  refine o_yield rfl rfl rfl (y_val tok rfl) ?_
  refine o_end [2, 5, 6, 10, 14, 15, 16] rfl ?_
  refine x_then ?_
  refine c_seq ?_
  refine c_region ?_
  refine o_yield rfl rfl rfl (y_val tok rfl) ?_
  refine o_step rfl rfl rfl rfl rfl (s_callRow 43 4 L.length (L.flatMap Hold.cells) rfl fnok81 (fun E w1 hm => hvw w1 (hV.trans hm.leV))) (fun _ _ => ?_)
  refine o_yield rfl rfl rfl (y_val tok rfl) ?_
  refine o_end [2, 5, 6, 10, 15, 16, 17] rfl ?_
  refine x_then ?_
  refine c_seq ?_
  refine c_block ?_
  refine c_seq ?_
  refine c_region ?_
  refine o_yield rfl rfl rfl (y_val tok rfl) ?_
  refine o_yield rfl rfl rfl (y_val tok rfl) ?_
  refine o_yield rfl rfl rfl (y_val tok rfl) ?_
  refine o_yield rfl rfl rfl (y_val tok rfl) ?_
  refine o_yield rfl rfl rfl (y_val tok rfl) ?_
  refine o_yield rfl rfl rfl (y_val tok rfl) ?_
  refine o_yield rfl rfl rfl (y_val tok rfl) ?_
  refine o_yield rfl rfl rfl (y_val tok rfl) ?_
  refine o_call (.a (.v _)) rfl rfl fnok64 rfl rfl rfl (fun hg E w1 hm => by exact spHold_c g ⟨key, lo, hi, mode⟩ _) ?_
  refine o_yield rfl rfl rfl (y_val tok rfl) ?_
  refine o_yield rfl rfl rfl (y_val tok rfl) ?_
  refine o_yield rfl rfl rfl (y_val tok rfl) ?_
  refine o_end [2, 10, 15, 17, 34] rfl ?_
  refine x_then ?_
  refine c_cond rfl (fun h => ?_) (fun h => ?_)
  ·
    refine c_seq ?_
    refine c_region ?_
    refine o_yield rfl rfl rfl (y_val tok rfl) ?_
    refine o_yield rfl rfl rfl (y_val tok rfl) ?_
    refine o_end [12, 13] rfl ?_
    refine x_then ?_
    refine c_ret ?_
    refine x_block_ret ?_
    refine x_then_ret ?_
    refine b_ret tok rfl ?_
    have hc : sv.2 ≠ 0 ∨ holdB g.blocks ⟨key, lo, hi, mode⟩ = false := by simpa using h
    intro E w' hm _
    refine ⟨?_, hm.below (Vw.le.refl _)⟩
    rw [if_pos hc]; rfl
  ·
    have hc : ¬ (sv.2 ≠ 0 ∨ holdB g.blocks ⟨key, lo, hi, mode⟩ = false) := by
      intro hc
      rcases hc with hc | hc <;> simp [hc] at h
    rw [if_neg hc]
    clear h
    refine c_seq ?_
    refine c_region ?_
    refine o_yield rfl rfl rfl (y_val tok rfl) ?_
    refine o_yield rfl rfl rfl (y_val tok rfl) ?_
    refine o_yield rfl rfl rfl (y_val tok rfl) ?_
    refine o_call (.a (.v _)) rfl rfl fnok65 rfl rfl rfl (fun hg E w1 hm => by exact spTouches_c (vw w1) (E.κ 4) L key lo hi _ (Vw.le.refl _) (hm.rowOf 4 rfl (fun _ => rfl)) (by omega)) ?_
    refine o_yield rfl rfl rfl (y_val tok rfl) ?_
    refine o_end [15, 17, 46] rfl ?_
    refine x_then ?_
    refine c_cond rfl (fun h => ?_) (fun h => ?_)
    ·
      refine c_seq ?_
      refine c_region ?_
      refine o_yield rfl rfl rfl (y_val tok rfl) ?_
      refine o_yield rfl rfl rfl (y_val tok rfl) ?_
      refine o_end [12, 13] rfl ?_
      refine x_then ?_
      refine c_ret ?_
      refine x_block_ret ?_
      refine x_then_ret ?_
      refine b_ret tok rfl ?_
      intro E w' hm _
      refine ⟨?_, hm.below (Vw.le.refl _)⟩
      rw [if_pos h]; rfl
    ·
      rw [if_neg (by rw [h]; simp)]
      clear h
      refine c_seq ?_
      refine c_region ?_
      refine o_yield rfl rfl rfl (y_val tok rfl) ?_
      refine o_yield rfl rfl rfl (y_own (s := .a (.v (I L.length))) 4 rfl rfl (fun v V' hv => y_len tok rfl (fun hg => hv))) ?_
      refine o_yield rfl rfl rfl (y_val tok rfl) ?_
      refine o_yield rfl rfl rfl (y_val tok rfl) ?_
      refine o_end [15, 51] rfl ?_
      refine x_then ?_
      refine c_cond rfl (fun h => ?_) (fun h => ?_)
      ·
        refine c_seq ?_
        refine c_region ?_
        refine o_yield rfl rfl rfl (y_val tok rfl) ?_
        refine o_yield rfl rfl rfl (y_val tok rfl) ?_
        refine o_end [12, 13] rfl ?_
        refine x_then ?_
        refine c_ret ?_
        refine x_block_ret ?_
        refine x_then_ret ?_
        refine b_ret tok rfl ?_
        have hc : 64 ≤ L.length := by simp at h; omega
        intro E w' hm _
        refine ⟨?_, hm.below (Vw.le.refl _)⟩
        rw [if_pos hc]; rfl
      ·
        refine c_skip ?_
        refine x_block ?_
        refine x_then ?_
        refine c_seq ?_
        refine c_region ?_
        refine o_yield rfl rfl rfl (y_val tok rfl) ?_
        refine o_yield rfl rfl rfl (y_val tok rfl) ?_
        refine o_yield rfl rfl rfl (y_val tok rfl) ?_
        refine o_end [12, 13] rfl ?_
        refine x_then ?_
        refine c_ret ?_
        refine b_ret tok rfl ?_
        have hc : ¬ 64 ≤ L.length := by simp at h; omega
        intro E w' hm _
        refine ⟨?_, hm.below (Vw.le.refl _)⟩
        rw [if_neg hc]; rfl

def spanF (lo hi : Int) (h : Hold) : Bool := h.lo == lo && h.hi == hi

def freeV (g : Geo) (t : Tb) (key serial lo hi : Int) : ByteArray × Int :=
  if (saysV key serial t ⟨3, 0, 0, 0, 0, lo, hi, 0⟩).2 ≠ 0 ∨ may g.blocks lo hi = false then (ByteArray.empty, 2)
  else if (allL key t).any (spanF lo hi) = false then (ByteArray.empty, 250) else ((saysV key serial t ⟨3, 0, 0, 0, 0, lo, hi, 0⟩).1, 0)

theorem lkFreeFn_c (x : Hold) (lo hi : Int) (b : Nat) (V : Vw) (hb : V.get b = some (.cells [I lo, I hi].toArray 34 (0, 0))) (w : World) (hV : V.le (vw w)) :
    Calls Try.prog 91 #[x.val, .pointer (some ⟨b, 0, none⟩)] w fun e w' => e = .returned (.bool (spanF lo hi x)) ∧ Below w.heap.size w w' := by
  refine enter (E := E0) (O := []) (nl := 0) (V := vw w) [.a (.v x.val), .a (.v (.pointer (some ⟨b, 0, none⟩)))] Try.func91 rfl rfl (mem0 E0 0 w) rfl rfl ?_
  refine c_seq ?_
  refine c_region ?_
  refine o_new tok rfl rfl rfl rfl ?_
  refine o_yield rfl rfl rfl (y_val tok rfl) ?_
  refine o_end [1, 2] rfl ?_
  refine x_then ?_
  refine c_seq ?_
  refine c_region ?_
  refine o_yield rfl rfl rfl (y_val tok rfl) ?_
  refine o_yield rfl rfl rfl (y_val tok rfl) ?_
  refine o_yield rfl rfl rfl (y_ldp (cs := [I lo, I hi]) tok rfl (fun hg => hV.get _ _ hb) rfl) ?_
  refine o_yield rfl rfl rfl (y_seq (.bool (x.lo == lo && x.hi == hi)) rfl (fun E w => spanEq x.lo x.hi lo hi w (.inl rfl))) ?_
  refine o_yield rfl rfl rfl (y_val tok rfl) ?_
  refine o_end [3] rfl ?_
  refine x_then ?_
  refine c_ret ?_
  refine b_ret tok rfl ?_
  intro E w' hm _
  refine ⟨?_, hm.below (Vw.le.refl _)⟩
  rfl

theorem lkFree_c (V : Vw) (g : Geo) (tv : Value) (t : Tb) (key serial lo hi : Int) (w : World) (ht : t.Fit) (hV : V.le (vw w)) (h : TbIs V tv t) :
    Calls Try.prog 37 #[g.val, tv, I key, I serial, .agg #[I lo, I hi]] w fun e w' => e = .returned (.tuple #[S (freeV g t key serial lo hi).1, I (freeV g t key serial lo hi).2]) ∧ Below w.heap.size w w' := by
  obtain ⟨a, n, c0, a2, n2, c2, a3, n3, c3, rfl, h1, h2, h3⟩ := id h
  have hh := ht.h
  have hq := ht.q
  have hlim : lim = 4398046511104 := rfl
  have hall := allL_len key t
  have hA : freeV g t key serial lo hi = if (saysV key serial t ⟨3, 0, 0, 0, 0, lo, hi, 0⟩).2 ≠ 0 ∨ may g.blocks lo hi = false then (ByteArray.empty, 2)
    else if (allL key t).any (spanF lo hi) = false then (ByteArray.empty, 250) else ((saysV key serial t ⟨3, 0, 0, 0, 0, lo, hi, 0⟩).1, 0) := rfl
  have hsay := fun w1 hw1 => says_c V _ t key serial ⟨3, 0, 0, 0, 0, lo, hi, 0⟩ w1 ht hw1 h
  have hvw := fun w1 hw1 => viewAll_c V _ _ _ t key serial w1 ht hw1 h
  generalize saysV key serial t ⟨3, 0, 0, 0, 0, lo, hi, 0⟩ = sv at hA hsay
  generalize allL key t = L at hA hvw hall
  rw [hA]
  refine enter (E := E0) (O := []) (nl := 0) (V := vw w) [.a (.v g.val), .a (.v (.agg #[.slice a n c0, .slice a2 n2 c2, .slice a3 n3 c3])), .a (.v (I key)), .a (.v (I serial)), .a (.v (.agg #[I lo, I hi]))] Try.func37 rfl rfl (mem0 E0 0 w) rfl rfl ?_
  refine c_seq ?_
  refine c_region ?_
  refine o_new tok rfl rfl rfl rfl ?_
  refine o_new tok rfl rfl rfl rfl ?_
  refine o_new tok rfl rfl rfl rfl ?_
  refine o_yield rfl rfl rfl (y_val tok rfl) ?_
  refine o_yield rfl rfl rfl (y_val tok rfl) ?_
  refine o_end [2, 3, 5, 6, 9] rfl ?_
  refine x_then ?_
  refine c_seq ?_
  refine c_region ?_
  refine o_yield rfl rfl rfl (y_val tok rfl) ?_
  refine o_yield rfl rfl rfl (y_val tok rfl) ?_
  refine o_yield rfl rfl rfl (y_val tok rfl) ?_
  refine o_call (.agg [.v (I key), .v (I serial), .v (.slice a n c0), .v (.slice a2 n2 c2), .v (.slice a3 n3 c3)]) rfl rfl fnok71 rfl rfl rfl (fun hg E w1 hm => by exact see_c _ _ _ _ _ _ _ _ _ _ _ _ rfl rfl rfl key serial _) ?_
  refine o_new tok rfl rfl rfl rfl ?_
  refine o_store tok rfl rfl rfl (by first | exact ⟨trivial, trivial⟩ | (repeat' first | exact trivial | exact rfl | apply And.intro); done | simp [onesP, oneP, lk, Value.oneCell']) ?_
  refine o_end [5, 6, 9, 12] rfl ?_
  refine x_then ?_
  refine c_seq ?_
  refine c_region ?_
  refine o_yield rfl rfl rfl (y_val tok rfl) ?_
  refine o_yield rfl rfl rfl (y_val tok rfl) ?_
  refine o_yield rfl rfl rfl (y_val tok rfl) ?_
  refine o_yield rfl rfl rfl (y_val tok rfl) ?_
  refine o_yield rfl rfl rfl (y_val tok rfl) ?_
  refine o_call (.tup [.v (S sv.1), .v (I sv.2)]) rfl rfl fnok80 rfl rfl rfl (fun hg E w1 hm => by exact hsay _ (hV.trans hm.leV)) ?_
  refine o_yield rfl rfl rfl (y_val tok rfl) ?_
  refine o_yield rfl rfl rfl (y_val tok rfl) ?_
  refine o_yield rfl rfl rfl (y_val tok rfl) ?_
  refine o_yield rfl rfl rfl (y_val tok rfl) ?_
  refine o_yield rfl rfl rfl (y_val tok rfl) ?_
  refine o_end [5, 9, 12, 13, 14] rfl ?_
  refine x_then ?_
  refine c_seq ?_
  refine c_block ?_
  refine c_seq ?_
  refine c_region ?_
  refine o_yield rfl rfl rfl (y_val tok rfl) ?_
  refine o_yield rfl rfl rfl (y_val tok rfl) ?_
  refine o_yield rfl rfl rfl (y_val tok rfl) ?_
  refine o_yield rfl rfl rfl (y_val tok rfl) ?_
  refine o_yield rfl rfl rfl (y_val tok rfl) ?_
  refine o_call (.a (.v _)) rfl rfl fnok89 rfl rfl rfl (fun hg E w1 hm => by exact spMay_c g lo hi _) ?_
  refine o_yield rfl rfl rfl (y_val tok rfl) ?_
  refine o_yield rfl rfl rfl (y_val tok rfl) ?_
  refine o_yield rfl rfl rfl (y_val tok rfl) ?_
  refine o_end [9, 12, 13, 28] rfl ?_
  refine x_then ?_
  refine c_cond rfl (fun h => ?_) (fun h => ?_)
  ·
    refine c_seq ?_
    refine c_region ?_
    refine o_yield rfl rfl rfl (y_val tok rfl) ?_
    refine o_yield rfl rfl rfl (y_val tok rfl) ?_
    refine o_end [10, 11] rfl ?_
    refine x_then ?_
    refine c_ret ?_
    refine x_block_ret ?_
    refine x_then_ret ?_
    refine b_ret tok rfl ?_
    have hc : sv.2 ≠ 0 ∨ may g.blocks lo hi = false := by simpa using h
    intro E w' hm _
    refine ⟨?_, hm.below (Vw.le.refl _)⟩
    rw [if_pos hc]; rfl
  ·
    have hc : ¬ (sv.2 ≠ 0 ∨ may g.blocks lo hi = false) := by
      intro hc
      rcases hc with hc | hc <;> simp [hc] at h
    rw [if_neg hc]
    clear h
    refine c_seq ?_
    refine c_region ?_
    refine o_yield rfl rfl rfl (y_val tok rfl) ?_
    refine o_step rfl rfl rfl rfl rfl (s_callRow 43 4 L.length (L.flatMap Hold.cells) rfl fnok81 (fun E w1 hm => hvw w1 (hV.trans hm.leV))) (fun _ _ => ?_)
    refine o_yield rfl rfl rfl (y_val tok rfl) ?_
    refine o_call (.a (.v _)) rfl rfl fnok90 rfl rfl rfl (fun hg E w1 hm => by exact spContainsFunc_c (vw w1) _ (E.κ 4) (spanF lo hi) L _ (Vw.le.refl _) (hm.rowOf 4 rfl (fun _ => rfl)) (by omega) (fun x w' hle => ⟨91, _, rfl, fnok91, lkFreeFn_c x lo hi _ (vw w1) (hm.lit 2 _ _ rfl) w' hle⟩)) ?_
    refine o_yield rfl rfl rfl (y_val tok rfl) ?_
    refine o_yield rfl rfl rfl (y_val tok rfl) ?_
    refine o_end [13, 37] rfl ?_
    refine x_then ?_
    refine c_cond rfl (fun h => ?_) (fun h => ?_)
    ·
      refine c_seq ?_
      refine c_region ?_
      refine o_yield rfl rfl rfl (y_val tok rfl) ?_
      refine o_yield rfl rfl rfl (y_val tok rfl) ?_
      refine o_end [10, 11] rfl ?_
      refine x_then ?_
      refine c_ret ?_
      refine x_block_ret ?_
      refine x_then_ret ?_
      refine b_ret tok rfl ?_
      intro E w' hm _
      refine ⟨?_, hm.below (Vw.le.refl _)⟩
      rw [if_pos (by simpa using h)]; rfl
    ·
      refine c_skip ?_
      refine x_block ?_
      refine x_then ?_
      refine c_seq ?_
      refine c_region ?_
      refine o_yield rfl rfl rfl (y_val tok rfl) ?_
      refine o_yield rfl rfl rfl (y_val tok rfl) ?_
      refine o_yield rfl rfl rfl (y_val tok rfl) ?_
      refine o_end [10, 11] rfl ?_
      refine x_then ?_
      refine c_ret ?_
      refine b_ret tok rfl ?_
      intro E w' hm _
      refine ⟨?_, hm.below (Vw.le.refl _)⟩
      rw [if_neg (by simpa using h)]; rfl

theorem lkLeave_c (V : Vw) (tv : Value) (t : Tb) (key serial : Int) (w : World) (ht : t.Fit) (hV : V.le (vw w)) (h : TbIs V tv t) :
    Calls Try.prog 38 #[tv, I key, I serial] w fun e w' => e = .returned (.tuple #[S (saysV key serial t ⟨1, 0, 0, 0, 0, 0, 0, 0⟩).1, I (saysV key serial t ⟨1, 0, 0, 0, 0, 0, 0, 0⟩).2]) ∧ Below w.heap.size w w' := by
  obtain ⟨a, n, c0, a2, n2, c2, a3, n3, c3, rfl, h1, h2, h3⟩ := id h
  refine enter (E := E0) (O := []) (nl := 0) (V := vw w) [.a (.v (.agg #[.slice a n c0, .slice a2 n2 c2, .slice a3 n3 c3])), .a (.v (I key)), .a (.v (I serial))] Try.func38 rfl rfl (mem0 E0 0 w) rfl rfl ?_
  refine c_seq ?_
  refine c_region ?_
  refine o_new tok rfl rfl rfl rfl ?_
  refine o_yield rfl rfl rfl (y_val tok rfl) ?_
  refine o_yield rfl rfl rfl (y_val tok rfl) ?_
  refine o_end [1, 2, 3] rfl ?_
  refine x_then ?_
  refine c_seq ?_
  refine c_region ?_
  refine o_yield rfl rfl rfl (y_val tok rfl) ?_
  refine o_yield rfl rfl rfl (y_val tok rfl) ?_
  refine o_yield rfl rfl rfl (y_val tok rfl) ?_
  refine o_yield rfl rfl rfl (y_val tok rfl) ?_
  refine o_yield rfl rfl rfl (y_val tok rfl) ?_
  refine o_call (.tup [.v (S (saysV key serial t ⟨1, 0, 0, 0, 0, 0, 0, 0⟩).1), .v (I (saysV key serial t ⟨1, 0, 0, 0, 0, 0, 0, 0⟩).2)]) rfl rfl fnok80 rfl rfl rfl (fun hg E w1 hm => by exact says_c V _ t key serial ⟨1, 0, 0, 0, 0, 0, 0, 0⟩ _ ht (hV.trans hm.leV) h) ?_
  refine o_yield rfl rfl rfl (y_val tok rfl) ?_
  refine o_yield rfl rfl rfl (y_val tok rfl) ?_
  refine o_yield rfl rfl rfl (y_val tok rfl) ?_
  refine o_yield rfl rfl rfl (y_val tok rfl) ?_
  refine o_end [6, 7] rfl ?_
  refine x_then ?_
  refine c_ret ?_
  refine b_ret tok rfl ?_
  intro E w' hm _
  refine ⟨?_, hm.below (Vw.le.refl _)⟩
  rfl
end Go.Proofs.Ytiapfhcimekdkaa

/- THE LAW LockTells: what a key has, waits for, what is wanted of it, what was told it. -/
set_option linter.unusedVariables false
set_option linter.unusedSimpArgs false
set_option maxRecDepth 100000
namespace Go.Proofs.Ytiapfhcimekdkaa
open Go Go.Eng Go.RowKit

def greatT (t : Tb) : Bool := (decide (40 < (t.S.length : Int)) || decide (100 < (t.H.length : Int))) || decide (100 < (t.Q.length : Int))

theorem great11_c (V : Vw) (tv : Value) (t : Tb) (w : World) (hV : V.le (vw w)) (h : TbIs V tv t) :
    Calls Try.prog 20 #[tv] w fun e w' => e = .returned (.bool (greatT t)) ∧ Below w.heap.size w w' := by
  obtain ⟨a, n, c, a2, n2, c2, a3, n3, c3, rfl, h1, h2, h3⟩ := h
  refine enter (E := E0) (O := []) (nl := 0) (V := vw w) [.a (.v (.agg #[.slice a n c, .slice a2 n2 c2, .slice a3 n3 c3]))] Try.func20 rfl rfl (mem0 E0 0 w) rfl rfl ?_
  refine c_seq ?_
  refine c_region ?_
  refine o_new tok rfl rfl rfl rfl ?_
  refine o_yield rfl rfl rfl (y_val tok rfl) ?_
  refine o_end [1] rfl ?_
  refine x_then ?_
  refine c_seq ?_
  refine c_region ?_
  refine o_yield rfl rfl rfl (y_val tok rfl) ?_
  refine o_yield rfl rfl rfl (y_val tok rfl) ?_
  refine o_yield rfl rfl rfl (y_len tok rfl (fun hg => (h1.mono hV).sl)) ?_
  refine o_yield rfl rfl rfl (y_val tok rfl) ?_
  refine o_yield rfl rfl rfl (y_val tok rfl) ?_
  refine o_yield rfl rfl rfl (y_val tok rfl) ?_
  refine o_yield rfl rfl rfl (y_val tok rfl) ?_
  refine o_yield rfl rfl rfl (y_len tok rfl (fun hg => (h2.mono hV).sl)) ?_
  refine o_yield rfl rfl rfl (y_val tok rfl) ?_
  refine o_yield rfl rfl rfl (y_val tok rfl) ?_
  refine o_yield rfl rfl rfl (y_val tok rfl) ?_
  refine o_yield rfl rfl rfl (y_val tok rfl) ?_
  refine o_yield rfl rfl rfl (y_val tok rfl) ?_
  refine o_yield rfl rfl rfl (y_len tok rfl (fun hg => (h3.mono hV).sl)) ?_
  refine o_yield rfl rfl rfl (y_val tok rfl) ?_
  refine o_yield rfl rfl rfl (y_val tok rfl) ?_
  refine o_yield rfl rfl rfl (y_val tok rfl) ?_
  refine o_end [2] rfl ?_
  refine x_then ?_
  refine c_ret ?_
  refine b_ret tok rfl ?_
  intro E w' hm _
  refine ⟨?_, hm.below (Vw.le.refl _)⟩
  rfl

theorem great_fit {t : Tb} (h : greatT t = false) : t.Fit ∧ (t.S.length ≤ 40 ∧ t.H.length ≤ 100 ∧ t.Q.length ≤ 100) := by
  simp only [greatT, Bool.or_eq_false_iff, decide_eq_false_iff_not] at h
  exact ⟨⟨by omega, by omega, by omega⟩, by omega⟩

/-- A table that came in. -/
def Table.tb (a : Table) : Tb := ⟨a.slots.l, a.holds.l, a.queue.l⟩

theorem Table.Ok.is {V : Vw} {a : Table} (h : Table.Ok V a) : TbIs V a.val a.tb := by
  obtain ⟨x1, x2, x3, e1⟩ := sl_shape h.slots.sl.sl
  obtain ⟨y1, y2, y3, e2⟩ := sl_shape h.holds.sl.sl
  obtain ⟨z1, z2, z3, e3⟩ := sl_shape h.queue.sl.sl
  refine ⟨x1, x2, x3, y1, y2, y3, z1, z2, z3, ?_, ?_, ?_, ?_⟩
  · rw [Table.val, e1, e2, e3]
  · rw [← e1]; exact h.slots.sl
  · rw [← e2]; exact h.holds.sl
  · rw [← e3]; exact h.queue.sl

abbrev gW5 : Geo := ⟨0, 2, 4, 0, 0, 0, 0, 0⟩
abbrev tW5 : Tb := ⟨[⟨17, 0⟩, ⟨18, 0⟩], [⟨17, 0, 3, 2⟩], [⟨18, 2, 2, 1⟩]⟩
abbrev sp03 : Span := ⟨0, 3⟩
theorem wantW5 : wantL 17 tW5 = [⟨0, 3⟩] := rfl
theorem askW5 : askV gW5 tW5 17 1 3 3 2 = (ByteArray.empty, 251) := by
  unfold askV
  rw [if_neg, if_pos]
  · decide
  · have h1 : (saysV 17 1 tW5 ⟨2, 0, 0, 0, 0, 3, 3, 2⟩).2 = 0 := by
      rw [saysV, if_pos (by decide)]
    rw [h1]; decide
theorem freeW5 : freeV gW5 tW5 17 1 0 2 = (ByteArray.empty, 250) := by
  unfold freeV
  rw [if_neg, if_pos]
  · decide
  · have h1 : (saysV 17 1 tW5 ⟨3, 0, 0, 0, 0, 0, 2, 0⟩).2 = 0 := by
      rw [saysV, if_pos (by decide)]
    rw [h1]; decide

theorem wakes25_c (w : World) : Calls Try.prog 21 #[] w fun e w' => e = .returned (.bool true) ∧ Below w.heap.size w w' := by
  refine enter (E := E0) (O := []) (nl := 0) (V := vw w) [] Try.func21 rfl rfl (mem0 E0 0 w) rfl rfl ?_
  refine c_seq ?_
  refine c_region ?_
  refine o_yield rfl rfl rfl (y_val tok rfl) ?_
  refine o_end [] rfl ?_
  refine x_then ?_
  refine c_seq ?_
  refine c_region ?_
  refine o_yield rfl rfl rfl (y_val tok rfl) ?_
  refine o_new tok rfl rfl rfl rfl ?_
  refine o_store tok rfl rfl rfl (by first | exact ⟨trivial, trivial⟩ | (repeat' first | exact trivial | exact rfl | apply And.intro); done | simp [onesP, oneP, lk, Value.oneCell']) ?_
  refine o_end [1] rfl ?_
  refine x_then ?_
  refine c_seq ?_
  refine c_region ?_
  refine o_yield rfl rfl rfl (y_val tok rfl) ?_
  refine o_yield rfl rfl rfl (y_val tok rfl) ?_
  refine o_bs tok rfl rfl rfl rfl (fun b1 W1 hlw1 hb1 => ?_)
  refine o_yield rfl rfl rfl (y_val tok rfl) ?_
  refine o_yield rfl rfl rfl (y_val tok rfl) ?_
  refine o_bs tok rfl rfl rfl rfl (fun b2 W2 hlw2 hb2 => ?_)
  refine o_yield rfl rfl rfl (y_val tok rfl) ?_
  refine o_yield rfl rfl rfl (y_val tok rfl) ?_
  refine o_bs tok rfl rfl rfl rfl (fun b3 W3 hlw3 hb3 => ?_)
  refine o_yield rfl rfl rfl (y_val tok rfl) ?_
  refine o_new tok rfl rfl rfl rfl ?_
  refine o_store tok rfl rfl rfl (by first | exact ⟨trivial, trivial⟩ | (repeat' first | exact trivial | exact rfl | apply And.intro); done | simp [onesP, oneP, lk, Value.oneCell']) ?_
  refine o_end [1, 2] rfl ?_
  refine x_then ?_
  refine c_seq ?_
  refine c_region ?_
  refine o_yield rfl rfl rfl (y_val tok rfl) ?_
  have hS : SlOf W1 Slot.cells 2 (.slice (some ⟨b1, 0, none⟩) 2 2) tW5.S := SlOf.ofBlock (enc := Slot.cells) (sz := 2) (l := tW5.S) (hb1 rfl) rfl (fun _ => rfl) (Nat.le_refl _)
  have hH : SlOf W2 Hold.cells 4 (.slice (some ⟨b2, 0, none⟩) 1 1) tW5.H := SlOf.ofBlock (enc := Hold.cells) (sz := 4) (l := tW5.H) (hb2 rfl) rfl (fun _ => rfl) (Nat.le_refl _)
  have hQ : SlOf W3 Hold.cells 4 (.slice (some ⟨b3, 0, none⟩) 1 1) tW5.Q := SlOf.ofBlock (enc := Hold.cells) (sz := 4) (l := tW5.Q) (hb3 rfl) rfl (fun _ => rfl) (Nat.le_refl _)
  have hT : TbIs W3 (.agg #[.slice (some ⟨b1, 0, none⟩) 2 2, .slice (some ⟨b2, 0, none⟩) 1 1, .slice (some ⟨b3, 0, none⟩) 1 1]) tW5 := ⟨_, _, _, _, _, _, _, _, _, rfl, hS.mono (hlw2.trans hlw3), hH.mono hlw3, hQ⟩
  have hF : tW5.Fit := ⟨by decide, by decide, by decide⟩
  clear hS hH hQ hb1 hb2 hb3
  refine o_callV (fun v V' => SlOf V' Span.cells 2 v (wantL 17 tW5)) rfl rfl fnok30 rfl rfl (fun hg E w1 hm => by exact (lkWanted_c W3 _ tW5 17 _ hF hm.leV hT).mono fun e w' h => h.out hm.leV) ?_
  rintro v4 W4 hlw4 hv4
  have hw4 := hv4 rfl
  rw [wantW5] at hw4
  obtain ⟨a4, n4, c4, rfl⟩ := sl_shape hw4.sl
  clear hv4
  have hT4 := hT.mono hlw4
  refine o_yield rfl rfl rfl (y_val tok rfl) ?_
  refine o_end [1, 2, 3] rfl ?_
  refine x_then ?_
  refine c_seq ?_
  refine c_region ?_
  refine o_yield rfl rfl rfl (y_val tok rfl) ?_
  refine o_yield rfl rfl rfl (y_val tok rfl) ?_
  refine o_yield rfl rfl rfl (y_val tok rfl) ?_
  refine o_call (.tup [.v (S ByteArray.empty), .v (I 251)]) rfl rfl fnok33 rfl rfl rfl (fun hg E w1 hm => by exact (by have h := lkAsk_c W4 gW5 _ tW5 17 1 3 3 2 w1 hF hm.leV hT4; rw [askW5] at h; exact h)) ?_
  refine o_yield rfl rfl rfl (y_val tok rfl) ?_
  refine o_yield rfl rfl rfl (y_val tok rfl) ?_
  refine o_yield rfl rfl rfl (y_val tok rfl) ?_
  refine o_yield rfl rfl rfl (y_val tok rfl) ?_
  refine o_yield rfl rfl rfl (y_val tok rfl) ?_
  refine o_end [1, 2, 3, 5] rfl ?_
  refine x_then ?_
  refine c_seq ?_
  refine c_region ?_
  refine o_yield rfl rfl rfl (y_val tok rfl) ?_
  refine o_yield rfl rfl rfl (y_val tok rfl) ?_
  refine o_yield rfl rfl rfl (y_val tok rfl) ?_
  refine o_call (.tup [.v (S ByteArray.empty), .v (I 250)]) rfl rfl fnok37 rfl rfl rfl (fun hg E w1 hm => by exact (by have h := lkFree_c W4 gW5 _ tW5 17 1 0 2 w1 hF hm.leV hT4; rw [freeW5] at h; exact h)) ?_
  refine o_yield rfl rfl rfl (y_val tok rfl) ?_
  refine o_yield rfl rfl rfl (y_val tok rfl) ?_
  refine o_yield rfl rfl rfl (y_val tok rfl) ?_
  refine o_yield rfl rfl rfl (y_val tok rfl) ?_
  refine o_yield rfl rfl rfl (y_val tok rfl) ?_
  refine o_end [2, 3, 5, 7] rfl ?_
  refine x_then ?_
  refine c_seq ?_
  refine c_region ?_
  refine o_yield rfl rfl rfl (y_val tok rfl) ?_
  have hx03 : ([sp03] : List Span)[0]? = some sp03 := rfl
  refine o_yield rfl rfl rfl (y_len tok rfl (fun hg => hw4.sl)) ?_
  refine o_yield rfl rfl rfl (y_val tok rfl) ?_
  refine o_yield rfl rfl rfl (y_val tok rfl) ?_
  refine o_yield rfl rfl rfl (y_val tok rfl) ?_
  have hlt_sp03 := lt_of_at hx03
  refine o_yield rfl rfl rfl (y_idx tok rfl (fun hg => hw4.sl) (fun hg => ⟨by decide, by decide⟩)) ?_
  refine o_yield rfl rfl rfl (y_fel tok rfl (fun hg => hw4.sl) (fun hg => by omega)) ?_
  refine o_yield rfl rfl rfl (y_lel tok (0) 1 (sp03) rfl (fun hg => hw4) (fun hg => hx03) rfl rfl) ?_
  refine o_yield rfl rfl rfl (y_val tok rfl) ?_
  refine o_yield rfl rfl rfl (y_val tok rfl) ?_
  refine o_yield rfl rfl rfl (y_val tok rfl) ?_
  refine o_yield rfl rfl rfl (y_val tok rfl) ?_
  refine o_callV (fun v V' => SlOf V' Hold.cells 4 v [⟨17, 0, 3, 2⟩]) rfl rfl fnok25 rfl rfl (fun hg E w1 hm => by exact (lkHas_c W4 _ (.slice none 0 0) tW5 17 false [] _ hF hm.leV hT4 (slNil _ _ _ _ (fun _ => rfl)) (by simp)).mono fun e w' h => HRow.out (l := [⟨17, 0, 3, 2⟩]) h hm.leV) ?_
  rintro v5 W5 hlw5 hv5
  refine o_yield rfl rfl rfl (y_len tok rfl (fun hg => (hv5 rfl).sl)) ?_
  refine o_yield rfl rfl rfl (y_val tok rfl) ?_
  refine o_yield rfl rfl rfl (y_val tok rfl) ?_
  refine o_yield rfl rfl rfl (y_val tok rfl) ?_
  refine o_yield rfl rfl rfl (y_val tok rfl) ?_
  refine o_yield rfl rfl rfl (y_val tok rfl) ?_
  refine o_callV (fun v V' => SlOf V' Hold.cells 4 v []) rfl rfl fnok25 rfl rfl (fun hg E w1 hm => by exact (lkHas_c W5 _ _ tW5 17 false [sp03] _ hF hm.leV (hT4.mono hlw5) (hw4.mono hlw5) (by decide)).mono fun e w' h => HRow.out (l := []) h hm.leV) ?_
  rintro v6 W6 hlw6 hv6
  refine o_yield rfl rfl rfl (y_len tok rfl (fun hg => (hv6 rfl).sl)) ?_
  refine o_yield rfl rfl rfl (y_val tok rfl) ?_
  refine o_yield rfl rfl rfl (y_val tok rfl) ?_
  refine o_yield rfl rfl rfl (y_val tok rfl) ?_
  refine o_yield rfl rfl rfl (y_val tok rfl) ?_
  refine o_callV (fun v V' => SlOf V' Hold.cells 4 v [⟨18, 2, 2, 1⟩]) rfl rfl fnok27 rfl rfl (fun hg E w1 hm => by exact (lkWaits_c W6 _ tW5 18 _ hF hm.leV (hT4.mono (hlw5.trans hlw6))).mono fun e w' h => HRow.out (l := [⟨18, 2, 2, 1⟩]) h hm.leV) ?_
  rintro v7 W7 hlw7 hv7
  refine o_yield rfl rfl rfl (y_len tok rfl (fun hg => (hv7 rfl).sl)) ?_
  refine o_yield rfl rfl rfl (y_val tok rfl) ?_
  refine o_yield rfl rfl rfl (y_val tok rfl) ?_
  refine o_yield rfl rfl rfl (y_val tok rfl) ?_
  refine o_yield rfl rfl rfl (y_val tok rfl) ?_
  refine o_yield rfl rfl rfl (y_val tok rfl) ?_
  refine o_yield rfl rfl rfl (y_val tok rfl) ?_
  refine o_yield rfl rfl rfl (y_val tok rfl) ?_
  refine o_yield rfl rfl rfl (y_val tok rfl) ?_
  refine o_yield rfl rfl rfl (y_val tok rfl) ?_
  refine o_yield rfl rfl rfl (y_val tok rfl) ?_
  refine o_yield rfl rfl rfl (y_val tok rfl) ?_
  refine o_end [0] rfl ?_
  refine x_then ?_
  refine c_ret ?_
  refine b_ret tok rfl ?_
  intro E w' hm _
  refine ⟨?_, hm.below (by repeat (first | exact Vw.le.refl _ | assumption | (refine Vw.le.trans ?_ (by assumption))))⟩
  rfl

theorem tell_sizes {t : Tb} (ht : t.Fit) (key : Int) (all : Bool) (gs : List Span) : ((hasL key all gs t.H).length ≤ 100000 ∧ (waitsL key t.Q).length ≤ 100000) ∧ (wantL key t).length ≤ 100000 := by
  have h1 := ht.h
  have h2 := ht.q
  refine ⟨⟨Nat.le_trans (List.length_filter_le _ _) h1, Nat.le_trans (List.length_filter_le _ _) h2⟩, ?_⟩
  rw [wantL, List.length_map]
  exact Nat.le_trans (List.length_filter_le _ _) (Nat.le_trans (List.length_filter_le _ _) h1)

theorem lockTells_law (w : World) {v0 v1 v2 v3 v4 v5 : Value} (R0 : ∃ a : Table, v0 = a.val ∧ Table.Ok (vw w) a) (R1 : ∃ n : Int, v1 = I n ∧ R64 n) (R2 : ∃ n : Bool, v2 = .bool n) (R3 : ∃ l : List Span, SlOf (vw w) Span.cells 2 v3 l ∧ l.length ≤ maxLen ∧ ∀ a ∈ l, Span.Ok a) (R4 : ∃ a : Span, v4 = a.val ∧ Span.Ok a) (R5 : ∃ n : Int, v5 = I8 n ∧ R8 n) :
    Calls Try.prog 6 #[v0, v1, v2, v3, v4, v5] w fun e w' => e = .returned (.bool true) ∧ Below w.heap.size w w' := by
  obtain ⟨ta, rfl, taok⟩ := R0
  obtain ⟨key, rfl, _⟩ := R1
  obtain ⟨all, rfl⟩ := R2
  obtain ⟨gs, hgs, hgm, _⟩ := R3
  obtain ⟨⟨lo, hi⟩, rfl, _⟩ := R4
  obtain ⟨mode, rfl, _⟩ := R5
  have hT := taok.is
  generalize ta.val = tv at hT ⊢
  generalize ta.tb = t at hT
  clear taok
  obtain ⟨a, n, c0, a2, n2, c2, a3, n3, c3, rfl, tS, tH, tQ⟩ := id hT
  obtain ⟨a4, n4, c4, rfl⟩ := sl_shape hgs.sl
  have hlim : lim = 4398046511104 := rfl
  refine enter (E := E0) (O := []) (nl := 0) (V := vw w) [.a (.v (.agg #[.slice a n c0, .slice a2 n2 c2, .slice a3 n3 c3])), .a (.v (I key)), .a (.v (.bool all)), .a (.v (.slice a4 n4 c4)), .a (.v (.agg #[I lo, I hi])), .a (.v (I8 mode))] Try.func6 rfl rfl (mem0 E0 0 w) rfl rfl ?_
  refine c_seq ?_
  refine c_region ?_
  refine o_new tok rfl rfl rfl rfl ?_
  refine o_new tok rfl rfl rfl rfl ?_
  refine o_yield rfl rfl rfl (y_val tok rfl) ?_
  refine o_end [1, 2, 3, 5, 6, 10] rfl ?_
  refine x_then ?_
  refine c_seq ?_
  refine c_seq ?_
  refine c_region ?_
  refine o_yield rfl rfl rfl (y_val tok rfl) ?_
  refine o_call (.a (.v _)) rfl rfl fnok20 rfl rfl rfl (fun hg E w1 hm => by exact great11_c (vw w) _ t _ hm.leV hT) ?_
  refine o_yield rfl rfl rfl (y_val tok rfl) ?_
  refine o_yield rfl rfl rfl (y_val tok rfl) ?_
  refine o_yield rfl rfl rfl (y_len tok rfl (fun hg => hgs.sl)) ?_
  refine o_yield rfl rfl rfl (y_val tok rfl) ?_
  refine o_yield rfl rfl rfl (y_val tok rfl) ?_
  refine o_end [1, 2, 3, 5, 6, 10, 23] rfl ?_
  refine x_then ?_
  refine c_cond rfl (fun h => ?_) (fun h => ?_)
  ·
    simp only [Bool.and_eq_true, Bool.or_eq_true, Bool.not_eq_true', Bool.or_eq_false_iff, Bool.and_eq_false_iff, decide_eq_true_eq, decide_eq_false_iff_not, beq_iff_eq, bne_iff_ne, Bool.not_eq_false', beq_eq_false_iff_ne, bne_eq_false_iff_eq, ne_eq, Decidable.not_not, Int.not_lt, Int.not_le] at h
    refine c_seq ?_
    refine c_region ?_
    refine o_call (.a (.v _)) rfl rfl fnok21 rfl rfl rfl (fun hg E w1 hm => by exact wakes25_c _) ?_
    refine o_yield rfl rfl rfl (y_val tok rfl) ?_
    refine o_end [12] rfl ?_
    refine x_then ?_
    refine c_ret ?_
    refine x_then_ret ?_
    refine b_ret tok rfl ?_
    intro E w' hm _
    refine ⟨?_, hm.below (Vw.le.refl _)⟩
    rfl
  ·
    simp only [Bool.and_eq_true, Bool.or_eq_true, Bool.not_eq_true', Bool.or_eq_false_iff, Bool.and_eq_false_iff, decide_eq_true_eq, decide_eq_false_iff_not, beq_iff_eq, bne_iff_ne, Bool.not_eq_false', beq_eq_false_iff_ne, bne_eq_false_iff_eq, ne_eq, Decidable.not_not, Int.not_lt, Int.not_le] at h
    obtain ⟨e1, e2⟩ := h
    obtain ⟨hfit, hz1, hz2, hz3⟩ := great_fit e1
    obtain ⟨⟨s1, s2⟩, s3⟩ := tell_sizes hfit key all gs
    refine c_skip ?_
    refine x_then ?_
    refine c_seq ?_
    refine c_region ?_
    refine o_yield rfl rfl rfl (y_val tok rfl) ?_
    refine o_yield rfl rfl rfl (y_val tok rfl) ?_
    refine o_yield rfl rfl rfl (y_val tok rfl) ?_
    refine o_yield rfl rfl rfl (y_val tok rfl) ?_
    refine o_call (.tup [.v (.bool (inH ⟨key, lo, hi, mode⟩ t.H)), .v (.bool (inH ⟨key, lo, hi, mode⟩ t.Q))]) rfl rfl fnok22 rfl rfl rfl (fun hg E w1 hm => by exact lkTold_c (vw w) _ t key lo hi mode _ hfit hm.leV hT) ?_
    refine o_yield rfl rfl rfl (y_val tok rfl) ?_
    refine o_yield rfl rfl rfl (y_val tok rfl) ?_
    refine o_yield rfl rfl rfl (y_val tok rfl) ?_
    refine o_yield rfl rfl rfl (y_val tok rfl) ?_
    refine o_yield rfl rfl rfl (y_val tok rfl) ?_
    refine o_end [1, 2, 3, 5, 6, 10, 13, 14] rfl ?_
    refine x_then ?_
    refine c_seq ?_
    refine c_region ?_
    refine o_yield rfl rfl rfl (y_val tok rfl) ?_
    refine o_yield rfl rfl rfl (y_val tok rfl) ?_
    refine o_yield rfl rfl rfl (y_val tok rfl) ?_
    refine o_yield rfl rfl rfl (y_val tok rfl) ?_
    refine o_call (.tup [.v (.bool (inH ⟨key, lo, hi, mode⟩ t.H)), .v (.bool (inH ⟨key, lo, hi, mode⟩ t.Q))]) rfl rfl fnok23 rfl rfl rfl (fun hg E w1 hm => by exact rTold_c (vw w) _ t key lo hi mode _ hfit hm.leV hT) ?_
    refine o_yield rfl rfl rfl (y_val tok rfl) ?_
    refine o_yield rfl rfl rfl (y_val tok rfl) ?_
    refine o_yield rfl rfl rfl (y_val tok rfl) ?_
    refine o_yield rfl rfl rfl (y_val tok rfl) ?_
    refine o_yield rfl rfl rfl (y_val tok rfl) ?_
    refine o_end [1, 2, 3, 6, 13, 14, 15, 16] rfl ?_
    refine x_then ?_
    refine c_seq ?_
    refine c_heldR mixed rfl (by repeat (first | exact SubO.nil | refine SubO.cons rfl ?_)) (by first | rfl | simp [okCels, allOk_plain]) ?_
    refine t_take 0 rfl (by kernel_rfl) rfl rfl rfl (y_val tok rfl) rfl ?_
    refine t_take 1 rfl (by kernel_rfl) rfl rfl rfl (y_val tok rfl) rfl ?_
    refine t_take 2 rfl (by kernel_rfl) rfl rfl rfl (y_val tok rfl) rfl ?_
    refine t_take 3 rfl (by kernel_rfl) rfl rfl rfl (y_val tok rfl) rfl ?_
    refine t_take 5 rfl (by kernel_rfl) rfl rfl rfl (y_val tok rfl) rfl ?_
    refine t_take 6 rfl (by kernel_rfl) rfl rfl rfl (y_val tok rfl) rfl ?_
    refine t_take 7 rfl (by kernel_rfl) rfl rfl rfl (y_val tok rfl) rfl ?_
    refine t_take 8 rfl (by kernel_rfl) rfl rfl rfl (y_val tok rfl) rfl ?_
    refine t_go ?_
    refine h_one 4 (by kernel_rfl) ?_
    refine h_callV 4 (fun v V' => SlOf V' Hold.cells 4 v (hasL key all gs t.H)) rfl rfl rfl fnok25 rfl rfl (fun hg E w1 hm => by exact (lkHas_c (vw w) _ _ t key all gs _ hfit hm.leV hT hgs (by omega)).mono fun e w' h => h.out hm.leV) ?_
    rintro v6 W6 hle6 hv6
    refine h_one 9 (by kernel_rfl) ?_
    refine h_callV 9 (fun v V' => SlOf V' Hold.cells 4 v (hasL key all gs t.H)) rfl rfl rfl fnok26 rfl rfl (fun hg E w1 hm => by exact (rHas_c W6 _ _ t key all gs _ hfit hm.leV (hT.mono hle6) (hgs.mono hle6) (by omega)).mono fun e w' h => h.out hm.leV) ?_
    rintro v7 W7 hle7 hv7
    refine h_one 10 (by kernel_rfl) ?_
    refine h_call 10 (.a (.v _)) rfl rfl rfl fnok24 rfl rfl rfl (fun hg E w1 hm => by exact sameHolds_c W7 _ _ (hasL key all gs t.H) _ hm.leV ((hv6 rfl).mono hle7) (hv7 rfl) (by omega)) ?_
    refine h_one 11 (by kernel_rfl) ?_
    refine h_yield 11 rfl rfl rfl rfl (y_val tok rfl) ?_
    refine h_take 12 rfl (by kernel_rfl) rfl rfl rfl rfl (y_val tok rfl) rfl ?_
    refine h_take 13 rfl (by kernel_rfl) rfl rfl rfl rfl (y_val tok rfl) rfl ?_
    refine h_take 15 rfl (by kernel_rfl) rfl rfl rfl rfl (y_val tok rfl) rfl ?_
    refine h_take 16 rfl (by kernel_rfl) rfl rfl rfl rfl (y_val tok rfl) rfl ?_
    refine h_one 14 (by kernel_rfl) ?_
    have hle67 := hle6.trans hle7
    refine h_callV 14 (fun v V' => SlOf V' Hold.cells 4 v (waitsL key t.Q)) rfl rfl rfl fnok27 rfl rfl (fun hg E w1 hm => by exact (lkWaits_c W7 _ t key _ hfit hm.leV (hT.mono hle67)).mono fun e w' h => h.out hm.leV) ?_
    rintro v8 W8 hle8 hv8
    refine h_one 17 (by kernel_rfl) ?_
    have hle68 := hle67.trans hle8
    refine h_callV 17 (fun v V' => SlOf V' Hold.cells 4 v (waitsL key t.Q)) rfl rfl rfl fnok28 rfl rfl (fun hg E w1 hm => by exact (rWaits_c W8 _ t key _ hfit hm.leV (hT.mono hle68)).mono fun e w' h => h.out hm.leV) ?_
    rintro v9 W9 hle9 hv9
    refine h_one 18 (by kernel_rfl) ?_
    refine h_call 18 (.a (.v _)) rfl rfl rfl fnok24 rfl rfl rfl (fun hg E w1 hm => by exact sameHolds_c W9 _ _ (waitsL key t.Q) _ hm.leV ((hv8 hg).mono hle9) (hv9 hg) (by omega)) ?_
    refine h_one 19 (by kernel_rfl) ?_
    refine h_yield 19 rfl rfl rfl rfl (y_val tok rfl) ?_
    refine h_one 20 (by kernel_rfl) ?_
    refine h_yield 20 rfl rfl rfl rfl (y_val tok rfl) ?_
    refine h_take 21 rfl (by kernel_rfl) rfl rfl rfl rfl (y_val tok rfl) rfl ?_
    refine h_take 22 rfl (by kernel_rfl) rfl rfl rfl rfl (y_val tok rfl) rfl ?_
    refine h_take 24 rfl (by kernel_rfl) rfl rfl rfl rfl (y_val tok rfl) rfl ?_
    refine h_take 25 rfl (by kernel_rfl) rfl rfl rfl rfl (y_val tok rfl) rfl ?_
    refine h_one 23 (by kernel_rfl) ?_
    have hle69 := hle68.trans hle9
    refine h_callV 23 (fun v V' => SlOf V' Span.cells 2 v (wantL key t)) rfl rfl rfl fnok30 rfl rfl (fun hg E w1 hm => by exact (lkWanted_c W9 _ t key _ hfit hm.leV (hT.mono hle69)).mono fun e w' h => h.out hm.leV) ?_
    rintro vA WA hleA hvA
    refine h_one 26 (by kernel_rfl) ?_
    have hle6A := hle69.trans hleA
    refine h_callV 26 (fun v V' => SlOf V' Span.cells 2 v (wantL key t)) rfl rfl rfl fnok31 rfl rfl (fun hg E w1 hm => by exact (rWanted_c WA _ t key _ hfit hm.leV (hT.mono hle6A)).mono fun e w' h => h.out hm.leV) ?_
    rintro vB WB hleB hvB
    refine h_one 27 (by kernel_rfl) ?_
    refine h_call 27 (.a (.v _)) rfl rfl rfl fnok29 rfl rfl rfl (fun hg E w1 hm => by exact spans25_c WB _ _ (wantL key t) _ hm.leV ((hvA hg).mono hleB) (hvB hg) (by omega)) ?_
    refine h_one 28 (by kernel_rfl) ?_
    refine h_yield 28 rfl rfl rfl rfl (y_val tok rfl) ?_
    refine h_one 29 (by kernel_rfl) ?_
    refine h_yield 29 rfl rfl rfl rfl (y_val tok rfl) ?_
    refine h_take 30 rfl (by kernel_rfl) rfl rfl rfl rfl (y_val tok rfl) rfl ?_
    refine h_one 31 (by kernel_rfl) ?_
    refine h_yield 31 rfl rfl rfl rfl (y_val tok rfl) ?_
    refine h_one 32 (by kernel_rfl) ?_
    refine h_yield 32 rfl rfl rfl rfl (y_val tok rfl) ?_
    refine h_one 33 (by kernel_rfl) ?_
    refine h_yield 33 rfl rfl rfl rfl (y_val tok rfl) ?_
    refine h_one 34 (by kernel_rfl) ?_
    refine h_yield 34 rfl rfl rfl rfl (y_val tok rfl) ?_
    refine h_take 35 rfl (by kernel_rfl) rfl rfl rfl rfl (y_val tok rfl) rfl ?_
    refine h_one 36 (by kernel_rfl) ?_
    refine h_yield 36 rfl rfl rfl rfl (y_val tok rfl) ?_
    refine h_one 37 (by kernel_rfl) ?_
    refine h_yield 37 rfl rfl rfl rfl (y_val tok rfl) ?_
    refine h_one 38 (by kernel_rfl) ?_
    refine h_yield 38 rfl rfl rfl rfl (y_val tok rfl) ?_
    refine h_one 39 (by kernel_rfl) ?_
    refine h_yield 39 rfl rfl rfl rfl (y_val tok rfl) ?_
    refine h_one 40 (by kernel_rfl) ?_
    refine h_call 40 (.a (.v _)) rfl rfl rfl fnok21 rfl rfl rfl (fun hg E w1 hm => by exact wakes25_c _) ?_
    refine h_one 41 (by kernel_rfl) ?_
    refine h_yield 41 rfl rfl rfl rfl (y_val tok rfl) ?_
    refine h_one 42 (by kernel_rfl) ?_
    refine h_yield 42 rfl rfl rfl rfl (y_val tok rfl) ?_
    refine h_done [12] (by kernel_rfl) rfl ?_
    refine x_then ?_
    refine c_ret ?_
    refine b_ret tok rfl ?_
    intro E w' hm _
    refine ⟨?_, hm.below (by repeat (first | exact Vw.le.refl _ | assumption | (refine Vw.le.trans ?_ (by assumption))))⟩
    simp; rfl
end Go.Proofs.Ytiapfhcimekdkaa
