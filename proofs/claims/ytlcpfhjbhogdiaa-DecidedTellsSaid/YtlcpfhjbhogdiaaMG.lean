import Derived.Test.YtlcpfhjbhogdiaaMF
/- Commands: which may be, their bytes. -/
set_option linter.unusedVariables false
set_option linter.unusedSimpArgs false
set_option maxRecDepth 100000
namespace Go.Proofs.Ytlcpfhjbhogdiaa
open Go Go.Eng Go.RowKit

def spanB (lo hi : Int) : Bool := (decide (0 ≤ lo) && decide (lo ≤ hi)) && decide (hi < 64)

/-- Whether a command has nothing but what its kind names. -/
def onlyB (c : Cmd) (sp mo de wa : Bool) : Bool :=
  ((((sp && spanB c.lo c.hi) || (!sp && (c.lo == 0 && c.hi == 0))) && ((mo && (c.mode == 1 || c.mode == 2)) || (!mo && c.mode == 0))) && ((de && keyB c.dead) || (!de && c.dead == 0))) && (c.was == 0 || (wa && keyB c.was))

/-- Whether a command may be. -/
def cmdB (c : Cmd) : Bool := ((keyB c.by_ && decide (1 ≤ c.serial)) && decide (c.serial ≤ 2147483648)) &&
  (if c.kind = 0 ∨ c.kind = 1 then onlyB c false false false false else if c.kind = 2 then onlyB c true true false false else if c.kind = 3 then onlyB c true false false false
    else if c.kind = 4 then onlyB c false false true true else if c.kind = 5 then onlyB c false false true false else false)

theorem eqF_cons {P : Program} {w : World} {d : Nat} {xs ys : Array Value} {f : Field} {fs : List Field} {a b : Value} {r rest : Bool} (hn : (f.name ≠ "_") = True) (ha : (part f.type xs f.offset).run P w = .ok a w)
    (hb : (part f.type ys f.offset).run P w = .ok b w) (hr : (Op.equalIn d f.type a b).run P w = .ok r w) (hrest : (Op.eqFields d xs ys fs).run P w = .ok rest w) : (Op.eqFields d xs ys (f :: fs)).run P w = .ok (r && rest) w := by
  rw [Op.eqFields, if_pos (by rw [hn]; trivial)]
  simp only [Sem.run_bind, ha, hb, hr, Result.andThen_ok]
  cases r <;> simp [hrest, Sem.run_pure]

theorem eqF_nil {P : Program} {w : World} {d : Nat} {xs ys : Array Value} : (Op.eqFields d xs ys []).run P w = .ok true w := by simp [Op.eqFields, Sem.run_pure]

theorem spanEq {op : BinOp} {ox oy : Operand} (a b c d : Int) (w : World) (hop : op = .eql ∨ op = .neq) :
    (do eqGuard op 59 ox oy (.agg #[I a, I b]) (.agg #[I c, I d]); binOp op 59 (.agg #[I a, I b]) (.agg #[I c, I d]) : Sem Value).run Try.prog w = .ok (.bool (if op = .eql then (a == c && b == d) else !(a == c && b == d))) w := by
  have hS : Try.prog.underlying 59 = some (.struct (Try.prog.fieldsOf 59)) := by kernel_rfl
  have hp : Try.prog.stoodInHeld 59 = false := by kernel_rfl
  have hg : Try.prog.eqGuardType Try.prog.depth 59 = false := by kernel_rfl
  have key : (Op.equalIn 10000 59 (.agg #[I a, I b]) (.agg #[I c, I d])).run Try.prog w = .ok (a == c && b == d) w := by
    have u3 := Try.underlying3
    have a3 := Try.isAgg3
    have z3 := Try.sizeOf3
    rw [show (10000 : Nat) = 9999 + 1 from rfl, run_equalIn_agg w 9999 59 _ _ hS hp]
    simp only [Program.fieldsOf, Try.underlying59]
    go_simp
    by_cases h1 : a = c <;> by_cases h2 : b = d <;> simp [h1, h2]
  rw [Sem.run_bind, run_eqGuard_agg w _ _ _ _ _ _ hg]
  rcases hop with rfl | rfl
  · simp only [Result.andThen_ok, run_eql_struct, key]; rfl
  · simp only [Result.andThen_ok, run_neq_struct, key]; rfl

def Cmd.eqB (a b : Cmd) : Bool := a.kind == b.kind && (a.by_ == b.by_ && (a.serial == b.serial && (a.dead == b.dead && (a.was == b.was && ((a.lo == b.lo && a.hi == b.hi) && a.mode == b.mode)))))

theorem Cmd.eqB_iff (a b : Cmd) : a.eqB b = true ↔ a = b := by
  obtain ⟨a1, a2, a3, a4, a5, a6, a7, a8⟩ := a
  obtain ⟨b1, b2, b3, b4, b5, b6, b7, b8⟩ := b
  simp [Cmd.eqB, and_assoc]

theorem cmdEq {op : BinOp} {ox oy : Operand} (a b : Cmd) (w : World) (hop : op = .eql ∨ op = .neq) :
    (do eqGuard op 61 ox oy a.val b.val; binOp op 61 a.val b.val : Sem Value).run Try.prog w = .ok (.bool (if op = .eql then a.eqB b else !(a.eqB b))) w := by
  have hS : Try.prog.underlying 61 = some (.struct (Try.prog.fieldsOf 61)) := by kernel_rfl
  have hp : Try.prog.stoodInHeld 61 = false := by kernel_rfl
  have hg : Try.prog.eqGuardType Try.prog.depth 61 = false := by kernel_rfl
  have hS2 : Try.prog.underlying 59 = some (.struct (Try.prog.fieldsOf 59)) := by kernel_rfl
  have hp2 : Try.prog.stoodInHeld 59 = false := by kernel_rfl
  have key2 : ∀ a b c d : Int, (Op.equalIn 9999 59 (.agg #[I a, I b]) (.agg #[I c, I d])).run Try.prog w = .ok (a == c && b == d) w := by
    intro a b c d
    have u3 := Try.underlying3
    have a3 := Try.isAgg3
    have z3 := Try.sizeOf3
    rw [show (9999 : Nat) = 9998 + 1 from rfl, run_equalIn_agg w 9998 59 _ _ hS2 hp2]
    simp only [Program.fieldsOf, Try.underlying59]
    go_simp
    by_cases h1 : a = c <;> by_cases h2 : b = d <;> simp [h1, h2]
  have key : (Op.equalIn 10000 61 a.val b.val).run Try.prog w = .ok (a.eqB b) w := by
    have u3 := Try.underlying3
    have a3 := Try.isAgg3
    have z3 := Try.sizeOf3
    have u8 := Try.underlying57
    have a8 := Try.isAgg57
    have z8 := Try.sizeOf57
    have asp := Try.isAgg59
    have zsp := Try.sizeOf59
    rw [show (10000 : Nat) = 9999 + 1 from rfl, run_equalIn_agg w 9999 61 _ _ hS hp]
    simp only [Program.fieldsOf, Try.underlying61]
    have e := fun (k : IntKind) (x y : Int) (t : Nat) (hu : Try.prog.underlying t = some (.int k)) => run_equalIn_int (P := Try.prog) w 9998 t k k x y hu
    refine (eqF_cons (by simp) (by go_simp; rfl) (by go_simp; rfl) (e .i8 _ _ _ u8) <| eqF_cons (by simp) (by go_simp; rfl) (by go_simp; rfl) (e .i64 _ _ _ u3) <| eqF_cons (by simp) (by go_simp; rfl) (by go_simp; rfl) (e .i64 _ _ _ u3) <|
      eqF_cons (by simp) (by go_simp; rfl) (by go_simp; rfl) (e .i64 _ _ _ u3) <| eqF_cons (by simp) (by go_simp; rfl) (by go_simp; rfl) (e .i64 _ _ _ u3) <| eqF_cons (a := .agg #[I a.lo, I a.hi]) (b := .agg #[I b.lo, I b.hi]) (by simp) (by go_simp) (by go_simp) (key2 _ _ _ _) <|
      eqF_cons (by simp) (by go_simp; rfl) (by go_simp; rfl) (e .i8 _ _ _ u8) eqF_nil).trans ?_
    rw [Bool.and_true]
    rfl
  rw [Sem.run_bind, run_eqGuard_agg w _ _ _ _ _ _ hg]
  rcases hop with rfl | rfl
  · simp only [Result.andThen_ok, run_eql_struct, key]; rfl
  · simp only [Result.andThen_ok, run_neq_struct, key]; rfl

abbrev orderCells (c : Cmd) (bv : Value) : List Value := c.cells ++ [bv]

theorem ospan_c (c : Cmd) (bv : Value) (b : Nat) (w : World) (hb : w.heap[b]? = some (.cells (orderCells c bv).toArray 132 (0, 0))) :
    Calls Try.prog 162 #[.pointer (some ⟨b, 0, none⟩)] w fun e w' => e = .returned (.bool (spanB c.lo c.hi)) ∧ Below w.heap.size w w' := by
  refine enter1 [.a (.ptr 0 0)] hb Try.func162 rfl rfl rfl rfl ?_
  refine c_seq ?_
  refine c_region ?_
  refine o_yield rfl rfl rfl (y_val tok rfl) ?_
  refine o_end [0] rfl ?_
  refine x_then ?_
  refine c_seq ?_
  refine c_draw mixed (by kernel_rfl) ?_
  refine d_yield rfl rfl rfl (y_val tok rfl) rfl ?_
  refine d_yield rfl rfl rfl (y_val tok rfl) rfl ?_
  refine d_yield rfl rfl rfl (y_val tok rfl) rfl ?_
  refine d_yield rfl rfl rfl (y_val tok rfl) rfl ?_
  refine d_yield rfl rfl rfl (y_val tok rfl) rfl ?_
  refine d_yield rfl rfl rfl (y_val tok rfl) rfl ?_
  refine d_yield rfl rfl rfl (y_val tok rfl) rfl ?_
  refine d_yield rfl rfl rfl (y_val tok rfl) rfl ?_
  refine d_yield rfl rfl rfl (y_val tok rfl) rfl ?_
  refine d_yield rfl rfl rfl (y_val tok rfl) rfl ?_
  refine d_yield rfl rfl rfl (y_val tok rfl) rfl ?_
  refine d_yield rfl rfl rfl (y_val tok rfl) rfl ?_
  refine d_yield rfl rfl rfl (y_val tok rfl) rfl ?_
  refine d_yield rfl rfl rfl (y_val tok rfl) rfl ?_
  refine d_yield rfl rfl rfl (y_val tok rfl) rfl ?_
  refine d_yield rfl rfl rfl (y_val tok rfl) rfl ?_
  refine d_yield rfl rfl rfl (y_val tok rfl) rfl ?_
  refine d_yield rfl rfl rfl (y_val tok rfl) rfl ?_
  refine d_yield rfl rfl rfl (y_val tok rfl) rfl ?_
  refine d_yield rfl rfl rfl (y_val tok rfl) rfl ?_
  refine d_yield rfl rfl rfl (y_val tok rfl) rfl ?_
  refine d_yield rfl rfl rfl (y_val tok rfl) rfl ?_
  refine d_yield rfl rfl rfl (y_val tok rfl) rfl ?_
  refine d_yield rfl rfl rfl (y_val tok rfl) rfl ?_
  refine d_yield rfl rfl rfl (y_val tok rfl) rfl ?_
  refine d_yield rfl rfl rfl (y_val tok rfl) rfl ?_
  refine d_yield rfl rfl rfl (y_val tok rfl) rfl ?_
  refine d_yield rfl rfl rfl (y_val tok rfl) rfl ?_
  refine d_yield rfl rfl rfl (y_val tok rfl) rfl ?_
  refine d_yield rfl rfl rfl (y_val tok rfl) rfl ?_
  refine d_yield rfl rfl rfl (y_val tok rfl) rfl ?_
  refine d_yield rfl rfl rfl (y_val tok rfl) rfl ?_
  refine d_end [2] rfl ?_
  refine x_then ?_
  refine c_ret ?_
  refine b_ret tok rfl ?_
  intro E w' hm _
  exact ⟨rfl, below1 hb hm (Vw.le.refl _) rfl rfl rfl⟩

theorem oonly_c (c : Cmd) (bv : Value) (sp mo de wa : Bool) (b : Nat) (w : World) (hb : w.heap[b]? = some (.cells (orderCells c bv).toArray 132 (0, 0))) :
    Calls Try.prog 135 #[.pointer (some ⟨b, 0, none⟩), .bool sp, .bool mo, .bool de, .bool wa] w fun e w' => e = .returned (.bool (onlyB c sp mo de wa)) ∧ Below w.heap.size w w' := by
  refine enter1 [.a (.ptr 0 0), .a (.v (.bool sp)), .a (.v (.bool mo)), .a (.v (.bool de)), .a (.v (.bool wa))] hb Try.func135 rfl rfl rfl rfl ?_
  refine c_seq ?_
  refine c_region ?_
  refine o_yield rfl rfl rfl (y_val tok rfl) ?_
  refine o_end [0, 1, 2, 3, 4] rfl ?_
  refine x_then ?_
  refine c_seq ?_
  refine c_region ?_
  refine o_yield rfl rfl rfl (y_val tok rfl) ?_
  refine o_yield rfl rfl rfl (y_val tok rfl) ?_
  refine o_yield rfl rfl rfl (y_val tok rfl) ?_
  refine o_call (.a (.v _)) rfl rfl fnok162 rfl rfl rfl (fun hg E w1 hm => by exact ospan_c c bv _ _ (hm.lit 0 _ _ rfl)) ?_
  refine o_yield rfl rfl rfl (y_val tok rfl) ?_
  refine o_yield rfl rfl rfl (y_val tok rfl) ?_
  refine o_yield rfl rfl rfl (y_val tok rfl) ?_
  refine o_yield rfl rfl rfl (y_val tok rfl) ?_
  refine o_yield rfl rfl rfl (y_val tok rfl) ?_
  refine o_yield rfl rfl rfl (y_val tok rfl) ?_
  refine o_yield rfl rfl rfl (y_val tok rfl) ?_
  refine o_yield rfl rfl rfl (y_val tok rfl) ?_
  refine o_yield rfl rfl rfl (y_val tok rfl) ?_
  refine o_yield rfl rfl rfl (y_val tok rfl) ?_
  refine o_yield rfl rfl rfl (y_val tok rfl) ?_
  refine o_yield rfl rfl rfl (y_seq (.bool (c.lo == 0 && c.hi == 0)) rfl (fun E w => spanEq c.lo c.hi 0 0 w (.inl rfl))) ?_
  refine o_yield rfl rfl rfl (y_val tok rfl) ?_
  refine o_yield rfl rfl rfl (y_val tok rfl) ?_
  refine o_yield rfl rfl rfl (y_val tok rfl) ?_
  refine o_yield rfl rfl rfl (y_val tok rfl) ?_
  refine o_yield rfl rfl rfl (y_val tok rfl) ?_
  refine o_yield rfl rfl rfl (y_val tok rfl) ?_
  refine o_yield rfl rfl rfl (y_val tok rfl) ?_
  refine o_yield rfl rfl rfl (y_val tok rfl) ?_
  refine o_yield rfl rfl rfl (y_val tok rfl) ?_
  refine o_yield rfl rfl rfl (y_val tok rfl) ?_
  refine o_yield rfl rfl rfl (y_val tok rfl) ?_
  refine o_yield rfl rfl rfl (y_val tok rfl) ?_
  refine o_yield rfl rfl rfl (y_val tok rfl) ?_
  refine o_yield rfl rfl rfl (y_val tok rfl) ?_
  refine o_yield rfl rfl rfl (y_val tok rfl) ?_
  refine o_yield rfl rfl rfl (y_val tok rfl) ?_
  refine o_yield rfl rfl rfl (y_val tok rfl) ?_
  refine o_yield rfl rfl rfl (y_val tok rfl) ?_
  refine o_yield rfl rfl rfl (y_val tok rfl) ?_
  refine o_yield rfl rfl rfl (y_val tok rfl) ?_
  refine o_yield rfl rfl rfl (y_val tok rfl) ?_
  refine o_yield rfl rfl rfl (y_val tok rfl) ?_
  refine o_yield rfl rfl rfl (y_val tok rfl) ?_
  refine o_yield rfl rfl rfl (y_val tok rfl) ?_
  refine o_yield rfl rfl rfl (y_val tok rfl) ?_
  refine o_yield rfl rfl rfl (y_val tok rfl) ?_
  refine o_yield rfl rfl rfl (y_val tok rfl) ?_
  refine o_yield rfl rfl rfl (y_val tok rfl) ?_
  refine o_yield rfl rfl rfl (y_val tok rfl) ?_
  refine o_yield rfl rfl rfl (y_val tok rfl) ?_
  refine o_yield rfl rfl rfl (y_val tok rfl) ?_
  refine o_yield rfl rfl rfl (y_val tok rfl) ?_
  refine o_yield rfl rfl rfl (y_val tok rfl) ?_
  refine o_yield rfl rfl rfl (y_val tok rfl) ?_
  refine o_yield rfl rfl rfl (y_val tok rfl) ?_
  refine o_yield rfl rfl rfl (y_val tok rfl) ?_
  refine o_yield rfl rfl rfl (y_val tok rfl) ?_
  refine o_yield rfl rfl rfl (y_val tok rfl) ?_
  refine o_yield rfl rfl rfl (y_val tok rfl) ?_
  refine o_yield rfl rfl rfl (y_val tok rfl) ?_
  refine o_yield rfl rfl rfl (y_val tok rfl) ?_
  refine o_call (.a (.v _)) rfl rfl fnok128 rfl rfl rfl (fun hg E w1 hm => by exact key_c _ _) ?_
  refine o_yield rfl rfl rfl (y_val tok rfl) ?_
  refine o_yield rfl rfl rfl (y_val tok rfl) ?_
  refine o_yield rfl rfl rfl (y_val tok rfl) ?_
  refine o_yield rfl rfl rfl (y_val tok rfl) ?_
  refine o_yield rfl rfl rfl (y_val tok rfl) ?_
  refine o_yield rfl rfl rfl (y_val tok rfl) ?_
  refine o_yield rfl rfl rfl (y_val tok rfl) ?_
  refine o_yield rfl rfl rfl (y_val tok rfl) ?_
  refine o_yield rfl rfl rfl (y_val tok rfl) ?_
  refine o_yield rfl rfl rfl (y_val tok rfl) ?_
  refine o_yield rfl rfl rfl (y_val tok rfl) ?_
  refine o_yield rfl rfl rfl (y_val tok rfl) ?_
  refine o_yield rfl rfl rfl (y_val tok rfl) ?_
  refine o_yield rfl rfl rfl (y_val tok rfl) ?_
  refine o_yield rfl rfl rfl (y_val tok rfl) ?_
  refine o_yield rfl rfl rfl (y_val tok rfl) ?_
  refine o_yield rfl rfl rfl (y_val tok rfl) ?_
  refine o_yield rfl rfl rfl (y_val tok rfl) ?_
  refine o_yield rfl rfl rfl (y_val tok rfl) ?_
  refine o_yield rfl rfl rfl (y_val tok rfl) ?_
  refine o_yield rfl rfl rfl (y_val tok rfl) ?_
  refine o_yield rfl rfl rfl (y_val tok rfl) ?_
  refine o_yield rfl rfl rfl (y_val tok rfl) ?_
  refine o_yield rfl rfl rfl (y_val tok rfl) ?_
  refine o_yield rfl rfl rfl (y_val tok rfl) ?_
  refine o_yield rfl rfl rfl (y_val tok rfl) ?_
  refine o_yield rfl rfl rfl (y_val tok rfl) ?_
  refine o_yield rfl rfl rfl (y_val tok rfl) ?_
  refine o_yield rfl rfl rfl (y_val tok rfl) ?_
  refine o_call (.a (.v _)) rfl rfl fnok128 rfl rfl rfl (fun hg E w1 hm => by exact key_c _ _) ?_
  refine o_yield rfl rfl rfl (y_val tok rfl) ?_
  refine o_yield rfl rfl rfl (y_val tok rfl) ?_
  refine o_yield rfl rfl rfl (y_val tok rfl) ?_
  refine o_yield rfl rfl rfl (y_val tok rfl) ?_
  refine o_end [10] rfl ?_
  refine x_then ?_
  refine c_ret ?_
  refine b_ret tok rfl ?_
  intro E w' hm _
  exact ⟨rfl, below1 hb hm (Vw.le.refl _) rfl rfl rfl⟩

theorem omay_c (c : Cmd) (bv : Value) (b : Nat) (w : World) (hb : w.heap[b]? = some (.cells (orderCells c bv).toArray 132 (0, 0))) :
    Calls Try.prog 87 #[.pointer (some ⟨b, 0, none⟩)] w fun e w' => e = .returned (.bool (cmdB c)) ∧ Below w.heap.size w w' := by
  have fin : ∀ {E : Env} {O : Own} {nl : Nat} {w' : World}, Mem E O nl ((vw w).del b) w' → lk O 2 = some (.size w.heap.size) → lk O 1 = some (.pin 0 b) → lk O 0 = some (.lit ((orderCells c bv).map .v) 132) → Below w.heap.size w w' :=
    fun hm h2 h1 h0 => below1 hb hm (Vw.le.refl _) h2 h1 h0
  refine enter1 [.a (.ptr 0 0)] hb Try.func87 rfl rfl rfl rfl ?_
  refine c_seq ?_
  refine c_region ?_
  refine o_yield rfl rfl rfl (y_val tok rfl) ?_
  refine o_end [0] rfl ?_
  refine x_then ?_
  refine c_seq ?_
  refine c_seq ?_
  refine c_region ?_
  refine o_yield rfl rfl rfl (y_val tok rfl) ?_
  refine o_yield rfl rfl rfl (y_val tok rfl) ?_
  refine o_yield rfl rfl rfl (y_val tok rfl) ?_
  refine o_yield rfl rfl rfl (y_val tok rfl) ?_
  refine o_yield rfl rfl rfl (y_val tok rfl) ?_
  refine o_call (.a (.v _)) rfl rfl fnok128 rfl rfl rfl (fun hg E w1 hm => by exact key_c _ _) ?_
  refine o_yield rfl rfl rfl (y_val tok rfl) ?_
  refine o_yield rfl rfl rfl (y_val tok rfl) ?_
  refine o_yield rfl rfl rfl (y_val tok rfl) ?_
  refine o_yield rfl rfl rfl (y_val tok rfl) ?_
  refine o_yield rfl rfl rfl (y_val tok rfl) ?_
  refine o_yield rfl rfl rfl (y_val tok rfl) ?_
  refine o_yield rfl rfl rfl (y_val tok rfl) ?_
  refine o_yield rfl rfl rfl (y_val tok rfl) ?_
  refine o_yield rfl rfl rfl (y_val tok rfl) ?_
  refine o_yield rfl rfl rfl (y_val tok rfl) ?_
  refine o_yield rfl rfl rfl (y_val tok rfl) ?_
  refine o_yield rfl rfl rfl (y_val tok rfl) ?_
  refine o_yield rfl rfl rfl (y_val tok rfl) ?_
  refine o_yield rfl rfl rfl (y_val tok rfl) ?_
  refine o_yield rfl rfl rfl (y_val tok rfl) ?_
  refine o_yield rfl rfl rfl (y_val tok rfl) ?_
  refine o_yield rfl rfl rfl (y_val tok rfl) ?_
  refine o_end [0, 25] rfl ?_
  refine x_then ?_
  refine c_cond rfl (fun h => ?_) (fun h => ?_)
  ·
    simp only [Bool.and_eq_true, Bool.or_eq_true, Bool.not_eq_true', Bool.or_eq_false_iff, Bool.and_eq_false_iff, decide_eq_true_eq, decide_eq_false_iff_not, beq_iff_eq, bne_iff_ne, Bool.not_eq_false', beq_eq_false_iff_ne, bne_eq_false_iff_eq, ne_eq, Decidable.not_not, Int.not_lt, Int.not_le] at h
    refine c_seq ?_
    refine c_region ?_
    refine o_yield rfl rfl rfl (y_val tok rfl) ?_
    refine o_end [2] rfl ?_
    refine x_then ?_
    refine c_ret ?_
    refine x_then_ret ?_
    refine b_ret tok rfl ?_
    intro E w' hm _
    refine ⟨?_, fin hm rfl rfl rfl⟩
    have : cmdB c = false := by
      unfold cmdB
      rcases h with (h | h) | h
      · rw [h]; rfl
      · rw [decide_eq_false (show ¬ 1 ≤ c.serial by omega), Bool.and_false]; rfl
      · rw [decide_eq_false (show ¬ c.serial ≤ 2147483648 by omega), Bool.and_false]; rfl
    rw [this]; rfl
  ·
    simp only [Bool.and_eq_true, Bool.or_eq_true, Bool.not_eq_true', Bool.or_eq_false_iff, Bool.and_eq_false_iff, decide_eq_true_eq, decide_eq_false_iff_not, beq_iff_eq, bne_iff_ne, Bool.not_eq_false', beq_eq_false_iff_ne, bne_eq_false_iff_eq, ne_eq, Decidable.not_not, Int.not_lt, Int.not_le] at h
    obtain ⟨⟨h1, h2⟩, h3⟩ := h
    have hpre : ((keyB c.by_ && decide (1 ≤ c.serial)) && decide (c.serial ≤ 2147483648)) = true := by
      rw [h1, decide_eq_true (show 1 ≤ c.serial by omega), decide_eq_true (show c.serial ≤ 2147483648 by omega)]; rfl
    refine c_skip ?_
    refine x_then ?_
    refine c_seq ?_
    refine c_seq ?_
    refine c_region ?_
    refine o_yield rfl rfl rfl (y_val tok rfl) ?_
    refine o_yield rfl rfl rfl (y_val tok rfl) ?_
    refine o_yield rfl rfl rfl (y_val tok rfl) ?_
    refine o_yield rfl rfl rfl (y_val tok rfl) ?_
    refine o_yield rfl rfl rfl (y_val tok rfl) ?_
    refine o_end [0, 30] rfl ?_
    refine x_then ?_
    refine c_block ?_
    refine c_seq ?_
    refine c_seq ?_
    refine c_region ?_
    refine o_yield rfl rfl rfl (y_val tok rfl) ?_
    refine o_yield rfl rfl rfl (y_val tok rfl) ?_
    refine o_end [0, 30, 31] rfl ?_
    refine x_then ?_
    refine c_cond rfl (fun h => ?_) (fun h => ?_)
    ·
      refine c_skip ?_
      refine x_then ?_
      refine c_cond rfl (fun h2 => ?_) (fun h2 => ?_)
      ·
        refine c_seq ?_
        refine c_region ?_
        refine o_yield rfl rfl rfl (y_val tok rfl) ?_
        refine o_call (.a (.v _)) rfl rfl fnok135 rfl rfl rfl (fun hg E w1 hm => by exact oonly_c c bv false false false false _ _ (hm.lit 0 _ _ rfl)) ?_
        refine o_yield rfl rfl rfl (y_val tok rfl) ?_
        refine o_end [2] rfl ?_
        refine x_then ?_
        refine c_ret ?_
        refine x_block_ret ?_
        refine x_then_ret ?_
        refine b_ret tok rfl ?_
        intro E w' hm _
        refine ⟨?_, fin hm rfl rfl rfl⟩
        rw [cmdB, hpre, Bool.true_and, if_pos (by simp at h; omega)]
        rfl
      ·
        rw [h] at h2
        cases h2
    ·
      refine c_region ?_
      refine o_yield rfl rfl rfl (y_val tok rfl) ?_
      refine o_yield rfl rfl rfl (y_val tok rfl) ?_
      refine o_end [0, 30, 31] rfl ?_
      refine x_then ?_
      refine c_cond rfl (fun h => ?_) (fun h => ?_)
      ·
        refine c_seq ?_
        refine c_region ?_
        refine o_yield rfl rfl rfl (y_val tok rfl) ?_
        refine o_call (.a (.v _)) rfl rfl fnok135 rfl rfl rfl (fun hg E w1 hm => by exact oonly_c c bv false false false false _ _ (hm.lit 0 _ _ rfl)) ?_
        refine o_yield rfl rfl rfl (y_val tok rfl) ?_
        refine o_end [2] rfl ?_
        refine x_then ?_
        refine c_ret ?_
        refine x_block_ret ?_
        refine x_then_ret ?_
        refine b_ret tok rfl ?_
        intro E w' hm _
        refine ⟨?_, fin hm rfl rfl rfl⟩
        rw [cmdB, hpre, Bool.true_and, if_pos (by simp at h; omega)]
        rfl
      ·
        refine c_seq ?_
        refine c_region ?_
        refine o_yield rfl rfl rfl (y_val tok rfl) ?_
        refine o_yield rfl rfl rfl (y_val tok rfl) ?_
        refine o_end [0, 30, 36] rfl ?_
        refine x_then ?_
        refine c_cond rfl (fun h => ?_) (fun h => ?_)
        ·
          refine c_seq ?_
          refine c_region ?_
          refine o_yield rfl rfl rfl (y_val tok rfl) ?_
          refine o_call (.a (.v _)) rfl rfl fnok135 rfl rfl rfl (fun hg E w1 hm => by exact oonly_c c bv true true false false _ _ (hm.lit 0 _ _ rfl)) ?_
          refine o_yield rfl rfl rfl (y_val tok rfl) ?_
          refine o_end [2] rfl ?_
          refine x_then ?_
          refine c_ret ?_
          refine x_block_ret ?_
          refine x_then_ret ?_
          refine b_ret tok rfl ?_
          intro E w' hm _
          refine ⟨?_, fin hm rfl rfl rfl⟩
          rw [cmdB, hpre, Bool.true_and, if_neg (by simp at *; omega), if_pos (by simpa using h)]
          rfl
        ·
          refine c_seq ?_
          refine c_region ?_
          refine o_yield rfl rfl rfl (y_val tok rfl) ?_
          refine o_yield rfl rfl rfl (y_val tok rfl) ?_
          refine o_end [0, 30, 40] rfl ?_
          refine x_then ?_
          refine c_cond rfl (fun h => ?_) (fun h => ?_)
          ·
            refine c_seq ?_
            refine c_region ?_
            refine o_yield rfl rfl rfl (y_val tok rfl) ?_
            refine o_call (.a (.v _)) rfl rfl fnok135 rfl rfl rfl (fun hg E w1 hm => by exact oonly_c c bv true false false false _ _ (hm.lit 0 _ _ rfl)) ?_
            refine o_yield rfl rfl rfl (y_val tok rfl) ?_
            refine o_end [2] rfl ?_
            refine x_then ?_
            refine c_ret ?_
            refine x_block_ret ?_
            refine x_then_ret ?_
            refine b_ret tok rfl ?_
            intro E w' hm _
            refine ⟨?_, fin hm rfl rfl rfl⟩
            rw [cmdB, hpre, Bool.true_and, if_neg (by simp at *; omega), if_neg (by simp at *; omega), if_pos (by simpa using h)]
            rfl
          ·
            refine c_seq ?_
            refine c_region ?_
            refine o_yield rfl rfl rfl (y_val tok rfl) ?_
            refine o_yield rfl rfl rfl (y_val tok rfl) ?_
            refine o_end [0, 30, 44] rfl ?_
            refine x_then ?_
            refine c_cond rfl (fun h => ?_) (fun h => ?_)
            ·
              refine c_seq ?_
              refine c_region ?_
              refine o_yield rfl rfl rfl (y_val tok rfl) ?_
              refine o_call (.a (.v _)) rfl rfl fnok135 rfl rfl rfl (fun hg E w1 hm => by exact oonly_c c bv false false true true _ _ (hm.lit 0 _ _ rfl)) ?_
              refine o_yield rfl rfl rfl (y_val tok rfl) ?_
              refine o_end [2] rfl ?_
              refine x_then ?_
              refine c_ret ?_
              refine x_block_ret ?_
              refine x_then_ret ?_
              refine b_ret tok rfl ?_
              intro E w' hm _
              refine ⟨?_, fin hm rfl rfl rfl⟩
              rw [cmdB, hpre, Bool.true_and, if_neg (by simp at *; omega), if_neg (by simp at *; omega), if_neg (by simp at *; omega), if_pos (by simpa using h)]
              rfl
            ·
              refine c_seq ?_
              refine c_region ?_
              refine o_yield rfl rfl rfl (y_val tok rfl) ?_
              refine o_yield rfl rfl rfl (y_val tok rfl) ?_
              refine o_end [0, 48] rfl ?_
              refine x_then ?_
              refine c_cond rfl (fun h => ?_) (fun h => ?_)
              ·
                refine c_seq ?_
                refine c_region ?_
                refine o_yield rfl rfl rfl (y_val tok rfl) ?_
                refine o_call (.a (.v _)) rfl rfl fnok135 rfl rfl rfl (fun hg E w1 hm => by exact oonly_c c bv false false true false _ _ (hm.lit 0 _ _ rfl)) ?_
                refine o_yield rfl rfl rfl (y_val tok rfl) ?_
                refine o_end [2] rfl ?_
                refine x_then ?_
                refine c_ret ?_
                refine x_block_ret ?_
                refine x_then_ret ?_
                refine b_ret tok rfl ?_
                intro E w' hm _
                refine ⟨?_, fin hm rfl rfl rfl⟩
                rw [cmdB, hpre, Bool.true_and, if_neg (by simp at *; omega), if_neg (by simp at *; omega), if_neg (by simp at *; omega), if_neg (by simp at *; omega), if_pos (by simpa using h)]
                rfl
              ·
                refine c_skip ?_
                refine x_block ?_
                refine x_then ?_
                refine c_seq ?_
                refine c_region ?_
                refine o_yield rfl rfl rfl (y_val tok rfl) ?_
                refine o_end [2] rfl ?_
                refine x_then ?_
                refine c_ret ?_
                refine b_ret tok rfl ?_
                intro E w' hm _
                refine ⟨?_, fin hm rfl rfl rfl⟩
                rw [cmdB, hpre, Bool.true_and, if_neg (by simp at *; omega), if_neg (by simp at *; omega), if_neg (by simp at *; omega), if_neg (by simp at *; omega), if_neg (by simp at *; omega)]
                rfl
end Go.Proofs.Ytlcpfhjbhogdiaa

/- The bytes of commands: the program's. -/
set_option linter.unusedVariables false
set_option linter.unusedSimpArgs false
set_option maxRecDepth 100000
namespace Go.Proofs.Ytlcpfhjbhogdiaa
open Go Go.Eng Go.RowKit

theorem cmdMay_c (c : Cmd) (w : World) : Calls Try.prog 138 #[c.val] w fun e w' => e = .returned (.bool (cmdB c)) ∧ Below w.heap.size w w' := by
  refine enter (E := E0) (O := []) (nl := 0) (V := vw w) [.a (.v c.val)] Try.func138 rfl rfl (mem0 E0 0 w) rfl rfl ?_
  refine c_seq ?_
  refine c_region ?_
  refine o_new tok rfl rfl rfl rfl ?_
  refine o_yield rfl rfl rfl (y_val tok rfl) ?_
  refine o_end [1] rfl ?_
  refine x_then ?_
  refine c_seq ?_
  refine c_region ?_
  refine o_yield rfl rfl rfl (y_val tok rfl) ?_
  refine o_yield rfl rfl rfl (y_val tok rfl) ?_
  refine o_new tok rfl rfl rfl rfl ?_
  refine o_call (.a (.v _)) rfl rfl fnok87 rfl rfl rfl (fun hg E w1 hm => by exact omay_c c _ _ _ (hm.lit 1 _ _ rfl)) ?_
  refine o_yield rfl rfl rfl (y_val tok rfl) ?_
  refine o_end [2] rfl ?_
  refine x_then ?_
  refine c_ret ?_
  refine b_ret tok rfl ?_
  intro E w' hm _
  refine ⟨?_, hm.below (Vw.le.refl _)⟩
  rfl

theorem oput_c (k : Int) (bl : List UInt8) (bv : Value) (ls : List Int) (lv : Value) (b : Nat) (c : Cmd) (w : World) (hb : w.heap[b]? = some (.cells (orderCells c bv).toArray 132 (0, 0)))
    (hs : SlOf ((vw w).del b) encByte 1 bv bl) (hl : SlOf ((vw w).del b) encI64 1 lv ls) (hok : putOk k ls = true) (hbn : bl.length ≤ 1099511627776) (hln : ls.length ≤ 1099511627776) :
    Calls Try.prog 88 #[.pointer (some ⟨b, 0, none⟩), I k, lv] w fun e w' => e = .returned (.tuple #[]) ∧ ∃ v, Go.Eng.Touch (· = b) w w' ∧ w'.ownsRow w.heap.size 5 1 v (putL bl k ls).length ((putL bl k ls).flatMap encByte) ∧
      w'.heap[b]? = some (.cells (orderCells c v).toArray 132 (0, 0)) := by
  refine enter1 [.a (.ptr 0 0), .a (.v (I k)), .a (.v lv)] hb Try.func88 rfl rfl rfl rfl ?_
  refine c_region ?_
  refine o_yield rfl rfl rfl (y_val tok rfl) ?_
  refine o_yield rfl rfl rfl (y_val tok rfl) ?_
  refine o_yield rfl rfl rfl (y_val tok rfl) ?_
  refine o_yield rfl rfl rfl (y_val tok rfl) ?_
  refine o_yield rfl rfl rfl (y_val tok rfl) ?_
  refine o_yield rfl rfl rfl (y_val tok rfl) ?_
  refine o_yield rfl rfl rfl (y_val tok rfl) ?_
  refine o_step rfl rfl rfl rfl rfl (s_numPut bl k ls rfl hok hbn hln (fun E w1 hm => ⟨bv, lv, rfl, hs.mono hm.leV, hl.mono hm.leV⟩)) (fun _ _ => ?_)
  refine o_yield rfl rfl rfl (y_val tok rfl) ?_
  refine o_yield rfl rfl rfl (y_val tok rfl) ?_
  refine o_yield rfl rfl rfl (y_val tok rfl) ?_
  refine o_yield rfl rfl rfl (y_val tok rfl) ?_
  refine o_yield rfl rfl rfl (y_val tok rfl) ?_
  refine o_store tok rfl rfl rfl (by first | exact ⟨trivial, trivial⟩ | simp [onesP, oneP, lk, Value.oneCell']) ?_
  refine o_end [] rfl ?_
  refine b_end tok rfl ?_
  intro E w' hm _
  obtain ⟨h1, h2⟩ := back1 hm (Vw.le.refl _) rfl rfl rfl
  refine ⟨rfl, E.κ 3, h1, hm.rowFreshD (Vw.le.refl _) (l0 := 0) rfl (hm.pin 1 0 _ rfl).1 (l := 3) rfl, ?_⟩
  rw [h2]
  rfl

section
variable {o : Oper} {n : Nat} {F : Frame0} {C : List Nat} {O : Own} {nl : Nat} {V : Vw}

abbrev orderAs (c : Cmd) (a : A) : List A := c.cells.map .v ++ [a]

theorem den_order (c : Cmd) (a : A) (E : Env) : (orderAs c a).map (A.den E) = orderCells c (a.den E) := rfl

theorem s_oput {p : List (Nat × Bool)} (l r e1 : Nat) (c : Cmd) (bl : List UInt8) (k : Int) (ls : List Int) (ss : List SV) (hv : evalC F p o.op = some (88, ss)) (hss : ∀ E, ∃ lv, ss.map (SV.den E) = [.pointer (some ⟨E.ρ l, 0, none⟩), I k, lv] ∧ ∀ w, Mem E O nl V w → SlOf ((vw w).del (E.ρ l)) encI64 1 lv ls)
    (hl : lk O l = some (.lit (orderAs c (.row r)) 132)) (hr : lk O r = some (.row e1 1 bl.length (bl.flatMap encByte))) (hok : putOk k ls = true) (hbn : bl.length ≤ 1099511627776) (hln : ls.length ≤ 1099511627776) :
    StepTo Try.prog o p n F C O nl V (σ := Unit) (fun _ => True) (fun _ => .tup []) (fun _ => (l, .lit (orderAs c (.row nl)) 132) :: (nl, .row 5 1 (putL bl k ls).length ((putL bl k ls).flatMap encByte)) :: O) (nl + 1) (fun _ => V) := by
  refine s_callWR (fun _ => True) (fun _ => .tup []) l 132 5 1 (fun _ => (putL bl k ls).length) (fun _ => (putL bl k ls).flatMap encByte) (fun _ => orderAs c (.row nl)) hv fnok88 hl
    (fun _ => by simp only [orderAs, Cmd.cells, List.map_cons, List.map_nil, List.cons_append, List.nil_append, allOk, A.ok, blt_iff, Bool.and_eq_true, Bool.true_and, Bool.and_true]; omega) (fun _ => rfl) ?_
  intro E w hm hb
  obtain ⟨lv, ha, hlv⟩ := hss E
  rw [ha]
  refine (oput_c k bl (E.κ r) ls lv (E.ρ l) c w (by rw [hb, den_order]; rfl) (hm.rowOfDel r hl hr (fun _ => rfl)) (hlv w hm) hok hbn hln).mono ?_
  rintro e w' ⟨rfl, v, ht, hown, hv'⟩
  refine ⟨(), v, rfl, ht, hown, ?_, trivial⟩
  rw [hv', den_order]
  simp [A.den, Env.setκ]
end

def cmdL (c : Cmd) : List UInt8 :=
  if c.kind = 2 then putL (putL (putL (putL [] 1 [c.kind]) 6 [c.by_]) 4 [c.serial]) 1 [c.lo, c.hi, c.mode]
  else if c.kind = 3 then putL (putL (putL (putL [] 1 [c.kind]) 6 [c.by_]) 4 [c.serial]) 1 [c.lo, c.hi]
  else if c.kind = 4 then putL (putL (putL (putL [] 1 [c.kind]) 6 [c.by_]) 4 [c.serial]) 6 [c.dead, c.was]
  else if c.kind = 5 then putL (putL (putL (putL [] 1 [c.kind]) 6 [c.by_]) 4 [c.serial]) 6 [c.dead]
  else putL (putL (putL [] 1 [c.kind]) 6 [c.by_]) 4 [c.serial]

def cbV (c : Cmd) : ByteArray := if cmdB c = true then strOf (cmdL c) else ByteArray.empty
def cbE (c : Cmd) : Int := if cmdB c = true then 0 else 2

structure CmdOk (c : Cmd) : Prop where
  kind : 0 ≤ c.kind ∧ c.kind ≤ 5
  by_ : 16 ≤ c.by_ ∧ c.by_ ≤ 1099511627776
  serial : 1 ≤ c.serial ∧ c.serial ≤ 2147483648
  lo : 0 ≤ c.lo ∧ c.lo < 64
  hi : 0 ≤ c.hi ∧ c.hi < 64
  mode : 0 ≤ c.mode ∧ c.mode ≤ 2
  dead : 0 ≤ c.dead ∧ c.dead ≤ 1099511627776
  was : 0 ≤ c.was ∧ c.was ≤ 1099511627776
  span : c.kind ≠ 2 → c.kind ≠ 3 → c.lo = 0 ∧ c.hi = 0
  mode0 : c.kind ≠ 2 → c.mode = 0
  dead0 : c.kind ≠ 4 → c.kind ≠ 5 → c.dead = 0
  was0 : c.kind ≠ 4 → c.was = 0

theorem cmdOk {c : Cmd} (h : cmdB c = true) : CmdOk c := by
  simp only [cmdB, keyB, Bool.and_eq_true, decide_eq_true_eq] at h
  obtain ⟨⟨⟨h1, h2⟩, h3⟩, h4⟩ := h
  split at h4
  · simp [onlyB, spanB, keyB] at h4
    constructor <;> omega
  · split at h4
    · simp [onlyB, spanB, keyB] at h4
      constructor <;> omega
    · split at h4
      · simp [onlyB, spanB, keyB] at h4
        constructor <;> omega
      · split at h4
        · simp [onlyB, spanB, keyB] at h4
          constructor <;> omega
        · split at h4
          · simp [onlyB, spanB, keyB] at h4
            constructor <;> omega
          · cases h4

theorem cmdBytes_c (c : Cmd) (w : World) : Calls Try.prog 36 #[c.val] w fun e w' => e = .returned (.tuple #[S (cbV c), I (cbE c)]) ∧ Below w.heap.size w w' := by
  refine enter (E := E0) (O := []) (nl := 0) (V := vw w) [.a (.v c.val)] Try.func36 rfl rfl (mem0 E0 0 w) rfl rfl ?_
  refine c_seq ?_
  refine c_region ?_
  refine o_new tok rfl rfl rfl rfl ?_
  refine o_yield rfl rfl rfl (y_val tok rfl) ?_
  refine o_yield rfl rfl rfl (y_val tok rfl) ?_
  refine o_end [1] rfl ?_
  refine x_then ?_
  refine c_seq ?_
  refine c_region ?_
  refine o_yield rfl rfl rfl (y_val tok rfl) ?_
  refine o_yield rfl rfl rfl (y_val tok rfl) ?_
  refine o_new tok rfl rfl rfl rfl ?_
  refine o_yield rfl rfl rfl (y_val tok rfl) ?_
  refine o_end [4] rfl ?_
  refine x_then ?_
  refine c_seq ?_
  refine c_seq ?_
  refine c_region ?_
  refine o_yield rfl rfl rfl (y_val tok rfl) ?_
  refine o_call (.a (.v _)) rfl rfl fnok87 rfl rfl rfl (fun hg E w1 hm => by exact omay_c c _ _ _ (hm.lit 1 _ _ rfl)) ?_
  refine o_yield rfl rfl rfl (y_val tok rfl) ?_
  refine o_end [4, 10] rfl ?_
  refine x_then ?_
  refine c_cond rfl (fun h => ?_) (fun h => ?_)
  ·
    simp only [Bool.and_eq_true, Bool.or_eq_true, Bool.not_eq_true', Bool.or_eq_false_iff, Bool.and_eq_false_iff, decide_eq_true_eq, decide_eq_false_iff_not, beq_iff_eq, bne_iff_ne, Bool.not_eq_false', beq_eq_false_iff_ne, bne_eq_false_iff_eq, ne_eq, Decidable.not_not, Int.not_lt, Int.not_le] at h
    refine c_seq ?_
    refine c_region ?_
    refine o_yield rfl rfl rfl (y_val tok rfl) ?_
    refine o_yield rfl rfl rfl (y_val tok rfl) ?_
    refine o_end [2, 3] rfl ?_
    refine x_then ?_
    refine c_ret ?_
    refine x_then_ret ?_
    refine b_ret tok rfl ?_
    intro E w' hm _
    refine ⟨?_, hm.below (Vw.le.refl _)⟩
    rw [cbV, cbE, if_neg (by simp [h]), if_neg (by simp [h])]
    rfl
  ·
    simp only [Bool.and_eq_true, Bool.or_eq_true, Bool.not_eq_true', Bool.or_eq_false_iff, Bool.and_eq_false_iff, decide_eq_true_eq, decide_eq_false_iff_not, beq_iff_eq, bne_iff_ne, Bool.not_eq_false', beq_eq_false_iff_ne, bne_eq_false_iff_eq, ne_eq, Decidable.not_not, Int.not_lt, Int.not_le] at h
    refine c_skip ?_
    refine x_then ?_
    refine c_seq ?_
    refine c_region ?_
    refine o_yield rfl rfl rfl (y_val tok rfl) ?_
    refine o_yield rfl rfl rfl (y_val tok rfl) ?_
    refine o_yield rfl rfl rfl (y_val tok rfl) ?_
    refine o_yield rfl rfl rfl (y_val tok rfl) ?_
    refine o_yield rfl rfl rfl (y_val tok rfl) ?_
    refine o_yield rfl rfl rfl (y_val tok rfl) ?_
    refine o_yield rfl rfl rfl (y_val tok rfl) ?_
    have ok := cmdOk h
    have hc := h
    clear h
    have okk := ok.kind
    have oky := ok.by_
    have oks := ok.serial
    have hmw : IntKind.i64.wrap c.mode = c.mode := wrapI (by have := ok.mode; omega) (by have := ok.mode; omega)
    have okl := ok.lo
    have okh := ok.hi
    have okm := ok.mode
    have okd := ok.dead
    have okw := ok.was
    have m6 : mostN (6 : Int).toNat = 1099511627776 := by decide
    have m4 : mostN (4 : Int).toNat = 4294967295 := by decide
    have m1 : mostN (1 : Int).toNat = 255 := by decide
    have p1 : putOk 1 [c.kind] = true := putOk_of (by rw [fitsB, m1]; simp [widthB]; omega)
    have p2 : putOk 6 [c.by_] = true := putOk_of (by rw [fitsB, m6]; simp [widthB]; omega)
    have p3 : putOk 4 [c.serial] = true := putOk_of (by rw [fitsB, m4]; simp [widthB]; omega)
    have q1 : ∀ n : Int, 0 ≤ n → n ≤ 255 → fitsB n 1 = true := fun n h1 h2 => by rw [fitsB, m1]; simp [widthB]; omega
    have q6 : ∀ n : Int, 0 ≤ n → n ≤ 1099511627776 → fitsB n 6 = true := fun n h1 h2 => by rw [fitsB, m6]; simp [widthB]; omega
    have w1 : widthB 1 = true := rfl
    have w6 : widthB 6 = true := rfl
    have l4 : (putL (putL (putL [] 1 [c.kind]) 6 [c.by_]) 4 [c.serial]).length ≤ 1099511627776 := by simp [putL, leB, leTake_len]
    refine k_nilO 1 8 5 1 rfl rfl ?_
    rw [wrapI (n := c.kind) (by omega) (by omega)]
    refine o_step rfl rfl rfl rfl rfl (s_bs tok 1 rfl rfl rfl) (fun _ _ => ?_)
    refine o_step rfl rfl rfl rfl rfl (s_oput 1 2 5 c [] 1 [c.kind] _ rfl (fun E => ⟨E.κ 3, rfl, fun w hm => hm.rowOfDel (enc := encI64) (L := [c.kind]) 3 rfl rfl (fun _ => rfl)⟩) rfl rfl p1 (by simp) (by simp)) (fun _ _ => ?_)
    refine o_end [4] rfl ?_
    refine x_then ?_
    refine c_seq ?_
    refine c_region ?_
    refine o_yield rfl rfl rfl (y_val tok rfl) ?_
    refine o_yield rfl rfl rfl (y_val tok rfl) ?_
    refine o_yield rfl rfl rfl (y_val tok rfl) ?_
    refine o_yield rfl rfl rfl (y_val tok rfl) ?_
    refine o_yield rfl rfl rfl (y_val tok rfl) ?_
    refine o_yield rfl rfl rfl (y_val tok rfl) ?_
    refine o_step rfl rfl rfl rfl rfl (s_bs tok 1 rfl rfl rfl) (fun _ _ => ?_)
    refine o_step rfl rfl rfl rfl rfl (s_oput 1 4 5 c (putL [] 1 [c.kind]) 6 [c.by_] _ rfl (fun E => ⟨E.κ 5, rfl, fun w hm => hm.rowOfDel (enc := encI64) (L := [c.by_]) 5 rfl rfl (fun _ => rfl)⟩) rfl rfl p2 (by simp [putL, leB, leTake_len]) (by simp)) (fun _ _ => ?_)
    refine o_end [4] rfl ?_
    refine x_then ?_
    refine c_seq ?_
    refine c_region ?_
    refine o_yield rfl rfl rfl (y_val tok rfl) ?_
    refine o_yield rfl rfl rfl (y_val tok rfl) ?_
    refine o_yield rfl rfl rfl (y_val tok rfl) ?_
    refine o_yield rfl rfl rfl (y_val tok rfl) ?_
    refine o_yield rfl rfl rfl (y_val tok rfl) ?_
    refine o_yield rfl rfl rfl (y_val tok rfl) ?_
    refine o_step rfl rfl rfl rfl rfl (s_bs tok 1 rfl rfl rfl) (fun _ _ => ?_)
    have l3 : (putL (putL [] 1 [c.kind]) 6 [c.by_]).length = 7 := by simp [putL, leB, leTake_len]
    refine o_step rfl rfl rfl rfl rfl (s_oput 1 6 5 c (putL (putL [] 1 [c.kind]) 6 [c.by_]) 4 [c.serial] _ rfl (fun E => ⟨E.κ 7, rfl, fun w hm => hm.rowOfDel (enc := encI64) (L := [c.serial]) 7 rfl rfl (fun _ => rfl)⟩) rfl rfl p3 (by rw [l3]; omega) (by simp)) (fun _ _ => ?_)
    refine o_end [4] rfl ?_
    refine x_then ?_
    refine c_seq ?_
    refine c_seq ?_
    refine c_region ?_
    refine o_yield rfl rfl rfl (y_val tok rfl) ?_
    refine o_yield rfl rfl rfl (y_val tok rfl) ?_
    refine o_yield rfl rfl rfl (y_val tok rfl) ?_
    refine o_yield rfl rfl rfl (y_val tok rfl) ?_
    refine o_yield rfl rfl rfl (y_val tok rfl) ?_
    refine o_end [4, 40] rfl ?_
    refine x_then ?_
    refine c_block ?_
    refine c_seq ?_
    refine c_region ?_
    refine o_yield rfl rfl rfl (y_val tok rfl) ?_
    refine o_yield rfl rfl rfl (y_val tok rfl) ?_
    refine o_end [4, 40, 41] rfl ?_
    refine x_then ?_
    refine c_cond rfl (fun h => ?_) (fun h => ?_)
    ·
      refine c_heldS [20] mixed rfl (by repeat (first | exact SubO.nil | refine SubO.cons rfl ?_)) rfl ?_
      refine t_takeD 0 rfl (by kernel_rfl) rfl rfl rfl (y_val tok rfl) rfl ?_
      refine t_takeD 1 rfl (by kernel_rfl) rfl rfl rfl (y_val tok rfl) rfl ?_
      refine t_takeD 2 rfl (by kernel_rfl) rfl rfl rfl (y_val tok rfl) rfl ?_
      refine t_takeD 3 rfl (by kernel_rfl) rfl rfl rfl (y_val tok rfl) rfl ?_
      refine t_takeD 4 rfl (by kernel_rfl) rfl rfl rfl (y_val tok rfl) rfl ?_
      refine t_takeD 5 rfl (by kernel_rfl) rfl rfl rfl (y_val tok rfl) rfl ?_
      refine t_takeD 6 rfl (by kernel_rfl) rfl rfl rfl (y_val tok rfl) rfl ?_
      refine t_takeD 7 rfl (by kernel_rfl) rfl rfl rfl (y_val tok rfl) rfl ?_
      refine t_takeD 8 rfl (by kernel_rfl) rfl rfl rfl (y_val tok rfl) rfl ?_
      refine t_takeD 9 rfl (by kernel_rfl) rfl rfl rfl (y_val tok rfl) rfl ?_
      refine t_takeD 10 rfl (by kernel_rfl) rfl rfl rfl (y_val tok rfl) rfl ?_
      refine t_takeD 11 rfl (by kernel_rfl) rfl rfl rfl (y_val tok rfl) rfl ?_
      refine t_takeD 12 rfl (by kernel_rfl) rfl rfl rfl (y_val tok rfl) rfl ?_
      refine t_takeD 13 rfl (by kernel_rfl) rfl rfl rfl (y_val tok rfl) rfl ?_
      refine t_takeD 14 rfl (by kernel_rfl) rfl rfl rfl (y_val tok rfl) rfl ?_
      refine t_takeD 15 rfl (by kernel_rfl) rfl rfl rfl (y_val tok rfl) rfl ?_
      refine t_takeD 16 rfl (by kernel_rfl) rfl rfl rfl (y_val tok rfl) rfl ?_
      refine t_takeD 17 rfl (by kernel_rfl) rfl rfl rfl (y_val tok rfl) rfl ?_
      refine t_takeD 18 rfl (by kernel_rfl) rfl rfl rfl (y_val tok rfl) rfl ?_
      refine t_go ?_
      refine h_one 19 (by kernel_rfl) ?_
      have e2 : c.kind = 2 := by simpa using h
      have p4 : putOk 1 [c.lo, c.hi, (IntKind.i64.wrap c.mode)] = true := by simp only [putOk, List.all_cons, List.all_nil, Bool.and_true, Bool.and_eq_true]; exact ⟨w1, ⟨q1 _ (by omega) (by omega), q1 _ (by omega) (by omega), by rw [hmw]; exact q1 _ (by omega) (by omega)⟩⟩
      refine h_to 19 rfl rfl rfl rfl rfl rfl (s_bs tok 1 rfl rfl rfl) (.inr fun _ _ => ⟨(by repeat (first | exact SubO.nil | refine SubO.cons rfl ?_)), rfl, Vw.le.refl _⟩) (fun _ _ => ?_)
      refine h_one 20 (by kernel_rfl) ?_
      refine h_to 20 rfl rfl rfl rfl rfl rfl (s_oput 1 8 5 c (putL (putL (putL [] 1 [c.kind]) 6 [c.by_]) 4 [c.serial]) 1 [c.lo, c.hi, IntKind.i64.wrap c.mode] _ rfl (fun E => ⟨E.κ 9, rfl, fun w hm => hm.rowOfDel (enc := encI64) (L := [c.lo, c.hi, IntKind.i64.wrap c.mode]) 9 rfl rfl (fun _ => rfl)⟩) rfl rfl (p4) l4 (by simp)) (.inl rfl) (fun _ _ => ?_)
      refine h_done [4] (by kernel_rfl) rfl ?_
      refine x_block ?_
      refine x_then ?_
      refine c_seq ?_
      refine c_region ?_
      refine o_yield rfl rfl rfl (y_val tok rfl) ?_
      refine o_yield rfl rfl rfl (y_val tok rfl) ?_
      refine o_yield rfl rfl rfl (y_val tok rfl) ?_
      refine o_yield rfl rfl rfl (y_val tok rfl) ?_
      refine o_yield rfl rfl rfl (y_own (s := .a (.v (.string (strOf (cmdL c))))) 10 rfl rfl (fun v V' hs => y_b2s tok _ rfl (fun hg => by rw [cmdL, if_pos e2, ← hmw]; exact hs))) ?_
      refine o_yield rfl rfl rfl (y_val tok rfl) ?_
      refine o_yield rfl rfl rfl (y_val tok rfl) ?_
      refine o_end [2, 3] rfl ?_
      refine x_then ?_
      refine c_ret ?_
      refine b_ret tok rfl ?_
      intro E w' hm _
      refine ⟨?_, hm.below (Vw.le.refl _)⟩
      rw [cbV, cbE, if_pos hc, if_pos hc]
      rfl
    ·
      refine c_seq ?_
      refine c_region ?_
      refine o_yield rfl rfl rfl (y_val tok rfl) ?_
      refine o_yield rfl rfl rfl (y_val tok rfl) ?_
      refine o_end [4, 40, 64] rfl ?_
      refine x_then ?_
      refine c_cond rfl (fun h3 => ?_) (fun h3 => ?_)
      ·
        refine c_heldS [14] mixed rfl (by repeat (first | exact SubO.nil | refine SubO.cons rfl ?_)) rfl ?_
        refine t_takeD 0 rfl (by kernel_rfl) rfl rfl rfl (y_val tok rfl) rfl ?_
        refine t_takeD 1 rfl (by kernel_rfl) rfl rfl rfl (y_val tok rfl) rfl ?_
        refine t_takeD 2 rfl (by kernel_rfl) rfl rfl rfl (y_val tok rfl) rfl ?_
        refine t_takeD 3 rfl (by kernel_rfl) rfl rfl rfl (y_val tok rfl) rfl ?_
        refine t_takeD 4 rfl (by kernel_rfl) rfl rfl rfl (y_val tok rfl) rfl ?_
        refine t_takeD 5 rfl (by kernel_rfl) rfl rfl rfl (y_val tok rfl) rfl ?_
        refine t_takeD 6 rfl (by kernel_rfl) rfl rfl rfl (y_val tok rfl) rfl ?_
        refine t_takeD 7 rfl (by kernel_rfl) rfl rfl rfl (y_val tok rfl) rfl ?_
        refine t_takeD 8 rfl (by kernel_rfl) rfl rfl rfl (y_val tok rfl) rfl ?_
        refine t_takeD 9 rfl (by kernel_rfl) rfl rfl rfl (y_val tok rfl) rfl ?_
        refine t_takeD 10 rfl (by kernel_rfl) rfl rfl rfl (y_val tok rfl) rfl ?_
        refine t_takeD 11 rfl (by kernel_rfl) rfl rfl rfl (y_val tok rfl) rfl ?_
        refine t_takeD 12 rfl (by kernel_rfl) rfl rfl rfl (y_val tok rfl) rfl ?_
        refine t_go ?_
        refine h_one 13 (by kernel_rfl) ?_
        have e3 : c.kind = 3 := by simpa using h3
        have p4 : putOk 1 [c.lo, c.hi] = true := by simp only [putOk, List.all_cons, List.all_nil, Bool.and_true, Bool.and_eq_true]; exact ⟨w1, ⟨q1 _ (by omega) (by omega), q1 _ (by omega) (by omega)⟩⟩
        refine h_to 13 rfl rfl rfl rfl rfl rfl (s_bs tok 1 rfl rfl rfl) (.inr fun _ _ => ⟨(by repeat (first | exact SubO.nil | refine SubO.cons rfl ?_)), rfl, Vw.le.refl _⟩) (fun _ _ => ?_)
        refine h_one 14 (by kernel_rfl) ?_
        refine h_to 14 rfl rfl rfl rfl rfl rfl (s_oput 1 8 5 c (putL (putL (putL [] 1 [c.kind]) 6 [c.by_]) 4 [c.serial]) 1 [c.lo, c.hi] _ rfl (fun E => ⟨E.κ 9, rfl, fun w hm => hm.rowOfDel (enc := encI64) (L := [c.lo, c.hi]) 9 rfl rfl (fun _ => rfl)⟩) rfl rfl (p4) l4 (by simp)) (.inl rfl) (fun _ _ => ?_)
        refine h_done [4] (by kernel_rfl) rfl ?_
        refine x_block ?_
        refine x_then ?_
        refine c_seq ?_
        refine c_region ?_
        refine o_yield rfl rfl rfl (y_val tok rfl) ?_
        refine o_yield rfl rfl rfl (y_val tok rfl) ?_
        refine o_yield rfl rfl rfl (y_val tok rfl) ?_
        refine o_yield rfl rfl rfl (y_val tok rfl) ?_
        refine o_yield rfl rfl rfl (y_own (s := .a (.v (.string (strOf (cmdL c))))) 10 rfl rfl (fun v V' hs => y_b2s tok _ rfl (fun hg => by rw [cmdL, if_neg (by omega), if_pos e3]; exact hs))) ?_
        refine o_yield rfl rfl rfl (y_val tok rfl) ?_
        refine o_yield rfl rfl rfl (y_val tok rfl) ?_
        refine o_end [2, 3] rfl ?_
        refine x_then ?_
        refine c_ret ?_
        refine b_ret tok rfl ?_
        intro E w' hm _
        refine ⟨?_, hm.below (Vw.le.refl _)⟩
        rw [cbV, cbE, if_pos hc, if_pos hc]
        rfl
      ·
        refine c_seq ?_
        refine c_region ?_
        refine o_yield rfl rfl rfl (y_val tok rfl) ?_
        refine o_yield rfl rfl rfl (y_val tok rfl) ?_
        refine o_end [4, 40, 81] rfl ?_
        refine x_then ?_
        refine c_cond rfl (fun h4 => ?_) (fun h4 => ?_)
        ·
          refine c_heldS [12] mixed rfl (by repeat (first | exact SubO.nil | refine SubO.cons rfl ?_)) rfl ?_
          refine t_takeD 0 rfl (by kernel_rfl) rfl rfl rfl (y_val tok rfl) rfl ?_
          refine t_takeD 1 rfl (by kernel_rfl) rfl rfl rfl (y_val tok rfl) rfl ?_
          refine t_takeD 2 rfl (by kernel_rfl) rfl rfl rfl (y_val tok rfl) rfl ?_
          refine t_takeD 3 rfl (by kernel_rfl) rfl rfl rfl (y_val tok rfl) rfl ?_
          refine t_takeD 4 rfl (by kernel_rfl) rfl rfl rfl (y_val tok rfl) rfl ?_
          refine t_takeD 5 rfl (by kernel_rfl) rfl rfl rfl (y_val tok rfl) rfl ?_
          refine t_takeD 6 rfl (by kernel_rfl) rfl rfl rfl (y_val tok rfl) rfl ?_
          refine t_takeD 7 rfl (by kernel_rfl) rfl rfl rfl (y_val tok rfl) rfl ?_
          refine t_takeD 8 rfl (by kernel_rfl) rfl rfl rfl (y_val tok rfl) rfl ?_
          refine t_takeD 9 rfl (by kernel_rfl) rfl rfl rfl (y_val tok rfl) rfl ?_
          refine t_takeD 10 rfl (by kernel_rfl) rfl rfl rfl (y_val tok rfl) rfl ?_
          refine t_go ?_
          refine h_one 11 (by kernel_rfl) ?_
          have e4 : c.kind = 4 := by simpa using h4
          have p4 : putOk 6 [c.dead, c.was] = true := by simp only [putOk, List.all_cons, List.all_nil, Bool.and_true, Bool.and_eq_true]; exact ⟨w6, ⟨q6 _ (by omega) (by omega), q6 _ (by omega) (by omega)⟩⟩
          refine h_to 11 rfl rfl rfl rfl rfl rfl (s_bs tok 1 rfl rfl rfl) (.inr fun _ _ => ⟨(by repeat (first | exact SubO.nil | refine SubO.cons rfl ?_)), rfl, Vw.le.refl _⟩) (fun _ _ => ?_)
          refine h_one 12 (by kernel_rfl) ?_
          refine h_to 12 rfl rfl rfl rfl rfl rfl (s_oput 1 8 5 c (putL (putL (putL [] 1 [c.kind]) 6 [c.by_]) 4 [c.serial]) 6 [c.dead, c.was] _ rfl (fun E => ⟨E.κ 9, rfl, fun w hm => hm.rowOfDel (enc := encI64) (L := [c.dead, c.was]) 9 rfl rfl (fun _ => rfl)⟩) rfl rfl (p4) l4 (by simp)) (.inl rfl) (fun _ _ => ?_)
          refine h_done [4] (by kernel_rfl) rfl ?_
          refine x_block ?_
          refine x_then ?_
          refine c_seq ?_
          refine c_region ?_
          refine o_yield rfl rfl rfl (y_val tok rfl) ?_
          refine o_yield rfl rfl rfl (y_val tok rfl) ?_
          refine o_yield rfl rfl rfl (y_val tok rfl) ?_
          refine o_yield rfl rfl rfl (y_val tok rfl) ?_
          refine o_yield rfl rfl rfl (y_own (s := .a (.v (.string (strOf (cmdL c))))) 10 rfl rfl (fun v V' hs => y_b2s tok _ rfl (fun hg => by rw [cmdL, if_neg (by omega), if_neg (by omega), if_pos e4]; exact hs))) ?_
          refine o_yield rfl rfl rfl (y_val tok rfl) ?_
          refine o_yield rfl rfl rfl (y_val tok rfl) ?_
          refine o_end [2, 3] rfl ?_
          refine x_then ?_
          refine c_ret ?_
          refine b_ret tok rfl ?_
          intro E w' hm _
          refine ⟨?_, hm.below (Vw.le.refl _)⟩
          rw [cbV, cbE, if_pos hc, if_pos hc]
          rfl
        ·
          refine c_seq ?_
          refine c_region ?_
          refine o_yield rfl rfl rfl (y_val tok rfl) ?_
          refine o_yield rfl rfl rfl (y_val tok rfl) ?_
          refine o_end [4, 96] rfl ?_
          refine x_then ?_
          refine c_cond rfl (fun h5 => ?_) (fun h5 => ?_)
          ·
            refine c_region ?_
            refine o_yield rfl rfl rfl (y_val tok rfl) ?_
            refine o_yield rfl rfl rfl (y_val tok rfl) ?_
            refine o_yield rfl rfl rfl (y_val tok rfl) ?_
            refine o_yield rfl rfl rfl (y_val tok rfl) ?_
            refine o_yield rfl rfl rfl (y_val tok rfl) ?_
            refine o_yield rfl rfl rfl (y_val tok rfl) ?_
            have e5 : c.kind = 5 := by simpa using h5
            have p4 : putOk 6 [c.dead] = true := by simp only [putOk, List.all_cons, List.all_nil, Bool.and_true, Bool.and_eq_true]; exact ⟨w6, q6 _ (by omega) (by omega)⟩
            refine o_step rfl rfl rfl rfl rfl (s_bs tok 1 rfl rfl rfl) (fun _ _ => ?_)
            refine o_step rfl rfl rfl rfl rfl (s_oput 1 8 5 c (putL (putL (putL [] 1 [c.kind]) 6 [c.by_]) 4 [c.serial]) 6 [c.dead] _ rfl (fun E => ⟨E.κ 9, rfl, fun w hm => hm.rowOfDel (enc := encI64) (L := [c.dead]) 9 rfl rfl (fun _ => rfl)⟩) rfl rfl (p4) l4 (by simp)) (fun _ _ => ?_)
            refine o_end [4] rfl ?_
            refine x_block ?_
            refine x_then ?_
            refine c_seq ?_
            refine c_region ?_
            refine o_yield rfl rfl rfl (y_val tok rfl) ?_
            refine o_yield rfl rfl rfl (y_val tok rfl) ?_
            refine o_yield rfl rfl rfl (y_val tok rfl) ?_
            refine o_yield rfl rfl rfl (y_val tok rfl) ?_
            refine o_yield rfl rfl rfl (y_own (s := .a (.v (.string (strOf (cmdL c))))) 10 rfl rfl (fun v V' hs => y_b2s tok _ rfl (fun hg => by rw [cmdL, if_neg (by omega), if_neg (by omega), if_neg (by omega), if_pos e5]; exact hs))) ?_
            refine o_yield rfl rfl rfl (y_val tok rfl) ?_
            refine o_yield rfl rfl rfl (y_val tok rfl) ?_
            refine o_end [2, 3] rfl ?_
            refine x_then ?_
            refine c_ret ?_
            refine b_ret tok rfl ?_
            intro E w' hm _
            refine ⟨?_, hm.below (Vw.le.refl _)⟩
            rw [cbV, cbE, if_pos hc, if_pos hc]
            rfl
          ·
            refine c_skip ?_
            refine x_block ?_
            refine x_then ?_
            refine c_seq ?_
            refine c_region ?_
            refine o_yield rfl rfl rfl (y_val tok rfl) ?_
            refine o_yield rfl rfl rfl (y_val tok rfl) ?_
            refine o_yield rfl rfl rfl (y_val tok rfl) ?_
            refine o_yield rfl rfl rfl (y_val tok rfl) ?_
            have f2 : ¬ c.kind = 2 := by simpa using h
            have f3 : ¬ c.kind = 3 := by simpa using h3
            have f4 : ¬ c.kind = 4 := by simpa using h4
            have f5 : ¬ c.kind = 5 := by simpa using h5
            refine o_yield rfl rfl rfl (y_own (s := .a (.v (.string (strOf (cmdL c))))) 8 rfl rfl (fun v V' hs => y_b2s tok _ rfl (fun hg => by rw [cmdL, if_neg f2, if_neg f3, if_neg f4, if_neg f5]; exact hs))) ?_
            refine o_yield rfl rfl rfl (y_val tok rfl) ?_
            refine o_yield rfl rfl rfl (y_val tok rfl) ?_
            refine o_end [2, 3] rfl ?_
            refine x_then ?_
            refine c_ret ?_
            refine b_ret tok rfl ?_
            intro E w' hm _
            refine ⟨?_, hm.below (Vw.le.refl _)⟩
            rw [cbV, cbE, if_pos hc, if_pos hc]
            rfl
end Go.Proofs.Ytlcpfhjbhogdiaa

/- Commands read back: the program's. -/
set_option linter.unusedVariables false
set_option linter.unusedSimpArgs false
set_option maxRecDepth 100000
namespace Go.Proofs.Ytlcpfhjbhogdiaa
open Go Go.Eng Go.RowKit

/-- What is left, and whether something was lacking. -/
def tkS (t : ByteArray × Bool) (k : Nat) : ByteArray × Bool := if (getSpec t.1 0 k).2 ≠ 0 then (t.1, true) else (restOf t.1 k, t.2)

theorem tkS_size (t : ByteArray × Bool) (k : Nat) : (tkS t k).1.size ≤ t.1.size := by
  rw [tkS]; split
  · exact Nat.le_refl _
  · rw [restOf_size]; omega

theorem getSpec_bad {s : ByteArray} {a k : Int} (h : (getSpec s a k).2 ≠ 0) : (getSpec s a k).1 = 0 := by
  unfold getSpec at h ⊢
  split
  · rfl
  · split
    · rfl
    · split
      · rfl
      · rename_i h1 h2 h3
        rw [if_neg h1, if_neg h2, if_neg h3] at h
        exact absurd rfl h

theorem getSpec_fit {s : ByteArray} {k : Nat} (h : ¬ (getSpec s 0 k).2 ≠ 0) : k ≤ s.size := by
  unfold getSpec at h
  split at h
  · exact absurd (by decide) h
  · split at h
    · exact absurd (by decide) h
    · omega

theorem take_c (t : ByteArray × Bool) (k : Nat) (hs : t.1.size ≤ maxLen) (hk : k ≤ 6) (b : Nat) (w : World) (hb : w.heap[b]? = some (.cells [S t.1, .bool t.2].toArray 186 (0, 0))) :
    Calls Try.prog 137 #[.pointer (some ⟨b, 0, none⟩), I k] w fun e w' => e = .returned (I (getSpec t.1 0 k).1) ∧ Go.Eng.Touch (· = b) w w' ∧ w'.heap[b]? = some (.cells [S (tkS t k).1, .bool (tkS t k).2].toArray 186 (0, 0)) := by
  obtain ⟨s, bad⟩ := t
  dsimp only at hs hb ⊢
  refine enter1 [.a (.ptr 0 0), .a (.v (I k))] hb Try.func137 rfl rfl rfl rfl ?_
  refine c_seq ?_
  refine c_region ?_
  refine o_yield rfl rfl rfl (y_val tok rfl) ?_
  refine o_end [0, 1] rfl ?_
  refine x_then ?_
  refine c_seq ?_
  refine c_region ?_
  refine o_yield rfl rfl rfl (y_val tok rfl) ?_
  refine o_yield rfl rfl rfl (y_val tok rfl) ?_
  refine o_yield rfl rfl rfl (y_val tok rfl) ?_
  refine o_yield rfl rfl rfl (y_val tok rfl) ?_
  refine o_yield rfl rfl rfl (y_val tok rfl) ?_
  refine o_call (.a (.v _)) rfl rfl fnok127 rfl rfl rfl (fun hg E w1 hm => by exact numGet_c s 0 k hs _) ?_
  refine o_yield rfl rfl rfl (y_val tok rfl) ?_
  refine o_yield rfl rfl rfl (y_val tok rfl) ?_
  refine o_yield rfl rfl rfl (y_val tok rfl) ?_
  refine o_yield rfl rfl rfl (y_val tok rfl) ?_
  refine o_yield rfl rfl rfl (y_val tok rfl) ?_
  refine o_end [0, 1, 5, 6] rfl ?_
  refine x_then ?_
  refine c_seq ?_
  refine c_seq ?_
  refine c_region ?_
  refine o_yield rfl rfl rfl (y_val tok rfl) ?_
  refine o_yield rfl rfl rfl (y_val tok rfl) ?_
  refine o_end [0, 1, 5, 17] rfl ?_
  refine x_then ?_
  refine c_cond rfl (fun h => ?_) (fun h => ?_)
  ·
    simp only [Bool.and_eq_true, Bool.or_eq_true, Bool.not_eq_true', Bool.or_eq_false_iff, Bool.and_eq_false_iff, decide_eq_true_eq, decide_eq_false_iff_not, beq_iff_eq, bne_iff_ne, Bool.not_eq_false', beq_eq_false_iff_ne, bne_eq_false_iff_eq, ne_eq, Decidable.not_not, Int.not_lt, Int.not_le] at h
    refine c_seq ?_
    refine c_region ?_
    refine o_yield rfl rfl rfl (y_val tok rfl) ?_
    refine o_yield rfl rfl rfl (y_val tok rfl) ?_
    refine o_yield rfl rfl rfl (y_val tok rfl) ?_
    refine o_store tok rfl rfl rfl (by first | exact ⟨trivial, trivial⟩ | simp [onesP, oneP, lk, Value.oneCell']) ?_
    refine o_end [] rfl ?_
    refine x_then ?_
    refine c_seq ?_
    refine c_region ?_
    refine o_yield rfl rfl rfl (y_val tok rfl) ?_
    refine o_end [4] rfl ?_
    refine x_then ?_
    refine c_ret ?_
    refine x_then_ret ?_
    refine b_ret tok rfl ?_
    intro E w' hm _
    obtain ⟨h1, h2⟩ := back1 hm (Vw.le.refl _) rfl rfl rfl
    refine ⟨?_, h1, ?_⟩
    · rw [getSpec_bad h]; rfl
    · rw [h2, tkS, if_pos h]; rfl
  ·
    simp only [Bool.and_eq_true, Bool.or_eq_true, Bool.not_eq_true', Bool.or_eq_false_iff, Bool.and_eq_false_iff, decide_eq_true_eq, decide_eq_false_iff_not, beq_iff_eq, bne_iff_ne, Bool.not_eq_false', beq_eq_false_iff_ne, bne_eq_false_iff_eq, ne_eq, Decidable.not_not, Int.not_lt, Int.not_le] at h
    refine c_skip ?_
    refine x_then ?_
    refine c_seq ?_
    refine c_region ?_
    refine o_yield rfl rfl rfl (y_val tok rfl) ?_
    refine o_yield rfl rfl rfl (y_val tok rfl) ?_
    refine o_yield rfl rfl rfl (y_val tok rfl) ?_
    refine o_yield rfl rfl rfl (y_val tok rfl) ?_
    refine o_yield rfl rfl rfl (y_val tok rfl) ?_
    refine o_yield rfl rfl rfl (y_val tok rfl) ?_
    have hf := getSpec_fit (s := s) (k := k) (by simp [h])
    refine o_yield rfl rfl rfl (y_ss tok rfl (fun hg => by simp only [Option.getD]; omega)) ?_
    refine o_yield rfl rfl rfl (y_val tok rfl) ?_
    refine o_yield rfl rfl rfl (y_val tok rfl) ?_
    refine o_store tok rfl rfl rfl (by first | exact ⟨trivial, trivial⟩ | simp [onesP, oneP, lk, Value.oneCell']) ?_
    refine o_end [5] rfl ?_
    refine x_then ?_
    refine c_seq ?_
    refine c_region ?_
    refine o_yield rfl rfl rfl (y_val tok rfl) ?_
    refine o_yield rfl rfl rfl (y_val tok rfl) ?_
    refine o_end [4] rfl ?_
    refine x_then ?_
    refine c_ret ?_
    refine b_ret tok rfl ?_
    rw [show s.extract ((some (k : Int)).getD 0).toNat ((none : Option Int).getD (s.size : Int)).toNat = restOf s k from rfl]
    intro E w' hm _
    obtain ⟨h1, h2⟩ := back1 hm (Vw.le.refl _) rfl rfl rfl
    refine ⟨rfl, h1, ?_⟩
    rw [h2, tkS, if_neg (by simp [h])]; rfl

section
variable {o : Oper} {n : Nat} {F : Frame0} {C : List Nat} {O : Own} {nl : Nat} {V : Vw}

theorem s_take {p : List (Nat × Bool)} (l : Nat) (t : ByteArray × Bool) (k : Nat) (K : Int) (hK : (k : Int) = K) (t' : ByteArray × Bool) (ht : tkS t k = t') (ss : List SV) (hv : evalC F p o.op = some (137, ss)) (hss : ∀ E, ss.map (SV.den E) = [.pointer (some ⟨E.ρ l, 0, none⟩), I K])
    (hl : lk O l = some (.lit [.v (S t.1), .v (.bool t.2)] 186)) (hs : t.1.size ≤ maxLen) (hk : k ≤ 6) :
    StepTo Try.prog o p n F C O nl V (σ := Unit) (fun _ => True) (fun _ => .a (.v (I (getSpec t.1 0 K).1))) (fun _ => (l, .lit [.v (S t'.1), .v (.bool t'.2)] 186) :: O) nl (fun _ => V) := by
  subst hK ht
  refine s_callW (fun _ => True) (fun _ => .a (.v (I (getSpec t.1 0 k).1))) l 186 (fun _ => [.v (S (tkS t k).1), .v (.bool (tkS t k).2)]) hv fnok137 hl (fun _ => rfl) (fun _ => rfl) ?_
  intro E w hm hb
  rw [hss E]
  refine (take_c t k hs hk (E.ρ l) w hb).mono ?_
  rintro e w' ⟨rfl, h1, h2⟩
  exact ⟨(), rfl, h1, h2, trivial⟩
end

theorem getSpec_nonneg (s : ByteArray) (a k : Int) : 0 ≤ (getSpec s a k).1 ∧ (getSpec s a k).1 ≤ 1099511627776 := by
  unfold getSpec
  split
  · decide
  · split
    · decide
    · split
      · decide
      · constructor
        · exact Int.natCast_nonneg _
        · dsimp only; omega

theorem wrapI8 {n : Int} (h0 : 0 ≤ n) (h1 : n ≤ 127) : IntKind.i8.wrap n = n := by
  simp [IntKind.wrap, IntKind.bits, IntKind.signed]; omega

def rdPre (s : ByteArray) : Cmd × (ByteArray × Bool) :=
  if min (getSpec s 0 1).1 127 = 2 then
    (⟨min (getSpec s 0 1).1 127, (getSpec (tkS (s, false) 1).1 0 6).1, (getSpec (tkS (tkS (s, false) 1) 6).1 0 4).1, 0, 0, (getSpec (tkS (tkS (tkS (s, false) 1) 6) 4).1 0 1).1, (getSpec (tkS (tkS (tkS (tkS (s, false) 1) 6) 4) 1).1 0 1).1,
      min (getSpec (tkS (tkS (tkS (tkS (tkS (s, false) 1) 6) 4) 1) 1).1 0 1).1 127⟩, tkS (tkS (tkS (tkS (tkS (tkS (s, false) 1) 6) 4) 1) 1) 1)
  else if min (getSpec s 0 1).1 127 = 3 then
    (⟨min (getSpec s 0 1).1 127, (getSpec (tkS (s, false) 1).1 0 6).1, (getSpec (tkS (tkS (s, false) 1) 6).1 0 4).1, 0, 0, (getSpec (tkS (tkS (tkS (s, false) 1) 6) 4).1 0 1).1, (getSpec (tkS (tkS (tkS (tkS (s, false) 1) 6) 4) 1).1 0 1).1, 0⟩,
      tkS (tkS (tkS (tkS (tkS (s, false) 1) 6) 4) 1) 1)
  else if min (getSpec s 0 1).1 127 = 4 then
    (⟨min (getSpec s 0 1).1 127, (getSpec (tkS (s, false) 1).1 0 6).1, (getSpec (tkS (tkS (s, false) 1) 6).1 0 4).1, (getSpec (tkS (tkS (tkS (s, false) 1) 6) 4).1 0 6).1, (getSpec (tkS (tkS (tkS (tkS (s, false) 1) 6) 4) 6).1 0 6).1, 0, 0, 0⟩,
      tkS (tkS (tkS (tkS (tkS (s, false) 1) 6) 4) 6) 6)
  else if min (getSpec s 0 1).1 127 = 5 then
    (⟨min (getSpec s 0 1).1 127, (getSpec (tkS (s, false) 1).1 0 6).1, (getSpec (tkS (tkS (s, false) 1) 6).1 0 4).1, (getSpec (tkS (tkS (tkS (s, false) 1) 6) 4).1 0 6).1, 0, 0, 0, 0⟩, tkS (tkS (tkS (tkS (s, false) 1) 6) 4) 6)
  else (⟨min (getSpec s 0 1).1 127, (getSpec (tkS (s, false) 1).1 0 6).1, (getSpec (tkS (tkS (s, false) 1) 6).1 0 4).1, 0, 0, 0, 0, 0⟩, tkS (tkS (tkS (s, false) 1) 6) 4)

/-- Whether what was read stands. -/
def rdB (x : Cmd × (ByteArray × Bool)) : Bool := !((x.2.2 || !(x.2.1.toList == ByteArray.empty.toList)) || !(cmdB x.1))
def cmd0 : Cmd := ⟨0, 0, 0, 0, 0, 0, 0, 0⟩
def crdV (s : ByteArray) : Cmd := if rdB (rdPre s) = true then (rdPre s).1 else cmd0
def crdE (s : ByteArray) : Int := if rdB (rdPre s) = true then 0 else 100

theorem crd_no {s : ByteArray} {c : Cmd} {t : ByteArray × Bool} (hp : rdPre s = (c, t)) (h : ((t.2 || !(t.1.toList == ByteArray.empty.toList)) || !cmdB c) = true) : crdV s = cmd0 ∧ crdE s = 100 := by
  rw [crdV, crdE, hp, rdB, h]; exact ⟨rfl, rfl⟩

theorem crd_yes {s : ByteArray} {c : Cmd} {t : ByteArray × Bool} (hp : rdPre s = (c, t)) (h : ((t.2 || !(t.1.toList == ByteArray.empty.toList)) || !cmdB c) = false) : crdV s = c ∧ crdE s = 0 := by
  rw [crdV, crdE, hp, rdB, h]; exact ⟨rfl, rfl⟩

theorem cmdRead_c (s : ByteArray) (hs : s.size ≤ maxLen) (w : World) : Calls Try.prog 89 #[S s] w fun e w' => e = .returned (.tuple #[(crdV s).val, I (crdE s)]) ∧ Below w.heap.size w w' := by
  have hle1 := tkS_size (s, false) 1
  have hn1 := getSpec_nonneg s 0 1
  obtain ⟨t1, ht1⟩ : ∃ t, tkS (s, false) 1 = t := ⟨_, rfl⟩
  rw [ht1] at hle1
  have hle2 := tkS_size t1 6
  obtain ⟨t2, ht2⟩ : ∃ t, tkS t1 6 = t := ⟨_, rfl⟩
  rw [ht2] at hle2
  have hle3 := tkS_size t2 4
  obtain ⟨t3, ht3⟩ : ∃ t, tkS t2 4 = t := ⟨_, rfl⟩
  rw [ht3] at hle3
  dsimp only at hle1
  obtain ⟨n1, hn⟩ : ∃ n, (getSpec s 0 1).1 = n := ⟨_, rfl⟩
  refine enter (E := E0) (O := []) (nl := 0) (V := vw w) [.a (.v (S s))] Try.func89 rfl rfl (mem0 E0 0 w) rfl rfl ?_
  refine c_seq ?_
  refine c_region ?_
  refine o_new tok rfl rfl rfl rfl ?_
  refine o_yield rfl rfl rfl (y_val tok rfl) ?_
  refine o_end [0, 2] rfl ?_
  refine x_then ?_
  refine c_seq ?_
  refine c_region ?_
  refine o_yield rfl rfl rfl (y_val tok rfl) ?_
  refine o_yield rfl rfl rfl (y_val tok rfl) ?_
  refine o_new tok rfl rfl rfl rfl ?_
  refine o_yield rfl rfl rfl (y_val tok rfl) ?_
  refine o_end [2, 4] rfl ?_
  refine x_then ?_
  refine c_seq ?_
  refine c_region ?_
  refine o_yield rfl rfl rfl (y_val tok rfl) ?_
  refine o_step rfl rfl rfl rfl rfl (s_take 1 (s, false) 1 1 rfl t1 ht1 _ rfl (fun E => rfl) rfl hs (by omega)) (fun _ _ => ?_)
  refine o_yield rfl rfl rfl (y_val tok rfl) ?_
  refine o_end [2, 4, 5] rfl ?_
  refine x_then ?_
  refine c_seq ?_
  refine c_region ?_
  refine o_yield rfl rfl rfl (y_val tok rfl) ?_
  obtain ⟨K, hK⟩ : ∃ K, min n1 127 = K := ⟨_, rfl⟩
  have hk8 : IntKind.i8.wrap K = K := wrapI8 (by omega) (by omega)
  rw [hn]
  refine o_yield rfl rfl rfl (y_mm rfl) ?_
  refine o_yield rfl rfl rfl (y_val tok rfl) ?_
  refine o_yield rfl rfl rfl (y_val tok rfl) ?_
  rw [show (bif false then max n1 127 else min n1 127) = K from hK, hk8]
  refine o_step rfl rfl rfl rfl rfl (s_take 1 t1 6 6 rfl t2 ht2 _ rfl (fun E => rfl) rfl (by omega) (by omega)) (fun _ _ => ?_)
  refine o_yield rfl rfl rfl (y_val tok rfl) ?_
  refine o_step rfl rfl rfl rfl rfl (s_take 1 t2 4 4 rfl t3 ht3 _ rfl (fun E => rfl) rfl (by omega) (by omega)) (fun _ _ => ?_)
  refine o_yield rfl rfl rfl (y_val tok rfl) ?_
  refine o_new tok rfl rfl rfl rfl ?_
  refine o_store tok rfl rfl rfl (by first | exact ⟨trivial, trivial⟩ | simp [onesP, oneP, lk, Value.oneCell']) ?_
  refine o_end [2, 4, 6] rfl ?_
  refine x_then ?_
  refine c_seq ?_
  refine c_seq ?_
  refine c_region ?_
  refine o_yield rfl rfl rfl (y_val tok rfl) ?_
  refine o_yield rfl rfl rfl (y_val tok rfl) ?_
  refine o_end [2, 4, 6, 21] rfl ?_
  refine x_then ?_
  refine c_block ?_
  refine c_seq ?_
  refine c_seq ?_
  refine c_region ?_
  refine o_yield rfl rfl rfl (y_val tok rfl) ?_
  refine o_yield rfl rfl rfl (y_val tok rfl) ?_
  refine o_end [2, 4, 6, 21, 22] rfl ?_
  refine x_then ?_
  refine c_cond rfl (fun h => ?_) (fun h => ?_)
  ·
    refine c_skip ?_
    refine x_then ?_
    refine c_cond rfl (fun h2 => ?_) (fun h2 => ?_)
    ·
      refine c_seq ?_
      refine c_region ?_
      refine o_yield rfl rfl rfl (y_val tok rfl) ?_
      have e : K = 2 := by simpa using h2
      have hlet4 := tkS_size t3 1
      obtain ⟨t4, ht4⟩ : ∃ t, tkS t3 1 = t := ⟨_, rfl⟩
      rw [ht4] at hlet4
      refine o_step rfl rfl rfl rfl rfl (s_take 1 t3 1 1 rfl t4 ht4 _ rfl (fun E => rfl) rfl (by omega) (by omega)) (fun _ _ => ?_)
      refine o_yield rfl rfl rfl (y_val tok rfl) ?_
      have hlet5 := tkS_size t4 1
      obtain ⟨t5, ht5⟩ : ∃ t, tkS t4 1 = t := ⟨_, rfl⟩
      rw [ht5] at hlet5
      refine o_step rfl rfl rfl rfl rfl (s_take 1 t4 1 1 rfl t5 ht5 _ rfl (fun E => rfl) rfl (by omega) (by omega)) (fun _ _ => ?_)
      refine o_yield rfl rfl rfl (y_val tok rfl) ?_
      refine o_yield rfl rfl rfl (y_val tok rfl) ?_
      refine o_store tok rfl rfl rfl (by first | exact ⟨trivial, trivial⟩ | simp [onesP, oneP, lk, Value.oneCell']) ?_
      refine o_yield rfl rfl rfl (y_val tok rfl) ?_
      refine o_yield rfl rfl rfl (y_val tok rfl) ?_
      refine o_store tok rfl rfl rfl (by first | exact ⟨trivial, trivial⟩ | simp [onesP, oneP, lk, Value.oneCell']) ?_
      refine o_end [2, 4, 6] rfl ?_
      refine x_then ?_
      refine c_seq ?_
      refine c_region ?_
      refine o_yield rfl rfl rfl (y_val tok rfl) ?_
      refine o_yield rfl rfl rfl (y_val tok rfl) ?_
      refine o_yield rfl rfl rfl (y_val tok rfl) ?_
      refine o_end [2, 4, 6, 35] rfl ?_
      refine x_then ?_
      refine c_cond rfl (fun h => ?_) (fun h => ?_)
      ·
        refine c_region ?_
        refine o_yield rfl rfl rfl (y_val tok rfl) ?_
        obtain ⟨m, hmv⟩ : ∃ m, (getSpec t5.1 0 1).1 = m := ⟨_, rfl⟩
        have hm1 := getSpec_nonneg t5.1 0 1
        rw [hmv] at hm1
        obtain ⟨M, hM⟩ : ∃ M, min m 127 = M := ⟨_, rfl⟩
        have hm8 : IntKind.i8.wrap M = M := wrapI8 (by omega) (by omega)
        have hlet6 := tkS_size t5 1
        obtain ⟨t6, ht6⟩ : ∃ t, tkS t5 1 = t := ⟨_, rfl⟩
        rw [ht6] at hlet6
        refine o_step rfl rfl rfl rfl rfl (s_take 1 t5 1 1 rfl t6 ht6 _ rfl (fun E => rfl) rfl (by omega) (by omega)) (fun _ _ => ?_)
        rw [hmv]
        refine o_yield rfl rfl rfl (y_mm rfl) ?_
        refine o_yield rfl rfl rfl (y_val tok rfl) ?_
        refine o_yield rfl rfl rfl (y_val tok rfl) ?_
        refine o_store tok rfl rfl rfl (by first | exact ⟨trivial, trivial⟩ | simp [onesP, oneP, lk, Value.oneCell']) ?_
        refine o_end [2, 4, 6] rfl ?_
        refine x_block ?_
        refine x_then ?_
        refine c_seq ?_
        refine c_seq ?_
        refine c_region ?_
        refine o_yield rfl rfl rfl (y_val tok rfl) ?_
        refine o_yield rfl rfl rfl (y_val tok rfl) ?_
        refine o_yield rfl rfl rfl (y_val tok rfl) ?_
        refine o_yield rfl rfl rfl (y_val tok rfl) ?_
        refine o_yield rfl rfl rfl (y_val tok rfl) ?_
        refine o_yield rfl rfl rfl (y_val tok rfl) ?_
        refine o_yield rfl rfl rfl (y_val tok rfl) ?_
        refine o_yield rfl rfl rfl (y_val tok rfl) ?_
        refine o_yield rfl rfl rfl (y_val tok rfl) ?_
        refine o_yield rfl rfl rfl (y_val tok rfl) ?_
        refine o_yield rfl rfl rfl (y_val tok rfl) ?_
        refine o_yield rfl rfl rfl (y_val tok rfl) ?_
        refine o_yield rfl rfl rfl (y_val tok rfl) ?_
        rw [show (bif false then max m 127 else min m 127) = M from hM, hm8]
        refine o_call (.a (.v _)) rfl rfl fnok138 rfl rfl rfl (fun hg E w1 hm => by exact cmdMay_c ⟨K, (getSpec t1.1 0 6).1, (getSpec t2.1 0 4).1, 0, 0, (getSpec t3.1 0 1).1, (getSpec t4.1 0 1).1, M⟩ _) ?_
        refine o_yield rfl rfl rfl (y_val tok rfl) ?_
        refine o_yield rfl rfl rfl (y_val tok rfl) ?_
        refine o_end [2, 6, 68] rfl ?_
        refine x_then ?_
        refine c_cond rfl (fun h => ?_) (fun h => ?_)
        ·
          refine c_seq ?_
          refine c_region ?_
          refine o_yield rfl rfl rfl (y_val tok rfl) ?_
          refine o_store tok rfl rfl rfl (by first | exact ⟨trivial, trivial⟩ | simp [onesP, oneP, lk, Value.oneCell']) ?_
          refine o_yield rfl rfl rfl (y_val tok rfl) ?_
          refine o_end [2, 3] rfl ?_
          refine x_then ?_
          refine c_ret ?_
          refine x_then_ret ?_
          refine b_ret tok rfl ?_
          intro E w' hm _
          refine ⟨?_, hm.below (Vw.le.refl _)⟩
          obtain ⟨r1, r2⟩ := crd_no (s := s) (c := ⟨K, (getSpec t1.1 0 6).1, (getSpec t2.1 0 4).1, 0, 0, (getSpec t3.1 0 1).1, (getSpec t4.1 0 1).1, M⟩) (t := t6) (by rw [rdPre, hn, hK, if_pos e, ht1, ht2, ht3, ht4, ht5, hmv, hM, ht6]) h
          rw [r1, r2]; rfl
        ·
          refine c_skip ?_
          refine x_then ?_
          refine c_seq ?_
          refine c_region ?_
          refine o_yield rfl rfl rfl (y_val tok rfl) ?_
          refine o_store tok rfl rfl rfl (by first | exact ⟨trivial, trivial⟩ | simp [onesP, oneP, lk, Value.oneCell']) ?_
          refine o_yield rfl rfl rfl (y_val tok rfl) ?_
          refine o_end [2, 3] rfl ?_
          refine x_then ?_
          refine c_ret ?_
          refine b_ret tok rfl ?_
          intro E w' hm _
          refine ⟨?_, hm.below (Vw.le.refl _)⟩
          obtain ⟨r1, r2⟩ := crd_yes (s := s) (c := ⟨K, (getSpec t1.1 0 6).1, (getSpec t2.1 0 4).1, 0, 0, (getSpec t3.1 0 1).1, (getSpec t4.1 0 1).1, M⟩) (t := t6) (by rw [rdPre, hn, hK, if_pos e, ht1, ht2, ht3, ht4, ht5, hmv, hM, ht6]) h
          rw [r1, r2]; rfl
      ·
        exact absurd (h.symm.trans h2) (by decide)
    ·
      exact absurd (h.symm.trans h2) (by decide)
  ·
    refine c_region ?_
    refine o_yield rfl rfl rfl (y_val tok rfl) ?_
    refine o_yield rfl rfl rfl (y_val tok rfl) ?_
    refine o_end [2, 4, 6, 21, 22] rfl ?_
    refine x_then ?_
    refine c_cond rfl (fun h2 => ?_) (fun h2 => ?_)
    ·
      refine c_seq ?_
      refine c_region ?_
      refine o_yield rfl rfl rfl (y_val tok rfl) ?_
      have e : K = 3 := by simpa using h2
      have hlet4 := tkS_size t3 1
      obtain ⟨t4, ht4⟩ : ∃ t, tkS t3 1 = t := ⟨_, rfl⟩
      rw [ht4] at hlet4
      refine o_step rfl rfl rfl rfl rfl (s_take 1 t3 1 1 rfl t4 ht4 _ rfl (fun E => rfl) rfl (by omega) (by omega)) (fun _ _ => ?_)
      refine o_yield rfl rfl rfl (y_val tok rfl) ?_
      have hlet5 := tkS_size t4 1
      obtain ⟨t5, ht5⟩ : ∃ t, tkS t4 1 = t := ⟨_, rfl⟩
      rw [ht5] at hlet5
      refine o_step rfl rfl rfl rfl rfl (s_take 1 t4 1 1 rfl t5 ht5 _ rfl (fun E => rfl) rfl (by omega) (by omega)) (fun _ _ => ?_)
      refine o_yield rfl rfl rfl (y_val tok rfl) ?_
      refine o_yield rfl rfl rfl (y_val tok rfl) ?_
      refine o_store tok rfl rfl rfl (by first | exact ⟨trivial, trivial⟩ | simp [onesP, oneP, lk, Value.oneCell']) ?_
      refine o_yield rfl rfl rfl (y_val tok rfl) ?_
      refine o_yield rfl rfl rfl (y_val tok rfl) ?_
      refine o_store tok rfl rfl rfl (by first | exact ⟨trivial, trivial⟩ | simp [onesP, oneP, lk, Value.oneCell']) ?_
      refine o_end [2, 4, 6] rfl ?_
      refine x_then ?_
      refine c_seq ?_
      refine c_region ?_
      refine o_yield rfl rfl rfl (y_val tok rfl) ?_
      refine o_yield rfl rfl rfl (y_val tok rfl) ?_
      refine o_yield rfl rfl rfl (y_val tok rfl) ?_
      refine o_end [2, 4, 6, 35] rfl ?_
      refine x_then ?_
      refine c_cond rfl (fun h => ?_) (fun h => ?_)
      ·
        refine c_region ?_
        refine o_yield rfl rfl rfl (y_val tok rfl) ?_
        rw [e] at h; cases h
      ·
        refine c_skip ?_
        refine x_block ?_
        refine x_then ?_
        refine c_seq ?_
        refine c_seq ?_
        refine c_region ?_
        refine o_yield rfl rfl rfl (y_val tok rfl) ?_
        refine o_yield rfl rfl rfl (y_val tok rfl) ?_
        refine o_yield rfl rfl rfl (y_val tok rfl) ?_
        refine o_yield rfl rfl rfl (y_val tok rfl) ?_
        refine o_yield rfl rfl rfl (y_val tok rfl) ?_
        refine o_yield rfl rfl rfl (y_val tok rfl) ?_
        refine o_yield rfl rfl rfl (y_val tok rfl) ?_
        refine o_yield rfl rfl rfl (y_val tok rfl) ?_
        refine o_yield rfl rfl rfl (y_val tok rfl) ?_
        refine o_yield rfl rfl rfl (y_val tok rfl) ?_
        refine o_yield rfl rfl rfl (y_val tok rfl) ?_
        refine o_yield rfl rfl rfl (y_val tok rfl) ?_
        refine o_yield rfl rfl rfl (y_val tok rfl) ?_
        refine o_call (.a (.v _)) rfl rfl fnok138 rfl rfl rfl (fun hg E w1 hm => by exact cmdMay_c ⟨K, (getSpec t1.1 0 6).1, (getSpec t2.1 0 4).1, 0, 0, (getSpec t3.1 0 1).1, (getSpec t4.1 0 1).1, 0⟩ _) ?_
        refine o_yield rfl rfl rfl (y_val tok rfl) ?_
        refine o_yield rfl rfl rfl (y_val tok rfl) ?_
        refine o_end [2, 6, 68] rfl ?_
        refine x_then ?_
        refine c_cond rfl (fun h => ?_) (fun h => ?_)
        ·
          refine c_seq ?_
          refine c_region ?_
          refine o_yield rfl rfl rfl (y_val tok rfl) ?_
          refine o_store tok rfl rfl rfl (by first | exact ⟨trivial, trivial⟩ | simp [onesP, oneP, lk, Value.oneCell']) ?_
          refine o_yield rfl rfl rfl (y_val tok rfl) ?_
          refine o_end [2, 3] rfl ?_
          refine x_then ?_
          refine c_ret ?_
          refine x_then_ret ?_
          refine b_ret tok rfl ?_
          intro E w' hm _
          refine ⟨?_, hm.below (Vw.le.refl _)⟩
          obtain ⟨r1, r2⟩ := crd_no (s := s) (c := ⟨K, (getSpec t1.1 0 6).1, (getSpec t2.1 0 4).1, 0, 0, (getSpec t3.1 0 1).1, (getSpec t4.1 0 1).1, 0⟩) (t := t5) (by rw [rdPre, hn, hK, if_neg (by omega), if_pos e, ht1, ht2, ht3, ht4, ht5]) h
          rw [r1, r2]; rfl
        ·
          refine c_skip ?_
          refine x_then ?_
          refine c_seq ?_
          refine c_region ?_
          refine o_yield rfl rfl rfl (y_val tok rfl) ?_
          refine o_store tok rfl rfl rfl (by first | exact ⟨trivial, trivial⟩ | simp [onesP, oneP, lk, Value.oneCell']) ?_
          refine o_yield rfl rfl rfl (y_val tok rfl) ?_
          refine o_end [2, 3] rfl ?_
          refine x_then ?_
          refine c_ret ?_
          refine b_ret tok rfl ?_
          intro E w' hm _
          refine ⟨?_, hm.below (Vw.le.refl _)⟩
          obtain ⟨r1, r2⟩ := crd_yes (s := s) (c := ⟨K, (getSpec t1.1 0 6).1, (getSpec t2.1 0 4).1, 0, 0, (getSpec t3.1 0 1).1, (getSpec t4.1 0 1).1, 0⟩) (t := t5) (by rw [rdPre, hn, hK, if_neg (by omega), if_pos e, ht1, ht2, ht3, ht4, ht5]) h
          rw [r1, r2]; rfl
    ·
      refine c_seq ?_
      refine c_seq ?_
      refine c_region ?_
      refine o_yield rfl rfl rfl (y_val tok rfl) ?_
      refine o_yield rfl rfl rfl (y_val tok rfl) ?_
      refine o_end [2, 4, 6, 21, 41] rfl ?_
      refine x_then ?_
      refine c_cond rfl (fun h4 => ?_) (fun h4 => ?_)
      ·
        refine c_skip ?_
        refine x_then ?_
        refine c_cond rfl (fun h5 => ?_) (fun h5 => ?_)
        ·
          refine c_seq ?_
          refine c_region ?_
          refine o_yield rfl rfl rfl (y_val tok rfl) ?_
          have f2 : ¬ K = 2 := by simpa using h
          have f3 : ¬ K = 3 := by simpa using h2
          have e : K = 4 := by simpa using h4
          have hlet4 := tkS_size t3 6
          obtain ⟨t4, ht4⟩ : ∃ t, tkS t3 6 = t := ⟨_, rfl⟩
          rw [ht4] at hlet4
          refine o_step rfl rfl rfl rfl rfl (s_take 1 t3 6 6 rfl t4 ht4 _ rfl (fun E => rfl) rfl (by omega) (by omega)) (fun _ _ => ?_)
          refine o_yield rfl rfl rfl (y_val tok rfl) ?_
          refine o_store tok rfl rfl rfl (by first | exact ⟨trivial, trivial⟩ | simp [onesP, oneP, lk, Value.oneCell']) ?_
          refine o_end [2, 4, 6] rfl ?_
          refine x_then ?_
          refine c_seq ?_
          refine c_region ?_
          refine o_yield rfl rfl rfl (y_val tok rfl) ?_
          refine o_yield rfl rfl rfl (y_val tok rfl) ?_
          refine o_yield rfl rfl rfl (y_val tok rfl) ?_
          refine o_end [2, 4, 6, 49] rfl ?_
          refine x_then ?_
          refine c_cond rfl (fun h => ?_) (fun h => ?_)
          ·
            refine c_region ?_
            refine o_yield rfl rfl rfl (y_val tok rfl) ?_
            have hlet5 := tkS_size t4 6
            obtain ⟨t5, ht5⟩ : ∃ t, tkS t4 6 = t := ⟨_, rfl⟩
            rw [ht5] at hlet5
            refine o_step rfl rfl rfl rfl rfl (s_take 1 t4 6 6 rfl t5 ht5 _ rfl (fun E => rfl) rfl (by omega) (by omega)) (fun _ _ => ?_)
            refine o_yield rfl rfl rfl (y_val tok rfl) ?_
            refine o_store tok rfl rfl rfl (by first | exact ⟨trivial, trivial⟩ | simp [onesP, oneP, lk, Value.oneCell']) ?_
            refine o_end [2, 4, 6] rfl ?_
            refine x_block ?_
            refine x_then ?_
            refine c_seq ?_
            refine c_seq ?_
            refine c_region ?_
            refine o_yield rfl rfl rfl (y_val tok rfl) ?_
            refine o_yield rfl rfl rfl (y_val tok rfl) ?_
            refine o_yield rfl rfl rfl (y_val tok rfl) ?_
            refine o_yield rfl rfl rfl (y_val tok rfl) ?_
            refine o_yield rfl rfl rfl (y_val tok rfl) ?_
            refine o_yield rfl rfl rfl (y_val tok rfl) ?_
            refine o_yield rfl rfl rfl (y_val tok rfl) ?_
            refine o_yield rfl rfl rfl (y_val tok rfl) ?_
            refine o_yield rfl rfl rfl (y_val tok rfl) ?_
            refine o_yield rfl rfl rfl (y_val tok rfl) ?_
            refine o_yield rfl rfl rfl (y_val tok rfl) ?_
            refine o_yield rfl rfl rfl (y_val tok rfl) ?_
            refine o_yield rfl rfl rfl (y_val tok rfl) ?_
            refine o_call (.a (.v _)) rfl rfl fnok138 rfl rfl rfl (fun hg E w1 hm => by exact cmdMay_c ⟨K, (getSpec t1.1 0 6).1, (getSpec t2.1 0 4).1, (getSpec t3.1 0 6).1, (getSpec t4.1 0 6).1, 0, 0, 0⟩ _) ?_
            refine o_yield rfl rfl rfl (y_val tok rfl) ?_
            refine o_yield rfl rfl rfl (y_val tok rfl) ?_
            refine o_end [2, 6, 68] rfl ?_
            refine x_then ?_
            refine c_cond rfl (fun h => ?_) (fun h => ?_)
            ·
              refine c_seq ?_
              refine c_region ?_
              refine o_yield rfl rfl rfl (y_val tok rfl) ?_
              refine o_store tok rfl rfl rfl (by first | exact ⟨trivial, trivial⟩ | simp [onesP, oneP, lk, Value.oneCell']) ?_
              refine o_yield rfl rfl rfl (y_val tok rfl) ?_
              refine o_end [2, 3] rfl ?_
              refine x_then ?_
              refine c_ret ?_
              refine x_then_ret ?_
              refine b_ret tok rfl ?_
              intro E w' hm _
              refine ⟨?_, hm.below (Vw.le.refl _)⟩
              obtain ⟨r1, r2⟩ := crd_no (s := s) (c := ⟨K, (getSpec t1.1 0 6).1, (getSpec t2.1 0 4).1, (getSpec t3.1 0 6).1, (getSpec t4.1 0 6).1, 0, 0, 0⟩) (t := t5) (by rw [rdPre, hn, hK, if_neg f2, if_neg f3, if_pos e, ht1, ht2, ht3, ht4, ht5]) h
              rw [r1, r2]; rfl
            ·
              refine c_skip ?_
              refine x_then ?_
              refine c_seq ?_
              refine c_region ?_
              refine o_yield rfl rfl rfl (y_val tok rfl) ?_
              refine o_store tok rfl rfl rfl (by first | exact ⟨trivial, trivial⟩ | simp [onesP, oneP, lk, Value.oneCell']) ?_
              refine o_yield rfl rfl rfl (y_val tok rfl) ?_
              refine o_end [2, 3] rfl ?_
              refine x_then ?_
              refine c_ret ?_
              refine b_ret tok rfl ?_
              intro E w' hm _
              refine ⟨?_, hm.below (Vw.le.refl _)⟩
              obtain ⟨r1, r2⟩ := crd_yes (s := s) (c := ⟨K, (getSpec t1.1 0 6).1, (getSpec t2.1 0 4).1, (getSpec t3.1 0 6).1, (getSpec t4.1 0 6).1, 0, 0, 0⟩) (t := t5) (by rw [rdPre, hn, hK, if_neg f2, if_neg f3, if_pos e, ht1, ht2, ht3, ht4, ht5]) h
              rw [r1, r2]; rfl
          ·
            exact absurd (h.symm.trans h4) (by decide)
        ·
          exact absurd (h5.symm.trans h4) (by decide)
      ·
        refine c_region ?_
        refine o_yield rfl rfl rfl (y_val tok rfl) ?_
        refine o_yield rfl rfl rfl (y_val tok rfl) ?_
        refine o_end [2, 4, 6, 41] rfl ?_
        refine x_then ?_
        refine c_cond rfl (fun h5 => ?_) (fun h5 => ?_)
        ·
          refine c_seq ?_
          refine c_region ?_
          refine o_yield rfl rfl rfl (y_val tok rfl) ?_
          have f2 : ¬ K = 2 := by simpa using h
          have f3 : ¬ K = 3 := by simpa using h2
          have e : K = 5 := by simpa using h5
          have hlet4 := tkS_size t3 6
          obtain ⟨t4, ht4⟩ : ∃ t, tkS t3 6 = t := ⟨_, rfl⟩
          rw [ht4] at hlet4
          refine o_step rfl rfl rfl rfl rfl (s_take 1 t3 6 6 rfl t4 ht4 _ rfl (fun E => rfl) rfl (by omega) (by omega)) (fun _ _ => ?_)
          refine o_yield rfl rfl rfl (y_val tok rfl) ?_
          refine o_store tok rfl rfl rfl (by first | exact ⟨trivial, trivial⟩ | simp [onesP, oneP, lk, Value.oneCell']) ?_
          refine o_end [2, 4, 6] rfl ?_
          refine x_then ?_
          refine c_seq ?_
          refine c_region ?_
          refine o_yield rfl rfl rfl (y_val tok rfl) ?_
          refine o_yield rfl rfl rfl (y_val tok rfl) ?_
          refine o_yield rfl rfl rfl (y_val tok rfl) ?_
          refine o_end [2, 4, 6, 49] rfl ?_
          refine x_then ?_
          refine c_cond rfl (fun h => ?_) (fun h => ?_)
          ·
            refine c_region ?_
            refine o_yield rfl rfl rfl (y_val tok rfl) ?_
            rw [e] at h; cases h
          ·
            refine c_skip ?_
            refine x_block ?_
            refine x_then ?_
            refine c_seq ?_
            refine c_seq ?_
            refine c_region ?_
            refine o_yield rfl rfl rfl (y_val tok rfl) ?_
            refine o_yield rfl rfl rfl (y_val tok rfl) ?_
            refine o_yield rfl rfl rfl (y_val tok rfl) ?_
            refine o_yield rfl rfl rfl (y_val tok rfl) ?_
            refine o_yield rfl rfl rfl (y_val tok rfl) ?_
            refine o_yield rfl rfl rfl (y_val tok rfl) ?_
            refine o_yield rfl rfl rfl (y_val tok rfl) ?_
            refine o_yield rfl rfl rfl (y_val tok rfl) ?_
            refine o_yield rfl rfl rfl (y_val tok rfl) ?_
            refine o_yield rfl rfl rfl (y_val tok rfl) ?_
            refine o_yield rfl rfl rfl (y_val tok rfl) ?_
            refine o_yield rfl rfl rfl (y_val tok rfl) ?_
            refine o_yield rfl rfl rfl (y_val tok rfl) ?_
            refine o_call (.a (.v _)) rfl rfl fnok138 rfl rfl rfl (fun hg E w1 hm => by exact cmdMay_c ⟨K, (getSpec t1.1 0 6).1, (getSpec t2.1 0 4).1, (getSpec t3.1 0 6).1, 0, 0, 0, 0⟩ _) ?_
            refine o_yield rfl rfl rfl (y_val tok rfl) ?_
            refine o_yield rfl rfl rfl (y_val tok rfl) ?_
            refine o_end [2, 6, 68] rfl ?_
            refine x_then ?_
            refine c_cond rfl (fun h => ?_) (fun h => ?_)
            ·
              refine c_seq ?_
              refine c_region ?_
              refine o_yield rfl rfl rfl (y_val tok rfl) ?_
              refine o_store tok rfl rfl rfl (by first | exact ⟨trivial, trivial⟩ | simp [onesP, oneP, lk, Value.oneCell']) ?_
              refine o_yield rfl rfl rfl (y_val tok rfl) ?_
              refine o_end [2, 3] rfl ?_
              refine x_then ?_
              refine c_ret ?_
              refine x_then_ret ?_
              refine b_ret tok rfl ?_
              intro E w' hm _
              refine ⟨?_, hm.below (Vw.le.refl _)⟩
              obtain ⟨r1, r2⟩ := crd_no (s := s) (c := ⟨K, (getSpec t1.1 0 6).1, (getSpec t2.1 0 4).1, (getSpec t3.1 0 6).1, 0, 0, 0, 0⟩) (t := t4) (by rw [rdPre, hn, hK, if_neg f2, if_neg f3, if_neg (by omega), if_pos e, ht1, ht2, ht3, ht4]) h
              rw [r1, r2]; rfl
            ·
              refine c_skip ?_
              refine x_then ?_
              refine c_seq ?_
              refine c_region ?_
              refine o_yield rfl rfl rfl (y_val tok rfl) ?_
              refine o_store tok rfl rfl rfl (by first | exact ⟨trivial, trivial⟩ | simp [onesP, oneP, lk, Value.oneCell']) ?_
              refine o_yield rfl rfl rfl (y_val tok rfl) ?_
              refine o_end [2, 3] rfl ?_
              refine x_then ?_
              refine c_ret ?_
              refine b_ret tok rfl ?_
              intro E w' hm _
              refine ⟨?_, hm.below (Vw.le.refl _)⟩
              obtain ⟨r1, r2⟩ := crd_yes (s := s) (c := ⟨K, (getSpec t1.1 0 6).1, (getSpec t2.1 0 4).1, (getSpec t3.1 0 6).1, 0, 0, 0, 0⟩) (t := t4) (by rw [rdPre, hn, hK, if_neg f2, if_neg f3, if_neg (by omega), if_pos e, ht1, ht2, ht3, ht4]) h
              rw [r1, r2]; rfl
        ·
          refine c_skip ?_
          refine x_block ?_
          refine x_then ?_
          refine c_seq ?_
          refine c_seq ?_
          refine c_region ?_
          refine o_yield rfl rfl rfl (y_val tok rfl) ?_
          refine o_yield rfl rfl rfl (y_val tok rfl) ?_
          refine o_yield rfl rfl rfl (y_val tok rfl) ?_
          refine o_yield rfl rfl rfl (y_val tok rfl) ?_
          refine o_yield rfl rfl rfl (y_val tok rfl) ?_
          refine o_yield rfl rfl rfl (y_val tok rfl) ?_
          refine o_yield rfl rfl rfl (y_val tok rfl) ?_
          refine o_yield rfl rfl rfl (y_val tok rfl) ?_
          refine o_yield rfl rfl rfl (y_val tok rfl) ?_
          refine o_yield rfl rfl rfl (y_val tok rfl) ?_
          refine o_yield rfl rfl rfl (y_val tok rfl) ?_
          refine o_yield rfl rfl rfl (y_val tok rfl) ?_
          refine o_yield rfl rfl rfl (y_val tok rfl) ?_
          have f2 : ¬ K = 2 := by simpa using h
          have f3 : ¬ K = 3 := by simpa using h2
          have f4 : ¬ K = 4 := by simpa using h4
          have f5 : ¬ K = 5 := by simpa using h5
          refine o_call (.a (.v _)) rfl rfl fnok138 rfl rfl rfl (fun hg E w1 hm => by exact cmdMay_c ⟨K, (getSpec t1.1 0 6).1, (getSpec t2.1 0 4).1, 0, 0, 0, 0, 0⟩ _) ?_
          refine o_yield rfl rfl rfl (y_val tok rfl) ?_
          refine o_yield rfl rfl rfl (y_val tok rfl) ?_
          refine o_end [2, 6, 68] rfl ?_
          refine x_then ?_
          refine c_cond rfl (fun h => ?_) (fun h => ?_)
          ·
            refine c_seq ?_
            refine c_region ?_
            refine o_yield rfl rfl rfl (y_val tok rfl) ?_
            refine o_store tok rfl rfl rfl (by first | exact ⟨trivial, trivial⟩ | simp [onesP, oneP, lk, Value.oneCell']) ?_
            refine o_yield rfl rfl rfl (y_val tok rfl) ?_
            refine o_end [2, 3] rfl ?_
            refine x_then ?_
            refine c_ret ?_
            refine x_then_ret ?_
            refine b_ret tok rfl ?_
            intro E w' hm _
            refine ⟨?_, hm.below (Vw.le.refl _)⟩
            obtain ⟨r1, r2⟩ := crd_no (s := s) (c := ⟨K, (getSpec t1.1 0 6).1, (getSpec t2.1 0 4).1, 0, 0, 0, 0, 0⟩) (t := t3) (by rw [rdPre, hn, hK, if_neg f2, if_neg f3, if_neg f4, if_neg f5, ht1, ht2, ht3]) h
            rw [r1, r2]; rfl
          ·
            refine c_skip ?_
            refine x_then ?_
            refine c_seq ?_
            refine c_region ?_
            refine o_yield rfl rfl rfl (y_val tok rfl) ?_
            refine o_store tok rfl rfl rfl (by first | exact ⟨trivial, trivial⟩ | simp [onesP, oneP, lk, Value.oneCell']) ?_
            refine o_yield rfl rfl rfl (y_val tok rfl) ?_
            refine o_end [2, 3] rfl ?_
            refine x_then ?_
            refine c_ret ?_
            refine b_ret tok rfl ?_
            intro E w' hm _
            refine ⟨?_, hm.below (Vw.le.refl _)⟩
            obtain ⟨r1, r2⟩ := crd_yes (s := s) (c := ⟨K, (getSpec t1.1 0 6).1, (getSpec t2.1 0 4).1, 0, 0, 0, 0, 0⟩) (t := t3) (by rw [rdPre, hn, hK, if_neg f2, if_neg f3, if_neg f4, if_neg f5, ht1, ht2, ht3]) h
            rw [r1, r2]; rfl
end Go.Proofs.Ytlcpfhjbhogdiaa
