import Derived.Test.YtflimioplnbopaaMJnw
/- The law CommitWhole from what comes in. -/
set_option linter.unusedVariables false
set_option linter.unusedSimpArgs false
set_option maxRecDepth 100000
namespace Go.Proofs.Ytflimioplnbopaa
open Go Go.Eng Go.RowKit

theorem cbegin_any (V : Vw) (g : Geo) (ok : g.Ok) (key head tail : Int) (sv : Value) (l : List Block) (w : World) (hV : V.le (vw w)) (hs0 : SlOf V Block.cells 2 sv l) :
    Calls Try.prog 21 #[g.val, I key, I head, I tail, sv] w fun e w' => ∃ x V', e = .returned x ∧ Below w.heap.size w w' ∧ Vext w.heap.size V V' w' ∧
      ∃ a n c L ec, x = .tuple #[putV (.slice a n c) 0, I ec] ∧ SlOf V' Record.cells 6 (.slice a n c) L ∧ BegRes g key head tail l L ec := by
  by_cases hf : fitsV g (IntKind.i64.wrap (head - tail)) l.length = 0
  · have hn : l.length ≤ lim := by
      obtain ⟨hg, h1, h2, h3, h4⟩ := fits_low hf
      have hgf := geo_facts hg
      unfold lim
      apply Classical.byContradiction
      intro hc
      rw [manyOf] at h4
      by_cases hl : geoB g = true ∧ 1 ≤ (l.length : Int)
      · rw [if_pos hl] at h4
        have : 1 * 64 ≤ g.per * min (l.length : Int) 1099511627776 := Int.mul_le_mul (by omega) (by omega) (by omega) (by omega)
        omega
      · exact hl ⟨hg, by omega⟩
    exact cbegin_cV V g ok key head tail sv l w hV hs0 hn
  · have hs := hs0.mono hV
    have h0 : Calls Try.prog 21 #[g.val, I key, I head, I tail, sv] w fun e w' => e = .returned (.tuple #[putV (.slice none 0 0) 0, I (fitsV g (IntKind.i64.wrap (head - tail)) l.length)]) ∧ Below w.heap.size w w' := by
      refine enter (E := E0) (O := []) (nl := 0) (V := vw w) [.a (.v g.val), .a (.v (I key)), .a (.v (I head)), .a (.v (I tail)), .a (.v sv)] Try.func21 rfl rfl (mem0 E0 0 w) rfl rfl ?_
      refine c_seq ?_
      refine c_region ?_
      refine o_new tok rfl rfl rfl rfl ?_
      refine o_new tok rfl rfl rfl rfl ?_
      refine o_yield rfl rfl rfl (y_val tok rfl) ?_
      refine o_end [1, 2, 3, 4, 5, 10] rfl ?_
      refine x_then ?_
      refine c_seq ?_
      refine c_seq ?_
      refine c_region ?_
      refine o_yield rfl rfl rfl (y_val tok rfl) ?_
      refine o_yield rfl rfl rfl (y_val tok rfl) ?_
      refine o_yield rfl rfl rfl (y_val tok rfl) ?_
      refine o_yield rfl rfl rfl (y_val tok rfl) ?_
      refine o_yield rfl rfl rfl (y_val tok rfl) ?_
      refine o_yield rfl rfl rfl (y_len tok rfl (fun hg => hs.sl)) ?_
      refine o_call (.a (.v _)) rfl rfl fnok94 rfl rfl rfl (fun hg E w1 hm => by exact fits_c g ok _ _ _) ?_
      refine o_yield rfl rfl rfl (y_val tok rfl) ?_
      refine o_end [1, 2, 4, 5, 10, 12] rfl ?_
      refine x_then ?_
      refine c_seq ?_
      refine c_region ?_
      refine o_yield rfl rfl rfl (y_val tok rfl) ?_
      refine o_yield rfl rfl rfl (y_val tok rfl) ?_
      refine o_end [1, 2, 4, 5, 10, 12, 23] rfl ?_
      refine x_then ?_
      refine c_cond rfl (fun h => ?_) (fun h => ?_)
      ·
        simp only [Bool.and_eq_true, Bool.or_eq_true, Bool.not_eq_true', Bool.or_eq_false_iff, Bool.and_eq_false_iff, decide_eq_true_eq, decide_eq_false_iff_not, beq_iff_eq, bne_iff_ne, Bool.not_eq_false', beq_eq_false_iff_ne, bne_eq_false_iff_eq, ne_eq, Decidable.not_not, Int.not_lt, Int.not_le] at h
        refine c_seq ?_
        refine c_region ?_
        refine o_yield rfl rfl rfl (y_val tok rfl) ?_
        refine o_yield rfl rfl rfl (y_val tok rfl) ?_
        refine o_store tok rfl rfl rfl (by first | exact ⟨trivial, trivial⟩ | (repeat' first | exact trivial | exact rfl | apply And.intro); done | simp [onesP, oneP, lk, Value.oneCell']) ?_
        refine o_yield rfl rfl rfl (y_val tok rfl) ?_
        refine o_end [10, 11] rfl ?_
        refine x_then ?_
        refine c_ret ?_
        refine x_then_ret ?_
        refine b_ret tok rfl ?_
        intro E w' hm _
        refine ⟨?_, hm.below (Vw.le.refl _)⟩
        rfl
      ·
        simp only [Bool.and_eq_true, Bool.or_eq_true, Bool.not_eq_true', Bool.or_eq_false_iff, Bool.and_eq_false_iff, decide_eq_true_eq, decide_eq_false_iff_not, beq_iff_eq, bne_iff_ne, Bool.not_eq_false', beq_eq_false_iff_ne, bne_eq_false_iff_eq, ne_eq, Decidable.not_not, Int.not_lt, Int.not_le] at h
        exact absurd h hf
    refine h0.mono ?_
    rintro e w' ⟨rfl, hb⟩
    exact ⟨_, V, rfl, hb, Vext.same hV hb, none, 0, 0, [], _, rfl, slNil _ _ _ _ (fun _ => rfl), .inl ⟨hf, rfl, rfl⟩⟩

theorem what_jour (g : Geo) (ok : g.Ok) (hG : geoB g = true) (lsn : Int) (hl : 0 ≤ lsn) (q : Nat) (hq : jourV g 0 lsn = q) (w : World) :
    Calls Try.prog 25 #[g.val, I q] w fun e w' => e = .returned (.tuple #[I8 6, I 0, I (lsn % g.journal)]) ∧ Below w.heap.size w w' := by
  have hf := geo_facts hG
  have hp := jour_pos hG hl
  refine (what_c g ok hG q (by omega) w).mono ?_
  rintro e w' ⟨k, a, b, ⟨rfl, hW⟩, hb⟩
  refine ⟨?_, hb⟩
  have hat : JourAt g q 0 (lsn % g.journal).toNat := by
    refine ⟨by omega, by omega, ?_⟩
    have := jour_pos hG (l := ((lsn % g.journal).toNat : Int)) (by omega)
    simp only [Int.natCast_zero]
    rw [this.1, ← hq, hp.1, Int.toNat_of_nonneg hp.2.1, Int.emod_emod_of_dvd _ (Int.dvd_refl _)]
  have hk : k = 6 := by
    apply Classical.byContradiction
    intro hc
    exact hW.nojour hc _ _ hat
  obtain ⟨i, j, ha, hb2, hi, hj, he⟩ := hW.jour hk
  have hi0 : i = 0 := jour_slot hG hi (k := 0) (by omega) (j := (j : Int)) (l := lsn) (by omega) hl (by rw [he]; simp only [Int.natCast_zero]; omega)
  subst hi0
  have hpj := jour_pos hG (l := (j : Int)) (by omega)
  simp only [Int.natCast_zero] at he
  rw [Int.emod_eq_of_lt (by omega) hj] at hpj
  have hjl : (j : Int) = lsn % g.journal := by omega
  rw [hk, ha, hb2, hjl]
  rfl

def Block.eqB18 (a b : Block) : Bool := a.n == b.n && a.text.toList == b.text.toList

theorem blkEq18 {op : BinOp} {ox oy : Operand} (a b : Block) (w : World) (hop : op = .eql ∨ op = .neq) :
    (do eqGuard op 139 ox oy a.val b.val; binOp op 139 a.val b.val : Sem Value).run Try.prog w = .ok (.bool (if op = .eql then a.eqB18 b else !(a.eqB18 b))) w := by
  have hS : Try.prog.underlying 139 = some (.struct (Try.prog.fieldsOf 139)) := by kernel_rfl
  have hp : Try.prog.stoodInHeld 139 = false := by kernel_rfl
  have hg : Try.prog.eqGuardType Try.prog.depth 139 = false := by kernel_rfl
  have key : (Op.equalIn 10000 139 a.val b.val).run Try.prog w = .ok (a.eqB18 b) w := by
    have u3 := Try.underlying3
    have a3 := Try.isAgg3
    have z3 := Try.sizeOf3
    have u9 := Try.underlying9
    have a9 := Try.isAgg9
    have z9 := Try.sizeOf9
    rw [show (10000 : Nat) = 9999 + 1 from rfl, run_equalIn_agg w 9999 139 _ _ hS hp]
    simp only [Program.fieldsOf, Try.underlying139]
    go_simp
    unfold Block.eqB18
    by_cases h1 : a.n = b.n <;> by_cases h2 : a.text.toList = b.text.toList <;> simp [h1, h2]
  rw [Sem.run_bind, run_eqGuard_agg w _ _ _ _ _ _ hg]
  rcases hop with rfl | rfl
  · simp only [Result.andThen_ok, run_eql_struct, key]; rfl
  · simp only [Result.andThen_ok, run_neq_struct, key]; rfl

theorem Block.eqB18_refl (a : Block) : a.eqB18 a = true := by simp [Block.eqB18]

theorem same18_c (V : Vw) (v v' : Value) (L : List Block) (w : World) (hV : V.le (vw w)) (hs0 : SlOf V Block.cells 2 v L) (hs1 : SlOf V Block.cells 2 v' L) (hn : L.length ≤ 4398046511104) :
    Calls Try.prog 29 #[v, v'] w fun e w' => e = .returned (.bool true) ∧ Below w.heap.size w w' := by
  have hs := hs0.mono hV
  have hs' := hs1.mono hV
  refine enter (E := E0) (O := []) (nl := 0) (V := vw w) [.a (.v v), .a (.v v')] Try.func29 rfl rfl (mem0 E0 0 w) rfl rfl ?_
  refine c_seq ?_
  refine c_region ?_
  refine o_yield rfl rfl rfl (y_val tok rfl) ?_
  refine o_end [0, 1] rfl ?_
  refine x_then ?_
  refine c_seq ?_
  refine c_seq ?_
  refine c_region ?_
  refine o_yield rfl rfl rfl (y_val tok rfl) ?_
  refine o_yield rfl rfl rfl (y_len tok rfl (fun hg => hs.sl)) ?_
  refine o_yield rfl rfl rfl (y_val tok rfl) ?_
  refine o_yield rfl rfl rfl (y_len tok rfl (fun hg => hs'.sl)) ?_
  refine o_yield rfl rfl rfl (y_val tok rfl) ?_
  refine o_end [0, 1, 10] rfl ?_
  refine x_then ?_
  refine c_cond rfl (fun h => ?_) (fun h => ?_)
  ·
    simp only [Bool.and_eq_true, Bool.or_eq_true, Bool.not_eq_true', Bool.or_eq_false_iff, Bool.and_eq_false_iff, decide_eq_true_eq, decide_eq_false_iff_not, beq_iff_eq, bne_iff_ne, Bool.not_eq_false', beq_eq_false_iff_ne, bne_eq_false_iff_eq, ne_eq, Decidable.not_not, Int.not_lt, Int.not_le] at h
    refine c_seq ?_
    refine c_region ?_
    refine o_yield rfl rfl rfl (y_val tok rfl) ?_
    refine o_end [4] rfl ?_
    refine x_then ?_
    refine c_ret ?_
    refine x_then_ret ?_
    refine b_ret tok rfl ?_
    contradiction
  ·
    simp only [Bool.and_eq_true, Bool.or_eq_true, Bool.not_eq_true', Bool.or_eq_false_iff, Bool.and_eq_false_iff, decide_eq_true_eq, decide_eq_false_iff_not, beq_iff_eq, bne_iff_ne, Bool.not_eq_false', beq_eq_false_iff_ne, bne_eq_false_iff_eq, ne_eq, Decidable.not_not, Int.not_lt, Int.not_le] at h
    clear h
    refine c_skip ?_
    refine x_then ?_
    refine c_seq ?_
    refine c_seq ?_
    refine c_region ?_
    refine o_yield rfl rfl rfl (y_val tok rfl) ?_
    refine o_end [0, 1, 5] rfl ?_
    refine x_then ?_
    refine c_block ?_
    refine c_loopK [0, 1] [] rfl rfl (σ := Nat) (fun i => [(5, .a (.v (I i)))]) (fun i => []) (fun i => i ≤ L.length) (fun i => L.length - i) (0) (by omega) (by repeat (first | exact SubF.nil | refine SubF.cons rfl ?_)) (by repeat (first | exact SubO.nil | refine SubO.cons rfl ?_)) rfl ?_
    rintro i hi
    refine c_seq ?_
    refine c_seq ?_
    refine c_region ?_
    refine o_yield rfl rfl rfl (y_val tok rfl) ?_
    refine o_yield rfl rfl rfl (y_val tok rfl) ?_
    refine o_yield rfl rfl rfl (y_len tok rfl (fun hg => hs.sl)) ?_
    refine o_yield rfl rfl rfl (y_val tok rfl) ?_
    refine o_end [0, 1, 5, 14] rfl ?_
    refine x_then ?_
    refine c_cond rfl (fun h => ?_) (fun h => ?_)
    ·
      simp only [Bool.and_eq_true, Bool.or_eq_true, Bool.not_eq_true', Bool.or_eq_false_iff, Bool.and_eq_false_iff, decide_eq_true_eq, decide_eq_false_iff_not, beq_iff_eq, bne_iff_ne, Bool.not_eq_false', beq_eq_false_iff_ne, bne_eq_false_iff_eq, ne_eq, Decidable.not_not, Int.not_lt, Int.not_le] at h
      refine c_skip ?_
      refine x_then ?_
      refine c_seq ?_
      refine c_block ?_
      refine c_seq ?_
      refine c_draw mixed (by kernel_rfl) ?_
      refine d_yield rfl rfl rfl (y_val tok rfl) rfl ?_
      refine d_yield rfl rfl rfl (y_val tok rfl) rfl ?_
      obtain ⟨r, h_r⟩ := hs.at (k := i) (by omega)
      have hlt_r := lt_of_at h_r
      refine d_yield rfl rfl rfl (y_idx tok rfl (fun hg => hs.sl) (fun hg => ⟨by omega, by omega⟩)) rfl ?_
      refine d_yield rfl rfl rfl (y_lel tok (i) 0 (r) rfl (fun hg => hs) (fun hg => h_r) rfl rfl) rfl ?_
      refine d_yield rfl rfl rfl (y_val tok rfl) rfl ?_
      refine d_yield rfl rfl rfl (y_val tok rfl) rfl ?_
      have hlt_r := lt_of_at h_r
      refine d_yield rfl rfl rfl (y_idx tok rfl (fun hg => hs'.sl) (fun hg => ⟨by omega, by omega⟩)) rfl ?_
      refine d_yield rfl rfl rfl (y_lel tok (i) 0 (r) rfl (fun hg => hs') (fun hg => h_r) rfl rfl) rfl ?_
      refine d_yield rfl rfl rfl (y_seq (.bool (!(r.eqB18 r))) rfl (fun E w => blkEq18 r r w (.inr rfl))) rfl ?_
      refine d_end [0, 1, 5, 25] rfl ?_
      refine x_then ?_
      refine c_cond rfl (fun h => ?_) (fun h => ?_)
      ·
        refine c_seq ?_
        refine c_region ?_
        refine o_yield rfl rfl rfl (y_val tok rfl) ?_
        refine o_end [4] rfl ?_
        refine x_then ?_
        refine c_ret ?_
        refine x_block_ret ?_
        refine x_then_ret ?_
        refine x_then_ret ?_
        refine x_block_ret ?_
        refine x_then_ret ?_
        refine b_ret tok rfl ?_
        rw [Block.eqB18_refl] at h
        cases h
      ·
        refine c_skip ?_
        refine x_block ?_
        refine x_then ?_
        refine c_region ?_
        refine o_yield rfl rfl rfl (y_val tok rfl) ?_
        refine o_yield rfl rfl rfl (y_val tok rfl) ?_
        refine o_yield rfl rfl rfl (y_val tok rfl) ?_
        refine o_end [0, 1, 5] rfl ?_
        refine x_then ?_
        rw [wrapI (n := (i : Int) + 1) (by omega) (by omega)]
        refine x_round (i + 1) (by omega) (by first | omega | (dsimp only; omega)) (by repeat (first | exact SubF.nil | refine SubF.cons rfl ?_)) (by repeat (first | exact SubO.nil | refine SubO.cons rfl ?_)) rfl (Vw.le.refl _)
    ·
      simp only [Bool.and_eq_true, Bool.or_eq_true, Bool.not_eq_true', Bool.or_eq_false_iff, Bool.and_eq_false_iff, decide_eq_true_eq, decide_eq_false_iff_not, beq_iff_eq, bne_iff_ne, Bool.not_eq_false', beq_eq_false_iff_ne, bne_eq_false_iff_eq, ne_eq, Decidable.not_not, Int.not_lt, Int.not_le] at h
      refine c_exit ?_
      refine x_then_exit ?_
      refine x_then_exit ?_
      refine x_block_hit ?_
      refine x_then ?_
      refine c_seq ?_
      refine c_region ?_
      refine o_yield rfl rfl rfl (y_val tok rfl) ?_
      refine o_end [4] rfl ?_
      refine x_then ?_
      refine c_ret ?_
      refine b_ret tok rfl ?_
      intro E w' hm _
      refine ⟨?_, hm.below (Vw.le.refl _)⟩
      rfl

theorem rjour_c (V : Vw) (g : Geo) (ok : g.Ok) (key tail : Int) (D : List ByteArray) (A : List Record) (hJ : JInv g key tail D A) (sv : Value) (w : World) (hV : V.le (vw w)) (hs0 : SlOf V encS 1 sv D) :
    Calls Try.prog 28 #[g.val, devV sv, I 0, I key] w (JourP tail (A.take (whole A)) w) := by
  obtain ⟨a, n, c, rfl⟩ := sl_shape hs0.sl
  exact rjournal_c V g ok key tail D A hJ a n c w hV hs0

theorem sl_ones {α : Type} {V : Vw} {enc : α → List Value} {sz : Nat} {Good : α → Prop} (l : List (Sl α)) (h : ∀ a ∈ l, SlGood V enc sz Good a) : ∀ u ∈ l.flatMap Sl.enc, u.oneCell' = true := by
  intro u hu
  obtain ⟨x, hx, hu⟩ := List.mem_flatMap.1 hu
  simp only [List.mem_singleton] at hu
  obtain ⟨a, n, c, he⟩ := sl_shape (h x hx).sl.sl
  rw [hu, he]; rfl

theorem commitWhole_law (w : World) {v0 v1 v2 v3 v4 v5 : Value} (R0 : ∃ g : Geo, v0 = g.val ∧ g.Ok) (R1 : ∃ n : Int, v1 = I n ∧ R64 n) (R2 : ∃ n : Int, v2 = I n ∧ R64 n)
    (R3 : ∃ l : List (Sl Block), SlOf (vw w) Sl.enc 1 v3 l ∧ l.length ≤ maxLen ∧ ∀ a ∈ l, SlGood (vw w) Block.cells 2 (fun a => a.Ok) a)
    (R4 : ∃ l : List Block, SlOf (vw w) Block.cells 2 v4 l ∧ l.length ≤ maxLen ∧ ∀ a ∈ l, a.Ok) (R5 : ∃ n : Int, v5 = I n ∧ R64 n) :
    Calls Try.prog 3 #[v0, v1, v2, v3, v4, v5] w fun e w' => e = .returned (.bool true) ∧ Below w.heap.size w w' := by
  obtain ⟨g, rfl, ok⟩ := R0
  obtain ⟨key, rfl, hkey⟩ := R1
  obtain ⟨tail, rfl, htl⟩ := R2
  obtain ⟨rows, hr, _, hrall⟩ := R3
  obtain ⟨l, hl, hlmax, hlok⟩ := R4
  obtain ⟨done, rfl, hdone⟩ := R5
  obtain ⟨hd, hdt, hdz, hh2⟩ := headR0
  have hnil := fun w => rformat_c g ok hd hh2 w
  clear hh2
  obtain ⟨ra, rn, rc, rfl⟩ := sl_shape hr.sl
  obtain ⟨la, ln, lc, rfl⟩ := sl_shape hl.sl
  refine enter (E := E0) (O := []) (nl := 0) (V := vw w) [.a (.v g.val), .a (.v (I key)), .a (.v (I tail)), .a (.v (.slice ra rn rc)), .a (.v (.slice la ln lc)), .a (.v (I done))] Try.func3 rfl rfl (mem0 E0 0 w) rfl rfl ?_
  refine c_seq ?_
  refine c_region ?_
  refine o_new tok rfl rfl rfl rfl ?_
  refine o_yield rfl rfl rfl (y_val tok rfl) ?_
  refine o_end [1, 2, 3, 4, 5, 6] rfl ?_
  refine x_then ?_
  refine c_seq ?_
  refine c_seq ?_
  refine c_region ?_
  refine o_yield rfl rfl rfl (y_val tok rfl) ?_
  refine o_call (.a (.v _)) rfl rfl fnok14 rfl rfl rfl (fun hg E w1 hm => by exact refMay_c g ok _) ?_
  refine o_yield rfl rfl rfl (y_val tok rfl) ?_
  refine o_yield rfl rfl rfl (y_val tok rfl) ?_
  refine o_yield rfl rfl rfl (y_val tok rfl) ?_
  refine o_call (.a (.v _)) rfl rfl fnok15 rfl rfl rfl (fun hg E w1 hm => by exact refTotal_c g ok _) ?_
  refine o_yield rfl rfl rfl (y_val tok rfl) ?_
  refine o_yield rfl rfl rfl (y_val tok rfl) ?_
  refine o_yield rfl rfl rfl (y_val tok rfl) ?_
  refine o_yield rfl rfl rfl (y_val tok rfl) ?_
  refine o_yield rfl rfl rfl (y_len tok rfl (fun hg => hr.sl)) ?_
  refine o_yield rfl rfl rfl (y_val tok rfl) ?_
  refine o_yield rfl rfl rfl (y_val tok rfl) ?_
  refine o_yield rfl rfl rfl (y_val tok rfl) ?_
  refine o_yield rfl rfl rfl (y_val tok rfl) ?_
  refine o_yield rfl rfl rfl (y_val tok rfl) ?_
  refine o_yield rfl rfl rfl (y_val tok rfl) ?_
  refine o_yield rfl rfl rfl (y_val tok rfl) ?_
  refine o_yield rfl rfl rfl (y_val tok rfl) ?_
  refine o_yield rfl rfl rfl (y_val tok rfl) ?_
  refine o_yield rfl rfl rfl (y_val tok rfl) ?_
  refine o_yield rfl rfl rfl (y_val tok rfl) ?_
  refine o_yield rfl rfl rfl (y_val tok rfl) ?_
  refine o_call (.a (.v _)) rfl rfl fnok16 rfl rfl rfl (fun hg E w1 hm => by exact great_c (vw w) _ l _ hm.leV hl hlmax) ?_
  refine o_yield rfl rfl rfl (y_val tok rfl) ?_
  refine o_end [1, 2, 3, 4, 5, 6, 58] rfl ?_
  refine x_then ?_
  refine c_cond rfl (fun h => ?_) (fun h => ?_)
  ·
    simp only [Bool.and_eq_true, Bool.or_eq_true, Bool.not_eq_true', Bool.or_eq_false_iff, Bool.and_eq_false_iff, decide_eq_true_eq, decide_eq_false_iff_not, beq_iff_eq, bne_iff_ne, Bool.not_eq_false', beq_eq_false_iff_ne, bne_eq_false_iff_eq, ne_eq, Decidable.not_not, Int.not_lt, Int.not_le] at h
    refine c_seq ?_
    refine c_region ?_
    refine o_call (.a (.v _)) rfl rfl fnok17 rfl rfl rfl (fun hg E w1 hm => by exact wakes19_c _) ?_
    refine o_yield rfl rfl rfl (y_val tok rfl) ?_
    refine o_end [12] rfl ?_
    refine x_then ?_
    refine c_ret ?_
    refine x_then_ret ?_
    refine b_ret tok rfl ?_
    intro E w' hm _
    refine ⟨?_, hm.below (Vw.le.refl _)⟩
    rfl
  ·
    simp only [Bool.and_eq_true, Bool.or_eq_true, Bool.not_eq_true', Bool.or_eq_false_iff, Bool.and_eq_false_iff, decide_eq_true_eq, decide_eq_false_iff_not, beq_iff_eq, bne_iff_ne, Bool.not_eq_false', beq_eq_false_iff_ne, bne_eq_false_iff_eq, ne_eq, Decidable.not_not, Int.not_lt, Int.not_le] at h
    obtain ⟨hG, htot, hr6, h0, h1⟩ : geoB g = true ∧ totV g ≤ 2000 ∧ rows.length ≤ 6 ∧ 0 ≤ tail ∧ tail ≤ 1073741824 := by
      cases hq : geoB g with
      | false => simp [hq] at h
      | true => simp [hq] at h; exact ⟨rfl, by omega, by omega, by omega, by omega⟩
    clear h
    have hf := geo_facts hG
    have hz := geo_sizes hG
    have hhn := head_nn hG
    obtain ⟨nt, hnt⟩ : ∃ n : Nat, totV g = n := ⟨(totV g).toNat, by omega⟩
    have hfl := fmtTo_len g (gbV g) hd g.slots.toNat
    have hJ0 := jinv_start hG key (top := gbV g) (hd := hd) h0 h1
    have hfm : ∀ w : World, Calls Try.prog 18 #[g.val] w fun e w' => ∃ v, e = .returned (.tuple #[v, I 0]) ∧ w'.ownsRow w.heap.size 9 1 v (totV g).toNat ((fmtTo g (gbV g) hd g.slots.toNat).flatMap encS) ∧ Below w.heap.size w w' := fun w => by
      refine (hnil w).mono ?_
      rintro e w' ⟨⟨_, v, he, ho⟩ | ⟨hn, _⟩, hb⟩
      · exact ⟨v, he, ho, hb⟩
      · rw [hG] at hn; cases hn
    clear hnil
    rw [show (totV g).toNat = nt by omega] at hfl hfm
    generalize fmtTo g (gbV g) hd g.slots.toNat = L0 at *
    obtain ⟨q0, hq0⟩ : ∃ q : Nat, headV g 0 = q := ⟨(headV g 0).toNat, by omega⟩
    have hrh := fun w => refHead_c g ok 0 w
    rw [hq0] at hrh hJ0
    rw [Int.toNat_natCast] at hJ0
    refine c_skip ?_
    refine x_then ?_
    refine c_seq ?_
    refine c_region ?_
    refine o_yield rfl rfl rfl (y_val tok rfl) ?_
    refine o_step rfl rfl rfl rfl rfl (s_callR (fun _ : Unit => True) (fun _ => .tup [.row 1, .v (I 0)]) 9 1 (fun _ => nt) (fun _ => L0.flatMap encS) rfl fnok18 (fun _ => rfl) (fun E w hm => (hfm w).mono (fun e w' ⟨v, he, ho, hb⟩ => ⟨(), v, he, ho, hb, trivial⟩))) (fun _ _ => ?_)
    refine o_yield rfl rfl rfl (y_val tok rfl) ?_
    refine o_yield rfl rfl rfl (y_val tok rfl) ?_
    refine o_yield rfl rfl rfl (y_val tok rfl) ?_
    refine o_yield rfl rfl rfl (y_val tok rfl) ?_
    refine o_yield rfl rfl rfl (y_val tok rfl) ?_
    refine o_end [1, 2, 3, 4, 5, 6, 13] rfl ?_
    refine x_then ?_
    refine c_seq ?_
    refine c_region ?_
    refine o_yield rfl rfl rfl (y_val tok rfl) ?_
    refine o_yield rfl rfl rfl (y_val tok rfl) ?_
    refine o_call (.a (.v _)) rfl rfl fnok20 rfl rfl rfl (fun hg E w1 hm => by exact hrh _) ?_
    refine o_yield rfl rfl rfl (y_val tok rfl) ?_
    refine o_call (.a (.v _)) rfl rfl fnok19 rfl rfl rfl (fun hg E w1 hm => by exact refHeadS_c tail _) ?_
    refine o_yield rfl rfl rfl (y_val tok rfl) ?_
    refine o_yield rfl rfl rfl (y_val tok rfl) ?_
    refine o_yield rfl rfl rfl (y_val tok rfl) ?_
    refine o_yield rfl rfl rfl (y_own (s := .a (.rel 1 q0)) 1 rfl rfl (fun v V' hv => y_idxK tok q0 rfl (by simp) (fun hg => hv) (fun hg => by omega))) ?_
    refine o_stepN rfl rfl rfl rfl (s_rst tok rfl rfl (by intro u hu; simp only [List.mem_singleton] at hu; subst hu; rfl) (by simp only [List.length_singleton]; omega) (by omega)) (fun _ _ => ?_)
    refine o_end [1, 2, 3, 4, 5, 6, 13] rfl ?_
    refine x_then ?_
    refine c_seq ?_
    refine c_region ?_
    refine o_yield rfl rfl rfl (y_val tok rfl) ?_
    refine o_yield rfl rfl rfl (y_val tok rfl) ?_
    refine o_new tok rfl rfl rfl rfl ?_
    refine o_store tok rfl rfl rfl (by first | exact ⟨trivial, trivial⟩ | (repeat' first | exact trivial | exact rfl | apply And.intro); done | simp [onesP, oneP, lk, Value.oneCell']) ?_
    refine o_end [1, 2, 3, 4, 5, 6, 15] rfl ?_
    refine x_then ?_
    refine c_seq ?_
    refine c_region ?_
    refine o_yield rfl rfl rfl (y_val tok rfl) ?_
    refine o_yield rfl rfl rfl (y_val tok rfl) ?_
    refine o_end [1, 2, 3, 4, 5, 6, 15, 16] rfl ?_
    refine x_then ?_
    refine c_seq ?_
    refine c_region ?_
    have hset := fmt_set (L := L0) (q := q0) (headS tail).1 (by omega)
    rw [Nat.mul_one] at hset
    rw [show overL q0 _ _ = _ from hset]
    clear hset
    have hjl : (L0.set q0 (headS tail).1).length = nt := by rw [List.length_set, hfl]
    generalize L0.set q0 (headS tail).1 = D0 at *
    clear hfm hrh
    refine o_step rfl rfl rfl rfl rfl (s_bs tok 1 rfl rfl rfl) (fun _ _ => ?_)
    refine o_yield rfl rfl rfl (y_val tok rfl) ?_
    refine o_step rfl rfl rfl rfl rfl (s_app tok (rows.flatMap Sl.enc) rfl (fun E w hm => hr.sl.src hm.get) (fun _ _ _ => sl_ones rows hrall) (by dsimp only; omega)) (fun _ _ => ?_)
    refine o_yield rfl rfl rfl (y_val tok rfl) ?_
    refine o_step rfl rfl rfl rfl rfl (s_bs tok 1 rfl rfl rfl) (fun _ _ => ?_)
    refine o_step rfl rfl rfl rfl rfl (s_app tok [.slice la ln lc] rfl (fun E w hm => ownsRow_src (hm.row _ _ _ _ _ rfl)) (fun _ _ _ => by intro u hu; simp only [List.mem_singleton] at hu; subst hu; rfl) (by dsimp only; omega)) (fun _ _ => ?_)
    refine o_yield rfl rfl rfl (y_val tok rfl) ?_
    refine o_end [1, 2, 5, 6, 15, 16, 17] rfl ?_
    refine x_then ?_
    refine c_seq ?_
    refine c_region ?_
    refine o_yield rfl rfl rfl (y_val tok rfl) ?_
    refine o_yield rfl rfl rfl (y_val tok rfl) ?_
    refine o_end [1, 2, 5, 6, 15, 16, 17, 18] rfl ?_
    refine x_then ?_
    refine c_seq ?_
    refine c_seq ?_
    refine c_region ?_
    refine o_yield rfl rfl rfl (y_val tok rfl) ?_
    refine o_end [1, 2, 5, 6, 15, 16, 17, 18, 20] rfl ?_
    refine x_then ?_
    refine c_block ?_
    rw [show [] ++ rows.flatMap Sl.enc ++ [.slice la ln lc] = (rows ++ [(⟨.slice la ln lc, l⟩ : Sl Block)]).flatMap Sl.enc by simp, show 0 + rows.length + 1 = (rows ++ [(⟨.slice la ln lc, l⟩ : Sl Block)]).length by simp]
    have hAll : ∀ a ∈ rows ++ [(⟨.slice la ln lc, l⟩ : Sl Block)], SlOf (vw w) Block.cells 2 a.v a.l := fun a ha => by
      rcases List.mem_append.1 ha with h | h
      · exact (hrall a h).sl
      · rw [List.mem_singleton.1 h]; exact hl
    have hNl : (rows ++ [(⟨.slice la ln lc, l⟩ : Sl Block)]).length ≤ 7 := by simp; omega
    generalize rows ++ [(⟨.slice la ln lc, l⟩ : Sl Block)] = L at *
    refine k_freeze 6 rfl (fun va V1 hle1 hsl1 _ => ?_)
    have hall : SlOf V1 Sl.enc 1 va L := ⟨hsl1, fun _ => rfl⟩
    clear hsl1
    refine k_trim [1, 2, 5, 6, 15, 16, 17, 18, 20] [3, 4, 5, 6] 3 rfl rfl (by repeat (first | exact SubF.nil | refine SubF.cons rfl ?_)) (by repeat (first | exact SubO.nil | refine SubO.cons rfl ?_)) rfl ?_
    refine c_loopV [1, 2, 5, 6, 15, 17] [1] rfl rfl (σ := Nat × List ByteArray × List Record × Int × Value × Vw) (fun (i, D, A, hd, wv, W) => [(16, .a (.v (I hd))), (18, .a (.v wv)), (20, .a (.v (I i)))]) (fun (i, D, A, hd, wv, W) => [(1, .row 9 1 nt (D.flatMap encS))]) (fun (i, D, A, hd, wv, W) => W) (fun (i, D, A, hd, wv, W) => i ≤ L.length ∧ V1.le W ∧ (i < L.length → D.length = nt ∧ hd = tail + A.length ∧ JInv g key tail D A ∧ Chain A ∧ Ends A ∧ SlOf W Block.cells 2 wv (scanB A))) (fun (i, D, A, hd, wv, W) => L.length - i) ((0, D0, [], tail, .slice none 0 0, V1)) (⟨by omega, Vw.le.refl _, fun _ => ⟨hjl, by simp, hJ0, chain_nil, ends_nil, by rw [scan_nil]; exact slNil _ _ _ _ (fun _ => rfl)⟩⟩) (by repeat (first | exact SubF.nil | refine SubF.cons rfl ?_)) (by repeat (first | exact SubO.nil | refine SubO.cons rfl ?_)) rfl (Vw.le.refl _) ?_
    rintro ⟨i, D, A, hd, wv, W⟩ ⟨hi, hleW, hI⟩
    dsimp only at hi hleW hI ⊢
    refine c_seq ?_
    refine c_seq ?_
    refine c_region ?_
    refine o_yield rfl rfl rfl (y_val tok rfl) ?_
    refine o_yield rfl rfl rfl (y_val tok rfl) ?_
    refine o_yield rfl rfl rfl (y_len tok rfl (fun hg => (hall.mono hleW).sl)) ?_
    refine o_yield rfl rfl rfl (y_val tok rfl) ?_
    refine o_end [1, 2, 5, 6, 15, 16, 17, 18, 20, 86] rfl ?_
    refine x_then ?_
    refine c_cond rfl (fun h => ?_) (fun h => ?_)
    ·
      simp only [Bool.and_eq_true, Bool.or_eq_true, Bool.not_eq_true', Bool.or_eq_false_iff, Bool.and_eq_false_iff, decide_eq_true_eq, decide_eq_false_iff_not, beq_iff_eq, bne_iff_ne, Bool.not_eq_false', beq_eq_false_iff_ne, bne_eq_false_iff_eq, ne_eq, Decidable.not_not, Int.not_lt, Int.not_le] at h
      refine c_skip ?_
      refine x_then ?_
      refine c_seq ?_
      refine c_block ?_
      refine c_seq ?_
      obtain ⟨hDl, rfl, hJ, hch, hen, hwas⟩ := hI (by omega)
      clear hI
      obtain ⟨bx, h_x⟩ := hall.at (k := i) (by omega)
      have hxs := ((hAll bx (List.mem_of_getElem? h_x)).mono hle1).mono hleW
      have hallW := hall.mono hleW
      have hfew := hJ.few
      refine c_heldM (σ := Value × List Record × Int × Vw) (fun x => [(1, .a (.v (I key))), (2, .a (.v (I tail))), (5, .a (.v (I done))), (6, .a (.ptr 0 0)), (15, .a (.ptr 2 0)), (16, .a (.v (I (tail + A.length)))), (17, .a (.v va)), (18, .a (.v wv)), (20, .a (.v (I i))), (21, .a (.ptr 3 0)), (22, .a (.v (I x.2.2.1)))]) (fun x => [(0, .lit (g.cells.map .v) 23), (1, .row 9 1 nt (D.flatMap encS)), (2, .lit [.row 1, .v (.slice none 0 0), .v (.slice none 0 0), .v (I 0), .v (.slice none 0 0)] 40), (3, .lit [.v x.1, .v (I 0)] 43)]) (4) (fun x => x.2.2.2) (fun x => W.le x.2.2.2 ∧ SlOf x.2.2.2 Record.cells 6 x.1 x.2.1 ∧ BegRes g key (tail + A.length) tail bx.l x.2.1 x.2.2.1) mixed ?_ ?_
      ·
        refine t_take 0 rfl (by kernel_rfl) rfl rfl rfl (y_val tok rfl) rfl ?_
        refine t_take 1 rfl (by kernel_rfl) rfl rfl rfl (y_val tok rfl) rfl ?_
        refine t_take 2 rfl (by kernel_rfl) rfl rfl rfl (y_val tok rfl) rfl ?_
        refine t_take 3 rfl (by kernel_rfl) rfl rfl rfl (y_val tok rfl) rfl ?_
        refine t_take 4 rfl (by kernel_rfl) rfl rfl rfl (y_val tok rfl) rfl ?_
        refine t_take 5 rfl (by kernel_rfl) rfl rfl rfl (y_val tok rfl) rfl ?_
        refine t_go ?_
        refine h_two 6 12 (by kernel_rfl) ?_ ?_
        ·
          refine h_yield 6 rfl rfl rfl rfl (y_idxK tok i rfl (by simp) (fun hg => hallW.sl) (fun hg => by omega)) ?_
          refine h_two 7 12 (by kernel_rfl) ?_ ?_
          ·
            refine h_yield 7 rfl rfl rfl rfl (y_lel (enc := Sl.enc) (l := L) tok i 0 bx rfl (fun hg => hallW) (fun hg => h_x) (by simp) rfl) ?_
            refine h_two 8 12 (by kernel_rfl) ?_ ?_
            ·
              refine h_callV 8 (fun z V' => ∃ a n c K ec, z = .tuple #[putV (.slice a n c) 0, I ec] ∧ SlOf V' Record.cells 6 (.slice a n c) K ∧ BegRes g key (tail + A.length) tail bx.l K ec) rfl rfl rfl fnok21 rfl rfl (fun hg E w1 hm => by exact cbegin_any W g ok key (tail + A.length) tail _ bx.l _ hm.leV hxs) ?_
              rintro z V' hle hz
              obtain ⟨a', n', c', K', ec', rfl, hK', hr'⟩ := hz rfl
              refine h_two 9 12 (by kernel_rfl) ?_ ?_
              ·
                refine h_yield 9 rfl rfl rfl rfl (y_val tok rfl) ?_
                refine h_three 10 11 12 (by kernel_rfl) ?_ ?_ ?_
                ·
                  refine h_yield 10 rfl rfl rfl rfl (y_val tok rfl) ?_
                  refine h_two 11 12 (by kernel_rfl) ?_ ?_
                  ·
                    refine h_yield 11 rfl rfl rfl rfl (y_val tok rfl) ?_
                    refine h_one 12 (by kernel_rfl) ?_
                    refine h_new 12 tok rfl rfl rfl rfl rfl rfl ?_
                    refine h_one 13 (by kernel_rfl) ?_
                    refine h_store 13 tok rfl rfl rfl rfl (by first | exact ⟨trivial, trivial⟩ | (repeat' first | exact trivial | exact rfl | apply And.intro); done | simp [onesP, oneP, lk, Value.oneCell']) (.inr ⟨(by repeat (first | exact SubO.nil | refine SubO.cons rfl ?_)), rfl, (by first | exact Vw.le.refl _ | assumption)⟩) ?_
                    refine h_one 14 (by kernel_rfl) ?_
                    refine h_yield 14 rfl rfl rfl rfl (y_val tok rfl) ?_
                    refine h_done [1, 2, 5, 6, 15, 16, 17, 18, 20, 21, 22] (by kernel_rfl) rfl ?_
                    exact x_meet (⟨.slice a' n' c', K', ec', V'⟩) (⟨hle, hK', hr'⟩) (by repeat (first | exact SubF.nil | refine SubF.cons rfl ?_)) (by repeat (first | exact SubO.nil | refine SubO.cons rfl ?_)) rfl (Vw.le.refl _)
                  ·
                    refine h_new 12 tok rfl rfl rfl rfl rfl rfl ?_
                    refine h_two 11 13 (by kernel_rfl) ?_ ?_
                    ·
                      refine h_yield 11 rfl rfl rfl rfl (y_val tok rfl) ?_
                      refine h_one 13 (by kernel_rfl) ?_
                      refine h_store 13 tok rfl rfl rfl rfl (by first | exact ⟨trivial, trivial⟩ | (repeat' first | exact trivial | exact rfl | apply And.intro); done | simp [onesP, oneP, lk, Value.oneCell']) (.inr ⟨(by repeat (first | exact SubO.nil | refine SubO.cons rfl ?_)), rfl, (by first | exact Vw.le.refl _ | assumption)⟩) ?_
                      refine h_one 14 (by kernel_rfl) ?_
                      refine h_yield 14 rfl rfl rfl rfl (y_val tok rfl) ?_
                      refine h_done [1, 2, 5, 6, 15, 16, 17, 18, 20, 21, 22] (by kernel_rfl) rfl ?_
                      exact x_meet (⟨.slice a' n' c', K', ec', V'⟩) (⟨hle, hK', hr'⟩) (by repeat (first | exact SubF.nil | refine SubF.cons rfl ?_)) (by repeat (first | exact SubO.nil | refine SubO.cons rfl ?_)) rfl (Vw.le.refl _)
                    ·
                      refine h_store 13 tok rfl rfl rfl rfl (by first | exact ⟨trivial, trivial⟩ | (repeat' first | exact trivial | exact rfl | apply And.intro); done | simp [onesP, oneP, lk, Value.oneCell']) (.inr ⟨(by repeat (first | exact SubO.nil | refine SubO.cons rfl ?_)), rfl, (by first | exact Vw.le.refl _ | assumption)⟩) ?_
                      refine h_one 11 (by kernel_rfl) ?_
                      refine h_yield 11 rfl rfl rfl rfl (y_val tok rfl) ?_
                      refine h_one 14 (by kernel_rfl) ?_
                      refine h_yield 14 rfl rfl rfl rfl (y_val tok rfl) ?_
                      refine h_done [1, 2, 5, 6, 15, 16, 17, 18, 20, 21, 22] (by kernel_rfl) rfl ?_
                      exact x_meet (⟨.slice a' n' c', K', ec', V'⟩) (⟨hle, hK', hr'⟩) (by repeat (first | exact SubF.nil | refine SubF.cons rfl ?_)) (by repeat (first | exact SubO.nil | refine SubO.cons rfl ?_)) rfl (Vw.le.refl _)
                ·
                  refine h_yield 11 rfl rfl rfl rfl (y_val tok rfl) ?_
                  refine h_two 10 12 (by kernel_rfl) ?_ ?_
                  ·
                    refine h_yield 10 rfl rfl rfl rfl (y_val tok rfl) ?_
                    refine h_one 12 (by kernel_rfl) ?_
                    refine h_new 12 tok rfl rfl rfl rfl rfl rfl ?_
                    refine h_one 13 (by kernel_rfl) ?_
                    refine h_store 13 tok rfl rfl rfl rfl (by first | exact ⟨trivial, trivial⟩ | (repeat' first | exact trivial | exact rfl | apply And.intro); done | simp [onesP, oneP, lk, Value.oneCell']) (.inr ⟨(by repeat (first | exact SubO.nil | refine SubO.cons rfl ?_)), rfl, (by first | exact Vw.le.refl _ | assumption)⟩) ?_
                    refine h_one 14 (by kernel_rfl) ?_
                    refine h_yield 14 rfl rfl rfl rfl (y_val tok rfl) ?_
                    refine h_done [1, 2, 5, 6, 15, 16, 17, 18, 20, 21, 22] (by kernel_rfl) rfl ?_
                    exact x_meet (⟨.slice a' n' c', K', ec', V'⟩) (⟨hle, hK', hr'⟩) (by repeat (first | exact SubF.nil | refine SubF.cons rfl ?_)) (by repeat (first | exact SubO.nil | refine SubO.cons rfl ?_)) rfl (Vw.le.refl _)
                  ·
                    refine h_new 12 tok rfl rfl rfl rfl rfl rfl ?_
                    refine h_one 10 (by kernel_rfl) ?_
                    refine h_yield 10 rfl rfl rfl rfl (y_val tok rfl) ?_
                    refine h_one 13 (by kernel_rfl) ?_
                    refine h_store 13 tok rfl rfl rfl rfl (by first | exact ⟨trivial, trivial⟩ | (repeat' first | exact trivial | exact rfl | apply And.intro); done | simp [onesP, oneP, lk, Value.oneCell']) (.inr ⟨(by repeat (first | exact SubO.nil | refine SubO.cons rfl ?_)), rfl, (by first | exact Vw.le.refl _ | assumption)⟩) ?_
                    refine h_one 14 (by kernel_rfl) ?_
                    refine h_yield 14 rfl rfl rfl rfl (y_val tok rfl) ?_
                    refine h_done [1, 2, 5, 6, 15, 16, 17, 18, 20, 21, 22] (by kernel_rfl) rfl ?_
                    exact x_meet (⟨.slice a' n' c', K', ec', V'⟩) (⟨hle, hK', hr'⟩) (by repeat (first | exact SubF.nil | refine SubF.cons rfl ?_)) (by repeat (first | exact SubO.nil | refine SubO.cons rfl ?_)) rfl (Vw.le.refl _)
                ·
                  refine h_new 12 tok rfl rfl rfl rfl rfl rfl ?_
                  refine h_two 10 11 (by kernel_rfl) ?_ ?_
                  ·
                    refine h_yield 10 rfl rfl rfl rfl (y_val tok rfl) ?_
                    refine h_two 11 13 (by kernel_rfl) ?_ ?_
                    ·
                      refine h_yield 11 rfl rfl rfl rfl (y_val tok rfl) ?_
                      refine h_one 13 (by kernel_rfl) ?_
                      refine h_store 13 tok rfl rfl rfl rfl (by first | exact ⟨trivial, trivial⟩ | (repeat' first | exact trivial | exact rfl | apply And.intro); done | simp [onesP, oneP, lk, Value.oneCell']) (.inr ⟨(by repeat (first | exact SubO.nil | refine SubO.cons rfl ?_)), rfl, (by first | exact Vw.le.refl _ | assumption)⟩) ?_
                      refine h_one 14 (by kernel_rfl) ?_
                      refine h_yield 14 rfl rfl rfl rfl (y_val tok rfl) ?_
                      refine h_done [1, 2, 5, 6, 15, 16, 17, 18, 20, 21, 22] (by kernel_rfl) rfl ?_
                      exact x_meet (⟨.slice a' n' c', K', ec', V'⟩) (⟨hle, hK', hr'⟩) (by repeat (first | exact SubF.nil | refine SubF.cons rfl ?_)) (by repeat (first | exact SubO.nil | refine SubO.cons rfl ?_)) rfl (Vw.le.refl _)
                    ·
                      refine h_store 13 tok rfl rfl rfl rfl (by first | exact ⟨trivial, trivial⟩ | (repeat' first | exact trivial | exact rfl | apply And.intro); done | simp [onesP, oneP, lk, Value.oneCell']) (.inr ⟨(by repeat (first | exact SubO.nil | refine SubO.cons rfl ?_)), rfl, (by first | exact Vw.le.refl _ | assumption)⟩) ?_
                      refine h_one 11 (by kernel_rfl) ?_
                      refine h_yield 11 rfl rfl rfl rfl (y_val tok rfl) ?_
                      refine h_one 14 (by kernel_rfl) ?_
                      refine h_yield 14 rfl rfl rfl rfl (y_val tok rfl) ?_
                      refine h_done [1, 2, 5, 6, 15, 16, 17, 18, 20, 21, 22] (by kernel_rfl) rfl ?_
                      exact x_meet (⟨.slice a' n' c', K', ec', V'⟩) (⟨hle, hK', hr'⟩) (by repeat (first | exact SubF.nil | refine SubF.cons rfl ?_)) (by repeat (first | exact SubO.nil | refine SubO.cons rfl ?_)) rfl (Vw.le.refl _)
                  ·
                    refine h_yield 11 rfl rfl rfl rfl (y_val tok rfl) ?_
                    refine h_one 10 (by kernel_rfl) ?_
                    refine h_yield 10 rfl rfl rfl rfl (y_val tok rfl) ?_
                    refine h_one 13 (by kernel_rfl) ?_
                    refine h_store 13 tok rfl rfl rfl rfl (by first | exact ⟨trivial, trivial⟩ | (repeat' first | exact trivial | exact rfl | apply And.intro); done | simp [onesP, oneP, lk, Value.oneCell']) (.inr ⟨(by repeat (first | exact SubO.nil | refine SubO.cons rfl ?_)), rfl, (by first | exact Vw.le.refl _ | assumption)⟩) ?_
                    refine h_one 14 (by kernel_rfl) ?_
                    refine h_yield 14 rfl rfl rfl rfl (y_val tok rfl) ?_
                    refine h_done [1, 2, 5, 6, 15, 16, 17, 18, 20, 21, 22] (by kernel_rfl) rfl ?_
                    exact x_meet (⟨.slice a' n' c', K', ec', V'⟩) (⟨hle, hK', hr'⟩) (by repeat (first | exact SubF.nil | refine SubF.cons rfl ?_)) (by repeat (first | exact SubO.nil | refine SubO.cons rfl ?_)) rfl (Vw.le.refl _)
              ·
                refine h_new 12 tok rfl rfl rfl rfl rfl rfl ?_
                refine h_one 9 (by kernel_rfl) ?_
                refine h_yield 9 rfl rfl rfl rfl (y_val tok rfl) ?_
                refine h_two 10 11 (by kernel_rfl) ?_ ?_
                ·
                  refine h_yield 10 rfl rfl rfl rfl (y_val tok rfl) ?_
                  refine h_two 11 13 (by kernel_rfl) ?_ ?_
                  ·
                    refine h_yield 11 rfl rfl rfl rfl (y_val tok rfl) ?_
                    refine h_one 13 (by kernel_rfl) ?_
                    refine h_store 13 tok rfl rfl rfl rfl (by first | exact ⟨trivial, trivial⟩ | (repeat' first | exact trivial | exact rfl | apply And.intro); done | simp [onesP, oneP, lk, Value.oneCell']) (.inr ⟨(by repeat (first | exact SubO.nil | refine SubO.cons rfl ?_)), rfl, (by first | exact Vw.le.refl _ | assumption)⟩) ?_
                    refine h_one 14 (by kernel_rfl) ?_
                    refine h_yield 14 rfl rfl rfl rfl (y_val tok rfl) ?_
                    refine h_done [1, 2, 5, 6, 15, 16, 17, 18, 20, 21, 22] (by kernel_rfl) rfl ?_
                    exact x_meet (⟨.slice a' n' c', K', ec', V'⟩) (⟨hle, hK', hr'⟩) (by repeat (first | exact SubF.nil | refine SubF.cons rfl ?_)) (by repeat (first | exact SubO.nil | refine SubO.cons rfl ?_)) rfl (Vw.le.refl _)
                  ·
                    refine h_store 13 tok rfl rfl rfl rfl (by first | exact ⟨trivial, trivial⟩ | (repeat' first | exact trivial | exact rfl | apply And.intro); done | simp [onesP, oneP, lk, Value.oneCell']) (.inr ⟨(by repeat (first | exact SubO.nil | refine SubO.cons rfl ?_)), rfl, (by first | exact Vw.le.refl _ | assumption)⟩) ?_
                    refine h_one 11 (by kernel_rfl) ?_
                    refine h_yield 11 rfl rfl rfl rfl (y_val tok rfl) ?_
                    refine h_one 14 (by kernel_rfl) ?_
                    refine h_yield 14 rfl rfl rfl rfl (y_val tok rfl) ?_
                    refine h_done [1, 2, 5, 6, 15, 16, 17, 18, 20, 21, 22] (by kernel_rfl) rfl ?_
                    exact x_meet (⟨.slice a' n' c', K', ec', V'⟩) (⟨hle, hK', hr'⟩) (by repeat (first | exact SubF.nil | refine SubF.cons rfl ?_)) (by repeat (first | exact SubO.nil | refine SubO.cons rfl ?_)) rfl (Vw.le.refl _)
                ·
                  refine h_yield 11 rfl rfl rfl rfl (y_val tok rfl) ?_
                  refine h_one 10 (by kernel_rfl) ?_
                  refine h_yield 10 rfl rfl rfl rfl (y_val tok rfl) ?_
                  refine h_one 13 (by kernel_rfl) ?_
                  refine h_store 13 tok rfl rfl rfl rfl (by first | exact ⟨trivial, trivial⟩ | (repeat' first | exact trivial | exact rfl | apply And.intro); done | simp [onesP, oneP, lk, Value.oneCell']) (.inr ⟨(by repeat (first | exact SubO.nil | refine SubO.cons rfl ?_)), rfl, (by first | exact Vw.le.refl _ | assumption)⟩) ?_
                  refine h_one 14 (by kernel_rfl) ?_
                  refine h_yield 14 rfl rfl rfl rfl (y_val tok rfl) ?_
                  refine h_done [1, 2, 5, 6, 15, 16, 17, 18, 20, 21, 22] (by kernel_rfl) rfl ?_
                  exact x_meet (⟨.slice a' n' c', K', ec', V'⟩) (⟨hle, hK', hr'⟩) (by repeat (first | exact SubF.nil | refine SubF.cons rfl ?_)) (by repeat (first | exact SubO.nil | refine SubO.cons rfl ?_)) rfl (Vw.le.refl _)
            ·
              refine h_new 12 tok rfl rfl rfl rfl rfl rfl ?_
              refine h_one 8 (by kernel_rfl) ?_
              refine h_callV 8 (fun z V' => ∃ a n c K ec, z = .tuple #[putV (.slice a n c) 0, I ec] ∧ SlOf V' Record.cells 6 (.slice a n c) K ∧ BegRes g key (tail + A.length) tail bx.l K ec) rfl rfl rfl fnok21 rfl rfl (fun hg E w1 hm => by exact cbegin_any W g ok key (tail + A.length) tail _ bx.l _ hm.leV hxs) ?_
              rintro z V' hle hz
              obtain ⟨a', n', c', K', ec', rfl, hK', hr'⟩ := hz rfl
              refine h_one 9 (by kernel_rfl) ?_
              refine h_yield 9 rfl rfl rfl rfl (y_val tok rfl) ?_
              refine h_two 10 11 (by kernel_rfl) ?_ ?_
              ·
                refine h_yield 10 rfl rfl rfl rfl (y_val tok rfl) ?_
                refine h_two 11 13 (by kernel_rfl) ?_ ?_
                ·
                  refine h_yield 11 rfl rfl rfl rfl (y_val tok rfl) ?_
                  refine h_one 13 (by kernel_rfl) ?_
                  refine h_store 13 tok rfl rfl rfl rfl (by first | exact ⟨trivial, trivial⟩ | (repeat' first | exact trivial | exact rfl | apply And.intro); done | simp [onesP, oneP, lk, Value.oneCell']) (.inr ⟨(by repeat (first | exact SubO.nil | refine SubO.cons rfl ?_)), rfl, (by first | exact Vw.le.refl _ | assumption)⟩) ?_
                  refine h_one 14 (by kernel_rfl) ?_
                  refine h_yield 14 rfl rfl rfl rfl (y_val tok rfl) ?_
                  refine h_done [1, 2, 5, 6, 15, 16, 17, 18, 20, 21, 22] (by kernel_rfl) rfl ?_
                  exact x_meet (⟨.slice a' n' c', K', ec', V'⟩) (⟨hle, hK', hr'⟩) (by repeat (first | exact SubF.nil | refine SubF.cons rfl ?_)) (by repeat (first | exact SubO.nil | refine SubO.cons rfl ?_)) rfl (Vw.le.refl _)
                ·
                  refine h_store 13 tok rfl rfl rfl rfl (by first | exact ⟨trivial, trivial⟩ | (repeat' first | exact trivial | exact rfl | apply And.intro); done | simp [onesP, oneP, lk, Value.oneCell']) (.inr ⟨(by repeat (first | exact SubO.nil | refine SubO.cons rfl ?_)), rfl, (by first | exact Vw.le.refl _ | assumption)⟩) ?_
                  refine h_one 11 (by kernel_rfl) ?_
                  refine h_yield 11 rfl rfl rfl rfl (y_val tok rfl) ?_
                  refine h_one 14 (by kernel_rfl) ?_
                  refine h_yield 14 rfl rfl rfl rfl (y_val tok rfl) ?_
                  refine h_done [1, 2, 5, 6, 15, 16, 17, 18, 20, 21, 22] (by kernel_rfl) rfl ?_
                  exact x_meet (⟨.slice a' n' c', K', ec', V'⟩) (⟨hle, hK', hr'⟩) (by repeat (first | exact SubF.nil | refine SubF.cons rfl ?_)) (by repeat (first | exact SubO.nil | refine SubO.cons rfl ?_)) rfl (Vw.le.refl _)
              ·
                refine h_yield 11 rfl rfl rfl rfl (y_val tok rfl) ?_
                refine h_one 10 (by kernel_rfl) ?_
                refine h_yield 10 rfl rfl rfl rfl (y_val tok rfl) ?_
                refine h_one 13 (by kernel_rfl) ?_
                refine h_store 13 tok rfl rfl rfl rfl (by first | exact ⟨trivial, trivial⟩ | (repeat' first | exact trivial | exact rfl | apply And.intro); done | simp [onesP, oneP, lk, Value.oneCell']) (.inr ⟨(by repeat (first | exact SubO.nil | refine SubO.cons rfl ?_)), rfl, (by first | exact Vw.le.refl _ | assumption)⟩) ?_
                refine h_one 14 (by kernel_rfl) ?_
                refine h_yield 14 rfl rfl rfl rfl (y_val tok rfl) ?_
                refine h_done [1, 2, 5, 6, 15, 16, 17, 18, 20, 21, 22] (by kernel_rfl) rfl ?_
                exact x_meet (⟨.slice a' n' c', K', ec', V'⟩) (⟨hle, hK', hr'⟩) (by repeat (first | exact SubF.nil | refine SubF.cons rfl ?_)) (by repeat (first | exact SubO.nil | refine SubO.cons rfl ?_)) rfl (Vw.le.refl _)
          ·
            refine h_new 12 tok rfl rfl rfl rfl rfl rfl ?_
            refine h_one 7 (by kernel_rfl) ?_
            refine h_yield 7 rfl rfl rfl rfl (y_lel (enc := Sl.enc) (l := L) tok i 0 bx rfl (fun hg => hallW) (fun hg => h_x) (by simp) rfl) ?_
            refine h_one 8 (by kernel_rfl) ?_
            refine h_callV 8 (fun z V' => ∃ a n c K ec, z = .tuple #[putV (.slice a n c) 0, I ec] ∧ SlOf V' Record.cells 6 (.slice a n c) K ∧ BegRes g key (tail + A.length) tail bx.l K ec) rfl rfl rfl fnok21 rfl rfl (fun hg E w1 hm => by exact cbegin_any W g ok key (tail + A.length) tail _ bx.l _ hm.leV hxs) ?_
            rintro z V' hle hz
            obtain ⟨a', n', c', K', ec', rfl, hK', hr'⟩ := hz rfl
            refine h_one 9 (by kernel_rfl) ?_
            refine h_yield 9 rfl rfl rfl rfl (y_val tok rfl) ?_
            refine h_two 10 11 (by kernel_rfl) ?_ ?_
            ·
              refine h_yield 10 rfl rfl rfl rfl (y_val tok rfl) ?_
              refine h_two 11 13 (by kernel_rfl) ?_ ?_
              ·
                refine h_yield 11 rfl rfl rfl rfl (y_val tok rfl) ?_
                refine h_one 13 (by kernel_rfl) ?_
                refine h_store 13 tok rfl rfl rfl rfl (by first | exact ⟨trivial, trivial⟩ | (repeat' first | exact trivial | exact rfl | apply And.intro); done | simp [onesP, oneP, lk, Value.oneCell']) (.inr ⟨(by repeat (first | exact SubO.nil | refine SubO.cons rfl ?_)), rfl, (by first | exact Vw.le.refl _ | assumption)⟩) ?_
                refine h_one 14 (by kernel_rfl) ?_
                refine h_yield 14 rfl rfl rfl rfl (y_val tok rfl) ?_
                refine h_done [1, 2, 5, 6, 15, 16, 17, 18, 20, 21, 22] (by kernel_rfl) rfl ?_
                exact x_meet (⟨.slice a' n' c', K', ec', V'⟩) (⟨hle, hK', hr'⟩) (by repeat (first | exact SubF.nil | refine SubF.cons rfl ?_)) (by repeat (first | exact SubO.nil | refine SubO.cons rfl ?_)) rfl (Vw.le.refl _)
              ·
                refine h_store 13 tok rfl rfl rfl rfl (by first | exact ⟨trivial, trivial⟩ | (repeat' first | exact trivial | exact rfl | apply And.intro); done | simp [onesP, oneP, lk, Value.oneCell']) (.inr ⟨(by repeat (first | exact SubO.nil | refine SubO.cons rfl ?_)), rfl, (by first | exact Vw.le.refl _ | assumption)⟩) ?_
                refine h_one 11 (by kernel_rfl) ?_
                refine h_yield 11 rfl rfl rfl rfl (y_val tok rfl) ?_
                refine h_one 14 (by kernel_rfl) ?_
                refine h_yield 14 rfl rfl rfl rfl (y_val tok rfl) ?_
                refine h_done [1, 2, 5, 6, 15, 16, 17, 18, 20, 21, 22] (by kernel_rfl) rfl ?_
                exact x_meet (⟨.slice a' n' c', K', ec', V'⟩) (⟨hle, hK', hr'⟩) (by repeat (first | exact SubF.nil | refine SubF.cons rfl ?_)) (by repeat (first | exact SubO.nil | refine SubO.cons rfl ?_)) rfl (Vw.le.refl _)
            ·
              refine h_yield 11 rfl rfl rfl rfl (y_val tok rfl) ?_
              refine h_one 10 (by kernel_rfl) ?_
              refine h_yield 10 rfl rfl rfl rfl (y_val tok rfl) ?_
              refine h_one 13 (by kernel_rfl) ?_
              refine h_store 13 tok rfl rfl rfl rfl (by first | exact ⟨trivial, trivial⟩ | (repeat' first | exact trivial | exact rfl | apply And.intro); done | simp [onesP, oneP, lk, Value.oneCell']) (.inr ⟨(by repeat (first | exact SubO.nil | refine SubO.cons rfl ?_)), rfl, (by first | exact Vw.le.refl _ | assumption)⟩) ?_
              refine h_one 14 (by kernel_rfl) ?_
              refine h_yield 14 rfl rfl rfl rfl (y_val tok rfl) ?_
              refine h_done [1, 2, 5, 6, 15, 16, 17, 18, 20, 21, 22] (by kernel_rfl) rfl ?_
              exact x_meet (⟨.slice a' n' c', K', ec', V'⟩) (⟨hle, hK', hr'⟩) (by repeat (first | exact SubF.nil | refine SubF.cons rfl ?_)) (by repeat (first | exact SubO.nil | refine SubO.cons rfl ?_)) rfl (Vw.le.refl _)
        ·
          refine h_new 12 tok rfl rfl rfl rfl rfl rfl ?_
          refine h_one 6 (by kernel_rfl) ?_
          refine h_yield 6 rfl rfl rfl rfl (y_idxK tok i rfl (by simp) (fun hg => hallW.sl) (fun hg => by omega)) ?_
          refine h_one 7 (by kernel_rfl) ?_
          refine h_yield 7 rfl rfl rfl rfl (y_lel (enc := Sl.enc) (l := L) tok i 0 bx rfl (fun hg => hallW) (fun hg => h_x) (by simp) rfl) ?_
          refine h_one 8 (by kernel_rfl) ?_
          refine h_callV 8 (fun z V' => ∃ a n c K ec, z = .tuple #[putV (.slice a n c) 0, I ec] ∧ SlOf V' Record.cells 6 (.slice a n c) K ∧ BegRes g key (tail + A.length) tail bx.l K ec) rfl rfl rfl fnok21 rfl rfl (fun hg E w1 hm => by exact cbegin_any W g ok key (tail + A.length) tail _ bx.l _ hm.leV hxs) ?_
          rintro z V' hle hz
          obtain ⟨a', n', c', K', ec', rfl, hK', hr'⟩ := hz rfl
          refine h_one 9 (by kernel_rfl) ?_
          refine h_yield 9 rfl rfl rfl rfl (y_val tok rfl) ?_
          refine h_two 10 11 (by kernel_rfl) ?_ ?_
          ·
            refine h_yield 10 rfl rfl rfl rfl (y_val tok rfl) ?_
            refine h_two 11 13 (by kernel_rfl) ?_ ?_
            ·
              refine h_yield 11 rfl rfl rfl rfl (y_val tok rfl) ?_
              refine h_one 13 (by kernel_rfl) ?_
              refine h_store 13 tok rfl rfl rfl rfl (by first | exact ⟨trivial, trivial⟩ | (repeat' first | exact trivial | exact rfl | apply And.intro); done | simp [onesP, oneP, lk, Value.oneCell']) (.inr ⟨(by repeat (first | exact SubO.nil | refine SubO.cons rfl ?_)), rfl, (by first | exact Vw.le.refl _ | assumption)⟩) ?_
              refine h_one 14 (by kernel_rfl) ?_
              refine h_yield 14 rfl rfl rfl rfl (y_val tok rfl) ?_
              refine h_done [1, 2, 5, 6, 15, 16, 17, 18, 20, 21, 22] (by kernel_rfl) rfl ?_
              exact x_meet (⟨.slice a' n' c', K', ec', V'⟩) (⟨hle, hK', hr'⟩) (by repeat (first | exact SubF.nil | refine SubF.cons rfl ?_)) (by repeat (first | exact SubO.nil | refine SubO.cons rfl ?_)) rfl (Vw.le.refl _)
            ·
              refine h_store 13 tok rfl rfl rfl rfl (by first | exact ⟨trivial, trivial⟩ | (repeat' first | exact trivial | exact rfl | apply And.intro); done | simp [onesP, oneP, lk, Value.oneCell']) (.inr ⟨(by repeat (first | exact SubO.nil | refine SubO.cons rfl ?_)), rfl, (by first | exact Vw.le.refl _ | assumption)⟩) ?_
              refine h_one 11 (by kernel_rfl) ?_
              refine h_yield 11 rfl rfl rfl rfl (y_val tok rfl) ?_
              refine h_one 14 (by kernel_rfl) ?_
              refine h_yield 14 rfl rfl rfl rfl (y_val tok rfl) ?_
              refine h_done [1, 2, 5, 6, 15, 16, 17, 18, 20, 21, 22] (by kernel_rfl) rfl ?_
              exact x_meet (⟨.slice a' n' c', K', ec', V'⟩) (⟨hle, hK', hr'⟩) (by repeat (first | exact SubF.nil | refine SubF.cons rfl ?_)) (by repeat (first | exact SubO.nil | refine SubO.cons rfl ?_)) rfl (Vw.le.refl _)
          ·
            refine h_yield 11 rfl rfl rfl rfl (y_val tok rfl) ?_
            refine h_one 10 (by kernel_rfl) ?_
            refine h_yield 10 rfl rfl rfl rfl (y_val tok rfl) ?_
            refine h_one 13 (by kernel_rfl) ?_
            refine h_store 13 tok rfl rfl rfl rfl (by first | exact ⟨trivial, trivial⟩ | (repeat' first | exact trivial | exact rfl | apply And.intro); done | simp [onesP, oneP, lk, Value.oneCell']) (.inr ⟨(by repeat (first | exact SubO.nil | refine SubO.cons rfl ?_)), rfl, (by first | exact Vw.le.refl _ | assumption)⟩) ?_
            refine h_one 14 (by kernel_rfl) ?_
            refine h_yield 14 rfl rfl rfl rfl (y_val tok rfl) ?_
            refine h_done [1, 2, 5, 6, 15, 16, 17, 18, 20, 21, 22] (by kernel_rfl) rfl ?_
            exact x_meet (⟨.slice a' n' c', K', ec', V'⟩) (⟨hle, hK', hr'⟩) (by repeat (first | exact SubF.nil | refine SubF.cons rfl ?_)) (by repeat (first | exact SubO.nil | refine SubO.cons rfl ?_)) rfl (Vw.le.refl _)
      rintro ⟨pv, K, ec, W1⟩ ⟨hleW1, hK, hBR⟩
      try dsimp only
      refine x_then ?_
      refine c_seq ?_
      refine c_seq ?_
      refine c_region ?_
      refine o_yield rfl rfl rfl (y_val tok rfl) ?_
      refine o_yield rfl rfl rfl (y_val tok rfl) ?_
      refine o_end [1, 2, 5, 6, 15, 16, 17, 18, 20, 21, 102] rfl ?_
      refine x_then ?_
      refine c_cond rfl (fun h => ?_) (fun h => ?_)
      ·
        simp only [Bool.and_eq_true, Bool.or_eq_true, Bool.not_eq_true', Bool.or_eq_false_iff, Bool.and_eq_false_iff, decide_eq_true_eq, decide_eq_false_iff_not, beq_iff_eq, bne_iff_ne, Bool.not_eq_false', beq_eq_false_iff_ne, bne_eq_false_iff_eq, ne_eq, Decidable.not_not, Int.not_lt, Int.not_le] at h
        refine c_seq ?_
        refine c_region ?_
        refine o_call (.a (.v _)) rfl rfl fnok17 rfl rfl rfl (fun hg E w1 hm => by exact wakes19_c _) ?_
        refine o_yield rfl rfl rfl (y_val tok rfl) ?_
        refine o_end [12] rfl ?_
        refine x_then ?_
        refine c_ret ?_
        refine x_then_ret ?_
        refine x_block_ret ?_
        refine x_then_ret ?_
        refine x_then_ret ?_
        refine x_block_ret ?_
        refine x_then_ret ?_
        refine b_ret tok rfl ?_
        intro E w' hm _
        refine ⟨?_, hm.below ((hle1.trans (hleW.trans hleW1)))⟩
        rfl
      ·
        simp only [Bool.and_eq_true, Bool.or_eq_true, Bool.not_eq_true', Bool.or_eq_false_iff, Bool.and_eq_false_iff, decide_eq_true_eq, decide_eq_false_iff_not, beq_iff_eq, bne_iff_ne, Bool.not_eq_false', beq_eq_false_iff_ne, bne_eq_false_iff_eq, ne_eq, Decidable.not_not, Int.not_lt, Int.not_le] at h
        subst h
        have hw0 : IntKind.i64.wrap (tail + A.length - tail) = A.length := by rw [wrapI (by omega) (by omega)]; omega
        dsimp only at hBR hK hleW1 ⊢
        rw [BegRes, hw0] at hBR
        obtain ⟨pa, pn, pc, rfl⟩ := sl_shape hK.sl
        obtain ⟨hfit, hok, hKK⟩ : fitsV g A.length bx.l.length = 0 ∧ OfOk g key (tail + A.length) bx.l ∧ K = allRecs g key (tail + A.length) bx.l := by
          rcases hBR with ⟨h1, _, h2⟩ | ⟨h1, ⟨h2, h3, _⟩ | ⟨_, _, h4⟩⟩
          · exact absurd h2.symm h1
          · exact ⟨h1, h2, h3⟩
          · exact absurd h4 (by simp)
        clear hBR
        obtain ⟨_, _, _, _, hmj⟩ := fits_low hfit
        obtain ⟨per, hper⟩ : ∃ per : Nat, g.per = per := ⟨g.per.toNat, by omega⟩
        have hpn : g.per.toNat = per := by omega
        have hne : bx.l.length ≠ 0 := fun hc => hok.some_ (List.eq_nil_of_length_eq_zero hc)
        have hbl := hok.few
        have hcast : (per : Int) * (bx.l.length : Int) = ((bx.l.length * per : Nat) : Int) := by rw [Int.mul_comm, ← Int.natCast_mul]
        have hmany : manyOf g bx.l.length = ((bx.l.length * per + 1 : Nat) : Int) := by
          rw [manyOf, if_pos ⟨hG, by omega⟩, hper, show min (bx.l.length : Int) 1099511627776 = bx.l.length by omega, hcast]
          omega
        rw [hmany] at hmj
        have hallK := all_len g key (tail + A.length) bx.l
        rw [hpn, ← hKK] at hallK
        have hm1 : 1 ≤ bx.l.length * g.per.toNat := Nat.mul_pos (by omega) (by omega)
        have htx : Txn K := by rw [hKK]; exact txn_all hm1
        have hsum : (A.length : Int) + K.length ≤ g.journal := by omega
        have hmore := scan_more hen hok
        rw [← hKK] at hmore
        have hdat := fun {k : Nat} => take_data (k := k) hok
        rw [← hKK] at hdat
        have hleft : leftV K.length 0 = K.length := by unfold leftV; omega
        have hallW1 := hallW.mono hleW1
        have hxs1 := hxs.mono hleW1
        have hwas1 := hwas.mono hleW1
        have hsc : (scanB A).length ≤ 64 := mkF_len _ 64 0
        have hKz : ∀ r ∈ K, r.text.size ≤ 256 := fun r hr => by
          obtain ⟨j, hj⟩ := List.mem_iff_getElem?.1 hr
          rw [hKK] at hj
          have := (recOk (all_recB hok hj)).text
          omega
        have hAz : ∀ r ∈ A, r.text.size ≤ 256 := fun r hr => by
          obtain ⟨j, hj⟩ := List.mem_iff_getElem?.1 hr
          have := (recOk (hJ.good j r hj).1).text
          omega
        refine c_skip ?_
        refine x_then ?_
        refine c_seq ?_
        refine c_region ?_
        refine o_yield rfl rfl rfl (y_val tok rfl) ?_
        refine o_call (.a (.v _)) rfl rfl fnok22 rfl rfl rfl (fun hg E w1 hm => by exact left_c W1 _ K 0 (by simp [R64]) _ hm.leV hK (by simp only [lim]; omega)) ?_
        refine o_yield rfl rfl rfl (y_val tok rfl) ?_
        refine o_end [1, 2, 5, 6, 15, 16, 17, 18, 20, 21, 23] rfl ?_
        refine x_then ?_
        refine c_seq ?_
        refine c_region ?_
        refine o_yield rfl rfl rfl (y_val tok rfl) ?_
        refine o_yield rfl rfl rfl (y_val tok rfl) ?_
        refine o_end [1, 2, 5, 6, 15, 16, 17, 18, 20, 21, 23, 24] rfl ?_
        refine x_then ?_
        rw [hleft]
        refine c_cut (σ := Nat) (fun st => [(1, .a (.v (I key))), (2, .a (.v (I tail))), (5, .a (.v (I done))), (6, .a (.ptr 0 0)), (15, .a (.ptr 2 0)), (16, .a (.v (I (tail + A.length)))), (17, .a (.v va)), (18, .a (.v wv)), (20, .a (.v (I i))), (21, .a (.ptr 3 0)), (23, .a (.v (I K.length))), (24, .a (.v (I st)))]) (fun st => [(0, .lit (g.cells.map .v) 23), (1, .row 9 1 nt (D.flatMap encS)), (2, .lit [.row 1, .v (.slice none 0 0), .v (.slice none 0 0), .v (I 0), .v (.slice none 0 0)] 40), (3, .lit [.v (.slice pa pn pc), .v (I 0)] 43)]) (4) (fun st => W1) (fun st => st ≤ K.length ∧ (st < K.length → i + 1 = L.length)) ?_ ?_
        ·
          refine c_seq ?_
          refine c_region ?_
          refine o_yield rfl rfl rfl (y_val tok rfl) ?_
          refine o_yield rfl rfl rfl (y_val tok rfl) ?_
          refine o_yield rfl rfl rfl (y_len tok rfl (fun hg => hallW1.sl)) ?_
          refine o_yield rfl rfl rfl (y_val tok rfl) ?_
          refine o_yield rfl rfl rfl (y_val tok rfl) ?_
          refine o_end [1, 2, 5, 6, 15, 16, 17, 18, 20, 21, 23, 24, 111] rfl ?_
          refine x_then ?_
          refine c_cond rfl (fun h => ?_) (fun h => ?_)
          ·
            simp only [Bool.and_eq_true, Bool.or_eq_true, Bool.not_eq_true', Bool.or_eq_false_iff, Bool.and_eq_false_iff, decide_eq_true_eq, decide_eq_false_iff_not, beq_iff_eq, bne_iff_ne, Bool.not_eq_false', beq_eq_false_iff_ne, bne_eq_false_iff_eq, ne_eq, Decidable.not_not, Int.not_lt, Int.not_le] at h
            rw [wrapI (n := (L.length : Int) - 1) (by omega) (by omega)] at h
            have hwk : IntKind.i64.wrap ((K.length : Int) + 1) = ((K.length + 1 : Nat) : Int) := wrapI (by omega) (by omega)
            refine c_region ?_
            refine o_yield rfl rfl rfl (y_val tok rfl) ?_
            refine o_yield rfl rfl rfl (y_val tok rfl) ?_
            refine o_yield rfl rfl rfl (y_val tok rfl) ?_
            rw [hwk]
            refine o_yield rfl rfl rfl (y_rem rfl (fun hg => by omega)) ?_
            refine o_yield rfl rfl rfl (y_val tok rfl) ?_
            refine o_yield rfl rfl rfl (y_val tok rfl) ?_
            refine o_yield rfl rfl rfl (y_val tok rfl) ?_
            refine o_yield rfl rfl rfl (y_val tok rfl) ?_
            refine o_yield rfl rfl rfl (y_val tok rfl) ?_
            have hb1 := Int.tmod_lt_of_pos done (show (0 : Int) < ((K.length + 1 : Nat) : Int) by omega)
            have hb2 := Int.lt_tmod_of_pos done (show (0 : Int) < ((K.length + 1 : Nat) : Int) by omega)
            rw [wrapI (n := done.tmod ((K.length + 1 : Nat) : Int) + K.length) (by omega) (by omega), wrapI (n := done.tmod ((K.length + 1 : Nat) : Int) + K.length + 1) (by omega) (by omega)]
            refine o_yield rfl rfl rfl (y_rem rfl (fun hg => by omega)) ?_
            refine o_yield rfl rfl rfl (y_val tok rfl) ?_
            refine o_end [1, 2, 5, 6, 15, 16, 17, 18, 20, 21, 23, 24] rfl ?_
            refine x_then ?_
            obtain ⟨st, hs1, hs2⟩ : ∃ st : Nat, (done.tmod ((K.length + 1 : Nat) : Int) + K.length + 1).tmod ((K.length + 1 : Nat) : Int) = st ∧ st ≤ K.length := by
              have h1 := Int.tmod_nonneg ((K.length + 1 : Nat) : Int) (show 0 ≤ done.tmod ((K.length + 1 : Nat) : Int) + K.length + 1 by omega)
              have h2 := Int.tmod_lt_of_pos (done.tmod ((K.length + 1 : Nat) : Int) + K.length + 1) (show (0 : Int) < ((K.length + 1 : Nat) : Int) by omega)
              exact ⟨((done.tmod ((K.length + 1 : Nat) : Int) + K.length + 1).tmod ((K.length + 1 : Nat) : Int)).toNat, by omega, by omega⟩
            rw [hwk, hs1]
            exact x_meet (st) (⟨hs2, fun _ => by omega⟩) (by repeat (first | exact SubF.nil | refine SubF.cons rfl ?_)) (by repeat (first | exact SubO.nil | refine SubO.cons rfl ?_)) rfl (by repeat (first | exact Vw.le.refl _ | assumption | (refine Vw.le.trans ?_ (by assumption))))
          ·
            simp only [Bool.and_eq_true, Bool.or_eq_true, Bool.not_eq_true', Bool.or_eq_false_iff, Bool.and_eq_false_iff, decide_eq_true_eq, decide_eq_false_iff_not, beq_iff_eq, bne_iff_ne, Bool.not_eq_false', beq_eq_false_iff_ne, bne_eq_false_iff_eq, ne_eq, Decidable.not_not, Int.not_lt, Int.not_le] at h
            refine c_skip ?_
            refine x_then ?_
            exact x_meet (K.length) (⟨Nat.le_refl _, fun h => by omega⟩) (by repeat (first | exact SubF.nil | refine SubF.cons rfl ?_)) (by repeat (first | exact SubO.nil | refine SubO.cons rfl ?_)) rfl (by repeat (first | exact Vw.le.refl _ | assumption | (refine Vw.le.trans ?_ (by assumption))))
        · rintro st ⟨hst, hst2⟩
          refine c_seq ?_
          refine c_region ?_
          refine o_yield rfl rfl rfl (y_val tok rfl) ?_
          refine o_yield rfl rfl rfl (y_val tok rfl) ?_
          refine o_yield rfl rfl rfl (y_val tok rfl) ?_
          have hlt_bx := lt_of_at h_x
          refine o_yield rfl rfl rfl (y_idx tok rfl (fun hg => hallW1.sl) (fun hg => ⟨by omega, by omega⟩)) ?_
          refine o_yield rfl rfl rfl (y_lel tok (i) 0 (bx) rfl (fun hg => hallW1) (fun hg => h_x) rfl rfl) ?_
          refine o_callV (RowBV (insAll (scanB A) bx.l)) rfl rfl fnok23 rfl rfl (fun hg E w1 hm => by exact rowB_V hm.leV (rmerge_c W1 _ _ (scanB A) bx.l _ hm.leV hwas1 hxs1 (by omega))) ?_
          rintro z W2 hle2 hz
          obtain ⟨na, nn, nc, rfl, hnow⟩ := hz rfl
          clear hz
          rw [hmore] at hnow
          have hK2 := hK.mono hle2
          refine o_yield rfl rfl rfl (y_val tok rfl) ?_
          refine o_end [1, 2, 5, 6, 15, 16, 17, 18, 19, 20, 21, 23, 24] rfl ?_
          refine x_then ?_
          refine c_seq ?_
          refine c_seq ?_
          refine c_region ?_
          refine o_yield rfl rfl rfl (y_val tok rfl) ?_
          refine o_end [1, 2, 5, 6, 15, 16, 17, 18, 19, 20, 21, 23, 24, 25] rfl ?_
          refine x_then ?_
          refine c_block ?_
          refine c_loopK [1, 2, 5, 6, 15, 16, 17, 18, 19, 20, 21, 23, 24] [1, 3] rfl rfl (σ := Nat × List ByteArray) (fun (k, D') => [(25, .a (.v (I k)))]) (fun (k, D') => [(1, .row 9 1 nt (D'.flatMap encS)), (3, .lit [.v (.slice pa pn pc), .v (I k)] 43)]) (fun (k, D') => k ≤ st ∧ D'.length = nt ∧ JInv g key tail D' (A ++ K.take k)) (fun (k, D') => st - k) ((0, D)) (⟨by omega, hDl, by simpa using hJ⟩) (by repeat (first | exact SubF.nil | refine SubF.cons rfl ?_)) (by repeat (first | exact SubO.nil | refine SubO.cons rfl ?_)) rfl ?_
          rintro ⟨k, D'⟩ ⟨hk, hDl', hJ'⟩
          dsimp only at hk hDl' hJ' ⊢
          have hlk : (A ++ K.take k).length = A.length + k := by rw [List.length_append, List.length_take]; omega
          refine c_seq ?_
          refine c_seq ?_
          refine c_region ?_
          refine o_yield rfl rfl rfl (y_val tok rfl) ?_
          refine o_yield rfl rfl rfl (y_val tok rfl) ?_
          refine o_yield rfl rfl rfl (y_val tok rfl) ?_
          refine o_end [1, 2, 5, 6, 15, 16, 17, 18, 19, 20, 21, 23, 24, 25, 130] rfl ?_
          refine x_then ?_
          refine c_cond rfl (fun h => ?_) (fun h => ?_)
          ·
            simp only [Bool.and_eq_true, Bool.or_eq_true, Bool.not_eq_true', Bool.or_eq_false_iff, Bool.and_eq_false_iff, decide_eq_true_eq, decide_eq_false_iff_not, beq_iff_eq, bne_iff_ne, Bool.not_eq_false', beq_eq_false_iff_ne, bne_eq_false_iff_eq, ne_eq, Decidable.not_not, Int.not_lt, Int.not_le] at h
            obtain ⟨r, hrr⟩ := hK2.at (k := k) (by omega)
            have hrr' := hrr
            rw [hKK] at hrr'
            have hrb := all_recB hok hrr'
            obtain ⟨f1, f2, f3⟩ := all_facts hm1 hrr'
            have hj := jour_some (slot := 0) (lsn := r.lsn) hG (by omega) (by omega) (by omega)
            have hjp := jour_pos hG (l := r.lsn) (by omega)
            obtain ⟨q, hq⟩ : ∃ q : Nat, jourV g 0 r.lsn = q := ⟨(jourV g 0 r.lsn).toNat, by omega⟩
            have hw := want_at (pl := jourV g 0) hrr hrb hj
            rw [hq] at hw
            have hwc := fun w1 (hV : W2.le (vw w1)) => want_c W2 g ok _ K k 0 w1 hV hK2
            rw [hw] at hwc
            have hstep := hJ'.step (by rw [hlk]; omega) hrb f2 (by rw [hlk, f1]; omega)
            rw [hlk, show tail + ((A.length + k : Nat) : Int) = r.lsn by omega, hq, Int.toNat_natCast, List.append_assoc, ← take_succ_at' hrr] at hstep
            have hsetl : (D'.set q (recBytes r)).length = nt := by rw [List.length_set, hDl']
            have hset := fmt_set (L := D') (q := q) (recBytes r) (by omega)
            rw [Nat.mul_one] at hset
            refine c_skip ?_
            refine x_then ?_
            refine c_seq ?_
            refine c_block ?_
            refine c_seq ?_
            refine c_region ?_
            refine o_yield rfl rfl rfl (y_val tok rfl) ?_
            refine o_yield rfl rfl rfl (y_val tok rfl) ?_
            refine o_call (.a (.v _)) rfl rfl fnok24 rfl rfl rfl (fun hg E w1 hm => by exact hwc _ hm.leV) ?_
            refine o_new tok rfl rfl rfl rfl ?_
            refine o_store tok rfl rfl rfl (by first | exact ⟨trivial, trivial⟩ | (repeat' first | exact trivial | exact rfl | apply And.intro); done | simp [onesP, oneP, lk, Value.oneCell']) ?_
            refine o_end [1, 2, 5, 6, 15, 16, 17, 18, 19, 20, 21, 23, 24, 25, 26] rfl ?_
            refine x_then ?_
            refine c_seq ?_
            refine c_region ?_
            refine o_yield rfl rfl rfl (y_val tok rfl) ?_
            refine o_yield rfl rfl rfl (y_val tok rfl) ?_
            refine o_yield rfl rfl rfl (y_val tok rfl) ?_
            refine o_call (.a (.v _)) rfl rfl fnok25 rfl rfl rfl (fun hg E w1 hm => by exact what_jour g ok hG r.lsn (by omega) q hq _) ?_
            refine o_yield rfl rfl rfl (y_val tok rfl) ?_
            refine o_yield rfl rfl rfl (y_val tok rfl) ?_
            refine o_yield rfl rfl rfl (y_val tok rfl) ?_
            refine o_yield rfl rfl rfl (y_val tok rfl) ?_
            refine o_yield rfl rfl rfl (y_val tok rfl) ?_
            refine o_yield rfl rfl rfl (y_val tok rfl) ?_
            refine o_yield rfl rfl rfl (y_val tok rfl) ?_
            refine o_end [1, 2, 5, 6, 15, 16, 17, 18, 19, 20, 21, 23, 24, 25, 26, 27, 28] rfl ?_
            refine x_then ?_
            refine c_seq ?_
            refine c_seq ?_
            refine c_region ?_
            refine o_yield rfl rfl rfl (y_val tok rfl) ?_
            refine o_yield rfl rfl rfl (y_val tok rfl) ?_
            refine o_yield rfl rfl rfl (y_val tok rfl) ?_
            refine o_yield rfl rfl rfl (y_val tok rfl) ?_
            refine o_yield rfl rfl rfl (y_val tok rfl) ?_
            refine o_yield rfl rfl rfl (y_val tok rfl) ?_
            refine o_yield rfl rfl rfl (y_val tok rfl) ?_
            refine o_yield rfl rfl rfl (y_val tok rfl) ?_
            refine o_yield rfl rfl rfl (y_val tok rfl) ?_
            refine o_yield rfl rfl rfl (y_val tok rfl) ?_
            refine o_yield rfl rfl rfl (y_val tok rfl) ?_
            refine o_yield rfl rfl rfl (y_val tok rfl) ?_
            refine o_yield rfl rfl rfl (y_val tok rfl) ?_
            refine o_call (.a (.v _)) rfl rfl fnok26 rfl rfl rfl (fun hg E w1 hm => by exact over_c W2 _ K k _ hm.leV hK2) ?_
            refine o_yield rfl rfl rfl (y_val tok rfl) ?_
            refine o_end [1, 2, 5, 6, 15, 16, 17, 18, 19, 20, 21, 23, 24, 25, 26, 158] rfl ?_
            refine x_then ?_
            refine c_cond rfl (fun h => ?_) (fun h => ?_)
            ·
              simp only [Bool.and_eq_true, Bool.or_eq_true, Bool.not_eq_true', Bool.or_eq_false_iff, Bool.and_eq_false_iff, decide_eq_true_eq, decide_eq_false_iff_not, beq_iff_eq, bne_iff_ne, Bool.not_eq_false', beq_eq_false_iff_ne, bne_eq_false_iff_eq, ne_eq, Decidable.not_not, Int.not_lt, Int.not_le] at h
              refine c_seq ?_
              refine c_region ?_
              refine o_yield rfl rfl rfl (y_val tok rfl) ?_
              refine o_end [12] rfl ?_
              refine x_then ?_
              refine c_ret ?_
              refine x_then_ret ?_
              refine x_block_ret ?_
              refine x_then_ret ?_
              refine x_then_ret ?_
              refine x_block_ret ?_
              refine x_then_ret ?_
              refine x_block_ret ?_
              refine x_then_ret ?_
              refine x_then_ret ?_
              refine x_block_ret ?_
              refine x_then_ret ?_
              refine b_ret tok rfl ?_
              exfalso
              simp at h
              omega
            ·
              simp only [Bool.and_eq_true, Bool.or_eq_true, Bool.not_eq_true', Bool.or_eq_false_iff, Bool.and_eq_false_iff, decide_eq_true_eq, decide_eq_false_iff_not, beq_iff_eq, bne_iff_ne, Bool.not_eq_false', beq_eq_false_iff_ne, bne_eq_false_iff_eq, ne_eq, Decidable.not_not, Int.not_lt, Int.not_le] at h
              clear h
              refine c_skip ?_
              refine x_then ?_
              refine c_seq ?_
              refine c_region ?_
              refine o_yield rfl rfl rfl (y_val tok rfl) ?_
              refine o_yield rfl rfl rfl (y_val tok rfl) ?_
              refine o_yield rfl rfl rfl (y_val tok rfl) ?_
              refine o_yield rfl rfl rfl (y_val tok rfl) ?_
              refine o_yield rfl rfl rfl (y_val tok rfl) ?_
              refine o_yield rfl rfl rfl (y_val tok rfl) ?_
              refine o_yield rfl rfl rfl (y_own (s := .a (.rel 1 q)) 1 rfl rfl (fun v V' hv => y_idxK tok q rfl (by simp) (fun hg => hv) (fun hg => by dsimp only; omega))) ?_
              refine o_stepN rfl rfl rfl rfl (s_rst tok rfl rfl (by intro u hu; simp only [List.mem_singleton] at hu; subst hu; rfl) (by simp only [List.length_singleton]; omega) (by omega)) (fun _ _ => ?_)
              refine o_end [1, 2, 5, 6, 15, 16, 17, 18, 19, 20, 21, 23, 24, 25] rfl ?_
              refine x_then ?_
              refine c_region ?_
              refine o_yield rfl rfl rfl (y_val tok rfl) ?_
              rw [show overL q _ _ = _ from hset]
              refine o_call (.a (.v _)) rfl rfl fnok27 rfl rfl rfl (fun hg E w1 hm => by exact take_c W2 _ K k _ hm.leV hK2) ?_
              refine o_store tok rfl rfl rfl (by first | exact ⟨trivial, trivial⟩ | (repeat' first | exact trivial | exact rfl | apply And.intro); done | simp [onesP, oneP, lk, Value.oneCell']) ?_
              refine o_end [1, 2, 5, 6, 15, 16, 17, 18, 19, 20, 21, 23, 24, 25] rfl ?_
              refine x_block ?_
              refine x_then ?_
              refine c_region ?_
              refine o_yield rfl rfl rfl (y_val tok rfl) ?_
              refine o_yield rfl rfl rfl (y_val tok rfl) ?_
              refine o_yield rfl rfl rfl (y_val tok rfl) ?_
              refine o_end [1, 2, 5, 6, 15, 16, 17, 18, 19, 20, 21, 23, 24, 25] rfl ?_
              refine x_then ?_
              rw [show takeI (K.length : Int) (k : Int) = ((k + 1 : Nat) : Int) by rw [takeI, if_neg (by omega), wrapI (by omega) (by omega)]; omega]
              rw [wrapI (n := (k : Int) + 1) (by omega) (by omega)]
              refine x_round ((k + 1, D'.set q (recBytes r))) (⟨by dsimp only; omega, hsetl, hstep⟩) (by first | omega | (dsimp only; omega)) (by repeat (first | exact SubF.nil | refine SubF.cons rfl ?_)) (by repeat (first | exact SubO.nil | refine SubO.cons rfl ?_)) rfl (Vw.le.refl _)
          ·
            simp only [Bool.and_eq_true, Bool.or_eq_true, Bool.not_eq_true', Bool.or_eq_false_iff, Bool.and_eq_false_iff, decide_eq_true_eq, decide_eq_false_iff_not, beq_iff_eq, bne_iff_ne, Bool.not_eq_false', beq_eq_false_iff_ne, bne_eq_false_iff_eq, ne_eq, Decidable.not_not, Int.not_lt, Int.not_le] at h
            have hks : k = st := by omega
            subst hks
            clear h
            obtain ⟨T, hT1, hT2, hT3, hT4, hT5⟩ : ∃ T, (A ++ K.take k).take (whole (A ++ K.take k)) = T ∧ T.take (whole T) = T ∧ (k < K.length → T = A) ∧ (k = K.length → T = A ++ K) ∧ (∀ r ∈ T, r.text.size ≤ 256) := by
              by_cases hkl : k < K.length
              · have hw := whole_data hch (hdat hkl)
                refine ⟨A, by rw [hw, List.take_left' rfl], by rw [whole_chain hch, List.take_length], fun _ => rfl, fun h => by omega, hAz⟩
              · have hk2 : k = K.length := by omega
                subst hk2
                have hch2 := chain_app hch (chain_txn htx)
                rw [List.take_length]
                refine ⟨A ++ K, by rw [whole_chain hch2, List.take_length], by rw [whole_chain hch2, List.take_length], fun h => by omega, fun _ => rfl, fun r hr => ?_⟩
                rcases List.mem_append.1 hr with h | h
                · exact hAz r h
                · exact hKz r h
            have hTl : T.length ≤ 1000 := by
              have : T.length ≤ (A ++ K.take k).length := by rw [← hT1, List.length_take]; omega
              omega
            have hjc := fun w1 (sv : Value) (hs : SlOf (vw w1) encS 1 sv D') => rjour_c (vw w1) g ok key tail D' _ hJ' sv w1 (Vw.le.refl _) hs
            rw [hT1] at hjc
            have hbc := fun w1 (sv : Value) (hs : SlOf (vw w1) Record.cells 6 sv T) => rblocks_c (vw w1) sv T w1 (Vw.le.refl _) hs (by omega) hT5
            rw [hT2] at hbc
            have hsT : (scanB T).length ≤ 64 := mkF_len _ 64 0
            have hwas2 := hwas1.mono hle2
            refine c_exit ?_
            refine x_then_exit ?_
            refine x_then_exit ?_
            refine x_block_hit ?_
            refine x_then ?_
            refine c_seq ?_
            refine c_region ?_
            refine o_yield rfl rfl rfl (y_val tok rfl) ?_
            refine o_yield rfl rfl rfl (y_val tok rfl) ?_
            refine o_yield rfl rfl rfl (y_val tok rfl) ?_
            refine o_step rfl rfl rfl rfl rfl (s_callR (fun _ : Unit => True) (fun _ => .tup [.row 4, .v (I tail), .v (I 0)]) 99 6 (fun _ => T.length) (fun _ => T.flatMap Record.cells) rfl fnok28 (fun _ => rfl) (fun E w1 hm => (hjc w1 _ (by have := hm.rowOf (enc := encS) (L := D') 1 (by rw [hDl']; rfl) (fun _ => rfl); exact this)).mono (fun e w' ⟨⟨v, he, ho⟩, hb⟩ => ⟨(), v, he, ho, hb, trivial⟩))) (fun _ _ => ?_)
            refine o_yield rfl rfl rfl (y_val tok rfl) ?_
            refine o_yield rfl rfl rfl (y_val tok rfl) ?_
            refine o_yield rfl rfl rfl (y_val tok rfl) ?_
            refine o_yield rfl rfl rfl (y_val tok rfl) ?_
            refine o_yield rfl rfl rfl (y_val tok rfl) ?_
            refine o_yield rfl rfl rfl (y_val tok rfl) ?_
            refine o_yield rfl rfl rfl (y_val tok rfl) ?_
            refine o_end [1, 2, 5, 6, 15, 16, 17, 18, 19, 20, 21, 23, 24, 30, 32] rfl ?_
            refine x_then ?_
            refine c_seq ?_
            refine c_region ?_
            refine o_yield rfl rfl rfl (y_val tok rfl) ?_
            refine o_yield rfl rfl rfl (y_val tok rfl) ?_
            refine o_end [1, 2, 5, 6, 15, 16, 17, 18, 19, 20, 21, 23, 24, 30, 32, 33] rfl ?_
            refine x_then ?_
            refine c_seq ?_
            refine c_seq ?_
            refine c_region ?_
            refine o_yield rfl rfl rfl (y_val tok rfl) ?_
            refine o_yield rfl rfl rfl (y_val tok rfl) ?_
            refine o_yield rfl rfl rfl (y_val tok rfl) ?_
            refine o_end [1, 2, 5, 6, 15, 16, 17, 18, 19, 20, 21, 23, 24, 30, 32, 33, 179] rfl ?_
            refine x_then ?_
            refine c_cond rfl (fun h => ?_) (fun h => ?_)
            ·
              simp only [Bool.and_eq_true, Bool.or_eq_true, Bool.not_eq_true', Bool.or_eq_false_iff, Bool.and_eq_false_iff, decide_eq_true_eq, decide_eq_false_iff_not, beq_iff_eq, bne_iff_ne, Bool.not_eq_false', beq_eq_false_iff_ne, bne_eq_false_iff_eq, ne_eq, Decidable.not_not, Int.not_lt, Int.not_le] at h
              have hTA : T = A := hT3 (by omega)
              have hil := hst2 (by omega)
              rw [← hTA] at hwas2
              clear h
              refine c_region ?_
              refine o_yield rfl rfl rfl (y_val tok rfl) ?_
              refine o_yield rfl rfl rfl (y_val tok rfl) ?_
              refine o_end [1, 2, 5, 6, 15, 16, 17, 19, 20, 21, 23, 24, 30, 32, 33] rfl ?_
              refine x_then ?_
              refine c_seq ?_
              refine c_seq ?_
              refine c_region ?_
              refine o_yield rfl rfl rfl (y_val tok rfl) ?_
              refine o_yield rfl rfl rfl (y_val tok rfl) ?_
              refine o_yield rfl rfl rfl (y_val tok rfl) ?_
              refine o_yield rfl rfl rfl (y_val tok rfl) ?_
              refine o_callV (RowBV (scanB T)) rfl rfl fnok30 rfl rfl (fun hg E w1 hm => by exact rowB_V hm.leV (hbc w1 _ (hm.rowOf 4 rfl (fun _ => rfl)))) ?_
              rintro z W3 hle3 hz
              obtain ⟨ba, bn, bc, rfl, hb3⟩ := hz rfl
              clear hz
              refine o_yield rfl rfl rfl (y_val tok rfl) ?_
              refine o_call (.a (.v _)) rfl rfl fnok29 rfl rfl rfl (fun hg E w1 hm => by exact same18_c W3 _ _ (scanB T) _ hm.leV hb3 (hwas2.mono hle3) (by omega)) ?_
              refine o_yield rfl rfl rfl (y_val tok rfl) ?_
              refine o_yield rfl rfl rfl (y_val tok rfl) ?_
              refine o_yield rfl rfl rfl (y_val tok rfl) ?_
              refine o_yield rfl rfl rfl (y_val tok rfl) ?_
              have hov : (decide ((K.length : Int) ≤ (k : Int)) != ((k : Int) == (K.length : Int))) = false := by
                rw [bne_eq_false_iff_eq, Bool.eq_iff_iff, decide_eq_true_eq, beq_iff_eq]; omega
              refine o_call (.a (.v _)) rfl rfl fnok26 rfl rfl rfl (fun hg E w1 hm => by exact over_c W3 _ K k _ hm.leV (hK2.mono hle3)) ?_
              refine o_yield rfl rfl rfl (y_val tok rfl) ?_
              refine o_yield rfl rfl rfl (y_val tok rfl) ?_
              refine o_yield rfl rfl rfl (y_val tok rfl) ?_
              refine o_yield rfl rfl rfl (y_val tok rfl) ?_
              refine o_yield rfl rfl rfl (y_val tok rfl) ?_
              refine o_end [1, 2, 5, 6, 15, 16, 17, 19, 20, 21, 197] rfl ?_
              refine x_then ?_
              refine c_cond rfl (fun h => ?_) (fun h => ?_)
              ·
                refine c_seq ?_
                refine c_region ?_
                refine o_yield rfl rfl rfl (y_val tok rfl) ?_
                refine o_end [12] rfl ?_
                refine x_then ?_
                refine c_ret ?_
                refine x_then_ret ?_
                refine x_block_ret ?_
                refine x_then_ret ?_
                refine x_then_ret ?_
                refine x_block_ret ?_
                refine x_then_ret ?_
                refine b_ret tok rfl ?_
                exfalso
                simp only [hov] at h
                simp at h
              ·
                clear h
                refine c_skip ?_
                refine x_then ?_
                refine c_seq ?_
                refine c_region ?_
                refine o_yield rfl rfl rfl (y_val tok rfl) ?_
                refine o_yield rfl rfl rfl (y_val tok rfl) ?_
                refine o_call (.a (.v _)) rfl rfl fnok31 rfl rfl rfl (fun hg E w1 hm => by exact chead_c W3 _ K k (tail + A.length) _ hm.leV (hK2.mono hle3)) ?_
                refine o_yield rfl rfl rfl (y_val tok rfl) ?_
                refine o_end [1, 2, 5, 6, 15, 16, 17, 19, 20] rfl ?_
                refine x_then ?_
                refine c_region ?_
                refine o_yield rfl rfl rfl (y_val tok rfl) ?_
                refine o_yield rfl rfl rfl (y_val tok rfl) ?_
                refine o_end [1, 2, 5, 6, 15, 16, 17, 18, 20] rfl ?_
                refine x_block ?_
                refine x_then ?_
                refine c_region ?_
                refine o_yield rfl rfl rfl (y_val tok rfl) ?_
                refine o_yield rfl rfl rfl (y_val tok rfl) ?_
                refine o_yield rfl rfl rfl (y_val tok rfl) ?_
                refine o_end [1, 2, 5, 6, 15, 16, 17, 18, 20] rfl ?_
                refine x_then ?_
                rw [wrapI (n := (i : Int) + 1) (by omega) (by omega)]
                refine x_round ((i + 1, D', A ++ K, IntKind.i64.wrap (tail + A.length + K.length), .slice na nn nc, W3)) (⟨by dsimp only; omega, hleW.trans (hleW1.trans (hle2.trans hle3)), fun h => by exfalso; dsimp only at h; omega⟩) (by first | omega | (dsimp only; omega)) (by repeat (first | exact SubF.nil | refine SubF.cons rfl ?_)) (by repeat (first | exact SubO.nil | refine SubO.cons rfl ?_)) rfl (Vw.le.refl _)
            ·
              simp only [Bool.and_eq_true, Bool.or_eq_true, Bool.not_eq_true', Bool.or_eq_false_iff, Bool.and_eq_false_iff, decide_eq_true_eq, decide_eq_false_iff_not, beq_iff_eq, bne_iff_ne, Bool.not_eq_false', beq_eq_false_iff_ne, bne_eq_false_iff_eq, ne_eq, Decidable.not_not, Int.not_lt, Int.not_le] at h
              have hTA : T = A ++ K := hT4 (by omega)
              have hkK : k = K.length := by omega
              rw [← hTA] at hnow
              clear h
              refine c_skip ?_
              refine x_then ?_
              refine c_seq ?_
              refine c_seq ?_
              refine c_region ?_
              refine o_yield rfl rfl rfl (y_val tok rfl) ?_
              refine o_yield rfl rfl rfl (y_val tok rfl) ?_
              refine o_yield rfl rfl rfl (y_val tok rfl) ?_
              refine o_yield rfl rfl rfl (y_val tok rfl) ?_
              refine o_callV (RowBV (scanB T)) rfl rfl fnok30 rfl rfl (fun hg E w1 hm => by exact rowB_V hm.leV (hbc w1 _ (hm.rowOf 4 rfl (fun _ => rfl)))) ?_
              rintro z W3 hle3 hz
              obtain ⟨ba, bn, bc, rfl, hb3⟩ := hz rfl
              clear hz
              refine o_yield rfl rfl rfl (y_val tok rfl) ?_
              refine o_call (.a (.v _)) rfl rfl fnok29 rfl rfl rfl (fun hg E w1 hm => by exact same18_c W3 _ _ (scanB T) _ hm.leV hb3 (hnow.mono hle3) (by omega)) ?_
              refine o_yield rfl rfl rfl (y_val tok rfl) ?_
              refine o_yield rfl rfl rfl (y_val tok rfl) ?_
              refine o_yield rfl rfl rfl (y_val tok rfl) ?_
              refine o_yield rfl rfl rfl (y_val tok rfl) ?_
              have hov : (decide ((K.length : Int) ≤ (k : Int)) != ((k : Int) == (K.length : Int))) = false := by
                rw [bne_eq_false_iff_eq, Bool.eq_iff_iff, decide_eq_true_eq, beq_iff_eq]; omega
              refine o_call (.a (.v _)) rfl rfl fnok26 rfl rfl rfl (fun hg E w1 hm => by exact over_c W3 _ K k _ hm.leV (hK2.mono hle3)) ?_
              refine o_yield rfl rfl rfl (y_val tok rfl) ?_
              refine o_yield rfl rfl rfl (y_val tok rfl) ?_
              refine o_yield rfl rfl rfl (y_val tok rfl) ?_
              refine o_yield rfl rfl rfl (y_val tok rfl) ?_
              refine o_yield rfl rfl rfl (y_val tok rfl) ?_
              refine o_end [1, 2, 5, 6, 15, 16, 17, 19, 20, 21, 197] rfl ?_
              refine x_then ?_
              refine c_cond rfl (fun h => ?_) (fun h => ?_)
              ·
                refine c_seq ?_
                refine c_region ?_
                refine o_yield rfl rfl rfl (y_val tok rfl) ?_
                refine o_end [12] rfl ?_
                refine x_then ?_
                refine c_ret ?_
                refine x_then_ret ?_
                refine x_block_ret ?_
                refine x_then_ret ?_
                refine x_then_ret ?_
                refine x_block_ret ?_
                refine x_then_ret ?_
                refine b_ret tok rfl ?_
                exfalso
                simp only [hov] at h
                simp at h
              ·
                clear h
                have hJ2 := hJ'
                rw [hkK, List.take_length] at hJ2
                rw [hTA] at hnow
                refine c_skip ?_
                refine x_then ?_
                refine c_seq ?_
                refine c_region ?_
                refine o_yield rfl rfl rfl (y_val tok rfl) ?_
                refine o_yield rfl rfl rfl (y_val tok rfl) ?_
                refine o_call (.a (.v _)) rfl rfl fnok31 rfl rfl rfl (fun hg E w1 hm => by exact chead_c W3 _ K k (tail + A.length) _ hm.leV (hK2.mono hle3)) ?_
                refine o_yield rfl rfl rfl (y_val tok rfl) ?_
                refine o_end [1, 2, 5, 6, 15, 16, 17, 19, 20] rfl ?_
                refine x_then ?_
                refine c_region ?_
                refine o_yield rfl rfl rfl (y_val tok rfl) ?_
                refine o_yield rfl rfl rfl (y_val tok rfl) ?_
                refine o_end [1, 2, 5, 6, 15, 16, 17, 18, 20] rfl ?_
                refine x_block ?_
                refine x_then ?_
                refine c_region ?_
                refine o_yield rfl rfl rfl (y_val tok rfl) ?_
                refine o_yield rfl rfl rfl (y_val tok rfl) ?_
                refine o_yield rfl rfl rfl (y_val tok rfl) ?_
                refine o_end [1, 2, 5, 6, 15, 16, 17, 18, 20] rfl ?_
                refine x_then ?_
                rw [wrapI (n := (i : Int) + 1) (by omega) (by omega)]
                refine x_round ((i + 1, D', A ++ K, IntKind.i64.wrap (tail + A.length + K.length), .slice na nn nc, W3)) (⟨by dsimp only; omega, hleW.trans (hleW1.trans (hle2.trans hle3)), fun h => ⟨hDl', by dsimp only; rw [wrapI (by omega) (by omega), List.length_append]; omega, hJ2, chain_app hch (chain_txn htx), ends_txn hen htx, hnow.mono hle3⟩⟩) (by first | omega | (dsimp only; omega)) (by repeat (first | exact SubF.nil | refine SubF.cons rfl ?_)) (by repeat (first | exact SubO.nil | refine SubO.cons rfl ?_)) rfl (Vw.le.refl _)
    ·
      simp only [Bool.and_eq_true, Bool.or_eq_true, Bool.not_eq_true', Bool.or_eq_false_iff, Bool.and_eq_false_iff, decide_eq_true_eq, decide_eq_false_iff_not, beq_iff_eq, bne_iff_ne, Bool.not_eq_false', beq_eq_false_iff_ne, bne_eq_false_iff_eq, ne_eq, Decidable.not_not, Int.not_lt, Int.not_le] at h
      refine c_exit ?_
      refine x_then_exit ?_
      refine x_then_exit ?_
      refine x_block_hit ?_
      refine x_then ?_
      refine c_seq ?_
      refine c_region ?_
      refine o_call (.a (.v _)) rfl rfl fnok17 rfl rfl rfl (fun hg E w1 hm => by exact wakes19_c _) ?_
      refine o_yield rfl rfl rfl (y_val tok rfl) ?_
      refine o_end [12] rfl ?_
      refine x_then ?_
      refine c_ret ?_
      refine b_ret tok rfl ?_
      intro E w' hm _
      refine ⟨?_, hm.below ((hle1.trans hleW))⟩
      rfl
end Go.Proofs.Ytflimioplnbopaa
