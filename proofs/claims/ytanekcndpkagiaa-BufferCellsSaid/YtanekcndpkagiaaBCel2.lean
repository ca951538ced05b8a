import Derived.Test.YtanekcndpkagiaaMIns
/- Cells stand apart and have the blocks' texts: the law. -/
set_option linter.unusedVariables false
set_option linter.unusedSimpArgs false
set_option maxRecDepth 100000
namespace Go.Proofs.Ytanekcndpkagiaa
open Go Go.Eng Go.RowKit

theorem dataV_eq {g : Geo} {n k : Int} (h : geoB g = true) (h1 : 0 ≤ n) (h2 : n < g.blocks) (h3 : 0 ≤ k) (h4 : k < g.per) : dataV g n k = dataAt g + n * g.per + k := by
  rw [dataV, if_pos ⟨h, h1, h2, h3, h4⟩]

theorem cell_up {g : Geo} {l : List Block} {per i : Nat} (hml : mayL g l = true) (hper : g.per = per) (hi : i < l.length * per) (h0 : 0 < i) : (cellAt g per l (i - 1)).sector < (cellAt g per l i).sector := by
  have hmay := hml
  rw [mayL, Bool.and_eq_true] at hmay
  have hf := geo_facts hmay.1
  have hat := mayF_at hmay.2
  have hp : 0 < per := by omega
  obtain ⟨q, r, hr, hiq⟩ : ∃ q r, r < per ∧ i = q * per + r := ⟨i / per, i % per, Nat.mod_lt _ hp, by rw [Nat.mul_comm]; exact (Nat.div_add_mod i per).symm⟩
  have hq : q < l.length := by
    rcases Nat.lt_or_ge q l.length with h | h
    · exact h
    · have : l.length * per ≤ q * per := Nat.mul_le_mul_right _ h
      omega
  obtain ⟨b, hb⟩ : ∃ b, l[q]? = some b := ⟨l[q]'hq, by simp [hq]⟩
  obtain ⟨hb1, hb2, _, hb4, _⟩ := hat q b hb
  have hi' := hiq
  rw [hiq, cellAt_eq g hb hr]
  cases r with
  | succ r' =>
    rw [show q * per + (r' + 1) - 1 = q * per + r' by omega, cellAt_eq g hb (by omega)]
    simp only
    rw [dataV_eq hmay.1 (by omega) hb2 (by omega) (by omega), dataV_eq hmay.1 (by omega) hb2 (by omega) (by omega)]
    omega
  | zero =>
    cases q with
    | zero => omega
    | succ q' =>
      obtain ⟨b', hb'⟩ : ∃ b', l[q']? = some b' := ⟨l[q']'(by omega), by simp [show q' < l.length by omega]⟩
      obtain ⟨_, hc2, _, hc4, _⟩ := hat q' b' hb'
      rw [if_neg (by omega), show q' + 1 - 1 = q' by omega, blkAt_eq hb'] at hb1
      rw [show (q' + 1) * per + 0 - 1 = q' * per + (per - 1) by rw [Nat.add_mul]; omega, cellAt_eq g hb' (by omega)]
      simp only
      rw [dataV_eq hmay.1 (by omega) hb2 (by omega) (by omega), dataV_eq hmay.1 (by omega) hc2 (by omega) (by omega)]
      have : (b'.n + 1) * g.per ≤ b.n * g.per := Int.mul_le_mul_of_nonneg_right (by omega) (by omega)
      rw [Int.add_mul] at this
      omega

theorem bcells_cV (V : Vw) (g : Geo) (ok : g.Ok) (sv : Value) (l : List Block) (w : World) (hV : V.le (vw w)) (hs0 : SlOf V Block.cells 2 sv l) (hn : l.length ≤ maxLen) :
    Calls Try.prog 30 #[g.val, sv] w fun e w' => ∃ x V', e = .returned x ∧ Below w.heap.size w w' ∧ Vext w.heap.size V V' w' ∧ ∃ a n c, x = .tuple #[.slice a n c, I (if mayL g l = true then 0 else 2)] ∧ SlOf V' Cell.cells 2 (.slice a n c) (if mayL g l = true then allCells g l else []) := by
  refine (bcells_c V g ok sv l w hV hs0 hn).mono ?_
  rintro e w' ⟨⟨h1, v, rfl, hrow⟩ | ⟨h1, rfl⟩, hb⟩
  · obtain ⟨V', hx, hsl⟩ := ownsRow_vext hV hb hrow
    obtain ⟨a, n, c, rfl⟩ := sl_shape hsl
    exact ⟨_, V', rfl, hb, hx, a, n, c, by rw [if_pos h1], by rw [if_pos h1]; exact ⟨hsl, fun _ => rfl⟩⟩
  · exact ⟨_, V, rfl, hb, Vext.same hV hb, none, 0, 0, by rw [h1]; rfl, by rw [h1]; exact slNil _ _ _ _ (fun _ => rfl)⟩

theorem catS_succ (t : ByteArray) (k : Nat) : catS (pieceL k t) ++ pieceAt t k = catS (pieceL (k + 1) t) := by
  apply ByteArray.ext
  rw [ByteArray.data_append, pieceL_succ]
  simp [catS, strOf, catL]

theorem bufferCells_law (w : World) {v0 v1 : Value} (R0 : ∃ g : Geo, v0 = g.val ∧ g.Ok) (R1 : ∃ l : List Block, SlOf (vw w) Block.cells 2 v1 l ∧ l.length ≤ maxLen ∧ ∀ a ∈ l, Block.Ok a) :
    Calls Try.prog 7 #[v0, v1] w fun e w' => e = .returned (.bool true) ∧ Below w.heap.size w w' := by
  obtain ⟨g, rfl, ok⟩ := R0
  obtain ⟨l, hs, hn, _⟩ := R1
  obtain ⟨a0, n0, c0, rfl⟩ := sl_shape hs.sl
  refine enter (E := E0) (O := []) (nl := 0) (V := vw w) [.a (.v g.val), .a (.v (.slice a0 n0 c0))] Try.func7 rfl rfl (mem0 E0 0 w) rfl rfl ?_
  refine c_seq ?_
  refine c_region ?_
  refine o_new tok rfl rfl rfl rfl ?_
  refine o_yield rfl rfl rfl (y_val tok rfl) ?_
  refine o_end [1, 2] rfl ?_
  refine x_then ?_
  refine c_seq ?_
  refine c_seq ?_
  refine c_region ?_
  refine o_yield rfl rfl rfl (y_val tok rfl) ?_
  refine o_call (.a (.v _)) rfl rfl fnok15 rfl rfl rfl (fun hg E w1 hm => by exact great_c _ _ l _ hm.leV hs hn) ?_
  refine o_end [1, 2, 12] rfl ?_
  refine x_then ?_
  refine c_cond rfl (fun h => ?_) (fun h => ?_)
  ·
    refine c_seq ?_
    refine c_region ?_
    refine o_call (.a (.v _)) rfl rfl fnok19 rfl rfl rfl (fun hg E w1 hm => by exact wakes18_c _) ?_
    refine o_yield rfl rfl rfl (y_val tok rfl) ?_
    refine o_end [4] rfl ?_
    refine x_then ?_
    refine c_ret ?_
    refine x_then_ret ?_
    refine b_ret tok rfl ?_
    intro E w' hm _
    refine ⟨?_, hm.below (Vw.le.refl _)⟩
    rfl
  ·
    refine c_skip ?_
    refine x_then ?_
    refine c_seq ?_
    refine c_region ?_
    refine o_yield rfl rfl rfl (y_val tok rfl) ?_
    refine o_yield rfl rfl rfl (y_val tok rfl) ?_
    have hgr := great_no h
    clear h
    refine o_callV (fun x V' => ∃ a n c, x = .tuple #[.slice a n c, I (if mayL g l = true then 0 else 2)] ∧ SlOf V' Cell.cells 2 (.slice a n c) (if mayL g l = true then allCells g l else [])) rfl rfl fnok30 rfl rfl (fun hg E w1 hm => by exact bcells_cV (vw w) g ok _ l _ hm.leV hs hn) ?_
    rintro x V1 hle1 hx
    obtain ⟨a1, n1, c1, rfl, hsc⟩ := hx rfl
    have hs1 := hs.mono hle1
    cases hml : mayL g l with
    | false =>
      rw [hml] at hsc
      simp only [Bool.false_eq_true, if_false] at hsc ⊢
      refine o_yield rfl rfl rfl (y_val tok rfl) ?_
      refine o_yield rfl rfl rfl (y_val tok rfl) ?_
      refine o_yield rfl rfl rfl (y_val tok rfl) ?_
      refine o_yield rfl rfl rfl (y_val tok rfl) ?_
      refine o_yield rfl rfl rfl (y_val tok rfl) ?_
      refine o_end [1, 2, 5, 6] rfl ?_
      refine x_then ?_
      refine c_seq ?_
      refine c_seq ?_
      refine c_region ?_
      refine o_yield rfl rfl rfl (y_val tok rfl) ?_
      refine o_yield rfl rfl rfl (y_val tok rfl) ?_
      refine o_end [1, 2, 5, 6, 21] rfl ?_
      refine x_then ?_
      refine c_cond rfl (fun h => ?_) (fun h => ?_)
      ·
        simp only [Bool.and_eq_true, Bool.or_eq_true, Bool.not_eq_true', Bool.or_eq_false_iff, Bool.and_eq_false_iff, decide_eq_true_eq, decide_eq_false_iff_not, beq_iff_eq, bne_iff_ne, Bool.not_eq_false', beq_eq_false_iff_ne, bne_eq_false_iff_eq, ne_eq, Decidable.not_not, Int.not_lt, Int.not_le] at h
        refine c_seq ?_
        refine c_region ?_
        refine o_yield rfl rfl rfl (y_val tok rfl) ?_
        refine o_yield rfl rfl rfl (y_val tok rfl) ?_
        refine o_yield rfl rfl rfl (y_val tok rfl) ?_
        refine o_yield rfl rfl rfl (y_val tok rfl) ?_
        refine o_yield rfl rfl rfl (y_len tok rfl (fun hg => hsc.sl)) ?_
        refine o_yield rfl rfl rfl (y_val tok rfl) ?_
        refine o_yield rfl rfl rfl (y_val tok rfl) ?_
        refine o_yield rfl rfl rfl (y_val tok rfl) ?_
        refine o_yield rfl rfl rfl (y_val tok rfl) ?_
        refine o_yield rfl rfl rfl (y_val tok rfl) ?_
        refine o_call (.a (.v _)) rfl rfl fnok20 rfl rfl rfl (fun hg E w1 hm => by exact refBMay_c (vw w1) g ok _ l _ (Vw.le.refl _) (hs1.mono hm.leV) hn) ?_
        refine o_yield rfl rfl rfl (y_val tok rfl) ?_
        refine o_yield rfl rfl rfl (y_val tok rfl) ?_
        refine o_yield rfl rfl rfl (y_val tok rfl) ?_
        refine o_call (.a (.v _)) rfl rfl fnok19 rfl rfl rfl (fun hg E w1 hm => by exact wakes18_c _) ?_
        refine o_yield rfl rfl rfl (y_val tok rfl) ?_
        refine o_yield rfl rfl rfl (y_val tok rfl) ?_
        refine o_end [4] rfl ?_
        refine x_then ?_
        refine c_ret ?_
        refine x_then_ret ?_
        refine b_ret tok rfl ?_
        intro E w' hm _
        refine ⟨?_, hm.below (hle1)⟩
        rw [hml]
        rfl
      ·
        simp only [Bool.and_eq_true, Bool.or_eq_true, Bool.not_eq_true', Bool.or_eq_false_iff, Bool.and_eq_false_iff, decide_eq_true_eq, decide_eq_false_iff_not, beq_iff_eq, bne_iff_ne, Bool.not_eq_false', beq_eq_false_iff_ne, bne_eq_false_iff_eq, ne_eq, Decidable.not_not, Int.not_lt, Int.not_le] at h
        exfalso
        simp at h
    | true =>
      rw [hml] at hsc
      simp only [if_true] at hsc ⊢
      have hmay := hml
      rw [mayL, Bool.and_eq_true] at hmay
      have hf := geo_facts hmay.1
      have hat := mayF_at hmay.2
      have hlen := mayL_len hml
      obtain ⟨per, hper⟩ : ∃ per : Nat, g.per = per := ⟨g.per.toNat, by omega⟩
      have hpn : g.per.toNat = per := by omega
      have hal : (allCells g l).length = l.length * per := by rw [allCells, cellsN_len, hpn]
      have hip : l.length * per ≤ 512 := by
        have : l.length * per ≤ 64 * per := Nat.mul_le_mul_right _ (by omega)
        omega
      have hmul : g.per * (l.length : Int) = ((l.length * per : Nat) : Int) := by rw [hper, Int.natCast_mul, Int.mul_comm]
      have hwm : IntKind.i64.wrap (g.per * (l.length : Int)) = ((l.length * per : Nat) : Int) := by rw [hmul, wrapI (by omega) (by omega)]
      have hcat : ∀ j, j < l.length * per → (allCells g l)[j]? = some (cellAt g per l j) := fun j hj => by rw [allCells, hpn]; exact cellsN_at hj
      refine o_yield rfl rfl rfl (y_val tok rfl) ?_
      refine o_yield rfl rfl rfl (y_val tok rfl) ?_
      refine o_yield rfl rfl rfl (y_val tok rfl) ?_
      refine o_yield rfl rfl rfl (y_val tok rfl) ?_
      refine o_yield rfl rfl rfl (y_val tok rfl) ?_
      refine o_end [1, 2, 5, 6] rfl ?_
      refine x_then ?_
      refine c_seq ?_
      refine c_seq ?_
      refine c_region ?_
      refine o_yield rfl rfl rfl (y_val tok rfl) ?_
      refine o_yield rfl rfl rfl (y_val tok rfl) ?_
      refine o_end [1, 2, 5, 6, 21] rfl ?_
      refine x_then ?_
      refine c_cond rfl (fun h => ?_) (fun h => ?_)
      ·
        simp only [Bool.and_eq_true, Bool.or_eq_true, Bool.not_eq_true', Bool.or_eq_false_iff, Bool.and_eq_false_iff, decide_eq_true_eq, decide_eq_false_iff_not, beq_iff_eq, bne_iff_ne, Bool.not_eq_false', beq_eq_false_iff_ne, bne_eq_false_iff_eq, ne_eq, Decidable.not_not, Int.not_lt, Int.not_le] at h
        exfalso
        simp at h
      ·
        simp only [Bool.and_eq_true, Bool.or_eq_true, Bool.not_eq_true', Bool.or_eq_false_iff, Bool.and_eq_false_iff, decide_eq_true_eq, decide_eq_false_iff_not, beq_iff_eq, bne_iff_ne, Bool.not_eq_false', beq_eq_false_iff_ne, bne_eq_false_iff_eq, ne_eq, Decidable.not_not, Int.not_lt, Int.not_le] at h
        refine c_skip ?_
        refine x_then ?_
        refine c_seq ?_
        refine c_seq ?_
        refine c_region ?_
        refine o_yield rfl rfl rfl (y_val tok rfl) ?_
        refine o_yield rfl rfl rfl (y_len tok rfl (fun hg => hsc.sl)) ?_
        refine o_yield rfl rfl rfl (y_val tok rfl) ?_
        refine o_yield rfl rfl rfl (y_val tok rfl) ?_
        refine o_yield rfl rfl rfl (y_val tok rfl) ?_
        refine o_yield rfl rfl rfl (y_len tok rfl (fun hg => hs1.sl)) ?_
        refine o_yield rfl rfl rfl (y_val tok rfl) ?_
        refine o_yield rfl rfl rfl (y_val tok rfl) ?_
        refine o_end [1, 2, 5, 45] rfl ?_
        refine x_then ?_
        refine c_cond rfl (fun h => ?_) (fun h => ?_)
        ·
          simp only [Bool.and_eq_true, Bool.or_eq_true, Bool.not_eq_true', Bool.or_eq_false_iff, Bool.and_eq_false_iff, decide_eq_true_eq, decide_eq_false_iff_not, beq_iff_eq, bne_iff_ne, Bool.not_eq_false', beq_eq_false_iff_ne, bne_eq_false_iff_eq, ne_eq, Decidable.not_not, Int.not_lt, Int.not_le] at h
          exfalso
          rw [hwm, hal] at h
          exact h rfl
        ·
          simp only [Bool.and_eq_true, Bool.or_eq_true, Bool.not_eq_true', Bool.or_eq_false_iff, Bool.and_eq_false_iff, decide_eq_true_eq, decide_eq_false_iff_not, beq_iff_eq, bne_iff_ne, Bool.not_eq_false', beq_eq_false_iff_ne, bne_eq_false_iff_eq, ne_eq, Decidable.not_not, Int.not_lt, Int.not_le] at h
          refine c_skip ?_
          refine x_then ?_
          refine c_seq ?_
          refine c_seq ?_
          refine c_region ?_
          refine o_yield rfl rfl rfl (y_val tok rfl) ?_
          refine o_end [1, 2, 5, 7] rfl ?_
          refine x_then ?_
          refine c_block ?_
          refine c_loopK [1, 2, 5] [0] rfl rfl (σ := Nat) (fun i => [(7, .a (.v (I i)))]) (fun i => [(0, .lit (g.cells.map .v) 29)]) (fun i => i ≤ l.length * per) (fun i => l.length * per - i) (0) (by omega) (by repeat (first | exact SubF.nil | refine SubF.cons rfl ?_)) (by repeat (first | exact SubO.nil | refine SubO.cons rfl ?_)) rfl ?_
          rintro i hi
          refine c_seq ?_
          refine c_seq ?_
          refine c_region ?_
          refine o_yield rfl rfl rfl (y_val tok rfl) ?_
          refine o_yield rfl rfl rfl (y_val tok rfl) ?_
          refine o_yield rfl rfl rfl (y_len tok rfl (fun hg => hsc.sl)) ?_
          refine o_yield rfl rfl rfl (y_val tok rfl) ?_
          refine o_end [1, 2, 5, 7, 49] rfl ?_
          refine x_then ?_
          refine c_cond rfl (fun h => ?_) (fun h => ?_)
          ·
            simp only [Bool.and_eq_true, Bool.or_eq_true, Bool.not_eq_true', Bool.or_eq_false_iff, Bool.and_eq_false_iff, decide_eq_true_eq, decide_eq_false_iff_not, beq_iff_eq, bne_iff_ne, Bool.not_eq_false', beq_eq_false_iff_ne, bne_eq_false_iff_eq, ne_eq, Decidable.not_not, Int.not_lt, Int.not_le] at h
            refine c_skip ?_
            refine x_then ?_
            refine c_seq ?_
            refine c_block ?_
            refine c_seq ?_
            refine c_draw mixed (by kernel_rfl) ?_
            refine d_yield rfl rfl rfl (y_val tok rfl) rfl ?_
            refine d_yield rfl rfl rfl (y_val tok rfl) rfl ?_
            rw [hal] at h
            have hilt : i < l.length * per := by omega
            have hc0 := hcat i hilt
            have hc1 := hcat (i - 1) (by omega)
            have hup : 0 < i → (cellAt g per l (i - 1)).sector < (cellAt g per l i).sector := cell_up hml hper hilt
            have hdl := Nat.div_le_self i per
            have hrl := Nat.mod_le i per
            have hql : i / per < l.length := Nat.div_lt_of_lt_mul (by rw [Nat.mul_comm]; exact hilt)
            have hce0 : cellAt g per l i = ⟨dataV g (blkAt l (i / per)).n ((i % per : Nat) : Int), pieceAt (blkAt l (i / per)).text (i % per)⟩ := rfl
            have hq0 : Int.tdiv (i : Int) g.per = ((i / per : Nat) : Int) := by rw [hper, Int.tdiv_eq_ediv_of_nonneg (Int.natCast_nonneg i), ← Int.natCast_ediv]
            have hr0 : Int.tmod (i : Int) g.per = ((i % per : Nat) : Int) := by rw [hper, Int.tmod_eq_emod_of_nonneg (Int.natCast_nonneg i), ← Int.natCast_emod]
            generalize hqd : i / per = q at *
            generalize hrd : i % per = r at *
            clear hqd hrd
            have hquo : IntKind.i64.wrap (Int.tdiv (i : Int) g.per) = (q : Int) := by rw [hq0, wrapI (by omega) (by omega)]
            obtain ⟨b, hb⟩ : ∃ b, l[q]? = some b := ⟨l[q]'hql, by simp [hql]⟩
            have hce : cellAt g per l i = ⟨dataV g b.n (r : Int), pieceAt b.text r⟩ := by rw [hce0, blkAt_eq hb]
            have hlt_cellAt_g_per_l_i := lt_of_at hc0
            refine d_yield rfl rfl rfl (y_idx tok rfl (fun hg => hsc.sl) (fun hg => ⟨by omega, by omega⟩)) rfl ?_
            refine d_yield rfl rfl rfl (y_fel tok rfl (fun hg => hsc.sl) (fun hg => by omega)) rfl ?_
            refine d_yield rfl rfl rfl (y_lel tok (i) 0 (cellAt g per l i) rfl (fun hg => hsc) (fun hg => hc0) rfl rfl) rfl ?_
            refine d_yield rfl rfl rfl (y_val tok rfl) rfl ?_
            refine d_yield rfl rfl rfl (y_val tok rfl) rfl ?_
            refine d_yield rfl rfl rfl (y_val tok rfl) rfl ?_
            refine d_yield rfl rfl rfl (y_val tok rfl) rfl ?_
            refine d_yield rfl rfl rfl (y_val tok rfl) rfl ?_
            refine d_yield rfl rfl rfl (y_quo rfl (fun hg => by omega)) rfl ?_
            rw [hquo]
            have hlt_b := lt_of_at hb
            refine d_yield rfl rfl rfl (y_idx tok rfl (fun hg => hs1.sl) (fun hg => ⟨by omega, by omega⟩)) rfl ?_
            refine d_yield rfl rfl rfl (y_fel tok rfl (fun hg => hs1.sl) (fun hg => by omega)) rfl ?_
            refine d_yield rfl rfl rfl (y_lel tok (q) 0 (b) rfl (fun hg => hs1) (fun hg => hb) rfl rfl) rfl ?_
            refine d_yield rfl rfl rfl (y_val tok rfl) rfl ?_
            refine d_yield rfl rfl rfl (y_val tok rfl) rfl ?_
            refine d_yield rfl rfl rfl (y_val tok rfl) rfl ?_
            refine d_yield rfl rfl rfl (y_rem rfl (fun hg => by omega)) rfl ?_
            rw [hr0]
            refine d_call (.a (.v _)) rfl rfl fnok31 rfl rfl rfl (fun hg E w1 hm => by exact refData_c g ok b.n _ _) ?_
            refine d_yield rfl rfl rfl (y_val tok rfl) rfl ?_
            refine d_yield rfl rfl rfl (y_val tok rfl) rfl ?_
            refine d_yield rfl rfl rfl (y_val tok rfl) rfl ?_
            refine d_yield rfl rfl rfl (y_val tok rfl) rfl ?_
            refine d_yield rfl rfl rfl (y_val tok rfl) rfl ?_
            refine d_yield rfl rfl rfl (y_val tok rfl) rfl ?_
            refine d_yield rfl rfl rfl (y_val tok rfl) rfl ?_
            have hlt_cellAt_g_per_l_i := lt_of_at hc0
            refine d_yield rfl rfl rfl (y_idx tok rfl (fun hg => hsc.sl) (fun hg => ⟨by omega, by omega⟩)) rfl ?_
            refine d_yield rfl rfl rfl (y_fel tok rfl (fun hg => hsc.sl) (fun hg => by omega)) rfl ?_
            refine d_yield rfl rfl rfl (y_lel tok (i) 0 (cellAt g per l i) rfl (fun hg => hsc) (fun hg => hc0) rfl rfl) rfl ?_
            refine d_yield rfl rfl rfl (y_val tok rfl) rfl ?_
            refine d_yield rfl rfl rfl (y_val tok rfl) rfl ?_
            refine d_yield rfl rfl rfl (y_val tok rfl) rfl ?_
            refine d_yield rfl rfl rfl (y_idxK tok ((i - 1) * 2) rfl (by rw [wrapI (by omega) (by omega)]; dsimp only; omega) (fun hg => hsc.sl) (fun hg => by simp at hg; rw [wrapI (by omega) (by omega)]; omega)) rfl ?_
            refine d_yield rfl rfl rfl (y_fel tok rfl (fun hg => hsc.sl) (fun hg => by omega)) rfl ?_
            refine d_yield rfl rfl rfl (y_lel tok (i - 1) 0 (cellAt g per l (i - 1)) rfl (fun hg => hsc) (fun hg => hc1) rfl rfl) rfl ?_
            refine d_yield rfl rfl rfl (y_val tok rfl) rfl ?_
            refine d_yield rfl rfl rfl (y_val tok rfl) rfl ?_
            refine d_yield rfl rfl rfl (y_val tok rfl) rfl ?_
            refine d_yield rfl rfl rfl (y_val tok rfl) rfl ?_
            refine d_yield rfl rfl rfl (y_val tok rfl) rfl ?_
            refine d_yield rfl rfl rfl (y_val tok rfl) rfl ?_
            have hlt_cellAt_g_per_l_i := lt_of_at hc0
            refine d_yield rfl rfl rfl (y_idx tok rfl (fun hg => hsc.sl) (fun hg => ⟨by omega, by omega⟩)) rfl ?_
            refine d_yield rfl rfl rfl (y_fel tok rfl (fun hg => hsc.sl) (fun hg => by omega)) rfl ?_
            refine d_yield rfl rfl rfl (y_lel tok (i) 1 (cellAt g per l i) rfl (fun hg => hsc) (fun hg => hc0) rfl rfl) rfl ?_
            refine d_yield rfl rfl rfl (y_val tok rfl) rfl ?_
            refine d_yield rfl rfl rfl (y_val tok rfl) rfl ?_
            refine d_yield rfl rfl rfl (y_val tok rfl) rfl ?_
            refine d_end [1, 2, 5, 7, 98] rfl ?_
            refine x_then ?_
            refine c_cond rfl (fun h => ?_) (fun h => ?_)
            ·
              simp only [Bool.and_eq_true, Bool.or_eq_true, Bool.not_eq_true', Bool.or_eq_false_iff, Bool.and_eq_false_iff, decide_eq_true_eq, decide_eq_false_iff_not, beq_iff_eq, bne_iff_ne, Bool.not_eq_false', beq_eq_false_iff_ne, bne_eq_false_iff_eq, ne_eq, Decidable.not_not, Int.not_lt, Int.not_le] at h
              exfalso
              have hps := piece_size b.text r
              rcases h with (h | h) | h
              · rw [hce] at h; exact h rfl
              · have := hup (by omega); omega
              · rw [hce] at h; simp only at h; omega
            ·
              simp only [Bool.and_eq_true, Bool.or_eq_true, Bool.not_eq_true', Bool.or_eq_false_iff, Bool.and_eq_false_iff, decide_eq_true_eq, decide_eq_false_iff_not, beq_iff_eq, bne_iff_ne, Bool.not_eq_false', beq_eq_false_iff_ne, bne_eq_false_iff_eq, ne_eq, Decidable.not_not, Int.not_lt, Int.not_le] at h
              refine c_skip ?_
              refine x_block ?_
              refine x_then ?_
              refine c_region ?_
              refine o_yield rfl rfl rfl (y_val tok rfl) ?_
              refine o_yield rfl rfl rfl (y_val tok rfl) ?_
              refine o_yield rfl rfl rfl (y_val tok rfl) ?_
              refine o_end [1, 2, 5, 7] rfl ?_
              refine x_then ?_
              rw [wrapI (n := (i : Int) + 1) (by omega) (by omega)]
              refine x_round (i + 1) (by omega) (by first | omega | (dsimp only; omega)) (by repeat (first | exact SubF.nil | refine SubF.cons rfl ?_)) (by repeat (first | exact SubO.nil | refine SubO.cons rfl ?_)) rfl (Vw.le.refl _)
          ·
            simp only [Bool.and_eq_true, Bool.or_eq_true, Bool.not_eq_true', Bool.or_eq_false_iff, Bool.and_eq_false_iff, decide_eq_true_eq, decide_eq_false_iff_not, beq_iff_eq, bne_iff_ne, Bool.not_eq_false', beq_eq_false_iff_ne, bne_eq_false_iff_eq, ne_eq, Decidable.not_not, Int.not_lt, Int.not_le] at h
            refine c_exit ?_
            refine x_then_exit ?_
            refine x_then_exit ?_
            refine x_block_hit ?_
            refine x_then ?_
            refine c_seq ?_
            refine c_seq ?_
            refine c_region ?_
            refine o_yield rfl rfl rfl (y_val tok rfl) ?_
            refine o_end [1, 2, 5, 8] rfl ?_
            refine x_then ?_
            refine c_block ?_
            refine c_loopK [1, 2, 5] [0] rfl rfl (σ := Nat) (fun j => [(8, .a (.v (I j)))]) (fun j => [(0, .lit (g.cells.map .v) 29)]) (fun j => j ≤ l.length) (fun j => l.length - j) (0) (by omega) (by repeat (first | exact SubF.nil | refine SubF.cons rfl ?_)) (by repeat (first | exact SubO.nil | refine SubO.cons rfl ?_)) rfl ?_
            rintro j hj
            refine c_seq ?_
            refine c_seq ?_
            refine c_region ?_
            refine o_yield rfl rfl rfl (y_val tok rfl) ?_
            refine o_yield rfl rfl rfl (y_val tok rfl) ?_
            refine o_yield rfl rfl rfl (y_len tok rfl (fun hg => hs1.sl)) ?_
            refine o_yield rfl rfl rfl (y_val tok rfl) ?_
            refine o_end [1, 2, 5, 8, 102] rfl ?_
            refine x_then ?_
            refine c_cond rfl (fun h => ?_) (fun h => ?_)
            ·
              simp only [Bool.and_eq_true, Bool.or_eq_true, Bool.not_eq_true', Bool.or_eq_false_iff, Bool.and_eq_false_iff, decide_eq_true_eq, decide_eq_false_iff_not, beq_iff_eq, bne_iff_ne, Bool.not_eq_false', beq_eq_false_iff_ne, bne_eq_false_iff_eq, ne_eq, Decidable.not_not, Int.not_lt, Int.not_le] at h
              refine c_skip ?_
              refine x_then ?_
              refine c_seq ?_
              refine c_block ?_
              refine c_seq ?_
              refine c_region ?_
              refine o_yield rfl rfl rfl (y_val tok rfl) ?_
              refine o_end [1, 2, 5, 8, 9] rfl ?_
              refine x_then ?_
              refine c_seq ?_
              refine c_seq ?_
              refine c_region ?_
              refine o_yield rfl rfl rfl (y_val tok rfl) ?_
              refine o_end [1, 2, 5, 8, 9, 10] rfl ?_
              refine x_then ?_
              refine c_block ?_
              obtain ⟨x, h_x⟩ := hs1.at (k := j) (by omega)
              obtain ⟨_, _, hx3, _, _⟩ := hat j x h_x
              have e0c : catS (pieceL 0 x.text) = ⟨#[]⟩ := rfl
              refine c_loopK [1, 2, 5, 8] [0] rfl rfl (σ := Nat) (fun k => [(9, .a (.v (S (catS (pieceL k x.text))))), (10, .a (.v (I k)))]) (fun k => [(0, .lit (g.cells.map .v) 29)]) (fun k => k ≤ per) (fun k => per - k) (0) (by omega) (by repeat (first | exact SubF.nil | refine SubF.cons rfl ?_ | refine SubF.cons (by simp only [e0c]; first | done | rfl) ?_)) (by repeat (first | exact SubO.nil | refine SubO.cons rfl ?_ | refine SubO.cons (by simp only [e0c]; first | done | rfl) ?_)) rfl ?_
              rintro k hk
              refine c_seq ?_
              refine c_seq ?_
              refine c_region ?_
              refine o_yield rfl rfl rfl (y_val tok rfl) ?_
              refine o_yield rfl rfl rfl (y_val tok rfl) ?_
              refine o_yield rfl rfl rfl (y_val tok rfl) ?_
              refine o_yield rfl rfl rfl (y_val tok rfl) ?_
              refine o_end [1, 2, 5, 8, 9, 10, 108] rfl ?_
              refine x_then ?_
              refine c_cond rfl (fun h => ?_) (fun h => ?_)
              ·
                simp only [Bool.and_eq_true, Bool.or_eq_true, Bool.not_eq_true', Bool.or_eq_false_iff, Bool.and_eq_false_iff, decide_eq_true_eq, decide_eq_false_iff_not, beq_iff_eq, bne_iff_ne, Bool.not_eq_false', beq_eq_false_iff_ne, bne_eq_false_iff_eq, ne_eq, Decidable.not_not, Int.not_lt, Int.not_le] at h
                refine c_skip ?_
                refine x_then ?_
                refine c_seq ?_
                refine c_block ?_
                refine c_region ?_
                refine o_yield rfl rfl rfl (y_val tok rfl) ?_
                refine o_yield rfl rfl rfl (y_val tok rfl) ?_
                refine o_yield rfl rfl rfl (y_val tok rfl) ?_
                refine o_yield rfl rfl rfl (y_val tok rfl) ?_
                refine o_yield rfl rfl rfl (y_val tok rfl) ?_
                refine o_yield rfl rfl rfl (y_val tok rfl) ?_
                refine o_yield rfl rfl rfl (y_val tok rfl) ?_
                refine o_yield rfl rfl rfl (y_val tok rfl) ?_
                have hklt : k < per := by omega
                have hjk : j * per + k < l.length * per := by
                  have : (j + 1) * per ≤ l.length * per := Nat.mul_le_mul_right _ (by omega)
                  rw [Nat.add_mul] at this
                  omega
                have hw2 : IntKind.i64.wrap (IntKind.i64.wrap ((j : Int) * g.per) + (k : Int)) = ((j * per + k : Nat) : Int) := by
                  rw [hper, ← Int.natCast_mul, wrapI (n := ((j * per : Nat) : Int)) (by omega) (by omega), wrapI (by omega) (by omega)]; omega
                have hcj := hcat _ hjk
                have hca : (cellAt g per l (j * per + k)).b = pieceAt x.text k := by rw [cellAt_eq g h_x hklt]
                have hs1z : (catS (pieceL k x.text)).size ≤ 2048 := by rw [catS_size, catL_pieces, List.length_take, size_list]; omega
                have hps := piece_size x.text k
                rw [hw2]
                have hlt_cellAt_g_per_l__j___per___k_ := lt_of_at hcj
                refine o_yield rfl rfl rfl (y_idx tok rfl (fun hg => hsc.sl) (fun hg => ⟨by omega, by omega⟩)) ?_
                refine o_yield rfl rfl rfl (y_fel tok rfl (fun hg => hsc.sl) (fun hg => by omega)) ?_
                refine o_yield rfl rfl rfl (y_lel tok (j * per + k) 1 (cellAt g per l (j * per + k)) rfl (fun hg => hsc) (fun hg => hcj) rfl rfl) ?_
                rw [hca]
                refine o_yield rfl rfl rfl (y_cat rfl (fun hg => by omega)) ?_
                refine o_yield rfl rfl rfl (y_val tok rfl) ?_
                refine o_end [1, 2, 5, 8, 9, 10] rfl ?_
                refine x_block ?_
                refine x_then ?_
                refine c_region ?_
                refine o_yield rfl rfl rfl (y_val tok rfl) ?_
                refine o_yield rfl rfl rfl (y_val tok rfl) ?_
                refine o_yield rfl rfl rfl (y_val tok rfl) ?_
                refine o_end [1, 2, 5, 8, 9, 10] rfl ?_
                refine x_then ?_
                rw [catS_succ, wrapI (n := (k : Int) + 1) (by omega) (by omega)]
                refine x_round (k + 1) (by omega) (by first | omega | (dsimp only; omega)) (by repeat (first | exact SubF.nil | refine SubF.cons rfl ?_)) (by repeat (first | exact SubO.nil | refine SubO.cons rfl ?_)) rfl (Vw.le.refl _)
              ·
                simp only [Bool.and_eq_true, Bool.or_eq_true, Bool.not_eq_true', Bool.or_eq_false_iff, Bool.and_eq_false_iff, decide_eq_true_eq, decide_eq_false_iff_not, beq_iff_eq, bne_iff_ne, Bool.not_eq_false', beq_eq_false_iff_ne, bne_eq_false_iff_eq, ne_eq, Decidable.not_not, Int.not_lt, Int.not_le] at h
                refine c_exit ?_
                refine x_then_exit ?_
                refine x_then_exit ?_
                refine x_block_hit ?_
                refine x_then ?_
                refine c_seq ?_
                refine c_region ?_
                refine o_yield rfl rfl rfl (y_val tok rfl) ?_
                refine o_yield rfl rfl rfl (y_val tok rfl) ?_
                refine o_yield rfl rfl rfl (y_val tok rfl) ?_
                have hkp : k = per := by omega
                subst hkp
                have hcs : catS (pieceL k x.text) = x.text := catS_pieces (by omega)
                rw [hcs]
                have hlt_x := lt_of_at h_x
                refine o_yield rfl rfl rfl (y_idx tok rfl (fun hg => hs1.sl) (fun hg => ⟨by omega, by omega⟩)) ?_
                refine o_yield rfl rfl rfl (y_fel tok rfl (fun hg => hs1.sl) (fun hg => by omega)) ?_
                refine o_yield rfl rfl rfl (y_lel tok (j) 1 (x) rfl (fun hg => hs1) (fun hg => h_x) rfl rfl) ?_
                refine o_yield rfl rfl rfl (y_val tok rfl) ?_
                refine o_end [1, 2, 5, 8, 129] rfl ?_
                refine x_then ?_
                refine c_cond rfl (fun h => ?_) (fun h => ?_)
                ·
                  simp only [Bool.and_eq_true, Bool.or_eq_true, Bool.not_eq_true', Bool.or_eq_false_iff, Bool.and_eq_false_iff, decide_eq_true_eq, decide_eq_false_iff_not, beq_iff_eq, bne_iff_ne, Bool.not_eq_false', beq_eq_false_iff_ne, bne_eq_false_iff_eq, ne_eq, Decidable.not_not, Int.not_lt, Int.not_le] at h
                  exfalso
                  simp at h
                ·
                  simp only [Bool.and_eq_true, Bool.or_eq_true, Bool.not_eq_true', Bool.or_eq_false_iff, Bool.and_eq_false_iff, decide_eq_true_eq, decide_eq_false_iff_not, beq_iff_eq, bne_iff_ne, Bool.not_eq_false', beq_eq_false_iff_ne, bne_eq_false_iff_eq, ne_eq, Decidable.not_not, Int.not_lt, Int.not_le] at h
                  refine c_skip ?_
                  refine x_block ?_
                  refine x_then ?_
                  refine c_region ?_
                  refine o_yield rfl rfl rfl (y_val tok rfl) ?_
                  refine o_yield rfl rfl rfl (y_val tok rfl) ?_
                  refine o_yield rfl rfl rfl (y_val tok rfl) ?_
                  refine o_end [1, 2, 5, 8] rfl ?_
                  refine x_then ?_
                  rw [wrapI (n := (j : Int) + 1) (by omega) (by omega)]
                  refine x_round (j + 1) (by omega) (by first | omega | (dsimp only; omega)) (by repeat (first | exact SubF.nil | refine SubF.cons rfl ?_)) (by repeat (first | exact SubO.nil | refine SubO.cons rfl ?_)) rfl (Vw.le.refl _)
            ·
              simp only [Bool.and_eq_true, Bool.or_eq_true, Bool.not_eq_true', Bool.or_eq_false_iff, Bool.and_eq_false_iff, decide_eq_true_eq, decide_eq_false_iff_not, beq_iff_eq, bne_iff_ne, Bool.not_eq_false', beq_eq_false_iff_ne, bne_eq_false_iff_eq, ne_eq, Decidable.not_not, Int.not_lt, Int.not_le] at h
              refine c_exit ?_
              refine x_then_exit ?_
              refine x_then_exit ?_
              refine x_block_hit ?_
              refine x_then ?_
              refine c_seq ?_
              refine c_region ?_
              refine o_call (.a (.v _)) rfl rfl fnok19 rfl rfl rfl (fun hg E w1 hm => by exact wakes18_c _) ?_
              refine o_yield rfl rfl rfl (y_val tok rfl) ?_
              refine o_end [4] rfl ?_
              refine x_then ?_
              refine c_ret ?_
              refine b_ret tok rfl ?_
              intro E w' hm _
              refine ⟨?_, hm.below (hle1)⟩
              rfl
end Go.Proofs.Ytanekcndpkagiaa
