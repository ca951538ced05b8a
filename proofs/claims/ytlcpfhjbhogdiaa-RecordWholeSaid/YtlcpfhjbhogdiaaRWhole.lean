/- The law RecordWhole from what comes in. -/
import Derived.Test.YtlcpfhjbhogdiaaWhl
set_option linter.unusedVariables false
set_option linter.unusedSimpArgs false
set_option maxRecDepth 100000
namespace Go.Proofs.Ytlcpfhjbhogdiaa
open Go Go.Eng Go.RowKit

theorem recordWhole_law (w : World) {v0 v1 v2 : Value} (R0 : ∃ g : Geo, v0 = g.val ∧ g.Ok) (R1 : ∃ l : List (Sl Block), SlOf (vw w) Sl.enc 1 v1 l ∧ l.length ≤ maxLen ∧ ∀ a ∈ l, SlGood (vw w) Block.cells 2 (fun a => a.Ok) a)
    (R2 : ∃ n : Int, v2 = I n ∧ R64 n) : Calls Try.prog 3 #[v0, v1, v2] w fun e w' => e = .returned (.bool true) ∧ Below w.heap.size w w' := by
  obtain ⟨g, rfl, ok⟩ := R0
  obtain ⟨rows, hr, _, hrall⟩ := R1
  obtain ⟨cut, rfl, hcut⟩ := R2
  refine enter (E := E0) (O := []) (nl := 0) (V := vw w) [.a (.v g.val), .a (.v v1), .a (.v (I cut))] Try.func3 rfl rfl (mem0 E0 0 w) rfl rfl ?_
  refine c_seq ?_
  refine c_region ?_
  refine o_new tok rfl rfl rfl rfl ?_
  refine o_yield rfl rfl rfl (y_val tok rfl) ?_
  refine o_end [1, 2, 3] rfl ?_
  refine x_then ?_
  refine c_seq ?_
  refine c_seq ?_
  refine c_region ?_
  refine o_yield rfl rfl rfl (y_val tok rfl) ?_
  refine o_yield rfl rfl rfl (y_len tok rfl (fun hg => hr.sl)) ?_
  refine o_yield rfl rfl rfl (y_val tok rfl) ?_
  refine o_yield rfl rfl rfl (y_val tok rfl) ?_
  refine o_yield rfl rfl rfl (y_val tok rfl) ?_
  refine o_call (.a (.v _)) rfl rfl fnok15 rfl rfl rfl (fun hg E w1 hm => by exact refMay_c g ok _) ?_
  refine o_yield rfl rfl rfl (y_val tok rfl) ?_
  refine o_yield rfl rfl rfl (y_val tok rfl) ?_
  refine o_end [1, 2, 3, 21] rfl ?_
  refine x_then ?_
  refine c_cond rfl (fun h => ?_) (fun h => ?_)
  ·
    simp only [Bool.and_eq_true, Bool.or_eq_true, Bool.not_eq_true', Bool.or_eq_false_iff, Bool.and_eq_false_iff, decide_eq_true_eq, decide_eq_false_iff_not, beq_iff_eq, bne_iff_ne, Bool.not_eq_false', beq_eq_false_iff_ne, bne_eq_false_iff_eq, ne_eq, Decidable.not_not, Int.not_lt, Int.not_le] at h
    refine c_seq ?_
    refine c_region ?_
    refine o_call (.a (.v _)) rfl rfl fnok16 rfl rfl rfl (fun hg E w1 hm => by exact wakes16_c _) ?_
    refine o_yield rfl rfl rfl (y_val tok rfl) ?_
    refine o_end [6] rfl ?_
    refine x_then ?_
    refine c_ret ?_
    refine x_then_ret ?_
    refine b_ret tok rfl ?_
    intro E w' hm _
    refine ⟨?_, hm.below (Vw.le.refl _)⟩
    rfl
  ·
    simp only [Bool.and_eq_true, Bool.or_eq_true, Bool.not_eq_true', Bool.or_eq_false_iff, Bool.and_eq_false_iff, decide_eq_true_eq, decide_eq_false_iff_not, beq_iff_eq, bne_iff_ne, Bool.not_eq_false', beq_eq_false_iff_ne, bne_eq_false_iff_eq, ne_eq, Decidable.not_not, Int.not_lt, Int.not_le] at h
    refine c_skip ?_
    refine x_then ?_
    refine c_seq ?_
    refine c_region ?_
    refine o_yield rfl rfl rfl (y_val tok rfl) ?_
    refine o_end [1, 2, 3, 7] rfl ?_
    refine x_then ?_
    refine c_seq ?_
    refine c_region ?_
    refine o_yield rfl rfl rfl (y_val tok rfl) ?_
    refine o_end [1, 2, 3, 7, 8] rfl ?_
    refine x_then ?_
    refine c_seq ?_
    refine c_seq ?_
    refine c_region ?_
    refine o_yield rfl rfl rfl (y_val tok rfl) ?_
    refine o_end [1, 2, 3, 7, 8, 9] rfl ?_
    refine x_then ?_
    refine c_block ?_
    obtain ⟨hrl, hgeo⟩ := h
    have hgeo' := hgeo
    simp only [geoB, decide_eq_true_eq] at hgeo'
    obtain ⟨per, hper⟩ : ∃ per : Nat, g.per = per := ⟨g.per.toNat, by omega⟩
    have hpn : g.per.toNat = per := by omega
    refine k_nil 7 37 6 rfl rfl ?_
    refine c_loopK [1, 2, 3] [1] rfl rfl (σ := Nat × List Record × List Record) (fun (i, B, t) => [(7, .a (.row 1)), (8, .a (.v (I B.length))), (9, .a (.v (I i)))]) (fun (i, B, t) => [(1, .row 37 6 (B ++ t).length ((B ++ t).flatMap Record.cells))]) (fun (i, B, t) => WInv rows.length i B t) (fun (i, B, t) => rows.length - i) ((0, [], [])) (⟨by omega, chain_nil, .inl ⟨rfl, rfl⟩, by simp⟩) (by repeat (first | exact SubF.nil | refine SubF.cons rfl ?_)) (by repeat (first | exact SubO.nil | refine SubO.cons rfl ?_)) rfl ?_
    rintro ⟨i, B, t⟩ hI
    have hI1 := hI.le
    have hI2 := hI.len
    refine c_seq ?_
    refine c_seq ?_
    refine c_region ?_
    refine o_yield rfl rfl rfl (y_val tok rfl) ?_
    refine o_yield rfl rfl rfl (y_val tok rfl) ?_
    refine o_yield rfl rfl rfl (y_len tok rfl (fun hg => hr.sl)) ?_
    refine o_yield rfl rfl rfl (y_val tok rfl) ?_
    refine o_end [1, 2, 3, 7, 8, 9, 26] rfl ?_
    refine x_then ?_
    refine c_cond rfl (fun h => ?_) (fun h => ?_)
    ·
      simp only [Bool.and_eq_true, Bool.or_eq_true, Bool.not_eq_true', Bool.or_eq_false_iff, Bool.and_eq_false_iff, decide_eq_true_eq, decide_eq_false_iff_not, beq_iff_eq, bne_iff_ne, Bool.not_eq_false', beq_eq_false_iff_ne, bne_eq_false_iff_eq, ne_eq, Decidable.not_not, Int.not_lt, Int.not_le] at h
      refine c_skip ?_
      refine x_then ?_
      refine c_seq ?_
      refine c_block ?_
      refine c_seq ?_
      refine c_seq ?_
      refine c_region ?_
      refine o_yield rfl rfl rfl (y_val tok rfl) ?_
      refine o_yield rfl rfl rfl (y_val tok rfl) ?_
      obtain ⟨r, h_r⟩ := hr.at (k := i) (by omega)
      have hlt_r := lt_of_at h_r
      refine o_yield rfl rfl rfl (y_idx tok rfl (fun hg => hr.sl) (fun hg => ⟨by omega, by omega⟩)) ?_
      refine o_yield rfl rfl rfl (y_lel tok (i) 0 (r) rfl (fun hg => hr) (fun hg => h_r) rfl rfl) ?_
      have hgd := hrall r (List.mem_of_getElem? h_r)
      refine o_call (.a (.v _)) rfl rfl fnok17 rfl rfl rfl (fun hg E w1 hm => by exact great_c (vw w) _ r.l _ hm.leV hgd.sl hgd.max) ?_
      refine o_yield rfl rfl rfl (y_val tok rfl) ?_
      refine o_yield rfl rfl rfl (y_val tok rfl) ?_
      refine o_yield rfl rfl rfl (y_val tok rfl) ?_
      have hlt_r := lt_of_at h_r
      refine o_yield rfl rfl rfl (y_idx tok rfl (fun hg => hr.sl) (fun hg => ⟨by omega, by omega⟩)) ?_
      refine o_yield rfl rfl rfl (y_lel tok (i) 0 (r) rfl (fun hg => hr) (fun hg => h_r) rfl rfl) ?_
      refine o_yield rfl rfl rfl (y_len tok rfl (fun hg => hgd.sl.sl)) ?_
      refine o_yield rfl rfl rfl (y_val tok rfl) ?_
      refine o_yield rfl rfl rfl (y_val tok rfl) ?_
      refine o_end [1, 2, 3, 7, 9, 41] rfl ?_
      refine x_then ?_
      refine c_cond rfl (fun h => ?_) (fun h => ?_)
      ·
        simp only [Bool.and_eq_true, Bool.or_eq_true, Bool.not_eq_true', Bool.or_eq_false_iff, Bool.and_eq_false_iff, decide_eq_true_eq, decide_eq_false_iff_not, beq_iff_eq, bne_iff_ne, Bool.not_eq_false', beq_eq_false_iff_ne, bne_eq_false_iff_eq, ne_eq, Decidable.not_not, Int.not_lt, Int.not_le] at h
        refine c_seq ?_
        refine c_region ?_
        refine o_call (.a (.v _)) rfl rfl fnok16 rfl rfl rfl (fun hg E w1 hm => by exact wakes16_c _) ?_
        refine o_yield rfl rfl rfl (y_val tok rfl) ?_
        refine o_end [6] rfl ?_
        refine x_then ?_
        refine c_ret ?_
        refine x_then_ret ?_
        refine x_block_ret ?_
        refine x_then_ret ?_
        refine x_then_ret ?_
        refine x_block_ret ?_
        refine x_then_ret ?_
        refine b_ret tok rfl ?_
        intro E w' hm _
        refine ⟨?_, hm.below (Vw.le.refl _)⟩
        rfl
      ·
        simp only [Bool.and_eq_true, Bool.or_eq_true, Bool.not_eq_true', Bool.or_eq_false_iff, Bool.and_eq_false_iff, decide_eq_true_eq, decide_eq_false_iff_not, beq_iff_eq, bne_iff_ne, Bool.not_eq_false', beq_eq_false_iff_ne, bne_eq_false_iff_eq, ne_eq, Decidable.not_not, Int.not_lt, Int.not_le] at h
        refine c_skip ?_
        refine x_then ?_
        refine c_seq ?_
        refine c_heldR mixed rfl (by repeat (first | exact SubO.nil | refine SubO.cons rfl ?_)) rfl ?_
        refine t_take 0 rfl (by kernel_rfl) rfl rfl rfl (y_val tok rfl) rfl ?_
        refine t_take 1 rfl (by kernel_rfl) rfl rfl rfl (y_val tok rfl) rfl ?_
        obtain ⟨hgr, hl8⟩ := h
        have hlim : r.l.length ≤ lim := by unfold lim; omega
        refine t_take 2 rfl (by kernel_rfl) rfl rfl rfl (y_val tok rfl) rfl ?_
        refine t_take 3 rfl (by kernel_rfl) rfl rfl rfl (y_val tok rfl) rfl ?_
        refine t_take 4 rfl (by kernel_rfl) rfl rfl rfl (y_val tok rfl) rfl ?_
        have hlt_r := lt_of_at h_r
        refine t_take 5 rfl (by kernel_rfl) rfl rfl rfl (y_idx tok rfl (fun hg => hr.sl) (fun hg => ⟨by omega, by omega⟩)) rfl ?_
        refine t_take 6 rfl (by kernel_rfl) rfl rfl rfl (y_lel tok (i) 0 (r) rfl (fun hg => hr) (fun hg => h_r) rfl rfl) rfl ?_
        refine t_go ?_
        refine h_one 7 (by kernel_rfl) ?_
        refine h_callV 7 (OfVal g 16 (B ++ t).length r.l) rfl rfl rfl fnok18 rfl rfl (fun hg E w1 hm => by exact of_cV (vw w) g ok 16 (B ++ t).length _ r.l _ hm.leV hgd.sl hlim) ?_
        rintro x V1 hle1 hx
        rcases hx rfl with ⟨hok, v, rfl, hsl⟩ | ⟨hno, rfl⟩
        rotate_left
        ·
          refine h_one 8 (by kernel_rfl) ?_
          refine h_yield 8 rfl rfl rfl rfl (y_val tok rfl) ?_
          refine h_take 9 rfl (by kernel_rfl) rfl rfl rfl rfl (y_val tok rfl) rfl ?_
          refine h_take 10 rfl (by kernel_rfl) rfl rfl rfl rfl (y_val tok rfl) rfl ?_
          refine h_one 11 (by kernel_rfl) ?_
          refine h_yield 11 rfl rfl rfl rfl (y_val tok rfl) ?_
          refine h_one 12 (by kernel_rfl) ?_
          refine h_yield 12 rfl rfl rfl rfl (y_val tok rfl) ?_
          refine h_done [1, 2, 3, 7, 9, 10, 11] (by kernel_rfl) rfl ?_
          refine x_then ?_
          refine c_seq ?_
          refine c_seq ?_
          refine c_region ?_
          refine o_yield rfl rfl rfl (y_val tok rfl) ?_
          refine o_yield rfl rfl rfl (y_val tok rfl) ?_
          refine o_end [1, 2, 3, 7, 9, 10, 55] rfl ?_
          refine x_then ?_
          refine c_cond rfl (fun h => ?_) (fun h => ?_)
          ·
            refine c_seq ?_
            refine c_region ?_
            refine o_yield rfl rfl rfl (y_val tok rfl) ?_
            refine o_yield rfl rfl rfl (y_len tok rfl (fun hg => (⟨rfl, .inl ⟨none, 0, rfl, rfl⟩⟩ : IsSl V1 (.slice none 0 0) 6 0 []))) ?_
            refine o_yield rfl rfl rfl (y_val tok rfl) ?_
            refine o_yield rfl rfl rfl (y_val tok rfl) ?_
            refine o_call (.a (.v _)) rfl rfl fnok16 rfl rfl rfl (fun hg E w1 hm => by exact wakes16_c _) ?_
            refine o_yield rfl rfl rfl (y_val tok rfl) ?_
            refine o_yield rfl rfl rfl (y_val tok rfl) ?_
            refine o_end [6] rfl ?_
            refine x_then ?_
            refine c_ret ?_
            refine x_then_ret ?_
            refine x_block_ret ?_
            refine x_then_ret ?_
            refine x_then_ret ?_
            refine x_block_ret ?_
            refine x_then_ret ?_
            refine b_ret tok rfl ?_
            intro E w' hm _
            exact ⟨rfl, hm.below hle1⟩
          ·
            refine c_skip ?_
            refine x_then ?_
            refine c_seq ?_
            refine c_seq ?_
            refine c_draw mixed (by kernel_rfl) ?_
            refine d_yield rfl rfl rfl (y_val tok rfl) rfl ?_
            exact absurd h (by decide)
        refine h_one 8 (by kernel_rfl) ?_
        refine h_yield 8 rfl rfl rfl rfl (y_val tok rfl) ?_
        refine h_take 9 rfl (by kernel_rfl) rfl rfl rfl rfl (y_val tok rfl) rfl ?_
        refine h_take 10 rfl (by kernel_rfl) rfl rfl rfl rfl (y_val tok rfl) rfl ?_
        refine h_one 11 (by kernel_rfl) ?_
        refine h_yield 11 rfl rfl rfl rfl (y_val tok rfl) ?_
        refine h_one 12 (by kernel_rfl) ?_
        refine h_yield 12 rfl rfl rfl rfl (y_val tok rfl) ?_
        refine h_done [1, 2, 3, 7, 9, 10, 11] (by kernel_rfl) rfl ?_
        refine x_then ?_
        refine c_seq ?_
        refine c_seq ?_
        refine c_region ?_
        refine o_yield rfl rfl rfl (y_val tok rfl) ?_
        refine o_yield rfl rfl rfl (y_val tok rfl) ?_
        refine o_end [1, 2, 3, 7, 9, 10, 55] rfl ?_
        refine x_then ?_
        refine c_cond rfl (fun h => ?_) (fun h => ?_)
        ·
          refine c_seq ?_
          refine c_region ?_
          refine o_yield rfl rfl rfl (y_val tok rfl) ?_
          exact absurd h (by decide)
        ·
          refine c_skip ?_
          refine x_then ?_
          refine c_seq ?_
          refine c_seq ?_
          refine c_draw mixed (by kernel_rfl) ?_
          refine d_yield rfl rfl rfl (y_val tok rfl) rfl ?_
          clear h
          have hal := all_len g 16 (B ++ t).length r.l
          rw [hpn] at hal
          have hlp := hok.some_
          have hl0 : 0 < r.l.length := List.length_pos_iff.2 hlp
          have hm1 : 1 ≤ r.l.length * per := Nat.mul_pos hl0 (by omega)
          have hm64 : r.l.length * per ≤ 64 := by
            have h1 : r.l.length * per ≤ 8 * per := Nat.mul_le_mul_right _ (by omega)
            omega
          have htx : Txn (allRecs g 16 (B ++ t).length r.l) := txn_all (by rw [hpn]; exact hm1)
          have hch := chain_txn htx
          clear hx
          generalize allRecs g 16 (B ++ t).length r.l = L at hsl hal htx hch
          refine d_yield rfl rfl rfl (y_len tok rfl (fun hg => hsl.sl)) rfl ?_
          refine d_yield rfl rfl rfl (y_val tok rfl) rfl ?_
          refine d_yield rfl rfl rfl (y_val tok rfl) rfl ?_
          refine d_yield rfl rfl rfl (y_val tok rfl) rfl ?_
          refine d_yield rfl rfl rfl (y_len tok rfl (fun hg => hsl.sl)) rfl ?_
          refine d_yield rfl rfl rfl (y_val tok rfl) rfl ?_
          refine d_yield rfl rfl rfl (y_val tok rfl) rfl ?_
          refine d_yield rfl rfl rfl (y_val tok rfl) rfl ?_
          have hr1 := hr.mono hle1
          have hgd1 := hgd.sl.mono hle1
          have hlt_r := lt_of_at h_r
          refine d_yield rfl rfl rfl (y_idx tok rfl (fun hg => hr1.sl) (fun hg => ⟨by omega, by omega⟩)) rfl ?_
          refine d_yield rfl rfl rfl (y_lel tok (i) 0 (r) rfl (fun hg => hr1) (fun hg => h_r) rfl rfl) rfl ?_
          refine d_yield rfl rfl rfl (y_len tok rfl (fun hg => hgd1.sl)) rfl ?_
          refine d_call (.a (.v _)) rfl rfl fnok19 rfl rfl rfl (fun hg E w1 hm => by exact many_c g ok _ _) ?_
          refine d_yield rfl rfl rfl (y_val tok rfl) rfl ?_
          refine d_yield rfl rfl rfl (y_val tok rfl) rfl ?_
          refine d_yield rfl rfl rfl (y_val tok rfl) rfl ?_
          refine d_yield rfl rfl rfl (y_val tok rfl) rfl ?_
          refine d_call (.a (.v _)) rfl rfl fnok20 rfl rfl rfl (fun hg E w1 hm => by exact whole_c V1 _ L _ hm.leV hsl (by rw [hal]; unfold lim; omega)) ?_
          refine d_yield rfl rfl rfl (y_val tok rfl) rfl ?_
          refine d_yield rfl rfl rfl (y_len tok rfl (fun hg => hsl.sl)) rfl ?_
          refine d_yield rfl rfl rfl (y_val tok rfl) rfl ?_
          refine d_yield rfl rfl rfl (y_val tok rfl) rfl ?_
          refine d_end [1, 2, 3, 7, 9, 10, 83] rfl ?_
          refine x_then ?_
          refine c_cond rfl (fun h => ?_) (fun h => ?_)
          ·
            simp only [Bool.and_eq_true, Bool.or_eq_true, Bool.not_eq_true', Bool.or_eq_false_iff, Bool.and_eq_false_iff, decide_eq_true_eq, decide_eq_false_iff_not, beq_iff_eq, bne_iff_ne, Bool.not_eq_false', beq_eq_false_iff_ne, bne_eq_false_iff_eq, ne_eq, Decidable.not_not, Int.not_lt, Int.not_le] at h
            refine c_seq ?_
            refine c_region ?_
            refine o_yield rfl rfl rfl (y_val tok rfl) ?_
            refine o_end [6] rfl ?_
            refine x_then ?_
            refine c_ret ?_
            refine x_then_ret ?_
            refine x_block_ret ?_
            refine x_then_ret ?_
            refine x_then_ret ?_
            refine x_block_ret ?_
            refine x_then_ret ?_
            refine b_ret tok rfl ?_
            exfalso
            have hmany : manyOf g r.l.length = ((r.l.length * per + 1 : Nat) : Int) := by
              unfold manyOf
              rw [if_pos ⟨hgeo, by omega⟩, hper, show min (r.l.length : Int) 1099511627776 = r.l.length by omega, Int.mul_comm]
              simp
            rw [hmany, whole_chain hch, hal] at h
            simp at h
            omega
          ·
            simp only [Bool.and_eq_true, Bool.or_eq_true, Bool.not_eq_true', Bool.or_eq_false_iff, Bool.and_eq_false_iff, decide_eq_true_eq, decide_eq_false_iff_not, beq_iff_eq, bne_iff_ne, Bool.not_eq_false', beq_eq_false_iff_ne, bne_eq_false_iff_eq, ne_eq, Decidable.not_not, Int.not_lt, Int.not_le] at h
            refine c_skip ?_
            refine x_then ?_
            refine c_seq ?_
            refine c_region ?_
            refine o_yield rfl rfl rfl (y_val tok rfl) ?_
            clear h
            refine o_yield rfl rfl rfl (y_val tok rfl) ?_
            refine o_yield rfl rfl rfl (y_val tok rfl) ?_
            refine o_end [1, 2, 3, 7, 8, 9, 10] rfl ?_
            refine x_then ?_
            refine c_seq ?_
            refine c_region ?_
            refine o_yield rfl rfl rfl (y_val tok rfl) ?_
            refine o_yield rfl rfl rfl (y_val tok rfl) ?_
            refine o_step rfl rfl rfl rfl rfl (s_app tok (L.flatMap Record.cells) rfl (fun E w hm => hsl.sl.src hm.get) (fun _ _ _ => rec_ones _) (by dsimp only; rw [hal]; omega)) (fun _ _ => ?_)
            refine o_yield rfl rfl rfl (y_val tok rfl) ?_
            refine o_end [1, 2, 3, 7, 8, 9, 10] rfl ?_
            refine x_then ?_
            refine c_seq ?_
            refine c_heldR mixed rfl (by repeat (first | exact SubO.nil | refine SubO.cons rfl ?_)) rfl ?_
            refine t_take 0 rfl (by kernel_rfl) rfl rfl rfl (y_val tok rfl) rfl ?_
            refine t_take 2 rfl (by kernel_rfl) rfl rfl rfl (y_val tok rfl) rfl ?_
            rw [← List.flatMap_append, ← List.length_append]
            have hI' := hI
            simp only at hI'
            have hchA : Chain (B ++ t ++ L) := chain_app hI'.ch hch
            have hlA : (B ++ t ++ L).length ≤ 65 * (i + 1) := by rw [List.length_append, hal]; omega
            refine t_take 3 rfl (by kernel_rfl) rfl rfl rfl (y_val tok rfl) rfl ?_
            refine t_go ?_
            refine h_one 1 (by kernel_rfl) ?_
            refine h_call 1 (.a (.v _)) rfl rfl rfl fnok20 rfl rfl rfl (fun hg E w1 hm => by exact whole_c _ _ (B ++ t ++ L) _ (Vw.le.refl _) (hm.rowOf 2 rfl (fun _ => rfl)) (by unfold lim; omega)) ?_
            refine h_one 4 (by kernel_rfl) ?_
            refine h_yield 4 rfl rfl rfl rfl (y_val tok rfl) ?_
            refine h_one 5 (by kernel_rfl) ?_
            refine h_yield 5 rfl rfl rfl rfl (y_val tok rfl) ?_
            refine h_take 7 rfl (by kernel_rfl) rfl rfl rfl rfl (y_val tok rfl) rfl ?_
            refine h_take 9 rfl (by kernel_rfl) rfl rfl rfl rfl (y_val tok rfl) rfl ?_
            refine h_take 10 rfl (by kernel_rfl) rfl rfl rfl rfl (y_val tok rfl) rfl ?_
            rw [whole_chain hchA, show (((B ++ t ++ L).length : Int) != ((B ++ t ++ L).length : Int)) = false by simp]
            refine h_take 11 rfl (by kernel_rfl) rfl rfl rfl rfl (y_len tok rfl (fun hg => hsl.sl)) rfl ?_
            refine h_take 12 rfl (by kernel_rfl) rfl rfl rfl rfl (y_val tok rfl) rfl ?_
            rw [wrapI (n := (L.length : Int) - 1) (by omega) (by omega)]
            refine h_take 13 rfl (by kernel_rfl) rfl rfl rfl rfl (y_sl tok rfl (fun hg => hsl.sl) (fun hg => by dsimp only [Option.getD]; omega)) rfl ?_
            refine h_take 16 rfl (by kernel_rfl) rfl rfl rfl rfl (y_val tok rfl) rfl ?_
            rw [show ((some ((L.length : Int) - 1)).getD (L.length : Int)).toNat = L.length - 1 by simp only [Option.getD]; omega]
            have hsc : SlOf V1 Record.cells 6 (sliceV v 0 (L.length - 1) 6) (L.take (L.length - 1)) := by
              have := hsl.cut (lo := 0) (hi := L.length - 1) (by omega) (by omega)
              simpa using this
            have hlt : (L.take (L.length - 1)).length = L.length - 1 := by simp
            refine h_take 17 rfl (by kernel_rfl) rfl rfl rfl rfl (y_val tok rfl) rfl ?_
            refine h_one 6 (by kernel_rfl) ?_
            refine h_to 6 rfl rfl rfl rfl rfl rfl (s_bs tok 6 rfl rfl rfl) (.inr fun _ _ => ⟨(by repeat (first | exact SubO.nil | refine SubO.cons rfl ?_)), rfl, Vw.le.refl _⟩) (fun _ _ => ?_)
            refine h_one 8 (by kernel_rfl) ?_
            refine h_to 8 rfl rfl rfl rfl rfl rfl (s_app tok ((B ++ t ++ L).flatMap Record.cells) rfl (fun E w hm => ownsRow_src (hm.row 2 _ _ _ _ rfl)) (fun _ _ _ => rec_ones _) (by dsimp only; omega)) (.inr fun _ _ => ⟨(by repeat (first | exact SubO.nil | refine SubO.cons rfl ?_)), rfl, Vw.le.refl _⟩) (fun _ _ => ?_)
            refine h_one 14 (by kernel_rfl) ?_
            rw [List.nil_append, Nat.zero_add (B ++ t ++ L).length]
            refine h_to 14 rfl rfl rfl rfl rfl rfl (s_app tok ((L.take (L.length - 1)).flatMap Record.cells) rfl (fun E w hm => hsc.sl.src hm.get) (fun _ _ _ => rec_ones _) (by dsimp only; omega)) (.inr fun _ _ => ⟨(by repeat (first | exact SubO.nil | refine SubO.cons rfl ?_)), rfl, Vw.le.refl _⟩) (fun _ _ => ?_)
            refine h_one 15 (by kernel_rfl) ?_
            rw [← List.flatMap_append, ← List.length_append]
            refine h_call 15 (.a (.v _)) rfl rfl rfl fnok20 rfl rfl rfl (fun hg E w1 hm => by exact whole_c _ _ (B ++ t ++ L ++ L.take (L.length - 1)) _ (Vw.le.refl _) (hm.rowOf 5 rfl (fun _ => rfl)) (by rw [List.length_append]; unfold lim; omega)) ?_
            refine h_one 18 (by kernel_rfl) ?_
            refine h_yield 18 rfl rfl rfl rfl (y_val tok rfl) ?_
            refine h_one 19 (by kernel_rfl) ?_
            refine h_yield 19 rfl rfl rfl rfl (y_val tok rfl) ?_
            refine h_done [1, 2, 3, 7, 8, 9, 108] (by kernel_rfl) rfl ?_
            refine x_then ?_
            refine c_cond rfl (fun h => ?_) (fun h => ?_)
            ·
              simp only [Bool.and_eq_true, Bool.or_eq_true, Bool.not_eq_true', Bool.or_eq_false_iff, Bool.and_eq_false_iff, decide_eq_true_eq, decide_eq_false_iff_not, beq_iff_eq, bne_iff_ne, Bool.not_eq_false', beq_eq_false_iff_ne, bne_eq_false_iff_eq, ne_eq, Decidable.not_not, Int.not_lt, Int.not_le] at h
              refine c_seq ?_
              refine c_region ?_
              refine o_yield rfl rfl rfl (y_val tok rfl) ?_
              refine o_end [6] rfl ?_
              refine x_then ?_
              refine c_ret ?_
              refine x_block_ret ?_
              refine x_then_ret ?_
              refine x_then_ret ?_
              refine x_block_ret ?_
              refine x_then_ret ?_
              refine b_ret tok rfl ?_
              rw [whole_data hchA (take_last htx)] at h
              simp at h
            ·
              simp only [Bool.and_eq_true, Bool.or_eq_true, Bool.not_eq_true', Bool.or_eq_false_iff, Bool.and_eq_false_iff, decide_eq_true_eq, decide_eq_false_iff_not, beq_iff_eq, bne_iff_ne, Bool.not_eq_false', beq_eq_false_iff_ne, bne_eq_false_iff_eq, ne_eq, Decidable.not_not, Int.not_lt, Int.not_le] at h
              refine c_skip ?_
              refine x_block ?_
              refine x_then ?_
              refine c_region ?_
              refine o_yield rfl rfl rfl (y_val tok rfl) ?_
              refine o_yield rfl rfl rfl (y_val tok rfl) ?_
              refine o_yield rfl rfl rfl (y_val tok rfl) ?_
              refine o_end [1, 2, 3, 7, 8, 9] rfl ?_
              refine x_then ?_
              clear h
              rw [wrapI (n := (i : Int) + 1) (by omega) (by omega)]
              refine k_swap 1 2 rfl ?_
              refine x_round ((i + 1, B ++ t, L)) (⟨by omega, hI'.ch, .inr htx, hlA⟩) (by first | omega | (dsimp only; omega)) (by repeat (first | exact SubF.nil | refine SubF.cons rfl ?_)) (by repeat (first | exact SubO.nil | refine SubO.cons rfl ?_)) rfl (hle1)
    ·
      simp only [Bool.and_eq_true, Bool.or_eq_true, Bool.not_eq_true', Bool.or_eq_false_iff, Bool.and_eq_false_iff, decide_eq_true_eq, decide_eq_false_iff_not, beq_iff_eq, bne_iff_ne, Bool.not_eq_false', beq_eq_false_iff_ne, bne_eq_false_iff_eq, ne_eq, Decidable.not_not, Int.not_lt, Int.not_le] at h
      refine c_exit ?_
      refine x_then_exit ?_
      refine x_then_exit ?_
      refine x_block_hit ?_
      refine x_then ?_
      refine c_seq ?_
      refine c_seq ?_
      refine c_region ?_
      refine o_yield rfl rfl rfl (y_val tok rfl) ?_
      have hI' := hI
      simp only at hI'
      refine o_yield rfl rfl rfl (y_val tok rfl) ?_
      refine o_yield rfl rfl rfl (y_val tok rfl) ?_
      refine o_end [2, 7, 8, 111] rfl ?_
      refine x_then ?_
      refine c_cond rfl (fun h => ?_) (fun h => ?_)
      ·
        simp only [Bool.and_eq_true, Bool.or_eq_true, Bool.not_eq_true', Bool.or_eq_false_iff, Bool.and_eq_false_iff, decide_eq_true_eq, decide_eq_false_iff_not, beq_iff_eq, bne_iff_ne, Bool.not_eq_false', beq_eq_false_iff_ne, bne_eq_false_iff_eq, ne_eq, Decidable.not_not, Int.not_lt, Int.not_le] at h
        refine c_seq ?_
        refine c_region ?_
        have hnil : B ++ t = [] := List.eq_nil_of_length_eq_zero (by omega)
        refine o_call (.a (.v _)) rfl rfl fnok20 rfl rfl rfl (fun hg E w1 hm => by exact whole_c (vw w) _ [] _ hm.leV (slNil _ _ _ _ fun _ => rfl) (by simp)) ?_
        refine o_yield rfl rfl rfl (y_val tok rfl) ?_
        refine o_yield rfl rfl rfl (y_val tok rfl) ?_
        refine o_call (.a (.v _)) rfl rfl fnok16 rfl rfl rfl (fun hg E w1 hm => by exact wakes16_c _) ?_
        refine o_yield rfl rfl rfl (y_val tok rfl) ?_
        refine o_yield rfl rfl rfl (y_val tok rfl) ?_
        refine o_end [6] rfl ?_
        refine x_then ?_
        refine c_ret ?_
        refine x_then_ret ?_
        refine b_ret tok rfl ?_
        intro E w' hm _
        refine ⟨?_, hm.below (Vw.le.refl _)⟩
        rfl
      ·
        simp only [Bool.and_eq_true, Bool.or_eq_true, Bool.not_eq_true', Bool.or_eq_false_iff, Bool.and_eq_false_iff, decide_eq_true_eq, decide_eq_false_iff_not, beq_iff_eq, bne_iff_ne, Bool.not_eq_false', beq_eq_false_iff_ne, bne_eq_false_iff_eq, ne_eq, Decidable.not_not, Int.not_lt, Int.not_le] at h
        refine c_skip ?_
        refine x_then ?_
        refine c_seq ?_
        refine c_region ?_
        refine o_yield rfl rfl rfl (y_val tok rfl) ?_
        have htx : Txn t := by
          rcases hI'.tx with ⟨rfl, rfl⟩ | ht
          · simp at h
          · exact ht
        refine k_freeze 1 rfl (fun v V2 hle2 hsl2 hfr => ?_)
        have hs2 : SlOf V2 Record.cells 6 v (B ++ t) := ⟨hsl2, fun _ => rfl⟩
        have hlen : (B ++ t).length = B.length + t.length := List.length_append
        have ht1 : 1 ≤ t.length := by
          obtain ⟨ds, c, rfl, _⟩ := htx
          simp
        refine o_yield rfl rfl rfl (y_len tok rfl (fun hg => hs2.sl)) ?_
        refine o_yield rfl rfl rfl (y_val tok rfl) ?_
        refine o_yield rfl rfl rfl (y_val tok rfl) ?_
        refine o_yield rfl rfl rfl (y_val tok rfl) ?_
        refine o_end [2, 7, 8, 12] rfl ?_
        refine x_then ?_
        refine c_seq ?_
        refine c_region ?_
        refine o_yield rfl rfl rfl (y_val tok rfl) ?_
        refine o_yield rfl rfl rfl (y_val tok rfl) ?_
        refine o_yield rfl rfl rfl (y_val tok rfl) ?_
        rw [show IntKind.i64.wrap (((B ++ t).length : Int) - (B.length : Int)) = (t.length : Int) by rw [wrapI (by omega) (by omega)]; omega]
        refine o_yield rfl rfl rfl (y_rem rfl (fun hg => by omega)) ?_
        refine o_yield rfl rfl rfl (y_val tok rfl) ?_
        refine o_yield rfl rfl rfl (y_val tok rfl) ?_
        refine o_yield rfl rfl rfl (y_val tok rfl) ?_
        have hb1 : -(t.length : Int) < cut.tmod t.length ∧ cut.tmod t.length < t.length := by
          have := Int.tmod_lt_of_pos cut (show (0 : Int) < t.length by omega)
          have := Int.lt_tmod_of_pos cut (show (0 : Int) < t.length by omega)
          omega
        rw [wrapI (n := cut.tmod t.length + t.length) (by omega) (by omega)]
        refine o_yield rfl rfl rfl (y_rem rfl (fun hg => by omega)) ?_
        refine o_yield rfl rfl rfl (y_val tok rfl) ?_
        refine o_yield rfl rfl rfl (y_val tok rfl) ?_
        refine o_end [7, 8, 13] rfl ?_
        refine x_then ?_
        refine c_seq ?_
        refine c_heldR mixed rfl (by repeat (first | exact SubO.nil | refine SubO.cons rfl ?_)) rfl ?_
        refine t_take 1 rfl (by kernel_rfl) rfl rfl rfl (y_val tok rfl) rfl ?_
        refine t_take 2 rfl (by kernel_rfl) rfl rfl rfl (y_val tok rfl) rfl ?_
        obtain ⟨j, hj, hjl⟩ : ∃ j : Nat, (cut.tmod t.length + t.length).tmod t.length = (j : Int) ∧ j < t.length := by
          have h1 := Int.tmod_nonneg (t.length : Int) (show 0 ≤ cut.tmod t.length + t.length by omega)
          have h2 := Int.tmod_lt_of_pos (cut.tmod t.length + t.length) (show (0 : Int) < t.length by omega)
          exact ⟨((cut.tmod t.length + t.length).tmod t.length).toNat, by omega, by omega⟩
        rw [hj, wrapI (n := (B.length : Int) + j) (by omega) (by omega)]
        rw [show (B.length : Int) + (j : Int) = ((B.length + j : Nat) : Int) by omega]
        have hc1 : SlOf V2 Record.cells 6 (sliceV v 0 (B.length + j) 6) ((B ++ t).take (B.length + j)) := by
          have := hs2.cut (lo := 0) (hi := B.length + j) (by omega) (by omega)
          simpa using this
        have hc2 : SlOf V2 Record.cells 6 (sliceV v (B.length + j + 1) (B ++ t).length 6) ((B ++ t).drop (B.length + j + 1)) := by
          have := hs2.cut (lo := B.length + j + 1) (hi := (B ++ t).length) (by omega) (by omega)
          rw [List.take_of_length_le (by simp)] at this
          exact this
        have hL1 : ((B ++ t).take (B.length + j)).length = B.length + j := by rw [List.length_take]; omega
        have hL2 : ((B ++ t).drop (B.length + j + 1)).length ≤ 400 := by rw [List.length_drop]; omega
        refine t_take 3 rfl (by kernel_rfl) rfl rfl rfl (y_sl tok rfl (fun hg => hs2.sl) (fun hg => by dsimp only [Option.getD]; omega)) rfl ?_
        refine t_take 5 rfl (by kernel_rfl) rfl rfl rfl (y_val tok rfl) rfl ?_
        refine t_take 6 rfl (by kernel_rfl) rfl rfl rfl (y_val tok rfl) rfl ?_
        refine t_take 7 rfl (by kernel_rfl) rfl rfl rfl (y_val tok rfl) rfl ?_
        rw [show IntKind.i64.wrap (((B.length + j : Nat) : Int) + 1) = ((B.length + j + 1 : Nat) : Int) by rw [wrapI (by omega) (by omega)]; omega]
        refine t_take 8 rfl (by kernel_rfl) rfl rfl rfl (y_sl tok rfl (fun hg => hs2.sl) (fun hg => by dsimp only [Option.getD]; omega)) rfl ?_
        refine t_take 11 rfl (by kernel_rfl) rfl rfl rfl (y_val tok rfl) rfl ?_
        refine t_go ?_
        refine h_one 0 (by kernel_rfl) ?_
        refine h_to 0 rfl rfl rfl rfl rfl rfl (s_bs tok 6 rfl rfl rfl) (.inr fun _ _ => ⟨(by repeat (first | exact SubO.nil | refine SubO.cons rfl ?_)), rfl, Vw.le.refl _⟩) (fun _ _ => ?_)
        refine h_one 4 (by kernel_rfl) ?_
        refine h_to 4 rfl rfl rfl rfl rfl rfl (s_app tok (((B ++ t).take (B.length + j)).flatMap Record.cells) rfl (fun E w hm => hc1.sl.src hm.get) (fun _ _ _ => rec_ones _) (by dsimp only; omega)) (.inr fun _ _ => ⟨(by repeat (first | exact SubO.nil | refine SubO.cons rfl ?_)), rfl, Vw.le.refl _⟩) (fun _ _ => ?_)
        refine h_one 9 (by kernel_rfl) ?_
        rw [List.nil_append, Nat.zero_add ((B ++ t).take (B.length + j)).length]
        refine h_to 9 rfl rfl rfl rfl rfl rfl (s_app tok (((B ++ t).drop (B.length + j + 1)).flatMap Record.cells) rfl (fun E w hm => hc2.sl.src hm.get) (fun _ _ _ => rec_ones _) (by dsimp only; omega)) (.inr fun _ _ => ⟨(by repeat (first | exact SubO.nil | refine SubO.cons rfl ?_)), rfl, Vw.le.refl _⟩) (fun _ _ => ?_)
        refine h_one 10 (by kernel_rfl) ?_
        rw [← List.flatMap_append, ← List.length_append]
        refine h_call 10 (.a (.v _)) rfl rfl rfl fnok20 rfl rfl rfl (fun hg E w1 hm => by exact whole_c _ _ ((B ++ t).take (B.length + j) ++ (B ++ t).drop (B.length + j + 1)) _ (Vw.le.refl _) (hm.rowOf 4 rfl (fun _ => rfl)) (by rw [List.length_append]; unfold lim; omega)) ?_
        refine h_one 12 (by kernel_rfl) ?_
        refine h_yield 12 rfl rfl rfl rfl (y_val tok rfl) ?_
        refine h_one 13 (by kernel_rfl) ?_
        refine h_yield 13 rfl rfl rfl rfl (y_val tok rfl) ?_
        refine h_one 14 (by kernel_rfl) ?_
        rw [whole_less hI'.chB htx hjl]
        refine h_call 14 (.a (.v _)) rfl rfl rfl fnok16 rfl rfl rfl (fun hg E w1 hm => by exact wakes16_c _) ?_
        refine h_one 15 (by kernel_rfl) ?_
        refine h_yield 15 rfl rfl rfl rfl (y_val tok rfl) ?_
        refine h_one 16 (by kernel_rfl) ?_
        refine h_yield 16 rfl rfl rfl rfl (y_val tok rfl) ?_
        refine h_done [6] (by kernel_rfl) rfl ?_
        refine x_then ?_
        refine c_ret ?_
        refine b_ret tok rfl ?_
        intro E w' hm _
        refine ⟨?_, hm.below (hle2)⟩
        show Ending.returned (.bool (((B.length : Int) == (B.length : Int)) && true)) = _
        simp
end Go.Proofs.Ytlcpfhjbhogdiaa
