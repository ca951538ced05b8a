import Derived.Test.YtmjdihpdlfidmaaMDr1
/- The law DriftReads. -/
set_option linter.unusedVariables false
set_option linter.unusedSimpArgs false
set_option maxRecDepth 100000
namespace Go.Proofs.Ytmjdihpdlfidmaa
open Go Go.Eng Go.RowKit

set_option maxHeartbeats 4000000 in
theorem driftReads_law (w : World) {v0 v1 v2 v3 v4 : Value} (R0 : ∃ g : Geo, v0 = g.val ∧ g.Ok) (R1 : ∃ n : Int, v1 = I n ∧ R64 n) (R2 : ∃ l : List Step, SlOf (vw w) Step.cells 2 v2 l ∧ l.length ≤ maxLen ∧ ∀ a ∈ l, Step.Ok a)
    (R3 : ∃ l : List Block, SlOf (vw w) Block.cells 2 v3 l ∧ l.length ≤ maxLen ∧ ∀ a ∈ l, Block.Ok a) (R4 : ∃ l : List Hold, SlOf (vw w) Hold.cells 4 v4 l ∧ l.length ≤ maxLen ∧ ∀ a ∈ l, Hold.Ok a) :
    Calls Try.prog 4 #[v0, v1, v2, v3, v4] w fun e w' => e = .returned (.bool true) ∧ Below w.heap.size w w' := by
  obtain ⟨g, rfl, ok⟩ := R0
  obtain ⟨key, rfl, _⟩ := R1
  obtain ⟨l, hst, hlm, hstok⟩ := R2
  obtain ⟨p, hp, hpm, _⟩ := R3
  obtain ⟨hl, hh, hhm, _⟩ := R4
  obtain ⟨sa, sm, sc, rfl⟩ := sl_shape hst.sl
  obtain ⟨pa, pm, pc, rfl⟩ := sl_shape hp.sl
  obtain ⟨ha, hm_, hc, rfl⟩ := sl_shape hh.sl
  have hnil : ∀ V : Vw, SlOf V Block.cells 2 (.slice none 0 0) [] := fun V => slNil _ _ _ _ (fun _ => rfl)
  refine enter (E := E0) (O := []) (nl := 0) (V := vw w) [.a (.v g.val), .a (.v (I key)), .a (.v (.slice sa sm sc)), .a (.v (.slice pa pm pc)), .a (.v (.slice ha hm_ hc))] Try.func4 rfl rfl (mem0 E0 0 w) rfl rfl ?_
  refine c_seq ?_
  refine c_region ?_
  refine o_new tok rfl rfl rfl rfl ?_
  refine o_yield rfl rfl rfl (y_val tok rfl) ?_
  refine o_end [1, 2, 3, 4, 5] rfl ?_
  refine x_then ?_
  refine c_seq ?_
  refine c_seq ?_
  refine c_region ?_
  refine o_yield rfl rfl rfl (y_val tok rfl) ?_
  refine o_call (.a (.v _)) rfl rfl fnok14 rfl rfl rfl (fun hg E w1 hm => by exact refMay_c g ok _) ?_
  refine o_yield rfl rfl rfl (y_val tok rfl) ?_
  refine o_yield rfl rfl rfl (y_val tok rfl) ?_
  refine o_yield rfl rfl rfl (y_val tok rfl) ?_
  refine o_yield rfl rfl rfl (y_len tok rfl (fun hg => hst.sl)) ?_
  refine o_yield rfl rfl rfl (y_val tok rfl) ?_
  refine o_yield rfl rfl rfl (y_val tok rfl) ?_
  refine o_yield rfl rfl rfl (y_val tok rfl) ?_
  refine o_yield rfl rfl rfl (y_val tok rfl) ?_
  refine o_yield rfl rfl rfl (y_val tok rfl) ?_
  refine o_yield rfl rfl rfl (y_val tok rfl) ?_
  refine o_call (.a (.v _)) rfl rfl fnok5 rfl rfl rfl (fun hg E w1 hm => by exact great23_c (vw w) false none 0 0 [] pa pm pc p ha hm_ hc hl _ hm.leV (hnil _) hp hh) ?_
  refine o_yield rfl rfl rfl (y_val tok rfl) ?_
  refine o_yield rfl rfl rfl (y_val tok rfl) ?_
  refine o_yield rfl rfl rfl (y_val tok rfl) ?_
  refine o_yield rfl rfl rfl (y_val tok rfl) ?_
  refine o_call (.a (.v _)) rfl rfl fnok7 rfl rfl rfl (fun hg E w1 hm => by exact refBMay_c (vw w) g ok _ p _ hm.leV hp hpm) ?_
  refine o_yield rfl rfl rfl (y_val tok rfl) ?_
  refine o_yield rfl rfl rfl (y_val tok rfl) ?_
  refine o_end [1, 2, 3, 4, 5, 48] rfl ?_
  refine x_then ?_
  refine c_cond rfl (fun h => ?_) (fun h => ?_)
  ·
    refine c_seq ?_
    refine c_region ?_
    refine o_call (.a (.v _)) rfl rfl fnok8 rfl rfl rfl (fun hg E w1 hm => by exact wakes23_c _) ?_
    refine o_yield rfl rfl rfl (y_val tok rfl) ?_
    refine o_end [10] rfl ?_
    refine x_then ?_
    refine c_ret ?_
    refine x_then_ret ?_
    refine b_ret tok rfl ?_
    intro E w' hm _
    refine ⟨?_, hm.below (Vw.le.refl _)⟩
    rfl
  ·
    obtain ⟨hG, hlen, hgr, hmp⟩ : geoB g = true ∧ l.length ≤ 40 ∧ great23 [] p hl.length = false ∧ mayL g p = true := by
      simp at h
      exact ⟨h.1.1.1, by omega, h.1.2, h.2⟩
    clear h
    have hlenP : p.length ≤ 100 ∧ hl.length ≤ 100 := by
      simp only [great23, Bool.or_eq_false_iff, decide_eq_false_iff_not] at hgr
      omega
    clear hgr
    have hf := geo_facts hG
    have hop : ∀ w, Calls Try.prog 11 #[txV false none 0 0] w fun e w' => e = .returned (.tuple #[txV true none 0 0, I 0]) ∧ Below w.heap.size w w' := fun w => open_c false none 0 0 w
    have hcl : ∀ a m c w, Calls Try.prog 10 #[txV true a m c] w fun e w' => e = .returned (.tuple #[txV false none 0 0, .slice a m c, I 0]) ∧ Below w.heap.size w w' := fun a m c w => close_c true a m c w
    refine c_skip ?_
    refine x_then ?_
    refine c_seq ?_
    refine c_region ?_
    refine o_yield rfl rfl rfl (y_val tok rfl) ?_
    refine o_call (.a (.v _)) rfl rfl fnok11 rfl rfl rfl (fun hg E w1 hm => by exact hop _) ?_
    refine o_yield rfl rfl rfl (y_val tok rfl) ?_
    refine o_yield rfl rfl rfl (y_val tok rfl) ?_
    refine o_yield rfl rfl rfl (y_val tok rfl) ?_
    refine o_new tok rfl rfl rfl rfl ?_
    refine o_store tok rfl rfl rfl (by first | exact ⟨trivial, trivial⟩ | (repeat' first | exact trivial | exact rfl | apply And.intro); done | simp [onesP, oneP, lk, Value.oneCell']) ?_
    refine o_yield rfl rfl rfl (y_val tok rfl) ?_
    refine o_end [1, 2, 3, 4, 5, 11, 12] rfl ?_
    refine x_then ?_
    refine c_seq ?_
    refine c_seq ?_
    refine c_region ?_
    refine o_yield rfl rfl rfl (y_val tok rfl) ?_
    refine o_yield rfl rfl rfl (y_val tok rfl) ?_
    refine o_end [1, 2, 3, 4, 5, 11, 56] rfl ?_
    refine x_then ?_
    refine c_cond rfl (fun h => ?_) (fun h => ?_)
    ·
      exact absurd h (by decide)
    ·
      clear h
      refine c_skip ?_
      refine x_then ?_
      refine c_seq ?_
      refine c_region ?_
      refine o_new tok rfl rfl rfl rfl ?_
      refine o_end [1, 2, 3, 4, 5, 11, 13] rfl ?_
      refine x_then ?_
      refine c_seq ?_
      refine c_region ?_
      refine o_new tok rfl rfl rfl rfl ?_
      refine o_end [1, 2, 3, 4, 5, 11, 13, 14] rfl ?_
      refine x_then ?_
      refine c_seq ?_
      refine c_region ?_
      refine o_yield rfl rfl rfl (y_val tok rfl) ?_
      refine o_end [1, 2, 3, 4, 5, 11, 13, 14, 15] rfl ?_
      refine x_then ?_
      refine c_seq ?_
      refine c_seq ?_
      refine c_region ?_
      refine o_yield rfl rfl rfl (y_val tok rfl) ?_
      refine o_end [1, 2, 3, 4, 5, 11, 13, 14, 15, 16] rfl ?_
      refine x_then ?_
      refine c_block ?_
      refine c_loopV [1, 2, 3, 4, 5, 11, 13, 14] [1, 2, 3] rfl rfl (σ := Nat × List Block × Option Addr × Nat × Nat × Vw) (fun (i, X, a, m, c, W) => [(15, .a (.v (I X.length))), (16, .a (.v (I i)))]) (fun (i, X, a, m, c, W) => [(1, .lit [.v (.bool true), .v (.slice a m c)] 26), (2, .lit (lastA X) 44), (3, .lit (wroteA X) 45)]) (fun (i, X, a, m, c, W) => W) (fun (i, X, a, m, c, W) => i ≤ l.length ∧ X.length ≤ i ∧ (vw w).le W ∧ mayL g X = true ∧ SlOf W Block.cells 2 (.slice a m c) X) (fun (i, X, a, m, c, W) => l.length - i) ((0, [], none, 0, 0, vw w)) (⟨by omega, by simp, Vw.le.refl _, by rw [mayL, hG]; rfl, hnil _⟩) (by repeat (first | exact SubF.nil | refine SubF.cons rfl ?_)) (by repeat (first | exact SubO.nil | refine SubO.cons rfl ?_)) rfl (Vw.le.refl _) ?_
      rintro ⟨i, X, a, m, c, W⟩ ⟨hi, hXi, hwW, hmX, hX⟩
      dsimp only at hi hXi hwW hmX hX ⊢
      have hst' := hst.mono hwW
      have hh' := hh.mono hwW
      have hp' := hp.mono hwW
      refine c_seq ?_
      refine c_seq ?_
      refine c_region ?_
      refine o_yield rfl rfl rfl (y_val tok rfl) ?_
      refine o_yield rfl rfl rfl (y_val tok rfl) ?_
      refine o_yield rfl rfl rfl (y_len tok rfl (fun hg => hst'.sl)) ?_
      refine o_yield rfl rfl rfl (y_val tok rfl) ?_
      refine o_end [1, 2, 3, 4, 5, 11, 13, 14, 15, 16, 60] rfl ?_
      refine x_then ?_
      refine c_cond rfl (fun h => ?_) (fun h => ?_)
      ·
        simp only [Bool.and_eq_true, Bool.or_eq_true, Bool.not_eq_true', Bool.or_eq_false_iff, Bool.and_eq_false_iff, decide_eq_true_eq, decide_eq_false_iff_not, beq_iff_eq, bne_iff_ne, Bool.not_eq_false', beq_eq_false_iff_ne, bne_eq_false_iff_eq, ne_eq, Decidable.not_not, Int.not_lt, Int.not_le] at h
        refine c_skip ?_
        refine x_then ?_
        refine c_seq ?_
        refine c_block ?_
        refine c_seq ?_
        refine c_region ?_
        refine o_yield rfl rfl rfl (y_val tok rfl) ?_
        refine o_yield rfl rfl rfl (y_val tok rfl) ?_
        obtain ⟨q, h_q⟩ := hst'.at (k := i) (by omega)
        have hwi : IntKind.i64.wrap ((i : Int) + 1) = ((i + 1 : Nat) : Int) := wrapI (by omega) (by omega)
        have hlt_q := lt_of_at h_q
        refine o_yield rfl rfl rfl (y_idx tok rfl (fun hg => hst'.sl) (fun hg => ⟨by omega, by omega⟩)) ?_
        refine o_yield rfl rfl rfl (y_fel tok rfl (fun hg => hst'.sl) (fun hg => by omega)) ?_
        refine o_yield rfl rfl rfl (y_lel tok (i) 0 (q) rfl (fun hg => hst') (fun hg => h_q) rfl rfl) ?_
        refine o_yield rfl rfl rfl (y_val tok rfl) ?_
        refine o_end [1, 2, 3, 4, 5, 11, 13, 14, 15, 16, 17] rfl ?_
        refine x_then ?_
        refine c_seq ?_
        refine c_seq ?_
        refine c_region ?_
        refine o_yield rfl rfl rfl (y_val tok rfl) ?_
        refine o_yield rfl rfl rfl (y_val tok rfl) ?_
        have hlt_q := lt_of_at h_q
        refine o_yield rfl rfl rfl (y_idx tok rfl (fun hg => hst'.sl) (fun hg => ⟨by omega, by omega⟩)) ?_
        refine o_yield rfl rfl rfl (y_fel tok rfl (fun hg => hst'.sl) (fun hg => by omega)) ?_
        refine o_yield rfl rfl rfl (y_lel tok (i) 1 (q) rfl (fun hg => hst') (fun hg => h_q) rfl rfl) ?_
        refine o_yield rfl rfl rfl (y_val tok rfl) ?_
        refine o_yield rfl rfl rfl (y_val tok rfl) ?_
        refine o_end [1, 2, 3, 4, 5, 11, 13, 14, 15, 16, 17, 74] rfl ?_
        refine x_then ?_
        refine c_cond rfl (fun h => ?_) (fun h => ?_)
        ·
          simp only [Bool.and_eq_true, Bool.or_eq_true, Bool.not_eq_true', Bool.or_eq_false_iff, Bool.and_eq_false_iff, decide_eq_true_eq, decide_eq_false_iff_not, beq_iff_eq, bne_iff_ne, Bool.not_eq_false', beq_eq_false_iff_ne, bne_eq_false_iff_eq, ne_eq, Decidable.not_not, Int.not_lt, Int.not_le] at h
          refine c_seq ?_
          refine c_region ?_
          refine o_call (.a (.v _)) rfl rfl fnok8 rfl rfl rfl (fun hg E w1 hm => by exact wakes23_c _) ?_
          refine o_yield rfl rfl rfl (y_val tok rfl) ?_
          refine o_end [10] rfl ?_
          refine x_then ?_
          refine c_ret ?_
          refine x_then_ret ?_
          refine x_block_ret ?_
          refine x_then_ret ?_
          refine x_then_ret ?_
          refine x_block_ret ?_
          refine x_then_ret ?_
          refine b_ret tok rfl ?_
          intro E w' hm _
          refine ⟨?_, hm.below (hwW)⟩
          rfl
        ·
          simp only [Bool.and_eq_true, Bool.or_eq_true, Bool.not_eq_true', Bool.or_eq_false_iff, Bool.and_eq_false_iff, decide_eq_true_eq, decide_eq_false_iff_not, beq_iff_eq, bne_iff_ne, Bool.not_eq_false', beq_eq_false_iff_ne, bne_eq_false_iff_eq, ne_eq, Decidable.not_not, Int.not_lt, Int.not_le] at h
          have hsz : q.text.size ≤ 2100 := by omega
          clear h
          have hwp : IntKind.i64.wrap (g.per * 256) = g.per * 256 := wrapI (by omega) (by omega)
          by_cases hz : wrE g true hl key q.block q.text = 0
          · obtain ⟨hn0, hn1, hn2, hn3⟩ := (wr_iff hG hl key q.block q.text).1 hz
            obtain ⟨hput, hmX2, hlen2⟩ := put_facts (t := q.text) hmX hn0 hn1 hn2
            have hmay : (decide (0 ≤ q.block) && decide (q.block < g.blocks) && decide ((q.text.size : Int) ≤ IntKind.i64.wrap (g.per * 256)) && covers hl key q.block 2) = true := by rw [hwp]; simp [hn0, hn1, hn2, hn3]
            have hsm : ∀ (hgf : False) a2 m2 c2 w, Calls Try.prog 17 #[txV true a2 m2 c2, txV true a m c] w fun e w' => e = .returned (.bool true) ∧ Below w.heap.size w w' := fun h => h.elim
            refine c_skip ?_
            refine x_then ?_
            refine c_seq ?_
            refine c_heldM (σ := Option Addr × Nat × Nat × Vw) (fun x => [(1, .a (.v (I key))), (2, .a (.v (.slice sa sm sc))), (3, .a (.v (.slice pa pm pc))), (4, .a (.v (.slice ha hm_ hc))), (5, .a (.ptr 0 0)), (11, .a (.ptr 1 0)), (13, .a (.ptr 2 0)), (14, .a (.ptr 3 0)), (15, .a (.v (I X.length))), (16, .a (.v (I i))), (17, .a (.v (I q.block))), (18, .a (.ptr 4 0)), (19, .a (.v (I 0)))]) (fun x => [(4, .lit [.v (.bool true), .v (.slice x.1 x.2.1 x.2.2.1)] 26), (0, .lit (g.cells.map .v) 23), (1, .lit [.v (.bool true), .v (.slice a m c)] 26), (2, .lit (lastA X) 44), (3, .lit (wroteA X) 45)]) (5) (fun x => x.2.2.2) (fun x => W.le x.2.2.2 ∧ SlOf x.2.2.2 Block.cells 2 (.slice x.1 x.2.1 x.2.2.1) (insB X ⟨q.block, q.text⟩)) mixed ?_ ?_
            ·
              refine t_take 0 rfl (by kernel_rfl) rfl rfl rfl (y_val tok rfl) rfl ?_
              refine t_take 1 rfl (by kernel_rfl) rfl rfl rfl (y_val tok rfl) rfl ?_
              refine t_take 2 rfl (by kernel_rfl) rfl rfl rfl (y_val tok rfl) rfl ?_
              refine t_take 3 rfl (by kernel_rfl) rfl rfl rfl (y_val tok rfl) rfl ?_
              refine t_take 4 rfl (by kernel_rfl) rfl rfl rfl (y_val tok rfl) rfl ?_
              refine t_take 5 rfl (by kernel_rfl) rfl rfl rfl (y_val tok rfl) rfl ?_
              refine t_take 6 rfl (by kernel_rfl) rfl rfl rfl (y_idx tok rfl (fun hg => hst'.sl) (fun hg => ⟨by omega, by omega⟩)) rfl ?_
              refine t_take 7 rfl (by kernel_rfl) rfl rfl rfl (y_fel tok rfl (fun hg => hst'.sl) (fun hg => by omega)) rfl ?_
              refine t_take 8 rfl (by kernel_rfl) rfl rfl rfl (y_lel tok (i) 1 (q) rfl (fun hg => hst') (fun hg => h_q) rfl rfl) rfl ?_
              refine t_take 9 rfl (by kernel_rfl) rfl rfl rfl (y_val tok rfl) rfl ?_
              refine t_go ?_
              refine h_two 10 14 (by kernel_rfl) ?_ ?_
              ·
                refine h_callV 10 (fun v V' => ∃ a n' c, v = .tuple #[txV true a n' c, I 0] ∧ SlOf V' Block.cells 2 (.slice a n' c) (putP X [⟨q.block, q.text⟩])) rfl rfl rfl fnok15 rfl rfl (fun hg E w1 hm => by exact write_cV W g ok true a m c X key q.block q.text ha hm_ hc hl _ hm.leV hX hh' (by omega) (by omega) hz) ?_
                rintro v W2 hlw2 hv
                obtain ⟨a2, m2, c2, rfl, hX2⟩ := hv rfl
                refine h_two 11 14 (by kernel_rfl) ?_ ?_
                ·
                  refine h_yield 11 rfl rfl rfl rfl (y_val tok rfl) ?_
                  refine h_three 12 13 14 (by kernel_rfl) ?_ ?_ ?_
                  ·
                    refine h_yield 12 rfl rfl rfl rfl (y_val tok rfl) ?_
                    refine h_two 13 14 (by kernel_rfl) ?_ ?_
                    ·
                      refine h_yield 13 rfl rfl rfl rfl (y_val tok rfl) ?_
                      refine h_one 14 (by kernel_rfl) ?_
                      refine h_new 14 tok rfl rfl rfl rfl rfl rfl ?_
                      refine h_one 15 (by kernel_rfl) ?_
                      refine h_store 15 tok rfl rfl rfl rfl (by first | exact ⟨trivial, trivial⟩ | (repeat' first | exact trivial | exact rfl | apply And.intro); done | simp [onesP, oneP, lk, Value.oneCell']) (.inr ⟨(by repeat (first | exact SubO.nil | refine SubO.cons rfl ?_)), rfl, (by first | exact Vw.le.refl _ | assumption)⟩) ?_
                      refine h_one 16 (by kernel_rfl) ?_
                      refine h_yield 16 rfl rfl rfl rfl (y_val tok rfl) ?_
                      refine h_done [1, 2, 3, 4, 5, 11, 13, 14, 15, 16, 17, 18, 19] (by kernel_rfl) rfl ?_
                      exact x_meet (⟨a2, m2, c2, W2⟩) (⟨hlw2, hput ▸ hX2⟩) (by repeat (first | exact SubF.nil | refine SubF.cons rfl ?_)) (by repeat (first | exact SubO.nil | refine SubO.cons rfl ?_)) rfl (Vw.le.refl _)
                    ·
                      refine h_new 14 tok rfl rfl rfl rfl rfl rfl ?_
                      refine h_two 13 15 (by kernel_rfl) ?_ ?_
                      ·
                        refine h_yield 13 rfl rfl rfl rfl (y_val tok rfl) ?_
                        refine h_one 15 (by kernel_rfl) ?_
                        refine h_store 15 tok rfl rfl rfl rfl (by first | exact ⟨trivial, trivial⟩ | (repeat' first | exact trivial | exact rfl | apply And.intro); done | simp [onesP, oneP, lk, Value.oneCell']) (.inr ⟨(by repeat (first | exact SubO.nil | refine SubO.cons rfl ?_)), rfl, (by first | exact Vw.le.refl _ | assumption)⟩) ?_
                        refine h_one 16 (by kernel_rfl) ?_
                        refine h_yield 16 rfl rfl rfl rfl (y_val tok rfl) ?_
                        refine h_done [1, 2, 3, 4, 5, 11, 13, 14, 15, 16, 17, 18, 19] (by kernel_rfl) rfl ?_
                        exact x_meet (⟨a2, m2, c2, W2⟩) (⟨hlw2, hput ▸ hX2⟩) (by repeat (first | exact SubF.nil | refine SubF.cons rfl ?_)) (by repeat (first | exact SubO.nil | refine SubO.cons rfl ?_)) rfl (Vw.le.refl _)
                      ·
                        refine h_store 15 tok rfl rfl rfl rfl (by first | exact ⟨trivial, trivial⟩ | (repeat' first | exact trivial | exact rfl | apply And.intro); done | simp [onesP, oneP, lk, Value.oneCell']) (.inr ⟨(by repeat (first | exact SubO.nil | refine SubO.cons rfl ?_)), rfl, (by first | exact Vw.le.refl _ | assumption)⟩) ?_
                        refine h_one 13 (by kernel_rfl) ?_
                        refine h_yield 13 rfl rfl rfl rfl (y_val tok rfl) ?_
                        refine h_one 16 (by kernel_rfl) ?_
                        refine h_yield 16 rfl rfl rfl rfl (y_val tok rfl) ?_
                        refine h_done [1, 2, 3, 4, 5, 11, 13, 14, 15, 16, 17, 18, 19] (by kernel_rfl) rfl ?_
                        exact x_meet (⟨a2, m2, c2, W2⟩) (⟨hlw2, hput ▸ hX2⟩) (by repeat (first | exact SubF.nil | refine SubF.cons rfl ?_)) (by repeat (first | exact SubO.nil | refine SubO.cons rfl ?_)) rfl (Vw.le.refl _)
                  ·
                    refine h_yield 13 rfl rfl rfl rfl (y_val tok rfl) ?_
                    refine h_two 12 14 (by kernel_rfl) ?_ ?_
                    ·
                      refine h_yield 12 rfl rfl rfl rfl (y_val tok rfl) ?_
                      refine h_one 14 (by kernel_rfl) ?_
                      refine h_new 14 tok rfl rfl rfl rfl rfl rfl ?_
                      refine h_one 15 (by kernel_rfl) ?_
                      refine h_store 15 tok rfl rfl rfl rfl (by first | exact ⟨trivial, trivial⟩ | (repeat' first | exact trivial | exact rfl | apply And.intro); done | simp [onesP, oneP, lk, Value.oneCell']) (.inr ⟨(by repeat (first | exact SubO.nil | refine SubO.cons rfl ?_)), rfl, (by first | exact Vw.le.refl _ | assumption)⟩) ?_
                      refine h_one 16 (by kernel_rfl) ?_
                      refine h_yield 16 rfl rfl rfl rfl (y_val tok rfl) ?_
                      refine h_done [1, 2, 3, 4, 5, 11, 13, 14, 15, 16, 17, 18, 19] (by kernel_rfl) rfl ?_
                      exact x_meet (⟨a2, m2, c2, W2⟩) (⟨hlw2, hput ▸ hX2⟩) (by repeat (first | exact SubF.nil | refine SubF.cons rfl ?_)) (by repeat (first | exact SubO.nil | refine SubO.cons rfl ?_)) rfl (Vw.le.refl _)
                    ·
                      refine h_new 14 tok rfl rfl rfl rfl rfl rfl ?_
                      refine h_one 12 (by kernel_rfl) ?_
                      refine h_yield 12 rfl rfl rfl rfl (y_val tok rfl) ?_
                      refine h_one 15 (by kernel_rfl) ?_
                      refine h_store 15 tok rfl rfl rfl rfl (by first | exact ⟨trivial, trivial⟩ | (repeat' first | exact trivial | exact rfl | apply And.intro); done | simp [onesP, oneP, lk, Value.oneCell']) (.inr ⟨(by repeat (first | exact SubO.nil | refine SubO.cons rfl ?_)), rfl, (by first | exact Vw.le.refl _ | assumption)⟩) ?_
                      refine h_one 16 (by kernel_rfl) ?_
                      refine h_yield 16 rfl rfl rfl rfl (y_val tok rfl) ?_
                      refine h_done [1, 2, 3, 4, 5, 11, 13, 14, 15, 16, 17, 18, 19] (by kernel_rfl) rfl ?_
                      exact x_meet (⟨a2, m2, c2, W2⟩) (⟨hlw2, hput ▸ hX2⟩) (by repeat (first | exact SubF.nil | refine SubF.cons rfl ?_)) (by repeat (first | exact SubO.nil | refine SubO.cons rfl ?_)) rfl (Vw.le.refl _)
                  ·
                    refine h_new 14 tok rfl rfl rfl rfl rfl rfl ?_
                    refine h_two 12 13 (by kernel_rfl) ?_ ?_
                    ·
                      refine h_yield 12 rfl rfl rfl rfl (y_val tok rfl) ?_
                      refine h_two 13 15 (by kernel_rfl) ?_ ?_
                      ·
                        refine h_yield 13 rfl rfl rfl rfl (y_val tok rfl) ?_
                        refine h_one 15 (by kernel_rfl) ?_
                        refine h_store 15 tok rfl rfl rfl rfl (by first | exact ⟨trivial, trivial⟩ | (repeat' first | exact trivial | exact rfl | apply And.intro); done | simp [onesP, oneP, lk, Value.oneCell']) (.inr ⟨(by repeat (first | exact SubO.nil | refine SubO.cons rfl ?_)), rfl, (by first | exact Vw.le.refl _ | assumption)⟩) ?_
                        refine h_one 16 (by kernel_rfl) ?_
                        refine h_yield 16 rfl rfl rfl rfl (y_val tok rfl) ?_
                        refine h_done [1, 2, 3, 4, 5, 11, 13, 14, 15, 16, 17, 18, 19] (by kernel_rfl) rfl ?_
                        exact x_meet (⟨a2, m2, c2, W2⟩) (⟨hlw2, hput ▸ hX2⟩) (by repeat (first | exact SubF.nil | refine SubF.cons rfl ?_)) (by repeat (first | exact SubO.nil | refine SubO.cons rfl ?_)) rfl (Vw.le.refl _)
                      ·
                        refine h_store 15 tok rfl rfl rfl rfl (by first | exact ⟨trivial, trivial⟩ | (repeat' first | exact trivial | exact rfl | apply And.intro); done | simp [onesP, oneP, lk, Value.oneCell']) (.inr ⟨(by repeat (first | exact SubO.nil | refine SubO.cons rfl ?_)), rfl, (by first | exact Vw.le.refl _ | assumption)⟩) ?_
                        refine h_one 13 (by kernel_rfl) ?_
                        refine h_yield 13 rfl rfl rfl rfl (y_val tok rfl) ?_
                        refine h_one 16 (by kernel_rfl) ?_
                        refine h_yield 16 rfl rfl rfl rfl (y_val tok rfl) ?_
                        refine h_done [1, 2, 3, 4, 5, 11, 13, 14, 15, 16, 17, 18, 19] (by kernel_rfl) rfl ?_
                        exact x_meet (⟨a2, m2, c2, W2⟩) (⟨hlw2, hput ▸ hX2⟩) (by repeat (first | exact SubF.nil | refine SubF.cons rfl ?_)) (by repeat (first | exact SubO.nil | refine SubO.cons rfl ?_)) rfl (Vw.le.refl _)
                    ·
                      refine h_yield 13 rfl rfl rfl rfl (y_val tok rfl) ?_
                      refine h_one 12 (by kernel_rfl) ?_
                      refine h_yield 12 rfl rfl rfl rfl (y_val tok rfl) ?_
                      refine h_one 15 (by kernel_rfl) ?_
                      refine h_store 15 tok rfl rfl rfl rfl (by first | exact ⟨trivial, trivial⟩ | (repeat' first | exact trivial | exact rfl | apply And.intro); done | simp [onesP, oneP, lk, Value.oneCell']) (.inr ⟨(by repeat (first | exact SubO.nil | refine SubO.cons rfl ?_)), rfl, (by first | exact Vw.le.refl _ | assumption)⟩) ?_
                      refine h_one 16 (by kernel_rfl) ?_
                      refine h_yield 16 rfl rfl rfl rfl (y_val tok rfl) ?_
                      refine h_done [1, 2, 3, 4, 5, 11, 13, 14, 15, 16, 17, 18, 19] (by kernel_rfl) rfl ?_
                      exact x_meet (⟨a2, m2, c2, W2⟩) (⟨hlw2, hput ▸ hX2⟩) (by repeat (first | exact SubF.nil | refine SubF.cons rfl ?_)) (by repeat (first | exact SubO.nil | refine SubO.cons rfl ?_)) rfl (Vw.le.refl _)
                ·
                  refine h_new 14 tok rfl rfl rfl rfl rfl rfl ?_
                  refine h_one 11 (by kernel_rfl) ?_
                  refine h_yield 11 rfl rfl rfl rfl (y_val tok rfl) ?_
                  refine h_two 12 13 (by kernel_rfl) ?_ ?_
                  ·
                    refine h_yield 12 rfl rfl rfl rfl (y_val tok rfl) ?_
                    refine h_two 13 15 (by kernel_rfl) ?_ ?_
                    ·
                      refine h_yield 13 rfl rfl rfl rfl (y_val tok rfl) ?_
                      refine h_one 15 (by kernel_rfl) ?_
                      refine h_store 15 tok rfl rfl rfl rfl (by first | exact ⟨trivial, trivial⟩ | (repeat' first | exact trivial | exact rfl | apply And.intro); done | simp [onesP, oneP, lk, Value.oneCell']) (.inr ⟨(by repeat (first | exact SubO.nil | refine SubO.cons rfl ?_)), rfl, (by first | exact Vw.le.refl _ | assumption)⟩) ?_
                      refine h_one 16 (by kernel_rfl) ?_
                      refine h_yield 16 rfl rfl rfl rfl (y_val tok rfl) ?_
                      refine h_done [1, 2, 3, 4, 5, 11, 13, 14, 15, 16, 17, 18, 19] (by kernel_rfl) rfl ?_
                      exact x_meet (⟨a2, m2, c2, W2⟩) (⟨hlw2, hput ▸ hX2⟩) (by repeat (first | exact SubF.nil | refine SubF.cons rfl ?_)) (by repeat (first | exact SubO.nil | refine SubO.cons rfl ?_)) rfl (Vw.le.refl _)
                    ·
                      refine h_store 15 tok rfl rfl rfl rfl (by first | exact ⟨trivial, trivial⟩ | (repeat' first | exact trivial | exact rfl | apply And.intro); done | simp [onesP, oneP, lk, Value.oneCell']) (.inr ⟨(by repeat (first | exact SubO.nil | refine SubO.cons rfl ?_)), rfl, (by first | exact Vw.le.refl _ | assumption)⟩) ?_
                      refine h_one 13 (by kernel_rfl) ?_
                      refine h_yield 13 rfl rfl rfl rfl (y_val tok rfl) ?_
                      refine h_one 16 (by kernel_rfl) ?_
                      refine h_yield 16 rfl rfl rfl rfl (y_val tok rfl) ?_
                      refine h_done [1, 2, 3, 4, 5, 11, 13, 14, 15, 16, 17, 18, 19] (by kernel_rfl) rfl ?_
                      exact x_meet (⟨a2, m2, c2, W2⟩) (⟨hlw2, hput ▸ hX2⟩) (by repeat (first | exact SubF.nil | refine SubF.cons rfl ?_)) (by repeat (first | exact SubO.nil | refine SubO.cons rfl ?_)) rfl (Vw.le.refl _)
                  ·
                    refine h_yield 13 rfl rfl rfl rfl (y_val tok rfl) ?_
                    refine h_one 12 (by kernel_rfl) ?_
                    refine h_yield 12 rfl rfl rfl rfl (y_val tok rfl) ?_
                    refine h_one 15 (by kernel_rfl) ?_
                    refine h_store 15 tok rfl rfl rfl rfl (by first | exact ⟨trivial, trivial⟩ | (repeat' first | exact trivial | exact rfl | apply And.intro); done | simp [onesP, oneP, lk, Value.oneCell']) (.inr ⟨(by repeat (first | exact SubO.nil | refine SubO.cons rfl ?_)), rfl, (by first | exact Vw.le.refl _ | assumption)⟩) ?_
                    refine h_one 16 (by kernel_rfl) ?_
                    refine h_yield 16 rfl rfl rfl rfl (y_val tok rfl) ?_
                    refine h_done [1, 2, 3, 4, 5, 11, 13, 14, 15, 16, 17, 18, 19] (by kernel_rfl) rfl ?_
                    exact x_meet (⟨a2, m2, c2, W2⟩) (⟨hlw2, hput ▸ hX2⟩) (by repeat (first | exact SubF.nil | refine SubF.cons rfl ?_)) (by repeat (first | exact SubO.nil | refine SubO.cons rfl ?_)) rfl (Vw.le.refl _)
              ·
                refine h_new 14 tok rfl rfl rfl rfl rfl rfl ?_
                refine h_one 10 (by kernel_rfl) ?_
                refine h_callV 10 (fun v V' => ∃ a n' c, v = .tuple #[txV true a n' c, I 0] ∧ SlOf V' Block.cells 2 (.slice a n' c) (putP X [⟨q.block, q.text⟩])) rfl rfl rfl fnok15 rfl rfl (fun hg E w1 hm => by exact write_cV W g ok true a m c X key q.block q.text ha hm_ hc hl _ hm.leV hX hh' (by omega) (by omega) hz) ?_
                rintro v W2 hlw2 hv
                obtain ⟨a2, m2, c2, rfl, hX2⟩ := hv rfl
                refine h_one 11 (by kernel_rfl) ?_
                refine h_yield 11 rfl rfl rfl rfl (y_val tok rfl) ?_
                refine h_two 12 13 (by kernel_rfl) ?_ ?_
                ·
                  refine h_yield 12 rfl rfl rfl rfl (y_val tok rfl) ?_
                  refine h_two 13 15 (by kernel_rfl) ?_ ?_
                  ·
                    refine h_yield 13 rfl rfl rfl rfl (y_val tok rfl) ?_
                    refine h_one 15 (by kernel_rfl) ?_
                    refine h_store 15 tok rfl rfl rfl rfl (by first | exact ⟨trivial, trivial⟩ | (repeat' first | exact trivial | exact rfl | apply And.intro); done | simp [onesP, oneP, lk, Value.oneCell']) (.inr ⟨(by repeat (first | exact SubO.nil | refine SubO.cons rfl ?_)), rfl, (by first | exact Vw.le.refl _ | assumption)⟩) ?_
                    refine h_one 16 (by kernel_rfl) ?_
                    refine h_yield 16 rfl rfl rfl rfl (y_val tok rfl) ?_
                    refine h_done [1, 2, 3, 4, 5, 11, 13, 14, 15, 16, 17, 18, 19] (by kernel_rfl) rfl ?_
                    exact x_meet (⟨a2, m2, c2, W2⟩) (⟨hlw2, hput ▸ hX2⟩) (by repeat (first | exact SubF.nil | refine SubF.cons rfl ?_)) (by repeat (first | exact SubO.nil | refine SubO.cons rfl ?_)) rfl (Vw.le.refl _)
                  ·
                    refine h_store 15 tok rfl rfl rfl rfl (by first | exact ⟨trivial, trivial⟩ | (repeat' first | exact trivial | exact rfl | apply And.intro); done | simp [onesP, oneP, lk, Value.oneCell']) (.inr ⟨(by repeat (first | exact SubO.nil | refine SubO.cons rfl ?_)), rfl, (by first | exact Vw.le.refl _ | assumption)⟩) ?_
                    refine h_one 13 (by kernel_rfl) ?_
                    refine h_yield 13 rfl rfl rfl rfl (y_val tok rfl) ?_
                    refine h_one 16 (by kernel_rfl) ?_
                    refine h_yield 16 rfl rfl rfl rfl (y_val tok rfl) ?_
                    refine h_done [1, 2, 3, 4, 5, 11, 13, 14, 15, 16, 17, 18, 19] (by kernel_rfl) rfl ?_
                    exact x_meet (⟨a2, m2, c2, W2⟩) (⟨hlw2, hput ▸ hX2⟩) (by repeat (first | exact SubF.nil | refine SubF.cons rfl ?_)) (by repeat (first | exact SubO.nil | refine SubO.cons rfl ?_)) rfl (Vw.le.refl _)
                ·
                  refine h_yield 13 rfl rfl rfl rfl (y_val tok rfl) ?_
                  refine h_one 12 (by kernel_rfl) ?_
                  refine h_yield 12 rfl rfl rfl rfl (y_val tok rfl) ?_
                  refine h_one 15 (by kernel_rfl) ?_
                  refine h_store 15 tok rfl rfl rfl rfl (by first | exact ⟨trivial, trivial⟩ | (repeat' first | exact trivial | exact rfl | apply And.intro); done | simp [onesP, oneP, lk, Value.oneCell']) (.inr ⟨(by repeat (first | exact SubO.nil | refine SubO.cons rfl ?_)), rfl, (by first | exact Vw.le.refl _ | assumption)⟩) ?_
                  refine h_one 16 (by kernel_rfl) ?_
                  refine h_yield 16 rfl rfl rfl rfl (y_val tok rfl) ?_
                  refine h_done [1, 2, 3, 4, 5, 11, 13, 14, 15, 16, 17, 18, 19] (by kernel_rfl) rfl ?_
                  exact x_meet (⟨a2, m2, c2, W2⟩) (⟨hlw2, hput ▸ hX2⟩) (by repeat (first | exact SubF.nil | refine SubF.cons rfl ?_)) (by repeat (first | exact SubO.nil | refine SubO.cons rfl ?_)) rfl (Vw.le.refl _)
            rintro ⟨a2, m2, c2, W2⟩ ⟨hlw2, hX2⟩
            try dsimp only
            refine x_then ?_
            refine c_seq ?_
            refine c_heldR mixed rfl (by repeat (first | exact SubO.nil | refine SubO.cons rfl ?_)) (by first | rfl | simp [okCels, allOk_plain]) ?_
            refine t_take 0 rfl (by kernel_rfl) rfl rfl rfl (y_val tok rfl) rfl ?_
            refine t_take 1 rfl (by kernel_rfl) rfl rfl rfl (y_val tok rfl) rfl ?_
            refine t_take 2 rfl (by kernel_rfl) rfl rfl rfl (y_val tok rfl) rfl ?_
            refine t_take 3 rfl (by kernel_rfl) rfl rfl rfl (y_val tok rfl) rfl ?_
            refine t_take 4 rfl (by kernel_rfl) rfl rfl rfl (y_val tok rfl) rfl ?_
            refine t_take 5 rfl (by kernel_rfl) rfl rfl rfl (y_val tok rfl) rfl ?_
            refine t_take 6 rfl (by kernel_rfl) rfl rfl rfl (y_val tok rfl) rfl ?_
            refine t_take 7 rfl (by kernel_rfl) rfl rfl rfl (y_val tok rfl) rfl ?_
            refine t_take 8 rfl (by kernel_rfl) rfl rfl rfl (y_val tok rfl) rfl ?_
            refine t_take 9 rfl (by kernel_rfl) rfl rfl rfl (y_val tok rfl) rfl ?_
            refine t_take 10 rfl (by kernel_rfl) rfl rfl rfl (y_val tok rfl) rfl ?_
            have hst2 := hst'.mono hlw2
            have hlt_q := lt_of_at h_q
            refine t_take 11 rfl (by kernel_rfl) rfl rfl rfl (y_idx tok rfl (fun hg => hst2.sl) (fun hg => ⟨by omega, by omega⟩)) rfl ?_
            refine t_take 12 rfl (by kernel_rfl) rfl rfl rfl (y_fel tok rfl (fun hg => hst2.sl) (fun hg => by omega)) rfl ?_
            refine t_take 13 rfl (by kernel_rfl) rfl rfl rfl (y_lel tok (i) 1 (q) rfl (fun hg => hst2) (fun hg => h_q) rfl rfl) rfl ?_
            refine t_take 14 rfl (by kernel_rfl) rfl rfl rfl (y_val tok rfl) rfl ?_
            refine t_take 15 rfl (by kernel_rfl) rfl rfl rfl (y_val tok rfl) rfl ?_
            refine t_take 16 rfl (by kernel_rfl) rfl rfl rfl (y_val tok rfl) rfl ?_
            refine t_take 17 rfl (by kernel_rfl) rfl rfl rfl (y_val tok rfl) rfl ?_
            refine t_take 18 rfl (by kernel_rfl) rfl rfl rfl (y_val tok rfl) rfl ?_
            refine t_take 19 rfl (by kernel_rfl) rfl rfl rfl (y_val tok rfl) rfl ?_
            refine t_take 20 rfl (by kernel_rfl) rfl rfl rfl (y_val tok rfl) rfl ?_
            refine t_take 21 rfl (by kernel_rfl) rfl rfl rfl (y_val tok rfl) rfl ?_
            refine t_take 22 rfl (by kernel_rfl) rfl rfl rfl (y_val tok rfl) rfl ?_
            refine t_take 23 rfl (by kernel_rfl) rfl rfl rfl (y_val tok rfl) rfl ?_
            refine t_go ?_
            refine h_one 24 (by kernel_rfl) ?_
            refine h_call 24 (.a (.v _)) rfl rfl rfl fnok16 rfl rfl rfl (fun hg E w1 hm => by exact spRcovers_c W _ hl key q.block 2 _ (hlw2.trans hm.leV) hh' (by unfold lim; omega)) ?_
            refine h_one 25 (by kernel_rfl) ?_
            refine h_yield 25 rfl rfl rfl rfl (y_val tok rfl) ?_
            refine h_one 26 (by kernel_rfl) ?_
            refine h_yield 26 rfl rfl rfl rfl (y_val tok rfl) ?_
            refine h_done [1, 2, 3, 4, 5, 11, 13, 14, 15, 16, 17, 18, 19, 20] (by kernel_rfl) rfl ?_
            refine x_then ?_
            refine c_seq ?_
            refine c_seq ?_
            rw [hmay]
            refine c_region ?_
            refine o_yield rfl rfl rfl (y_val tok rfl) ?_
            refine o_yield rfl rfl rfl (y_val tok rfl) ?_
            refine o_yield rfl rfl rfl (y_val tok rfl) ?_
            refine o_yield rfl rfl rfl (y_val tok rfl) ?_
            refine o_yield rfl rfl rfl (y_val tok rfl) ?_
            refine o_yield rfl rfl rfl (y_val tok rfl) ?_
            refine o_yield rfl rfl rfl (y_val tok rfl) ?_
            refine o_yield rfl rfl rfl (y_val tok rfl) ?_
            refine o_yield rfl rfl rfl (y_val tok rfl) ?_
            refine o_yield rfl rfl rfl (y_val tok rfl) ?_
            refine o_call (.a (.v _)) rfl rfl fnok17 rfl rfl rfl (fun hg E w1 hm => by exact hsm (by simp at hg) a2 m2 c2 _) ?_
            refine o_yield rfl rfl rfl (y_val tok rfl) ?_
            refine o_yield rfl rfl rfl (y_val tok rfl) ?_
            refine o_yield rfl rfl rfl (y_val tok rfl) ?_
            refine o_end [1, 2, 3, 4, 5, 11, 13, 14, 15, 16, 17, 18, 20, 129] rfl ?_
            refine x_then ?_
            refine c_cond rfl (fun h => ?_) (fun h => ?_)
            ·
              simp at h
            ·
              refine c_skip ?_
              refine x_then ?_
              refine c_seq ?_
              refine c_region ?_
              refine o_yield rfl rfl rfl (y_val tok rfl) ?_
              refine o_store tok rfl rfl rfl (by first | exact ⟨trivial, trivial⟩ | (repeat' first | exact trivial | exact rfl | apply And.intro); done | simp [onesP, oneP, lk, Value.oneCell']) ?_
              refine o_end [1, 2, 3, 4, 5, 11, 13, 14, 15, 16, 17, 20] rfl ?_
              refine x_then ?_
              refine c_seq ?_
              refine c_region ?_
              refine o_yield rfl rfl rfl (y_val tok rfl) ?_
              refine o_end [1, 2, 3, 4, 5, 11, 13, 14, 15, 16, 17, 131] rfl ?_
              refine x_then ?_
              refine c_cond rfl (fun h => ?_) (fun h => ?_)
              ·
                refine c_seq ?_
                refine c_seq ?_
                refine c_region ?_
                refine o_yield rfl rfl rfl (y_val tok rfl) ?_
                refine o_yield rfl rfl rfl (y_aidx tok q.block.toNat rfl (by simp) (fun hg => by omega)) ?_
                refine o_yield rfl rfl rfl (y_ald tok rfl rfl (fun hg => wroteA_atI X q.block hn0 (by omega))) ?_
                refine o_yield rfl rfl rfl (y_val tok rfl) ?_
                refine o_end [1, 2, 3, 4, 5, 11, 13, 14, 15, 16, 17, 135] rfl ?_
                refine x_then ?_
                refine c_cond rfl (fun h => ?_) (fun h => ?_)
                ·
                  refine c_region ?_
                  refine o_yield rfl rfl rfl (y_val tok rfl) ?_
                  refine o_yield rfl rfl rfl (y_val tok rfl) ?_
                  refine o_yield rfl rfl rfl (y_val tok rfl) ?_
                  refine o_end [1, 2, 3, 4, 5, 11, 13, 14, 15, 16, 17] rfl ?_
                  refine x_then ?_
                  refine c_seq ?_
                  refine c_region ?_
                  refine o_yield rfl rfl rfl (y_val tok rfl) ?_
                  have hcnt : IntKind.i64.wrap ((X.length : Int) + 1) = ((insB X ⟨q.block, q.text⟩).length : Int) := by
                    have hb : ¬ (getB X q.block).2 = true := by simpa using h
                    rw [hlen2, if_neg hb, wrapI (by omega) (by omega)]
                  refine o_yield rfl rfl rfl (y_aidx tok q.block.toNat rfl (by simp) (fun hg => by omega)) ?_
                  refine o_stepN rfl rfl rfl rfl (s_ast tok rfl rfl rfl (by rw [wroteA_len]; omega)) (fun _ _ => ?_)
                  refine o_end [1, 2, 3, 4, 5, 11, 13, 14, 15, 16, 17] rfl ?_
                  refine x_then ?_
                  refine c_region ?_
                  refine o_yield rfl rfl rfl (y_val tok rfl) ?_
                  refine o_yield rfl rfl rfl (y_val tok rfl) ?_
                  refine o_yield rfl rfl rfl (y_val tok rfl) ?_
                  have hlt_q := lt_of_at h_q
                  refine o_yield rfl rfl rfl (y_idx tok rfl (fun hg => hst2.sl) (fun hg => ⟨by omega, by omega⟩)) ?_
                  refine o_yield rfl rfl rfl (y_fel tok rfl (fun hg => hst2.sl) (fun hg => by omega)) ?_
                  refine o_yield rfl rfl rfl (y_lel tok (i) 1 (q) rfl (fun hg => hst2) (fun hg => h_q) rfl rfl) ?_
                  refine o_yield rfl rfl rfl (y_aidx tok q.block.toNat rfl (by simp) (fun hg => by omega)) ?_
                  refine o_stepN rfl rfl rfl rfl (s_ast tok rfl rfl rfl (by rw [lastA_len]; omega)) (fun _ _ => ?_)
                  refine o_end [1, 2, 3, 4, 5, 11, 13, 14, 15, 16] rfl ?_
                  refine x_block ?_
                  refine x_then ?_
                  refine c_region ?_
                  refine o_yield rfl rfl rfl (y_val tok rfl) ?_
                  refine o_yield rfl rfl rfl (y_val tok rfl) ?_
                  refine o_yield rfl rfl rfl (y_val tok rfl) ?_
                  refine o_end [1, 2, 3, 4, 5, 11, 13, 14, 15, 16] rfl ?_
                  refine x_then ?_
                  rw [lastA_setI X _ _ hn0 (by omega), wroteA_setI X _ _ hn0 (by omega), hwi, hcnt]
                  refine x_round ((i + 1, insB X ⟨q.block, q.text⟩, a2, m2, c2, W2)) (⟨by dsimp only; omega, by dsimp only; omega, hwW.trans hlw2, hmX2, hX2⟩) (by first | omega | (dsimp only; omega)) (by repeat (first | exact SubF.nil | refine SubF.cons rfl ?_)) (by repeat (first | exact SubO.nil | refine SubO.cons rfl ?_)) rfl (Vw.le.refl _)
                ·
                  refine c_skip ?_
                  refine x_then ?_
                  refine c_seq ?_
                  refine c_region ?_
                  refine o_yield rfl rfl rfl (y_val tok rfl) ?_
                  have hcnt : (X.length : Int) = ((insB X ⟨q.block, q.text⟩).length : Int) := by
                    have hb : (getB X q.block).2 = true := by simpa using h
                    rw [hlen2, if_pos hb]; omega
                  refine o_yield rfl rfl rfl (y_aidx tok q.block.toNat rfl (by simp) (fun hg => by omega)) ?_
                  refine o_stepN rfl rfl rfl rfl (s_ast tok rfl rfl rfl (by rw [wroteA_len]; omega)) (fun _ _ => ?_)
                  refine o_end [1, 2, 3, 4, 5, 11, 13, 14, 15, 16, 17] rfl ?_
                  refine x_then ?_
                  refine c_region ?_
                  refine o_yield rfl rfl rfl (y_val tok rfl) ?_
                  refine o_yield rfl rfl rfl (y_val tok rfl) ?_
                  refine o_yield rfl rfl rfl (y_val tok rfl) ?_
                  have hlt_q := lt_of_at h_q
                  refine o_yield rfl rfl rfl (y_idx tok rfl (fun hg => hst2.sl) (fun hg => ⟨by omega, by omega⟩)) ?_
                  refine o_yield rfl rfl rfl (y_fel tok rfl (fun hg => hst2.sl) (fun hg => by omega)) ?_
                  refine o_yield rfl rfl rfl (y_lel tok (i) 1 (q) rfl (fun hg => hst2) (fun hg => h_q) rfl rfl) ?_
                  refine o_yield rfl rfl rfl (y_aidx tok q.block.toNat rfl (by simp) (fun hg => by omega)) ?_
                  refine o_stepN rfl rfl rfl rfl (s_ast tok rfl rfl rfl (by rw [lastA_len]; omega)) (fun _ _ => ?_)
                  refine o_end [1, 2, 3, 4, 5, 11, 13, 14, 15, 16] rfl ?_
                  refine x_block ?_
                  refine x_then ?_
                  refine c_region ?_
                  refine o_yield rfl rfl rfl (y_val tok rfl) ?_
                  refine o_yield rfl rfl rfl (y_val tok rfl) ?_
                  refine o_yield rfl rfl rfl (y_val tok rfl) ?_
                  refine o_end [1, 2, 3, 4, 5, 11, 13, 14, 15, 16] rfl ?_
                  refine x_then ?_
                  rw [lastA_setI X _ _ hn0 (by omega), wroteA_setI X _ _ hn0 (by omega), hwi, hcnt]
                  refine x_round ((i + 1, insB X ⟨q.block, q.text⟩, a2, m2, c2, W2)) (⟨by dsimp only; omega, by dsimp only; omega, hwW.trans hlw2, hmX2, hX2⟩) (by first | omega | (dsimp only; omega)) (by repeat (first | exact SubF.nil | refine SubF.cons rfl ?_)) (by repeat (first | exact SubO.nil | refine SubO.cons rfl ?_)) rfl (Vw.le.refl _)
              ·
                cases h
          ·
            have hmay : (decide (0 ≤ q.block) && decide (q.block < g.blocks) && decide ((q.text.size : Int) ≤ IntKind.i64.wrap (g.per * 256)) && covers hl key q.block 2) = false := by
              rw [Bool.eq_false_iff]
              intro hc
              simp only [Bool.and_eq_true, decide_eq_true_eq] at hc
              exact hz ((wr_iff hG hl key q.block q.text).2 ⟨hc.1.1.1, hc.1.1.2, by omega, hc.2⟩)
            refine c_skip ?_
            refine x_then ?_
            refine c_seq ?_
            refine c_heldM (σ := Unit) (fun _ => [(1, .a (.v (I key))), (2, .a (.v (.slice sa sm sc))), (3, .a (.v (.slice pa pm pc))), (4, .a (.v (.slice ha hm_ hc))), (5, .a (.ptr 0 0)), (11, .a (.ptr 1 0)), (13, .a (.ptr 2 0)), (14, .a (.ptr 3 0)), (15, .a (.v (I X.length))), (16, .a (.v (I i))), (17, .a (.v (I q.block))), (18, .a (.ptr 4 0)), (19, .a (.v (I (wrE g true hl key q.block q.text))))]) (fun _ => [(4, .lit [.v (.bool true), .v (.slice a m c)] 26), (0, .lit (g.cells.map .v) 23), (1, .lit [.v (.bool true), .v (.slice a m c)] 26), (2, .lit (lastA X) 44), (3, .lit (wroteA X) 45)]) (5) (fun _ => W) (fun _ => True) mixed ?_ ?_
            ·
              refine t_take 0 rfl (by kernel_rfl) rfl rfl rfl (y_val tok rfl) rfl ?_
              refine t_take 1 rfl (by kernel_rfl) rfl rfl rfl (y_val tok rfl) rfl ?_
              refine t_take 2 rfl (by kernel_rfl) rfl rfl rfl (y_val tok rfl) rfl ?_
              refine t_take 3 rfl (by kernel_rfl) rfl rfl rfl (y_val tok rfl) rfl ?_
              refine t_take 4 rfl (by kernel_rfl) rfl rfl rfl (y_val tok rfl) rfl ?_
              refine t_take 5 rfl (by kernel_rfl) rfl rfl rfl (y_val tok rfl) rfl ?_
              refine t_take 6 rfl (by kernel_rfl) rfl rfl rfl (y_idx tok rfl (fun hg => hst'.sl) (fun hg => ⟨by omega, by omega⟩)) rfl ?_
              refine t_take 7 rfl (by kernel_rfl) rfl rfl rfl (y_fel tok rfl (fun hg => hst'.sl) (fun hg => by omega)) rfl ?_
              refine t_take 8 rfl (by kernel_rfl) rfl rfl rfl (y_lel tok (i) 1 (q) rfl (fun hg => hst') (fun hg => h_q) rfl rfl) rfl ?_
              refine t_take 9 rfl (by kernel_rfl) rfl rfl rfl (y_val tok rfl) rfl ?_
              refine t_go ?_
              refine h_two 10 14 (by kernel_rfl) ?_ ?_
              ·
                refine h_call 10 (.a (.v (.tuple #[txV true a m c, I (wrE g true hl key q.block q.text)]))) rfl rfl rfl fnok15 rfl rfl rfl (fun hg E w1 hm => by exact write_no W g ok true a m c X key q.block q.text ha hm_ hc hl _ hm.leV hX hh' (by omega) (by omega) hz) ?_
                refine h_two 11 14 (by kernel_rfl) ?_ ?_
                ·
                  refine h_yield 11 rfl rfl rfl rfl (y_val tok rfl) ?_
                  refine h_three 12 13 14 (by kernel_rfl) ?_ ?_ ?_
                  ·
                    refine h_yield 12 rfl rfl rfl rfl (y_val tok rfl) ?_
                    refine h_two 13 14 (by kernel_rfl) ?_ ?_
                    ·
                      refine h_yield 13 rfl rfl rfl rfl (y_val tok rfl) ?_
                      refine h_one 14 (by kernel_rfl) ?_
                      refine h_new 14 tok rfl rfl rfl rfl rfl rfl ?_
                      refine h_one 15 (by kernel_rfl) ?_
                      refine h_store 15 tok rfl rfl rfl rfl (by first | exact ⟨trivial, trivial⟩ | (repeat' first | exact trivial | exact rfl | apply And.intro); done | simp [onesP, oneP, lk, Value.oneCell']) (.inr ⟨(by repeat (first | exact SubO.nil | refine SubO.cons rfl ?_)), rfl, (by first | exact Vw.le.refl _ | assumption)⟩) ?_
                      refine h_one 16 (by kernel_rfl) ?_
                      refine h_yield 16 rfl rfl rfl rfl (y_val tok rfl) ?_
                      refine h_done [1, 2, 3, 4, 5, 11, 13, 14, 15, 16, 17, 18, 19] (by kernel_rfl) rfl ?_
                      exact x_meet () trivial (by repeat (first | exact SubF.nil | refine SubF.cons rfl ?_)) (by repeat (first | exact SubO.nil | refine SubO.cons rfl ?_)) rfl (Vw.le.refl _)
                    ·
                      refine h_new 14 tok rfl rfl rfl rfl rfl rfl ?_
                      refine h_two 13 15 (by kernel_rfl) ?_ ?_
                      ·
                        refine h_yield 13 rfl rfl rfl rfl (y_val tok rfl) ?_
                        refine h_one 15 (by kernel_rfl) ?_
                        refine h_store 15 tok rfl rfl rfl rfl (by first | exact ⟨trivial, trivial⟩ | (repeat' first | exact trivial | exact rfl | apply And.intro); done | simp [onesP, oneP, lk, Value.oneCell']) (.inr ⟨(by repeat (first | exact SubO.nil | refine SubO.cons rfl ?_)), rfl, (by first | exact Vw.le.refl _ | assumption)⟩) ?_
                        refine h_one 16 (by kernel_rfl) ?_
                        refine h_yield 16 rfl rfl rfl rfl (y_val tok rfl) ?_
                        refine h_done [1, 2, 3, 4, 5, 11, 13, 14, 15, 16, 17, 18, 19] (by kernel_rfl) rfl ?_
                        exact x_meet () trivial (by repeat (first | exact SubF.nil | refine SubF.cons rfl ?_)) (by repeat (first | exact SubO.nil | refine SubO.cons rfl ?_)) rfl (Vw.le.refl _)
                      ·
                        refine h_store 15 tok rfl rfl rfl rfl (by first | exact ⟨trivial, trivial⟩ | (repeat' first | exact trivial | exact rfl | apply And.intro); done | simp [onesP, oneP, lk, Value.oneCell']) (.inr ⟨(by repeat (first | exact SubO.nil | refine SubO.cons rfl ?_)), rfl, (by first | exact Vw.le.refl _ | assumption)⟩) ?_
                        refine h_one 13 (by kernel_rfl) ?_
                        refine h_yield 13 rfl rfl rfl rfl (y_val tok rfl) ?_
                        refine h_one 16 (by kernel_rfl) ?_
                        refine h_yield 16 rfl rfl rfl rfl (y_val tok rfl) ?_
                        refine h_done [1, 2, 3, 4, 5, 11, 13, 14, 15, 16, 17, 18, 19] (by kernel_rfl) rfl ?_
                        exact x_meet () trivial (by repeat (first | exact SubF.nil | refine SubF.cons rfl ?_)) (by repeat (first | exact SubO.nil | refine SubO.cons rfl ?_)) rfl (Vw.le.refl _)
                  ·
                    refine h_yield 13 rfl rfl rfl rfl (y_val tok rfl) ?_
                    refine h_two 12 14 (by kernel_rfl) ?_ ?_
                    ·
                      refine h_yield 12 rfl rfl rfl rfl (y_val tok rfl) ?_
                      refine h_one 14 (by kernel_rfl) ?_
                      refine h_new 14 tok rfl rfl rfl rfl rfl rfl ?_
                      refine h_one 15 (by kernel_rfl) ?_
                      refine h_store 15 tok rfl rfl rfl rfl (by first | exact ⟨trivial, trivial⟩ | (repeat' first | exact trivial | exact rfl | apply And.intro); done | simp [onesP, oneP, lk, Value.oneCell']) (.inr ⟨(by repeat (first | exact SubO.nil | refine SubO.cons rfl ?_)), rfl, (by first | exact Vw.le.refl _ | assumption)⟩) ?_
                      refine h_one 16 (by kernel_rfl) ?_
                      refine h_yield 16 rfl rfl rfl rfl (y_val tok rfl) ?_
                      refine h_done [1, 2, 3, 4, 5, 11, 13, 14, 15, 16, 17, 18, 19] (by kernel_rfl) rfl ?_
                      exact x_meet () trivial (by repeat (first | exact SubF.nil | refine SubF.cons rfl ?_)) (by repeat (first | exact SubO.nil | refine SubO.cons rfl ?_)) rfl (Vw.le.refl _)
                    ·
                      refine h_new 14 tok rfl rfl rfl rfl rfl rfl ?_
                      refine h_one 12 (by kernel_rfl) ?_
                      refine h_yield 12 rfl rfl rfl rfl (y_val tok rfl) ?_
                      refine h_one 15 (by kernel_rfl) ?_
                      refine h_store 15 tok rfl rfl rfl rfl (by first | exact ⟨trivial, trivial⟩ | (repeat' first | exact trivial | exact rfl | apply And.intro); done | simp [onesP, oneP, lk, Value.oneCell']) (.inr ⟨(by repeat (first | exact SubO.nil | refine SubO.cons rfl ?_)), rfl, (by first | exact Vw.le.refl _ | assumption)⟩) ?_
                      refine h_one 16 (by kernel_rfl) ?_
                      refine h_yield 16 rfl rfl rfl rfl (y_val tok rfl) ?_
                      refine h_done [1, 2, 3, 4, 5, 11, 13, 14, 15, 16, 17, 18, 19] (by kernel_rfl) rfl ?_
                      exact x_meet () trivial (by repeat (first | exact SubF.nil | refine SubF.cons rfl ?_)) (by repeat (first | exact SubO.nil | refine SubO.cons rfl ?_)) rfl (Vw.le.refl _)
                  ·
                    refine h_new 14 tok rfl rfl rfl rfl rfl rfl ?_
                    refine h_two 12 13 (by kernel_rfl) ?_ ?_
                    ·
                      refine h_yield 12 rfl rfl rfl rfl (y_val tok rfl) ?_
                      refine h_two 13 15 (by kernel_rfl) ?_ ?_
                      ·
                        refine h_yield 13 rfl rfl rfl rfl (y_val tok rfl) ?_
                        refine h_one 15 (by kernel_rfl) ?_
                        refine h_store 15 tok rfl rfl rfl rfl (by first | exact ⟨trivial, trivial⟩ | (repeat' first | exact trivial | exact rfl | apply And.intro); done | simp [onesP, oneP, lk, Value.oneCell']) (.inr ⟨(by repeat (first | exact SubO.nil | refine SubO.cons rfl ?_)), rfl, (by first | exact Vw.le.refl _ | assumption)⟩) ?_
                        refine h_one 16 (by kernel_rfl) ?_
                        refine h_yield 16 rfl rfl rfl rfl (y_val tok rfl) ?_
                        refine h_done [1, 2, 3, 4, 5, 11, 13, 14, 15, 16, 17, 18, 19] (by kernel_rfl) rfl ?_
                        exact x_meet () trivial (by repeat (first | exact SubF.nil | refine SubF.cons rfl ?_)) (by repeat (first | exact SubO.nil | refine SubO.cons rfl ?_)) rfl (Vw.le.refl _)
                      ·
                        refine h_store 15 tok rfl rfl rfl rfl (by first | exact ⟨trivial, trivial⟩ | (repeat' first | exact trivial | exact rfl | apply And.intro); done | simp [onesP, oneP, lk, Value.oneCell']) (.inr ⟨(by repeat (first | exact SubO.nil | refine SubO.cons rfl ?_)), rfl, (by first | exact Vw.le.refl _ | assumption)⟩) ?_
                        refine h_one 13 (by kernel_rfl) ?_
                        refine h_yield 13 rfl rfl rfl rfl (y_val tok rfl) ?_
                        refine h_one 16 (by kernel_rfl) ?_
                        refine h_yield 16 rfl rfl rfl rfl (y_val tok rfl) ?_
                        refine h_done [1, 2, 3, 4, 5, 11, 13, 14, 15, 16, 17, 18, 19] (by kernel_rfl) rfl ?_
                        exact x_meet () trivial (by repeat (first | exact SubF.nil | refine SubF.cons rfl ?_)) (by repeat (first | exact SubO.nil | refine SubO.cons rfl ?_)) rfl (Vw.le.refl _)
                    ·
                      refine h_yield 13 rfl rfl rfl rfl (y_val tok rfl) ?_
                      refine h_one 12 (by kernel_rfl) ?_
                      refine h_yield 12 rfl rfl rfl rfl (y_val tok rfl) ?_
                      refine h_one 15 (by kernel_rfl) ?_
                      refine h_store 15 tok rfl rfl rfl rfl (by first | exact ⟨trivial, trivial⟩ | (repeat' first | exact trivial | exact rfl | apply And.intro); done | simp [onesP, oneP, lk, Value.oneCell']) (.inr ⟨(by repeat (first | exact SubO.nil | refine SubO.cons rfl ?_)), rfl, (by first | exact Vw.le.refl _ | assumption)⟩) ?_
                      refine h_one 16 (by kernel_rfl) ?_
                      refine h_yield 16 rfl rfl rfl rfl (y_val tok rfl) ?_
                      refine h_done [1, 2, 3, 4, 5, 11, 13, 14, 15, 16, 17, 18, 19] (by kernel_rfl) rfl ?_
                      exact x_meet () trivial (by repeat (first | exact SubF.nil | refine SubF.cons rfl ?_)) (by repeat (first | exact SubO.nil | refine SubO.cons rfl ?_)) rfl (Vw.le.refl _)
                ·
                  refine h_new 14 tok rfl rfl rfl rfl rfl rfl ?_
                  refine h_one 11 (by kernel_rfl) ?_
                  refine h_yield 11 rfl rfl rfl rfl (y_val tok rfl) ?_
                  refine h_two 12 13 (by kernel_rfl) ?_ ?_
                  ·
                    refine h_yield 12 rfl rfl rfl rfl (y_val tok rfl) ?_
                    refine h_two 13 15 (by kernel_rfl) ?_ ?_
                    ·
                      refine h_yield 13 rfl rfl rfl rfl (y_val tok rfl) ?_
                      refine h_one 15 (by kernel_rfl) ?_
                      refine h_store 15 tok rfl rfl rfl rfl (by first | exact ⟨trivial, trivial⟩ | (repeat' first | exact trivial | exact rfl | apply And.intro); done | simp [onesP, oneP, lk, Value.oneCell']) (.inr ⟨(by repeat (first | exact SubO.nil | refine SubO.cons rfl ?_)), rfl, (by first | exact Vw.le.refl _ | assumption)⟩) ?_
                      refine h_one 16 (by kernel_rfl) ?_
                      refine h_yield 16 rfl rfl rfl rfl (y_val tok rfl) ?_
                      refine h_done [1, 2, 3, 4, 5, 11, 13, 14, 15, 16, 17, 18, 19] (by kernel_rfl) rfl ?_
                      exact x_meet () trivial (by repeat (first | exact SubF.nil | refine SubF.cons rfl ?_)) (by repeat (first | exact SubO.nil | refine SubO.cons rfl ?_)) rfl (Vw.le.refl _)
                    ·
                      refine h_store 15 tok rfl rfl rfl rfl (by first | exact ⟨trivial, trivial⟩ | (repeat' first | exact trivial | exact rfl | apply And.intro); done | simp [onesP, oneP, lk, Value.oneCell']) (.inr ⟨(by repeat (first | exact SubO.nil | refine SubO.cons rfl ?_)), rfl, (by first | exact Vw.le.refl _ | assumption)⟩) ?_
                      refine h_one 13 (by kernel_rfl) ?_
                      refine h_yield 13 rfl rfl rfl rfl (y_val tok rfl) ?_
                      refine h_one 16 (by kernel_rfl) ?_
                      refine h_yield 16 rfl rfl rfl rfl (y_val tok rfl) ?_
                      refine h_done [1, 2, 3, 4, 5, 11, 13, 14, 15, 16, 17, 18, 19] (by kernel_rfl) rfl ?_
                      exact x_meet () trivial (by repeat (first | exact SubF.nil | refine SubF.cons rfl ?_)) (by repeat (first | exact SubO.nil | refine SubO.cons rfl ?_)) rfl (Vw.le.refl _)
                  ·
                    refine h_yield 13 rfl rfl rfl rfl (y_val tok rfl) ?_
                    refine h_one 12 (by kernel_rfl) ?_
                    refine h_yield 12 rfl rfl rfl rfl (y_val tok rfl) ?_
                    refine h_one 15 (by kernel_rfl) ?_
                    refine h_store 15 tok rfl rfl rfl rfl (by first | exact ⟨trivial, trivial⟩ | (repeat' first | exact trivial | exact rfl | apply And.intro); done | simp [onesP, oneP, lk, Value.oneCell']) (.inr ⟨(by repeat (first | exact SubO.nil | refine SubO.cons rfl ?_)), rfl, (by first | exact Vw.le.refl _ | assumption)⟩) ?_
                    refine h_one 16 (by kernel_rfl) ?_
                    refine h_yield 16 rfl rfl rfl rfl (y_val tok rfl) ?_
                    refine h_done [1, 2, 3, 4, 5, 11, 13, 14, 15, 16, 17, 18, 19] (by kernel_rfl) rfl ?_
                    exact x_meet () trivial (by repeat (first | exact SubF.nil | refine SubF.cons rfl ?_)) (by repeat (first | exact SubO.nil | refine SubO.cons rfl ?_)) rfl (Vw.le.refl _)
              ·
                refine h_new 14 tok rfl rfl rfl rfl rfl rfl ?_
                refine h_one 10 (by kernel_rfl) ?_
                refine h_call 10 (.a (.v (.tuple #[txV true a m c, I (wrE g true hl key q.block q.text)]))) rfl rfl rfl fnok15 rfl rfl rfl (fun hg E w1 hm => by exact write_no W g ok true a m c X key q.block q.text ha hm_ hc hl _ hm.leV hX hh' (by omega) (by omega) hz) ?_
                refine h_one 11 (by kernel_rfl) ?_
                refine h_yield 11 rfl rfl rfl rfl (y_val tok rfl) ?_
                refine h_two 12 13 (by kernel_rfl) ?_ ?_
                ·
                  refine h_yield 12 rfl rfl rfl rfl (y_val tok rfl) ?_
                  refine h_two 13 15 (by kernel_rfl) ?_ ?_
                  ·
                    refine h_yield 13 rfl rfl rfl rfl (y_val tok rfl) ?_
                    refine h_one 15 (by kernel_rfl) ?_
                    refine h_store 15 tok rfl rfl rfl rfl (by first | exact ⟨trivial, trivial⟩ | (repeat' first | exact trivial | exact rfl | apply And.intro); done | simp [onesP, oneP, lk, Value.oneCell']) (.inr ⟨(by repeat (first | exact SubO.nil | refine SubO.cons rfl ?_)), rfl, (by first | exact Vw.le.refl _ | assumption)⟩) ?_
                    refine h_one 16 (by kernel_rfl) ?_
                    refine h_yield 16 rfl rfl rfl rfl (y_val tok rfl) ?_
                    refine h_done [1, 2, 3, 4, 5, 11, 13, 14, 15, 16, 17, 18, 19] (by kernel_rfl) rfl ?_
                    exact x_meet () trivial (by repeat (first | exact SubF.nil | refine SubF.cons rfl ?_)) (by repeat (first | exact SubO.nil | refine SubO.cons rfl ?_)) rfl (Vw.le.refl _)
                  ·
                    refine h_store 15 tok rfl rfl rfl rfl (by first | exact ⟨trivial, trivial⟩ | (repeat' first | exact trivial | exact rfl | apply And.intro); done | simp [onesP, oneP, lk, Value.oneCell']) (.inr ⟨(by repeat (first | exact SubO.nil | refine SubO.cons rfl ?_)), rfl, (by first | exact Vw.le.refl _ | assumption)⟩) ?_
                    refine h_one 13 (by kernel_rfl) ?_
                    refine h_yield 13 rfl rfl rfl rfl (y_val tok rfl) ?_
                    refine h_one 16 (by kernel_rfl) ?_
                    refine h_yield 16 rfl rfl rfl rfl (y_val tok rfl) ?_
                    refine h_done [1, 2, 3, 4, 5, 11, 13, 14, 15, 16, 17, 18, 19] (by kernel_rfl) rfl ?_
                    exact x_meet () trivial (by repeat (first | exact SubF.nil | refine SubF.cons rfl ?_)) (by repeat (first | exact SubO.nil | refine SubO.cons rfl ?_)) rfl (Vw.le.refl _)
                ·
                  refine h_yield 13 rfl rfl rfl rfl (y_val tok rfl) ?_
                  refine h_one 12 (by kernel_rfl) ?_
                  refine h_yield 12 rfl rfl rfl rfl (y_val tok rfl) ?_
                  refine h_one 15 (by kernel_rfl) ?_
                  refine h_store 15 tok rfl rfl rfl rfl (by first | exact ⟨trivial, trivial⟩ | (repeat' first | exact trivial | exact rfl | apply And.intro); done | simp [onesP, oneP, lk, Value.oneCell']) (.inr ⟨(by repeat (first | exact SubO.nil | refine SubO.cons rfl ?_)), rfl, (by first | exact Vw.le.refl _ | assumption)⟩) ?_
                  refine h_one 16 (by kernel_rfl) ?_
                  refine h_yield 16 rfl rfl rfl rfl (y_val tok rfl) ?_
                  refine h_done [1, 2, 3, 4, 5, 11, 13, 14, 15, 16, 17, 18, 19] (by kernel_rfl) rfl ?_
                  exact x_meet () trivial (by repeat (first | exact SubF.nil | refine SubF.cons rfl ?_)) (by repeat (first | exact SubO.nil | refine SubO.cons rfl ?_)) rfl (Vw.le.refl _)
            rintro ⟨⟩ -
            refine x_then ?_
            refine c_seq ?_
            refine c_heldR mixed rfl (by repeat (first | exact SubO.nil | refine SubO.cons rfl ?_)) (by first | rfl | simp [okCels, allOk_plain]) ?_
            refine t_take 0 rfl (by kernel_rfl) rfl rfl rfl (y_val tok rfl) rfl ?_
            refine t_take 1 rfl (by kernel_rfl) rfl rfl rfl (y_val tok rfl) rfl ?_
            refine t_take 2 rfl (by kernel_rfl) rfl rfl rfl (y_val tok rfl) rfl ?_
            refine t_take 3 rfl (by kernel_rfl) rfl rfl rfl (y_val tok rfl) rfl ?_
            refine t_take 4 rfl (by kernel_rfl) rfl rfl rfl (y_val tok rfl) rfl ?_
            refine t_take 5 rfl (by kernel_rfl) rfl rfl rfl (y_val tok rfl) rfl ?_
            refine t_take 6 rfl (by kernel_rfl) rfl rfl rfl (y_val tok rfl) rfl ?_
            refine t_take 7 rfl (by kernel_rfl) rfl rfl rfl (y_val tok rfl) rfl ?_
            refine t_take 8 rfl (by kernel_rfl) rfl rfl rfl (y_val tok rfl) rfl ?_
            refine t_take 9 rfl (by kernel_rfl) rfl rfl rfl (y_val tok rfl) rfl ?_
            refine t_take 10 rfl (by kernel_rfl) rfl rfl rfl (y_val tok rfl) rfl ?_
            have hlt_q := lt_of_at h_q
            refine t_take 11 rfl (by kernel_rfl) rfl rfl rfl (y_idx tok rfl (fun hg => hst'.sl) (fun hg => ⟨by omega, by omega⟩)) rfl ?_
            refine t_take 12 rfl (by kernel_rfl) rfl rfl rfl (y_fel tok rfl (fun hg => hst'.sl) (fun hg => by omega)) rfl ?_
            refine t_take 13 rfl (by kernel_rfl) rfl rfl rfl (y_lel tok (i) 1 (q) rfl (fun hg => hst') (fun hg => h_q) rfl rfl) rfl ?_
            refine t_take 14 rfl (by kernel_rfl) rfl rfl rfl (y_val tok rfl) rfl ?_
            refine t_take 15 rfl (by kernel_rfl) rfl rfl rfl (y_val tok rfl) rfl ?_
            refine t_take 16 rfl (by kernel_rfl) rfl rfl rfl (y_val tok rfl) rfl ?_
            refine t_take 17 rfl (by kernel_rfl) rfl rfl rfl (y_val tok rfl) rfl ?_
            refine t_take 18 rfl (by kernel_rfl) rfl rfl rfl (y_val tok rfl) rfl ?_
            refine t_take 19 rfl (by kernel_rfl) rfl rfl rfl (y_val tok rfl) rfl ?_
            refine t_take 20 rfl (by kernel_rfl) rfl rfl rfl (y_val tok rfl) rfl ?_
            refine t_take 21 rfl (by kernel_rfl) rfl rfl rfl (y_val tok rfl) rfl ?_
            refine t_take 22 rfl (by kernel_rfl) rfl rfl rfl (y_val tok rfl) rfl ?_
            refine t_take 23 rfl (by kernel_rfl) rfl rfl rfl (y_val tok rfl) rfl ?_
            refine t_go ?_
            refine h_one 24 (by kernel_rfl) ?_
            refine h_call 24 (.a (.v _)) rfl rfl rfl fnok16 rfl rfl rfl (fun hg E w1 hm => by exact spRcovers_c W _ hl key q.block 2 _ hm.leV hh' (by unfold lim; omega)) ?_
            refine h_one 25 (by kernel_rfl) ?_
            refine h_yield 25 rfl rfl rfl rfl (y_val tok rfl) ?_
            refine h_one 26 (by kernel_rfl) ?_
            refine h_yield 26 rfl rfl rfl rfl (y_val tok rfl) ?_
            refine h_done [1, 2, 3, 4, 5, 11, 13, 14, 15, 16, 17, 18, 19, 20] (by kernel_rfl) rfl ?_
            refine x_then ?_
            refine c_seq ?_
            refine c_seq ?_
            rw [hmay]
            refine c_region ?_
            refine o_yield rfl rfl rfl (y_val tok rfl) ?_
            refine o_yield rfl rfl rfl (y_val tok rfl) ?_
            refine o_yield rfl rfl rfl (y_val tok rfl) ?_
            refine o_yield rfl rfl rfl (y_val tok rfl) ?_
            refine o_yield rfl rfl rfl (y_val tok rfl) ?_
            refine o_yield rfl rfl rfl (y_val tok rfl) ?_
            refine o_yield rfl rfl rfl (y_val tok rfl) ?_
            refine o_yield rfl rfl rfl (y_val tok rfl) ?_
            refine o_yield rfl rfl rfl (y_val tok rfl) ?_
            refine o_yield rfl rfl rfl (y_val tok rfl) ?_
            refine o_call (.a (.v _)) rfl rfl fnok17 rfl rfl rfl (fun hg E w1 hm => by exact same23_c W true a a m c m c X _ hm.leV hX hX (by omega)) ?_
            refine o_yield rfl rfl rfl (y_val tok rfl) ?_
            refine o_yield rfl rfl rfl (y_val tok rfl) ?_
            refine o_yield rfl rfl rfl (y_val tok rfl) ?_
            refine o_end [1, 2, 3, 4, 5, 11, 13, 14, 15, 16, 17, 18, 20, 129] rfl ?_
            refine x_then ?_
            refine c_cond rfl (fun h => ?_) (fun h => ?_)
            ·
              simp [hz] at h
            ·
              refine c_skip ?_
              refine x_then ?_
              refine c_seq ?_
              refine c_region ?_
              refine o_yield rfl rfl rfl (y_val tok rfl) ?_
              refine o_store tok rfl rfl rfl (by first | exact ⟨trivial, trivial⟩ | (repeat' first | exact trivial | exact rfl | apply And.intro); done | simp [onesP, oneP, lk, Value.oneCell']) ?_
              refine o_end [1, 2, 3, 4, 5, 11, 13, 14, 15, 16, 17, 20] rfl ?_
              refine x_then ?_
              refine c_seq ?_
              refine c_region ?_
              refine o_yield rfl rfl rfl (y_val tok rfl) ?_
              refine o_end [1, 2, 3, 4, 5, 11, 13, 14, 15, 16, 17, 131] rfl ?_
              refine x_then ?_
              refine c_cond rfl (fun h => ?_) (fun h => ?_)
              ·
                cases h
              ·
                refine c_skip ?_
                refine x_block ?_
                refine x_then ?_
                refine c_region ?_
                refine o_yield rfl rfl rfl (y_val tok rfl) ?_
                refine o_yield rfl rfl rfl (y_val tok rfl) ?_
                refine o_yield rfl rfl rfl (y_val tok rfl) ?_
                refine o_end [1, 2, 3, 4, 5, 11, 13, 14, 15, 16] rfl ?_
                refine x_then ?_
                rw [hwi]
                refine x_round ((i + 1, X, a, m, c, W)) (⟨by dsimp only; omega, by dsimp only; omega, hwW, hmX, hX⟩) (by first | omega | (dsimp only; omega)) (by repeat (first | exact SubF.nil | refine SubF.cons rfl ?_)) (by repeat (first | exact SubO.nil | refine SubO.cons rfl ?_)) rfl (Vw.le.refl _)
      ·
        simp only [Bool.and_eq_true, Bool.or_eq_true, Bool.not_eq_true', Bool.or_eq_false_iff, Bool.and_eq_false_iff, decide_eq_true_eq, decide_eq_false_iff_not, beq_iff_eq, bne_iff_ne, Bool.not_eq_false', beq_eq_false_iff_ne, bne_eq_false_iff_eq, ne_eq, Decidable.not_not, Int.not_lt, Int.not_le] at h
        have hiL : X.length ≤ 40 := by omega
        clear h
        refine c_exit ?_
        refine x_then_exit ?_
        refine x_then_exit ?_
        refine x_block_hit ?_
        refine x_then ?_
        refine c_seq ?_
        refine c_seq ?_
        refine c_region ?_
        refine o_yield rfl rfl rfl (y_val tok rfl) ?_
        refine o_end [1, 3, 4, 5, 11, 13, 14, 15, 21] rfl ?_
        refine x_then ?_
        refine c_block ?_
        refine c_loopK [1, 3, 4, 5, 11, 13, 14, 15] [] rfl rfl (σ := Nat) (fun j => [(21, .a (.v (I j)))]) (fun j => []) (fun j => (j : Int) ≤ g.blocks) (fun j => (g.blocks - j).toNat) (0) (by omega) (by repeat (first | exact SubF.nil | refine SubF.cons rfl ?_)) (by repeat (first | exact SubO.nil | refine SubO.cons rfl ?_)) rfl ?_
        rintro j hj
        refine c_seq ?_
        refine c_seq ?_
        refine c_region ?_
        refine o_yield rfl rfl rfl (y_val tok rfl) ?_
        refine o_yield rfl rfl rfl (y_val tok rfl) ?_
        refine o_yield rfl rfl rfl (y_val tok rfl) ?_
        refine o_yield rfl rfl rfl (y_val tok rfl) ?_
        refine o_end [1, 3, 4, 5, 11, 13, 14, 15, 21, 150] rfl ?_
        refine x_then ?_
        refine c_cond rfl (fun h => ?_) (fun h => ?_)
        ·
          simp only [Bool.and_eq_true, Bool.or_eq_true, Bool.not_eq_true', Bool.or_eq_false_iff, Bool.and_eq_false_iff, decide_eq_true_eq, decide_eq_false_iff_not, beq_iff_eq, bne_iff_ne, Bool.not_eq_false', beq_eq_false_iff_ne, bne_eq_false_iff_eq, ne_eq, Decidable.not_not, Int.not_lt, Int.not_le] at h
          refine c_skip ?_
          refine x_then ?_
          refine c_seq ?_
          refine c_block ?_
          refine c_seq ?_
          refine c_region ?_
          refine o_yield rfl rfl rfl (y_val tok rfl) ?_
          refine o_yield rfl rfl rfl (y_val tok rfl) ?_
          refine o_yield rfl rfl rfl (y_val tok rfl) ?_
          refine o_yield rfl rfl rfl (y_val tok rfl) ?_
          refine o_yield rfl rfl rfl (y_val tok rfl) ?_
          refine o_yield rfl rfl rfl (y_val tok rfl) ?_
          have hwj : IntKind.i64.wrap ((j : Int) + 1) = ((j + 1 : Nat) : Int) := wrapI (by omega) (by omega)
          have hrd := fun w1 hV => read_c W g ok true a m c X key j pa pm pc p ha hm_ hc hl w1 hV hX hp' hh' (by omega) (by omega) (by omega)
          rw [rd_lock hG hl key j (by omega) (by omega), known_get] at hrd
          by_cases hcv : covers hl key j 1 = true
          · rw [if_pos hcv, rdV, if_pos rfl] at hrd
            refine o_call (.a (.v _)) rfl rfl fnok9 rfl rfl rfl (fun hg E w1 hm => by exact hrd _ hm.leV) ?_
            refine o_yield rfl rfl rfl (y_val tok rfl) ?_
            refine o_yield rfl rfl rfl (y_val tok rfl) ?_
            refine o_yield rfl rfl rfl (y_val tok rfl) ?_
            refine o_yield rfl rfl rfl (y_val tok rfl) ?_
            refine o_yield rfl rfl rfl (y_val tok rfl) ?_
            refine o_yield rfl rfl rfl (y_val tok rfl) ?_
            refine o_yield rfl rfl rfl (y_val tok rfl) ?_
            refine o_end [1, 3, 4, 5, 11, 13, 14, 15, 21, 22, 23, 24] rfl ?_
            refine x_then ?_
            refine c_seq ?_
            refine c_seq ?_
            refine c_region ?_
            refine o_yield rfl rfl rfl (y_val tok rfl) ?_
            refine o_yield rfl rfl rfl (y_val tok rfl) ?_
            refine o_yield rfl rfl rfl (y_val tok rfl) ?_
            refine o_call (.a (.v _)) rfl rfl fnok16 rfl rfl rfl (fun hg E w1 hm => by exact spRcovers_c W _ hl key j 1 _ hm.leV hh' (by unfold lim; omega)) ?_
            refine o_yield rfl rfl rfl (y_val tok rfl) ?_
            refine o_end [1, 3, 4, 5, 11, 13, 14, 15, 21, 22, 23, 24, 168] rfl ?_
            refine x_then ?_
            refine c_cond rfl (fun h => ?_) (fun h => ?_)
            ·
              simp [hcv] at h
            ·
              refine c_skip ?_
              refine x_then ?_
              refine c_seq ?_
              refine c_region ?_
              refine o_yield rfl rfl rfl (y_val tok rfl) ?_
              refine o_yield rfl rfl rfl (y_val tok rfl) ?_
              refine o_call (.a (.v _)) rfl rfl fnok18 rfl rfl rfl (fun hg E w1 hm => by exact refGet18_c W _ p j _ hm.leV hp' (by omega)) ?_
              refine o_yield rfl rfl rfl (y_val tok rfl) ?_
              refine o_yield rfl rfl rfl (y_val tok rfl) ?_
              refine o_yield rfl rfl rfl (y_val tok rfl) ?_
              refine o_yield rfl rfl rfl (y_val tok rfl) ?_
              refine o_yield rfl rfl rfl (y_val tok rfl) ?_
              refine o_end [1, 3, 4, 5, 11, 13, 14, 15, 21, 22, 23, 24, 25, 26] rfl ?_
              refine x_then ?_
              refine c_seq ?_
              refine c_seq ?_
              refine c_region ?_
              refine o_yield rfl rfl rfl (y_val tok rfl) ?_
              refine o_yield rfl rfl rfl (y_aidx tok j rfl (by simp) (fun hg => by omega)) ?_
              refine o_yield rfl rfl rfl (y_ald tok rfl rfl (fun hg => wroteA_at X j (by omega))) ?_
              refine o_end [1, 3, 4, 5, 11, 13, 14, 15, 21, 22, 23, 24, 25, 26, 179] rfl ?_
              refine x_then ?_
              refine c_cond rfl (fun h => ?_) (fun h => ?_)
              ·
                have hw := h
                clear h
                refine c_seq ?_
                refine c_region ?_
                refine o_yield rfl rfl rfl (y_val tok rfl) ?_
                refine o_yield rfl rfl rfl (y_aidx tok j rfl (by simp) (fun hg => by omega)) ?_
                refine o_yield rfl rfl rfl (y_ald tok rfl rfl (fun hg => lastA_at X j (by omega))) ?_
                refine o_yield rfl rfl rfl (y_val tok rfl) ?_
                refine o_end [1, 3, 4, 5, 11, 13, 14, 15, 21, 22, 23, 24, 25] rfl ?_
                refine x_then ?_
                refine c_region ?_
                refine o_yield rfl rfl rfl (y_val tok rfl) ?_
                refine o_end [1, 3, 4, 5, 11, 13, 14, 15, 21, 22, 23, 24, 25, 26] rfl ?_
                refine x_then ?_
                refine c_seq ?_
                refine c_region ?_
                refine o_yield rfl rfl rfl (y_val tok rfl) ?_
                refine o_yield rfl rfl rfl (y_val tok rfl) ?_
                refine o_yield rfl rfl rfl (y_val tok rfl) ?_
                refine o_yield rfl rfl rfl (y_val tok rfl) ?_
                refine o_yield rfl rfl rfl (y_val tok rfl) ?_
                refine o_yield rfl rfl rfl (y_val tok rfl) ?_
                refine o_yield rfl rfl rfl (y_val tok rfl) ?_
                refine o_yield rfl rfl rfl (y_val tok rfl) ?_
                refine o_yield rfl rfl rfl (y_val tok rfl) ?_
                refine o_yield rfl rfl rfl (y_val tok rfl) ?_
                refine o_yield rfl rfl rfl (y_val tok rfl) ?_
                refine o_yield rfl rfl rfl (y_val tok rfl) ?_
                refine o_end [1, 3, 4, 5, 11, 13, 14, 15, 21, 194] rfl ?_
                refine x_then ?_
                refine c_cond rfl (fun h => ?_) (fun h => ?_)
                ·
                  simp [hw] at h
                ·
                  refine c_skip ?_
                  refine x_block ?_
                  refine x_then ?_
                  refine c_region ?_
                  refine o_yield rfl rfl rfl (y_val tok rfl) ?_
                  refine o_yield rfl rfl rfl (y_val tok rfl) ?_
                  refine o_yield rfl rfl rfl (y_val tok rfl) ?_
                  refine o_end [1, 3, 4, 5, 11, 13, 14, 15, 21] rfl ?_
                  refine x_then ?_
                  rw [hwj]
                  refine x_round (j + 1) (by omega) (by first | omega | (dsimp only; omega)) (by repeat (first | exact SubF.nil | refine SubF.cons rfl ?_)) (by repeat (first | exact SubO.nil | refine SubO.cons rfl ?_)) rfl (Vw.le.refl _)
              ·
                have hw := h
                clear h
                refine c_skip ?_
                refine x_then ?_
                refine c_seq ?_
                refine c_region ?_
                refine o_yield rfl rfl rfl (y_val tok rfl) ?_
                refine o_yield rfl rfl rfl (y_val tok rfl) ?_
                refine o_yield rfl rfl rfl (y_val tok rfl) ?_
                refine o_yield rfl rfl rfl (y_val tok rfl) ?_
                refine o_yield rfl rfl rfl (y_val tok rfl) ?_
                refine o_yield rfl rfl rfl (y_val tok rfl) ?_
                refine o_yield rfl rfl rfl (y_val tok rfl) ?_
                refine o_yield rfl rfl rfl (y_val tok rfl) ?_
                refine o_yield rfl rfl rfl (y_val tok rfl) ?_
                refine o_yield rfl rfl rfl (y_val tok rfl) ?_
                refine o_yield rfl rfl rfl (y_val tok rfl) ?_
                refine o_yield rfl rfl rfl (y_val tok rfl) ?_
                refine o_end [1, 3, 4, 5, 11, 13, 14, 15, 21, 194] rfl ?_
                refine x_then ?_
                refine c_cond rfl (fun h => ?_) (fun h => ?_)
                ·
                  simp [hw] at h
                ·
                  refine c_skip ?_
                  refine x_block ?_
                  refine x_then ?_
                  refine c_region ?_
                  refine o_yield rfl rfl rfl (y_val tok rfl) ?_
                  refine o_yield rfl rfl rfl (y_val tok rfl) ?_
                  refine o_yield rfl rfl rfl (y_val tok rfl) ?_
                  refine o_end [1, 3, 4, 5, 11, 13, 14, 15, 21] rfl ?_
                  refine x_then ?_
                  rw [hwj]
                  refine x_round (j + 1) (by omega) (by first | omega | (dsimp only; omega)) (by repeat (first | exact SubF.nil | refine SubF.cons rfl ?_)) (by repeat (first | exact SubO.nil | refine SubO.cons rfl ?_)) rfl (Vw.le.refl _)
          ·
            rw [if_neg hcv, rdV, if_neg (by decide)] at hrd
            refine o_call (.a (.v _)) rfl rfl fnok9 rfl rfl rfl (fun hg E w1 hm => by exact hrd _ hm.leV) ?_
            refine o_yield rfl rfl rfl (y_val tok rfl) ?_
            refine o_yield rfl rfl rfl (y_val tok rfl) ?_
            refine o_yield rfl rfl rfl (y_val tok rfl) ?_
            refine o_yield rfl rfl rfl (y_val tok rfl) ?_
            refine o_yield rfl rfl rfl (y_val tok rfl) ?_
            refine o_yield rfl rfl rfl (y_val tok rfl) ?_
            refine o_yield rfl rfl rfl (y_val tok rfl) ?_
            refine o_end [1, 3, 4, 5, 11, 13, 14, 15, 21, 22, 23, 24] rfl ?_
            refine x_then ?_
            refine c_seq ?_
            refine c_seq ?_
            refine c_region ?_
            refine o_yield rfl rfl rfl (y_val tok rfl) ?_
            refine o_yield rfl rfl rfl (y_val tok rfl) ?_
            refine o_yield rfl rfl rfl (y_val tok rfl) ?_
            refine o_call (.a (.v _)) rfl rfl fnok16 rfl rfl rfl (fun hg E w1 hm => by exact spRcovers_c W _ hl key j 1 _ hm.leV hh' (by unfold lim; omega)) ?_
            refine o_yield rfl rfl rfl (y_val tok rfl) ?_
            refine o_end [1, 3, 4, 5, 11, 13, 14, 15, 21, 22, 23, 24, 168] rfl ?_
            refine x_then ?_
            refine c_cond rfl (fun h => ?_) (fun h => ?_)
            ·
              refine c_seq ?_
              refine c_seq ?_
              refine c_region ?_
              refine o_yield rfl rfl rfl (y_val tok rfl) ?_
              refine o_yield rfl rfl rfl (y_val tok rfl) ?_
              refine o_end [1, 3, 4, 5, 11, 13, 14, 15, 21, 170] rfl ?_
              refine x_then ?_
              refine c_cond rfl (fun h => ?_) (fun h => ?_)
              ·
                exact absurd h (by decide)
              ·
                refine c_skip ?_
                refine x_then ?_
                refine c_exit ?_
                refine x_then_exit ?_
                refine x_block_hit ?_
                refine x_then ?_
                refine c_region ?_
                refine o_yield rfl rfl rfl (y_val tok rfl) ?_
                refine o_yield rfl rfl rfl (y_val tok rfl) ?_
                refine o_yield rfl rfl rfl (y_val tok rfl) ?_
                refine o_end [1, 3, 4, 5, 11, 13, 14, 15, 21] rfl ?_
                refine x_then ?_
                rw [hwj]
                refine x_round (j + 1) (by omega) (by first | omega | (dsimp only; omega)) (by repeat (first | exact SubF.nil | refine SubF.cons rfl ?_)) (by repeat (first | exact SubO.nil | refine SubO.cons rfl ?_)) rfl (Vw.le.refl _)
            ·
              simp [hcv] at h
        ·
          simp only [Bool.and_eq_true, Bool.or_eq_true, Bool.not_eq_true', Bool.or_eq_false_iff, Bool.and_eq_false_iff, decide_eq_true_eq, decide_eq_false_iff_not, beq_iff_eq, bne_iff_ne, Bool.not_eq_false', beq_eq_false_iff_ne, bne_eq_false_iff_eq, ne_eq, Decidable.not_not, Int.not_lt, Int.not_le] at h
          refine c_exit ?_
          refine x_then_exit ?_
          refine x_then_exit ?_
          refine x_block_hit ?_
          refine x_then ?_
          refine c_seq ?_
          refine c_region ?_
          refine o_yield rfl rfl rfl (y_val tok rfl) ?_
          refine o_call (.a (.v _)) rfl rfl fnok10 rfl rfl rfl (fun hg E w1 hm => by exact hcl a m c _) ?_
          refine o_yield rfl rfl rfl (y_val tok rfl) ?_
          refine o_yield rfl rfl rfl (y_val tok rfl) ?_
          refine o_yield rfl rfl rfl (y_val tok rfl) ?_
          refine o_yield rfl rfl rfl (y_val tok rfl) ?_
          refine o_new tok rfl rfl rfl rfl ?_
          refine o_store tok rfl rfl rfl (by first | exact ⟨trivial, trivial⟩ | (repeat' first | exact trivial | exact rfl | apply And.intro); done | simp [onesP, oneP, lk, Value.oneCell']) ?_
          refine o_yield rfl rfl rfl (y_val tok rfl) ?_
          refine o_yield rfl rfl rfl (y_val tok rfl) ?_
          refine o_end [5, 11, 12, 15, 27, 28] rfl ?_
          refine x_then ?_
          refine c_seq ?_
          refine c_region ?_
          refine o_yield rfl rfl rfl (y_val tok rfl) ?_
          refine o_yield rfl rfl rfl (y_val tok rfl) ?_
          refine o_yield rfl rfl rfl (y_val tok rfl) ?_
          refine o_yield rfl rfl rfl (y_val tok rfl) ?_
          refine o_yield rfl rfl rfl (y_val tok rfl) ?_
          refine o_yield rfl rfl rfl (y_val tok rfl) ?_
          refine o_yield rfl rfl rfl (y_val tok rfl) ?_
          refine o_yield rfl rfl rfl (y_val tok rfl) ?_
          refine o_yield rfl rfl rfl (y_val tok rfl) ?_
          refine o_yield rfl rfl rfl (y_val tok rfl) ?_
          refine o_yield rfl rfl rfl (y_lenP tok rfl) ?_
          refine o_yield rfl rfl rfl (y_val tok rfl) ?_
          refine o_yield rfl rfl rfl (y_val tok rfl) ?_
          refine o_yield rfl rfl rfl (y_val tok rfl) ?_
          refine o_yield rfl rfl rfl (y_val tok rfl) ?_
          refine o_yield rfl rfl rfl (y_len tok rfl (fun hg => hX.sl)) ?_
          refine o_yield rfl rfl rfl (y_val tok rfl) ?_
          refine o_yield rfl rfl rfl (y_val tok rfl) ?_
          refine o_yield rfl rfl rfl (y_val tok rfl) ?_
          refine o_yield rfl rfl rfl (y_val tok rfl) ?_
          refine o_yield rfl rfl rfl (y_val tok rfl) ?_
          refine o_yield rfl rfl rfl (y_val tok rfl) ?_
          refine o_call (.a (.v _)) rfl rfl fnok7 rfl rfl rfl (fun hg E w1 hm => by exact refBMay_c W g ok _ X _ hm.leV hX (by simp only [maxLen]; omega)) ?_
          refine o_yield rfl rfl rfl (y_val tok rfl) ?_
          refine o_yield rfl rfl rfl (y_val tok rfl) ?_
          refine o_yield rfl rfl rfl (y_val tok rfl) ?_
          refine o_yield rfl rfl rfl (y_val tok rfl) ?_
          refine o_call (.a (.v _)) rfl rfl fnok19 rfl rfl rfl (fun hg E w1 hm => by exact dmay_c W g ok true a m c X _ hm.leV hX (by simp only [maxLen]; omega)) ?_
          refine o_yield rfl rfl rfl (y_val tok rfl) ?_
          refine o_yield rfl rfl rfl (y_val tok rfl) ?_
          refine o_call (.a (.v _)) rfl rfl fnok8 rfl rfl rfl (fun hg E w1 hm => by exact wakes23_c _) ?_
          refine o_yield rfl rfl rfl (y_val tok rfl) ?_
          refine o_yield rfl rfl rfl (y_val tok rfl) ?_
          refine o_end [10] rfl ?_
          refine x_then ?_
          refine c_ret ?_
          refine b_ret tok rfl ?_
          intro E w' hm _
          refine ⟨?_, hm.below (hwW)⟩
          have hq : ((X.length : Int) == (X.length : Int)) = true := by simp
          rw [hmX, hq]
          rfl
end Go.Proofs.Ytmjdihpdlfidmaa
