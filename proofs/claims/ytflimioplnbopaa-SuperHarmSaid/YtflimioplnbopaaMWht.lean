import Derived.Test.YtflimioplnbopaaMHds
/- What stands at a sector: the document's. -/
set_option linter.unusedVariables false
set_option linter.unusedSimpArgs false
set_option maxRecDepth 100000
namespace Go.Proofs.Ytflimioplnbopaa
open Go Go.Eng Go.RowKit

theorem rlease_c (g : Geo) (ok : g.Ok) (hg : geoB g = true) (i : Nat) (hi : (i : Int) < g.nodes) (w : World) : Calls Try.prog 101 #[g.val, I i] w fun e w' => e = .returned (I (1 + i)) ∧ Below w.heap.size w w' := by
  have hf := geo_facts hg
  refine enter (E := E0) (O := []) (nl := 0) (V := vw w) [.a (.v g.val), .a (.v (I i))] Try.func101 rfl rfl (mem0 E0 0 w) rfl rfl ?_
  refine c_seq ?_
  refine c_region ?_
  refine o_new tok rfl rfl rfl rfl ?_
  refine o_yield rfl rfl rfl (y_val tok rfl) ?_
  refine o_end [1, 2] rfl ?_
  refine x_then ?_
  refine c_seq ?_
  refine c_seq ?_
  refine c_region ?_
  refine o_yield rfl rfl rfl (y_val tok rfl) ?_
  refine o_call (.a (.v _)) rfl rfl fnok14 rfl rfl rfl (fun hg E w1 hm => by exact refMay_c g ok _) ?_
  refine o_yield rfl rfl rfl (y_val tok rfl) ?_
  refine o_yield rfl rfl rfl (y_val tok rfl) ?_
  refine o_yield rfl rfl rfl (y_val tok rfl) ?_
  refine o_yield rfl rfl rfl (y_val tok rfl) ?_
  refine o_yield rfl rfl rfl (y_val tok rfl) ?_
  refine o_yield rfl rfl rfl (y_val tok rfl) ?_
  refine o_call (.a (.v _)) rfl rfl fnok89 rfl rfl rfl (fun hg E w1 hm => by exact in_c _ _ _ _) ?_
  refine o_yield rfl rfl rfl (y_val tok rfl) ?_
  refine o_yield rfl rfl rfl (y_val tok rfl) ?_
  refine o_end [1, 15] rfl ?_
  refine x_then ?_
  refine c_cond rfl (fun h => ?_) (fun h => ?_)
  ·
    refine c_seq ?_
    refine c_region ?_
    refine o_yield rfl rfl rfl (y_val tok rfl) ?_
    refine o_end [4] rfl ?_
    refine x_then ?_
    refine c_ret ?_
    refine x_then_ret ?_
    refine b_ret tok rfl ?_
    rw [inB_iff] at h
    simp only [Bool.or_eq_true, Bool.not_eq_true', decide_eq_false_iff_not] at h
    rw [wrapI (by omega) (by omega), hg] at h
    rcases h with h | h
    · cases h
    · omega
  ·
    refine c_skip ?_
    refine x_then ?_
    refine c_seq ?_
    refine c_region ?_
    refine o_yield rfl rfl rfl (y_val tok rfl) ?_
    refine o_yield rfl rfl rfl (y_val tok rfl) ?_
    refine o_yield rfl rfl rfl (y_val tok rfl) ?_
    refine o_end [4] rfl ?_
    refine x_then ?_
    refine c_ret ?_
    refine b_ret tok rfl ?_
    intro E w' hm _
    refine ⟨?_, hm.below (Vw.le.refl _)⟩
    rw [wrapI (by omega) (by omega)]; rfl

theorem rpaxos_c (g : Geo) (ok : g.Ok) (hg : geoB g = true) (i : Nat) (hi : (i : Int) < g.nodes) (w : World) : Calls Try.prog 102 #[g.val, I i] w fun e w' => e = .returned (I (1 + g.nodes + i)) ∧ Below w.heap.size w w' := by
  have hf := geo_facts hg
  refine enter (E := E0) (O := []) (nl := 0) (V := vw w) [.a (.v g.val), .a (.v (I i))] Try.func102 rfl rfl (mem0 E0 0 w) rfl rfl ?_
  refine c_seq ?_
  refine c_region ?_
  refine o_new tok rfl rfl rfl rfl ?_
  refine o_yield rfl rfl rfl (y_val tok rfl) ?_
  refine o_end [1, 2] rfl ?_
  refine x_then ?_
  refine c_seq ?_
  refine c_seq ?_
  refine c_region ?_
  refine o_yield rfl rfl rfl (y_val tok rfl) ?_
  refine o_call (.a (.v _)) rfl rfl fnok14 rfl rfl rfl (fun hg E w1 hm => by exact refMay_c g ok _) ?_
  refine o_yield rfl rfl rfl (y_val tok rfl) ?_
  refine o_yield rfl rfl rfl (y_val tok rfl) ?_
  refine o_yield rfl rfl rfl (y_val tok rfl) ?_
  refine o_yield rfl rfl rfl (y_val tok rfl) ?_
  refine o_yield rfl rfl rfl (y_val tok rfl) ?_
  refine o_yield rfl rfl rfl (y_val tok rfl) ?_
  refine o_call (.a (.v _)) rfl rfl fnok89 rfl rfl rfl (fun hg E w1 hm => by exact in_c _ _ _ _) ?_
  refine o_yield rfl rfl rfl (y_val tok rfl) ?_
  refine o_yield rfl rfl rfl (y_val tok rfl) ?_
  refine o_end [1, 2, 15] rfl ?_
  refine x_then ?_
  refine c_cond rfl (fun h => ?_) (fun h => ?_)
  ·
    refine c_seq ?_
    refine c_region ?_
    refine o_yield rfl rfl rfl (y_val tok rfl) ?_
    refine o_end [4] rfl ?_
    refine x_then ?_
    refine c_ret ?_
    refine x_then_ret ?_
    refine b_ret tok rfl ?_
    rw [inB_iff] at h
    simp only [Bool.or_eq_true, Bool.not_eq_true', decide_eq_false_iff_not] at h
    rw [wrapI (by omega) (by omega), hg] at h
    rcases h with h | h
    · cases h
    · omega
  ·
    refine c_skip ?_
    refine x_then ?_
    refine c_seq ?_
    refine c_region ?_
    refine o_yield rfl rfl rfl (y_val tok rfl) ?_
    refine o_yield rfl rfl rfl (y_val tok rfl) ?_
    refine o_yield rfl rfl rfl (y_val tok rfl) ?_
    refine o_yield rfl rfl rfl (y_val tok rfl) ?_
    refine o_yield rfl rfl rfl (y_val tok rfl) ?_
    refine o_yield rfl rfl rfl (y_val tok rfl) ?_
    refine o_end [4] rfl ?_
    refine x_then ?_
    refine c_ret ?_
    refine b_ret tok rfl ?_
    intro E w' hm _
    refine ⟨?_, hm.below (Vw.le.refl _)⟩
    rw [wrapI (n := 1 + g.nodes) (by omega) (by omega), wrapI (by omega) (by omega)]; rfl

theorem rlog_c (g : Geo) (ok : g.Ok) (hg : geoB g = true) (i : Nat) (hi : (i : Int) < g.log) (w : World) : Calls Try.prog 103 #[g.val, I i] w fun e w' => e = .returned (I (1 + 2 * g.nodes + i)) ∧ Below w.heap.size w w' := by
  have hf := geo_facts hg
  refine enter (E := E0) (O := []) (nl := 0) (V := vw w) [.a (.v g.val), .a (.v (I i))] Try.func103 rfl rfl (mem0 E0 0 w) rfl rfl ?_
  refine c_seq ?_
  refine c_region ?_
  refine o_new tok rfl rfl rfl rfl ?_
  refine o_yield rfl rfl rfl (y_val tok rfl) ?_
  refine o_end [1, 2] rfl ?_
  refine x_then ?_
  refine c_seq ?_
  refine c_seq ?_
  refine c_region ?_
  refine o_yield rfl rfl rfl (y_val tok rfl) ?_
  refine o_call (.a (.v _)) rfl rfl fnok14 rfl rfl rfl (fun hg E w1 hm => by exact refMay_c g ok _) ?_
  refine o_yield rfl rfl rfl (y_val tok rfl) ?_
  refine o_yield rfl rfl rfl (y_val tok rfl) ?_
  refine o_yield rfl rfl rfl (y_val tok rfl) ?_
  refine o_yield rfl rfl rfl (y_val tok rfl) ?_
  refine o_yield rfl rfl rfl (y_val tok rfl) ?_
  refine o_yield rfl rfl rfl (y_val tok rfl) ?_
  refine o_call (.a (.v _)) rfl rfl fnok89 rfl rfl rfl (fun hg E w1 hm => by exact in_c _ _ _ _) ?_
  refine o_yield rfl rfl rfl (y_val tok rfl) ?_
  refine o_yield rfl rfl rfl (y_val tok rfl) ?_
  refine o_end [1, 2, 15] rfl ?_
  refine x_then ?_
  refine c_cond rfl (fun h => ?_) (fun h => ?_)
  ·
    refine c_seq ?_
    refine c_region ?_
    refine o_yield rfl rfl rfl (y_val tok rfl) ?_
    refine o_end [4] rfl ?_
    refine x_then ?_
    refine c_ret ?_
    refine x_then_ret ?_
    refine b_ret tok rfl ?_
    rw [inB_iff] at h
    simp only [Bool.or_eq_true, Bool.not_eq_true', decide_eq_false_iff_not] at h
    rw [wrapI (by omega) (by omega), hg] at h
    rcases h with h | h
    · cases h
    · omega
  ·
    refine c_skip ?_
    refine x_then ?_
    refine c_seq ?_
    refine c_region ?_
    refine o_yield rfl rfl rfl (y_val tok rfl) ?_
    refine o_yield rfl rfl rfl (y_val tok rfl) ?_
    refine o_yield rfl rfl rfl (y_val tok rfl) ?_
    refine o_yield rfl rfl rfl (y_val tok rfl) ?_
    refine o_yield rfl rfl rfl (y_val tok rfl) ?_
    refine o_yield rfl rfl rfl (y_val tok rfl) ?_
    refine o_yield rfl rfl rfl (y_val tok rfl) ?_
    refine o_end [4] rfl ?_
    refine x_then ?_
    refine c_ret ?_
    refine b_ret tok rfl ?_
    intro E w' hm _
    refine ⟨?_, hm.below (Vw.le.refl _)⟩
    rw [wrapI (n := 2 * g.nodes) (by omega) (by omega), wrapI (n := 1 + 2 * g.nodes) (by omega) (by omega), wrapI (by omega) (by omega)]; rfl

/-- Whether a sector is a header's, or a journal's. -/
def HeadAt (g : Geo) (q : Nat) (i : Nat) : Prop := (i : Int) < g.slots ∧ headV g (i : Int) = q
def JourAt (g : Geo) (q : Nat) (i j : Nat) : Prop := (i : Int) < g.slots ∧ (j : Int) < g.journal ∧ jourV g (i : Int) (j : Int) = q

theorem head_eq {g : Geo} (hg : geoB g = true) {i : Nat} (hi : (i : Int) < g.slots) : headV g (i : Int) = 1 + 2 * g.nodes + g.log + (i : Int) * (1 + g.journal) := by rw [headV, if_pos ⟨hg, by omega, hi⟩]

theorem jour_eq {g : Geo} (hg : geoB g = true) {i : Nat} (hi : (i : Int) < g.slots) {j : Int} (hj : 0 ≤ j) : jourV g (i : Int) j = 1 + 2 * g.nodes + g.log + (i : Int) * (1 + g.journal) + 1 + j % g.journal := by
  have h := (head_pos hg hi).1
  rw [jourV, if_neg (by omega), head_eq hg hi]

theorem slot_step {a i k : Int} (ha : 0 ≤ a) (h : i < k) : i * a + a ≤ k * a := by
  have := Int.mul_le_mul_of_nonneg_right (a := i + 1) (b := k) (c := a) (by omega) ha
  rw [Int.add_mul] at this
  omega

theorem jour_slot {g : Geo} (hg : geoB g = true) {i k : Nat} (hi : (i : Int) < g.slots) (hk : (k : Int) < g.slots) {j l : Int} (hj : 0 ≤ j) (hl : 0 ≤ l) (h : jourV g (i : Int) j = jourV g (k : Int) l) : i = k := by
  have hf := geo_facts hg
  rw [jour_eq hg hi hj, jour_eq hg hk hl] at h
  have h1 := Int.emod_nonneg j (b := g.journal) (by omega)
  have h2 := Int.emod_lt_of_pos j (b := g.journal) (by omega)
  have h3 := Int.emod_nonneg l (b := g.journal) (by omega)
  have h4 := Int.emod_lt_of_pos l (b := g.journal) (by omega)
  rcases Int.lt_trichotomy (i : Int) k with h5 | h5 | h5
  · have := slot_step (a := 1 + g.journal) (by omega) h5; omega
  · omega
  · have := slot_step (a := 1 + g.journal) (by omega) h5; omega

theorem head_jour {g : Geo} (hg : geoB g = true) {i k : Nat} (hi : (i : Int) < g.slots) (hk : (k : Int) < g.slots) {l : Int} (hl : 0 ≤ l) : headV g (i : Int) ≠ jourV g (k : Int) l := by
  intro h
  have hf := geo_facts hg
  rw [head_eq hg hi, jour_eq hg hk hl] at h
  have h3 := Int.emod_nonneg l (b := g.journal) (by omega)
  have h4 := Int.emod_lt_of_pos l (b := g.journal) (by omega)
  rcases Int.lt_trichotomy (i : Int) k with h5 | h5 | h5
  · have := slot_step (a := 1 + g.journal) (by omega) h5; omega
  · rw [h5] at h; omega
  · have := slot_step (a := 1 + g.journal) (by omega) h5; omega

structure WhatP (g : Geo) (q : Nat) (k a b : Int) : Prop where
  one : k = 1 ↔ q = 0
  head : k = 5 ↔ ∃ i, HeadAt g q i
  jour : k = 6 → ∃ i j : Nat, a = i ∧ b = j ∧ JourAt g q i j
  nojour : k ≠ 6 → ∀ i j, ¬ JourAt g q i j

theorem what_low {g : Geo} (hg : geoB g = true) {q : Nat} (h : (q : Int) ≤ 2 * g.nodes + g.log) : (∀ i, ¬ HeadAt g q i) ∧ ∀ i j, ¬ JourAt g q i j := by
  have hf := geo_facts hg
  refine ⟨fun i ⟨hi, he⟩ => ?_, fun i j ⟨hi, hj, he⟩ => ?_⟩
  · rw [head_eq hg hi] at he
    have := Int.mul_nonneg (a := (i : Int)) (b := 1 + g.journal) (by omega) (by omega)
    omega
  · rw [jour_eq hg hi (by omega)] at he
    have := Int.mul_nonneg (a := (i : Int)) (b := 1 + g.journal) (by omega) (by omega)
    have := Int.emod_nonneg (j : Int) (b := g.journal) (by omega)
    omega

theorem what_c (g : Geo) (ok : g.Ok) (hG : geoB g = true) (q : Nat) (hq : (q : Int) < totV g) (w : World) :
    Calls Try.prog 25 #[g.val, I q] w fun e w' => ∃ k a b, (e = .returned (.tuple #[I8 k, I a, I b]) ∧ WhatP g q k a b) ∧ Below w.heap.size w w' := by
  have hf := geo_facts hG
  have hz := geo_sizes hG
  refine enter (E := E0) (O := []) (nl := 0) (V := vw w) [.a (.v g.val), .a (.v (I q))] Try.func25 rfl rfl (mem0 E0 0 w) rfl rfl ?_
  refine c_seq ?_
  refine c_region ?_
  refine o_new tok rfl rfl rfl rfl ?_
  refine o_yield rfl rfl rfl (y_val tok rfl) ?_
  refine o_yield rfl rfl rfl (y_val tok rfl) ?_
  refine o_yield rfl rfl rfl (y_val tok rfl) ?_
  refine o_end [1, 2] rfl ?_
  refine x_then ?_
  refine c_seq ?_
  refine c_seq ?_
  refine c_region ?_
  refine o_yield rfl rfl rfl (y_val tok rfl) ?_
  refine o_call (.a (.v _)) rfl rfl fnok14 rfl rfl rfl (fun hg E w1 hm => by exact refMay_c g ok _) ?_
  refine o_yield rfl rfl rfl (y_val tok rfl) ?_
  refine o_yield rfl rfl rfl (y_val tok rfl) ?_
  refine o_yield rfl rfl rfl (y_val tok rfl) ?_
  refine o_yield rfl rfl rfl (y_val tok rfl) ?_
  refine o_yield rfl rfl rfl (y_val tok rfl) ?_
  refine o_yield rfl rfl rfl (y_val tok rfl) ?_
  refine o_yield rfl rfl rfl (y_val tok rfl) ?_
  refine o_yield rfl rfl rfl (y_val tok rfl) ?_
  refine o_call (.a (.v _)) rfl rfl fnok15 rfl rfl rfl (fun hg E w1 hm => by exact refTotal_c g ok _) ?_
  refine o_yield rfl rfl rfl (y_val tok rfl) ?_
  refine o_yield rfl rfl rfl (y_val tok rfl) ?_
  refine o_end [1, 2, 24] rfl ?_
  refine x_then ?_
  refine c_cond rfl (fun h => ?_) (fun h => ?_)
  ·
    refine c_seq ?_
    refine c_region ?_
    refine o_yield rfl rfl rfl (y_val tok rfl) ?_
    refine o_yield rfl rfl rfl (y_val tok rfl) ?_
    refine o_yield rfl rfl rfl (y_val tok rfl) ?_
    refine o_end [4, 5, 6] rfl ?_
    refine x_then ?_
    refine c_ret ?_
    refine x_then_ret ?_
    refine b_ret tok rfl ?_
    exact absurd h (by simp [hG]; omega)
  ·
    clear h
    refine c_skip ?_
    refine x_then ?_
    refine c_seq ?_
    refine c_seq ?_
    refine c_region ?_
    refine o_yield rfl rfl rfl (y_val tok rfl) ?_
    refine o_yield rfl rfl rfl (y_val tok rfl) ?_
    refine o_end [1, 2, 26] rfl ?_
    refine x_then ?_
    refine c_cond rfl (fun h => ?_) (fun h => ?_)
    ·
      simp only [Bool.and_eq_true, Bool.or_eq_true, Bool.not_eq_true', Bool.or_eq_false_iff, Bool.and_eq_false_iff, decide_eq_true_eq, decide_eq_false_iff_not, beq_iff_eq, bne_iff_ne, Bool.not_eq_false', beq_eq_false_iff_ne, bne_eq_false_iff_eq, ne_eq, Decidable.not_not, Int.not_lt, Int.not_le] at h
      refine c_seq ?_
      refine c_region ?_
      refine o_yield rfl rfl rfl (y_val tok rfl) ?_
      refine o_yield rfl rfl rfl (y_val tok rfl) ?_
      refine o_yield rfl rfl rfl (y_val tok rfl) ?_
      refine o_end [4, 5, 6] rfl ?_
      refine x_then ?_
      refine c_ret ?_
      refine x_then_ret ?_
      refine b_ret tok rfl ?_
      have hq0 : q = 0 := by omega
      obtain ⟨n1, n2⟩ := what_low (q := q) hG (by omega)
      intro E w' hm _
      exact ⟨1, 0, 0, ⟨rfl, ⟨fun _ => hq0, fun _ => rfl⟩, ⟨fun h => absurd h (by decide), fun ⟨i, h⟩ => absurd h (n1 i)⟩, fun h => absurd h (by decide), fun _ => n2⟩, hm.below (Vw.le.refl _)⟩
    ·
      simp only [Bool.and_eq_true, Bool.or_eq_true, Bool.not_eq_true', Bool.or_eq_false_iff, Bool.and_eq_false_iff, decide_eq_true_eq, decide_eq_false_iff_not, beq_iff_eq, bne_iff_ne, Bool.not_eq_false', beq_eq_false_iff_ne, bne_eq_false_iff_eq, ne_eq, Decidable.not_not, Int.not_lt, Int.not_le] at h
      have hq0 : q ≠ 0 := by omega
      clear h
      refine c_skip ?_
      refine x_then ?_
      refine c_seq ?_
      refine c_seq ?_
      refine c_region ?_
      refine o_yield rfl rfl rfl (y_val tok rfl) ?_
      refine o_end [1, 2, 7] rfl ?_
      refine x_then ?_
      refine c_block ?_
      refine c_loopK [1, 2] [] rfl rfl (σ := Nat) (fun i => [(7, .a (.v (I i)))]) (fun i => []) (fun i => (i : Int) ≤ g.nodes ∧ ∀ j : Nat, j < i → (q : Int) ≠ 1 + j ∧ (q : Int) ≠ 1 + g.nodes + j) (fun i => g.nodes.toNat - i) (0) (⟨by omega, fun j hj => by omega⟩) (by repeat (first | exact SubF.nil | refine SubF.cons rfl ?_)) (by repeat (first | exact SubO.nil | refine SubO.cons rfl ?_)) rfl ?_
      rintro i ⟨hi, hno⟩
      refine c_seq ?_
      refine c_seq ?_
      refine c_region ?_
      refine o_yield rfl rfl rfl (y_val tok rfl) ?_
      refine o_yield rfl rfl rfl (y_val tok rfl) ?_
      refine o_yield rfl rfl rfl (y_val tok rfl) ?_
      refine o_yield rfl rfl rfl (y_val tok rfl) ?_
      refine o_end [1, 2, 7, 30] rfl ?_
      refine x_then ?_
      refine c_cond rfl (fun h => ?_) (fun h => ?_)
      ·
        simp only [Bool.and_eq_true, Bool.or_eq_true, Bool.not_eq_true', Bool.or_eq_false_iff, Bool.and_eq_false_iff, decide_eq_true_eq, decide_eq_false_iff_not, beq_iff_eq, bne_iff_ne, Bool.not_eq_false', beq_eq_false_iff_ne, bne_eq_false_iff_eq, ne_eq, Decidable.not_not, Int.not_lt, Int.not_le] at h
        refine c_skip ?_
        refine x_then ?_
        refine c_seq ?_
        refine c_block ?_
        refine c_seq ?_
        refine c_seq ?_
        refine c_region ?_
        refine o_yield rfl rfl rfl (y_val tok rfl) ?_
        refine o_yield rfl rfl rfl (y_val tok rfl) ?_
        have hin : (i : Int) < g.nodes := by omega
        refine o_call (.a (.v _)) rfl rfl fnok101 rfl rfl rfl (fun hg E w1 hm => by exact rlease_c g ok hG i hin _) ?_
        refine o_yield rfl rfl rfl (y_val tok rfl) ?_
        refine o_yield rfl rfl rfl (y_val tok rfl) ?_
        refine o_end [1, 2, 7, 37] rfl ?_
        refine x_then ?_
        refine c_cond rfl (fun h => ?_) (fun h => ?_)
        ·
          refine c_seq ?_
          refine c_region ?_
          refine o_yield rfl rfl rfl (y_val tok rfl) ?_
          refine o_yield rfl rfl rfl (y_val tok rfl) ?_
          refine o_yield rfl rfl rfl (y_val tok rfl) ?_
          refine o_yield rfl rfl rfl (y_val tok rfl) ?_
          refine o_end [4, 5, 6] rfl ?_
          refine x_then ?_
          refine c_ret ?_
          refine x_then_ret ?_
          refine x_block_ret ?_
          refine x_then_ret ?_
          refine x_then_ret ?_
          refine x_block_ret ?_
          refine x_then_ret ?_
          refine b_ret tok rfl ?_
          have hqi : (q : Int) = 1 + i := by have : (1 : Int) + i = q := by simpa using h
                                             omega
          obtain ⟨n1, n2⟩ := what_low (q := q) hG (by omega)
          intro E w' hm _
          exact ⟨2, i, 0, ⟨rfl, ⟨fun h => absurd h (by decide), fun h => absurd h hq0⟩, ⟨fun h => absurd h (by decide), fun ⟨i, h⟩ => absurd h (n1 i)⟩, fun h => absurd h (by decide), fun _ => n2⟩, hm.below (Vw.le.refl _)⟩
        ·
          have hqa : (q : Int) ≠ 1 + i := by have : ¬ (1 : Int) + i = q := by simpa using h
                                             omega
          clear h
          refine c_skip ?_
          refine x_then ?_
          refine c_seq ?_
          refine c_region ?_
          refine o_yield rfl rfl rfl (y_val tok rfl) ?_
          refine o_yield rfl rfl rfl (y_val tok rfl) ?_
          refine o_call (.a (.v _)) rfl rfl fnok102 rfl rfl rfl (fun hg E w1 hm => by exact rpaxos_c g ok hG i hin _) ?_
          refine o_yield rfl rfl rfl (y_val tok rfl) ?_
          refine o_yield rfl rfl rfl (y_val tok rfl) ?_
          refine o_end [1, 2, 7, 43] rfl ?_
          refine x_then ?_
          refine c_cond rfl (fun h => ?_) (fun h => ?_)
          ·
            refine c_seq ?_
            refine c_region ?_
            refine o_yield rfl rfl rfl (y_val tok rfl) ?_
            refine o_yield rfl rfl rfl (y_val tok rfl) ?_
            refine o_yield rfl rfl rfl (y_val tok rfl) ?_
            refine o_yield rfl rfl rfl (y_val tok rfl) ?_
            refine o_end [4, 5, 6] rfl ?_
            refine x_then ?_
            refine c_ret ?_
            refine x_block_ret ?_
            refine x_then_ret ?_
            refine x_then_ret ?_
            refine x_block_ret ?_
            refine x_then_ret ?_
            refine b_ret tok rfl ?_
            have hqi : (q : Int) = 1 + g.nodes + i := by have : (1 : Int) + g.nodes + i = q := by simpa using h
                                                         omega
            obtain ⟨n1, n2⟩ := what_low (q := q) hG (by omega)
            intro E w' hm _
            exact ⟨3, i, 0, ⟨rfl, ⟨fun h => absurd h (by decide), fun h => absurd h hq0⟩, ⟨fun h => absurd h (by decide), fun ⟨i, h⟩ => absurd h (n1 i)⟩, fun h => absurd h (by decide), fun _ => n2⟩, hm.below (Vw.le.refl _)⟩
          ·
            have hqb : (q : Int) ≠ 1 + g.nodes + i := by have : ¬ (1 : Int) + g.nodes + i = q := by simpa using h
                                                         omega
            clear h
            have hnx : ∀ j : Nat, j < i + 1 → (q : Int) ≠ 1 + j ∧ (q : Int) ≠ 1 + g.nodes + j := by
              intro j hj
              by_cases hji : j < i
              · exact hno j hji
              · have : j = i := by omega
                subst this
                exact ⟨hqa, hqb⟩
            refine c_skip ?_
            refine x_block ?_
            refine x_then ?_
            refine c_region ?_
            refine o_yield rfl rfl rfl (y_val tok rfl) ?_
            refine o_yield rfl rfl rfl (y_val tok rfl) ?_
            refine o_yield rfl rfl rfl (y_val tok rfl) ?_
            refine o_end [1, 2, 7] rfl ?_
            refine x_then ?_
            rw [wrapI (n := (i : Int) + 1) (by omega) (by omega)]
            refine x_round (i + 1) (⟨by omega, hnx⟩) (by first | omega | (dsimp only; omega)) (by repeat (first | exact SubF.nil | refine SubF.cons rfl ?_)) (by repeat (first | exact SubO.nil | refine SubO.cons rfl ?_)) rfl (Vw.le.refl _)
      ·
        simp only [Bool.and_eq_true, Bool.or_eq_true, Bool.not_eq_true', Bool.or_eq_false_iff, Bool.and_eq_false_iff, decide_eq_true_eq, decide_eq_false_iff_not, beq_iff_eq, bne_iff_ne, Bool.not_eq_false', beq_eq_false_iff_ne, bne_eq_false_iff_eq, ne_eq, Decidable.not_not, Int.not_lt, Int.not_le] at h
        have hq1 : (q : Int) > 2 * g.nodes := by
          have hi' : (i : Int) = g.nodes := by omega
          rcases Int.lt_or_le (2 * g.nodes) q with h1 | h1
          · exact h1
          · exfalso
            by_cases h2 : (q : Int) ≤ g.nodes
            · exact (hno (q - 1) (by omega)).1 (by omega)
            · exact (hno (q - 1 - g.nodes.toNat) (by omega)).2 (by omega)
        clear h hno hi
        refine c_exit ?_
        refine x_then_exit ?_
        refine x_then_exit ?_
        refine x_block_hit ?_
        refine x_then ?_
        refine c_seq ?_
        refine c_seq ?_
        refine c_region ?_
        refine o_yield rfl rfl rfl (y_val tok rfl) ?_
        refine o_end [1, 2, 8] rfl ?_
        refine x_then ?_
        refine c_block ?_
        refine c_loopK [1, 2] [] rfl rfl (σ := Nat) (fun i => [(8, .a (.v (I i)))]) (fun i => []) (fun i => (i : Int) ≤ g.log ∧ ∀ j : Nat, j < i → (q : Int) ≠ 1 + 2 * g.nodes + j) (fun i => g.log.toNat - i) (0) (⟨by omega, fun j hj => by omega⟩) (by repeat (first | exact SubF.nil | refine SubF.cons rfl ?_)) (by repeat (first | exact SubO.nil | refine SubO.cons rfl ?_)) rfl ?_
        rintro i ⟨hi, hno⟩
        refine c_seq ?_
        refine c_seq ?_
        refine c_region ?_
        refine o_yield rfl rfl rfl (y_val tok rfl) ?_
        refine o_yield rfl rfl rfl (y_val tok rfl) ?_
        refine o_yield rfl rfl rfl (y_val tok rfl) ?_
        refine o_yield rfl rfl rfl (y_val tok rfl) ?_
        refine o_end [1, 2, 8, 48] rfl ?_
        refine x_then ?_
        refine c_cond rfl (fun h => ?_) (fun h => ?_)
        ·
          simp only [Bool.and_eq_true, Bool.or_eq_true, Bool.not_eq_true', Bool.or_eq_false_iff, Bool.and_eq_false_iff, decide_eq_true_eq, decide_eq_false_iff_not, beq_iff_eq, bne_iff_ne, Bool.not_eq_false', beq_eq_false_iff_ne, bne_eq_false_iff_eq, ne_eq, Decidable.not_not, Int.not_lt, Int.not_le] at h
          refine c_skip ?_
          refine x_then ?_
          refine c_seq ?_
          refine c_block ?_
          refine c_seq ?_
          refine c_region ?_
          refine o_yield rfl rfl rfl (y_val tok rfl) ?_
          refine o_yield rfl rfl rfl (y_val tok rfl) ?_
          have hin : (i : Int) < g.log := by omega
          refine o_call (.a (.v _)) rfl rfl fnok103 rfl rfl rfl (fun hg E w1 hm => by exact rlog_c g ok hG i hin _) ?_
          refine o_yield rfl rfl rfl (y_val tok rfl) ?_
          refine o_yield rfl rfl rfl (y_val tok rfl) ?_
          refine o_end [1, 2, 8, 55] rfl ?_
          refine x_then ?_
          refine c_cond rfl (fun h => ?_) (fun h => ?_)
          ·
            refine c_seq ?_
            refine c_region ?_
            refine o_yield rfl rfl rfl (y_val tok rfl) ?_
            refine o_yield rfl rfl rfl (y_val tok rfl) ?_
            refine o_yield rfl rfl rfl (y_val tok rfl) ?_
            refine o_yield rfl rfl rfl (y_val tok rfl) ?_
            refine o_end [4, 5, 6] rfl ?_
            refine x_then ?_
            refine c_ret ?_
            refine x_block_ret ?_
            refine x_then_ret ?_
            refine x_then_ret ?_
            refine x_block_ret ?_
            refine x_then_ret ?_
            refine b_ret tok rfl ?_
            have hqi : (q : Int) = 1 + 2 * g.nodes + i := by have : (1 : Int) + 2 * g.nodes + i = q := by simpa using h
                                                             omega
            obtain ⟨n1, n2⟩ := what_low (q := q) hG (by omega)
            intro E w' hm _
            exact ⟨4, i, 0, ⟨rfl, ⟨fun h => absurd h (by decide), fun h => absurd h hq0⟩, ⟨fun h => absurd h (by decide), fun ⟨i, h⟩ => absurd h (n1 i)⟩, fun h => absurd h (by decide), fun _ => n2⟩, hm.below (Vw.le.refl _)⟩
          ·
            have hqb : (q : Int) ≠ 1 + 2 * g.nodes + i := by have : ¬ (1 : Int) + 2 * g.nodes + i = q := by simpa using h
                                                             omega
            clear h
            have hnx : ∀ j : Nat, j < i + 1 → (q : Int) ≠ 1 + 2 * g.nodes + j := by
              intro j hj
              by_cases hji : j < i
              · exact hno j hji
              · have : j = i := by omega
                subst this
                exact hqb
            refine c_skip ?_
            refine x_block ?_
            refine x_then ?_
            refine c_region ?_
            refine o_yield rfl rfl rfl (y_val tok rfl) ?_
            refine o_yield rfl rfl rfl (y_val tok rfl) ?_
            refine o_yield rfl rfl rfl (y_val tok rfl) ?_
            refine o_end [1, 2, 8] rfl ?_
            refine x_then ?_
            rw [wrapI (n := (i : Int) + 1) (by omega) (by omega)]
            refine x_round (i + 1) (⟨by omega, hnx⟩) (by first | omega | (dsimp only; omega)) (by repeat (first | exact SubF.nil | refine SubF.cons rfl ?_)) (by repeat (first | exact SubO.nil | refine SubO.cons rfl ?_)) rfl (Vw.le.refl _)
        ·
          simp only [Bool.and_eq_true, Bool.or_eq_true, Bool.not_eq_true', Bool.or_eq_false_iff, Bool.and_eq_false_iff, decide_eq_true_eq, decide_eq_false_iff_not, beq_iff_eq, bne_iff_ne, Bool.not_eq_false', beq_eq_false_iff_ne, bne_eq_false_iff_eq, ne_eq, Decidable.not_not, Int.not_lt, Int.not_le] at h
          have hq2 : (q : Int) > 2 * g.nodes + g.log := by
            have hi' : (i : Int) = g.log := by omega
            rcases Int.lt_or_le (2 * g.nodes + g.log) q with h1 | h1
            · exact h1
            · exact absurd (by omega) (hno (q - 1 - 2 * g.nodes.toNat) (by omega))
          clear h hno hi
          refine c_exit ?_
          refine x_then_exit ?_
          refine x_then_exit ?_
          refine x_block_hit ?_
          refine x_then ?_
          refine c_seq ?_
          refine c_seq ?_
          refine c_region ?_
          refine o_yield rfl rfl rfl (y_val tok rfl) ?_
          refine o_end [1, 2, 9] rfl ?_
          refine x_then ?_
          refine c_block ?_
          refine c_loopK [1, 2] [] rfl rfl (σ := Nat) (fun i => [(9, .a (.v (I i)))]) (fun i => []) (fun i => (i : Int) ≤ g.slots ∧ ∀ k : Nat, k < i → ¬ HeadAt g q k ∧ ∀ j, ¬ JourAt g q k j) (fun i => g.slots.toNat - i) (0) (⟨by omega, fun j hj => by omega⟩) (by repeat (first | exact SubF.nil | refine SubF.cons rfl ?_)) (by repeat (first | exact SubO.nil | refine SubO.cons rfl ?_)) rfl ?_
          rintro i ⟨hi, hno⟩
          refine c_seq ?_
          refine c_seq ?_
          refine c_region ?_
          refine o_yield rfl rfl rfl (y_val tok rfl) ?_
          refine o_yield rfl rfl rfl (y_val tok rfl) ?_
          refine o_yield rfl rfl rfl (y_val tok rfl) ?_
          refine o_yield rfl rfl rfl (y_val tok rfl) ?_
          refine o_end [1, 2, 9, 60] rfl ?_
          refine x_then ?_
          refine c_cond rfl (fun h => ?_) (fun h => ?_)
          ·
            simp only [Bool.and_eq_true, Bool.or_eq_true, Bool.not_eq_true', Bool.or_eq_false_iff, Bool.and_eq_false_iff, decide_eq_true_eq, decide_eq_false_iff_not, beq_iff_eq, bne_iff_ne, Bool.not_eq_false', beq_eq_false_iff_ne, bne_eq_false_iff_eq, ne_eq, Decidable.not_not, Int.not_lt, Int.not_le] at h
            refine c_skip ?_
            refine x_then ?_
            refine c_seq ?_
            refine c_block ?_
            refine c_seq ?_
            refine c_seq ?_
            refine c_region ?_
            refine o_yield rfl rfl rfl (y_val tok rfl) ?_
            refine o_yield rfl rfl rfl (y_val tok rfl) ?_
            have hin : (i : Int) < g.slots := by omega
            refine o_call (.a (.v _)) rfl rfl fnok20 rfl rfl rfl (fun hg E w1 hm => by exact refHead_c g ok i _) ?_
            refine o_yield rfl rfl rfl (y_val tok rfl) ?_
            refine o_yield rfl rfl rfl (y_val tok rfl) ?_
            refine o_end [1, 2, 9, 67] rfl ?_
            refine x_then ?_
            refine c_cond rfl (fun h => ?_) (fun h => ?_)
            ·
              refine c_seq ?_
              refine c_region ?_
              refine o_yield rfl rfl rfl (y_val tok rfl) ?_
              refine o_yield rfl rfl rfl (y_val tok rfl) ?_
              refine o_yield rfl rfl rfl (y_val tok rfl) ?_
              refine o_yield rfl rfl rfl (y_val tok rfl) ?_
              refine o_end [4, 5, 6] rfl ?_
              refine x_then ?_
              refine c_ret ?_
              refine x_then_ret ?_
              refine x_block_ret ?_
              refine x_then_ret ?_
              refine x_then_ret ?_
              refine x_block_ret ?_
              refine x_then_ret ?_
              refine b_ret tok rfl ?_
              have hqi : headV g (i : Int) = q := by simpa using h
              intro E w' hm _
              exact ⟨5, i, 0, ⟨rfl, ⟨fun h => absurd h (by decide), fun h => absurd h hq0⟩, ⟨fun _ => ⟨i, hin, hqi⟩, fun _ => rfl⟩, fun h => absurd h (by decide), fun _ k j hj => head_jour hG hin hj.1 (l := (j : Int)) (by omega) (by rw [hqi]; exact hj.2.2.symm)⟩, hm.below (Vw.le.refl _)⟩
            ·
              have hqb : ¬ HeadAt g q i := fun hh => by have : ¬ headV g (i : Int) = q := by simpa using h
                                                        exact this hh.2
              clear h
              refine c_skip ?_
              refine x_then ?_
              refine c_seq ?_
              refine c_region ?_
              refine o_yield rfl rfl rfl (y_val tok rfl) ?_
              refine o_end [1, 2, 9, 10] rfl ?_
              refine x_then ?_
              refine c_block ?_
              refine c_loopK [1, 2, 9] [] rfl rfl (σ := Nat) (fun m => [(10, .a (.v (I m)))]) (fun m => []) (fun m => (m : Int) ≤ g.journal ∧ ∀ j : Nat, j < m → ¬ JourAt g q i j) (fun m => g.journal.toNat - m) (0) (⟨by omega, fun j hj => by omega⟩) (by repeat (first | exact SubF.nil | refine SubF.cons rfl ?_)) (by repeat (first | exact SubO.nil | refine SubO.cons rfl ?_)) rfl ?_
              rintro m ⟨hm, hnj⟩
              refine c_seq ?_
              refine c_seq ?_
              refine c_region ?_
              refine o_yield rfl rfl rfl (y_val tok rfl) ?_
              refine o_yield rfl rfl rfl (y_val tok rfl) ?_
              refine o_yield rfl rfl rfl (y_val tok rfl) ?_
              refine o_yield rfl rfl rfl (y_val tok rfl) ?_
              refine o_end [1, 2, 9, 10, 72] rfl ?_
              refine x_then ?_
              refine c_cond rfl (fun h => ?_) (fun h => ?_)
              ·
                simp only [Bool.and_eq_true, Bool.or_eq_true, Bool.not_eq_true', Bool.or_eq_false_iff, Bool.and_eq_false_iff, decide_eq_true_eq, decide_eq_false_iff_not, beq_iff_eq, bne_iff_ne, Bool.not_eq_false', beq_eq_false_iff_ne, bne_eq_false_iff_eq, ne_eq, Decidable.not_not, Int.not_lt, Int.not_le] at h
                refine c_skip ?_
                refine x_then ?_
                refine c_seq ?_
                refine c_block ?_
                refine c_seq ?_
                refine c_region ?_
                refine o_yield rfl rfl rfl (y_val tok rfl) ?_
                refine o_yield rfl rfl rfl (y_val tok rfl) ?_
                refine o_yield rfl rfl rfl (y_val tok rfl) ?_
                have hmn : (m : Int) < g.journal := by omega
                refine o_call (.a (.v _)) rfl rfl fnok66 rfl rfl rfl (fun hg E w1 hm => by exact refJour_c g ok i m _) ?_
                refine o_yield rfl rfl rfl (y_val tok rfl) ?_
                refine o_yield rfl rfl rfl (y_val tok rfl) ?_
                refine o_end [1, 2, 9, 10, 80] rfl ?_
                refine x_then ?_
                refine c_cond rfl (fun h => ?_) (fun h => ?_)
                ·
                  refine c_seq ?_
                  refine c_region ?_
                  refine o_yield rfl rfl rfl (y_val tok rfl) ?_
                  refine o_yield rfl rfl rfl (y_val tok rfl) ?_
                  refine o_yield rfl rfl rfl (y_val tok rfl) ?_
                  refine o_yield rfl rfl rfl (y_val tok rfl) ?_
                  refine o_yield rfl rfl rfl (y_val tok rfl) ?_
                  refine o_end [4, 5, 6] rfl ?_
                  refine x_then ?_
                  refine c_ret ?_
                  refine x_block_ret ?_
                  refine x_then_ret ?_
                  refine x_then_ret ?_
                  refine x_block_ret ?_
                  refine x_block_ret ?_
                  refine x_then_ret ?_
                  refine x_then_ret ?_
                  refine x_block_ret ?_
                  refine x_then_ret ?_
                  refine b_ret tok rfl ?_
                  have hqi : jourV g (i : Int) (m : Int) = q := by simpa using h
                  intro E w' hm _
                  exact ⟨6, i, m, ⟨rfl, ⟨fun h => absurd h (by decide), fun h => absurd h hq0⟩, ⟨fun h => absurd h (by decide), fun ⟨k, hk⟩ => absurd (by rw [hk.2, hqi]) (head_jour hG hk.1 hin (l := (m : Int)) (by omega))⟩, fun _ => ⟨i, m, rfl, rfl, hin, hmn, hqi⟩, fun h => absurd rfl h⟩, hm.below (Vw.le.refl _)⟩
                ·
                  have hqc : ¬ JourAt g q i m := fun hh => by have : ¬ jourV g (i : Int) (m : Int) = q := by simpa using h
                                                              exact this hh.2.2
                  clear h
                  have hnx : ∀ j : Nat, j < m + 1 → ¬ JourAt g q i j := by
                    intro j hj
                    by_cases hji : j < m
                    · exact hnj j hji
                    · have : j = m := by omega
                      subst this
                      exact hqc
                  refine c_skip ?_
                  refine x_block ?_
                  refine x_then ?_
                  refine c_region ?_
                  refine o_yield rfl rfl rfl (y_val tok rfl) ?_
                  refine o_yield rfl rfl rfl (y_val tok rfl) ?_
                  refine o_yield rfl rfl rfl (y_val tok rfl) ?_
                  refine o_end [1, 2, 9, 10] rfl ?_
                  refine x_then ?_
                  rw [wrapI (n := (m : Int) + 1) (by omega) (by omega)]
                  refine x_round (m + 1) (⟨by omega, hnx⟩) (by first | omega | (dsimp only; omega)) (by repeat (first | exact SubF.nil | refine SubF.cons rfl ?_)) (by repeat (first | exact SubO.nil | refine SubO.cons rfl ?_)) rfl (Vw.le.refl _)
              ·
                simp only [Bool.and_eq_true, Bool.or_eq_true, Bool.not_eq_true', Bool.or_eq_false_iff, Bool.and_eq_false_iff, decide_eq_true_eq, decide_eq_false_iff_not, beq_iff_eq, bne_iff_ne, Bool.not_eq_false', beq_eq_false_iff_ne, bne_eq_false_iff_eq, ne_eq, Decidable.not_not, Int.not_lt, Int.not_le] at h
                have hnx : ∀ k : Nat, k < i + 1 → ¬ HeadAt g q k ∧ ∀ j, ¬ JourAt g q k j := by
                  intro k hk
                  by_cases hki : k < i
                  · exact hno k hki
                  · have : k = i := by omega
                    subst this
                    exact ⟨hqb, fun j hj => hnj j (by have := hj.2.1; omega) hj⟩
                refine c_exit ?_
                refine x_then_exit ?_
                refine x_then_exit ?_
                refine x_block_hit ?_
                refine x_block ?_
                refine x_then ?_
                refine c_region ?_
                refine o_yield rfl rfl rfl (y_val tok rfl) ?_
                refine o_yield rfl rfl rfl (y_val tok rfl) ?_
                refine o_yield rfl rfl rfl (y_val tok rfl) ?_
                refine o_end [1, 2, 9] rfl ?_
                refine x_then ?_
                rw [wrapI (n := (i : Int) + 1) (by omega) (by omega)]
                refine x_round (i + 1) (⟨by omega, hnx⟩) (by first | omega | (dsimp only; omega)) (by repeat (first | exact SubF.nil | refine SubF.cons rfl ?_)) (by repeat (first | exact SubO.nil | refine SubO.cons rfl ?_)) rfl (Vw.le.refl _)
          ·
            simp only [Bool.and_eq_true, Bool.or_eq_true, Bool.not_eq_true', Bool.or_eq_false_iff, Bool.and_eq_false_iff, decide_eq_true_eq, decide_eq_false_iff_not, beq_iff_eq, bne_iff_ne, Bool.not_eq_false', beq_eq_false_iff_ne, bne_eq_false_iff_eq, ne_eq, Decidable.not_not, Int.not_lt, Int.not_le] at h
            have hall : ∀ k : Nat, (k : Int) < g.slots → ¬ HeadAt g q k ∧ ∀ j, ¬ JourAt g q k j := fun k hk => hno k (by omega)
            clear h hno hi
            refine c_exit ?_
            refine x_then_exit ?_
            refine x_then_exit ?_
            refine x_block_hit ?_
            refine x_then ?_
            refine c_seq ?_
            refine c_region ?_
            refine o_yield rfl rfl rfl (y_val tok rfl) ?_
            refine o_yield rfl rfl rfl (y_val tok rfl) ?_
            refine o_call (.a (.v _)) rfl rfl fnok90 rfl rfl rfl (fun hg E w1 hm => by exact refData_c g ok 0 0 _) ?_
            refine o_yield rfl rfl rfl (y_val tok rfl) ?_
            refine o_yield rfl rfl rfl (y_val tok rfl) ?_
            refine o_end [2, 11] rfl ?_
            refine x_then ?_
            refine c_seq ?_
            refine c_draw mixed (by kernel_rfl) ?_
            refine d_yield rfl rfl rfl (y_val tok rfl) rfl ?_
            refine d_yield rfl rfl rfl (y_val tok rfl) rfl ?_
            refine d_yield rfl rfl rfl (y_val tok rfl) rfl ?_
            refine d_yield rfl rfl rfl (y_quo rfl (fun hg => by omega)) rfl ?_
            refine d_yield rfl rfl rfl (y_val tok rfl) rfl ?_
            refine d_yield rfl rfl rfl (y_val tok rfl) rfl ?_
            refine d_yield rfl rfl rfl (y_val tok rfl) rfl ?_
            refine d_yield rfl rfl rfl (y_rem rfl (fun hg => by omega)) rfl ?_
            refine d_yield rfl rfl rfl (y_val tok rfl) rfl ?_
            refine d_yield rfl rfl rfl (y_val tok rfl) rfl ?_
            refine d_yield rfl rfl rfl (y_val tok rfl) rfl ?_
            refine d_end [4, 5, 6] rfl ?_
            refine x_then ?_
            refine c_ret ?_
            refine b_ret tok rfl ?_
            intro E w' hm _
            exact ⟨7, _, _, ⟨rfl, ⟨fun h => absurd h (by decide), fun h => absurd h hq0⟩, ⟨fun h => absurd h (by decide), fun ⟨i, h⟩ => absurd h (hall i h.1).1⟩, fun h => absurd h (by decide), fun _ i j h => (hall i h.1).2 j h⟩, hm.below (Vw.le.refl _)⟩
end Go.Proofs.Ytflimioplnbopaa

/- A device that is harmed: the law. -/
set_option linter.unusedVariables false
set_option linter.unusedSimpArgs false
set_option maxRecDepth 100000
namespace Go.Proofs.Ytflimioplnbopaa
open Go Go.Eng Go.RowKit

theorem what_cV (V : Vw) (g : Geo) (ok : g.Ok) (hG : geoB g = true) (q : Nat) (hq : (q : Int) < totV g) (w : World) (hV : V.le (vw w)) :
    Calls Try.prog 25 #[g.val, I q] w fun e w' => ∃ x V', e = .returned x ∧ Below w.heap.size w w' ∧ Vext w.heap.size V V' w' ∧ ∃ k a b, x = .tuple #[I8 k, I a, I b] ∧ WhatP g q k a b := by
  refine (what_c g ok hG q hq w).mono ?_
  rintro e w' ⟨k, a, b, ⟨rfl, h⟩, hbl⟩
  exact ⟨_, V, rfl, hbl, Vext.same hV hbl, k, a, b, rfl, h⟩

theorem schk_e (V : Vw) (sv : Value) (l : List ByteArray) (g : Geo) (n : Int) (hv : chkV l = g) (he : chkE l = n) (w : World) (hV : V.le (vw w)) (hs0 : SlOf V encS 1 sv l) (hn : l.length ≤ 4398046511104) (hsz : ∀ x ∈ l, x.size ≤ maxLen) :
    Calls Try.prog 47 #[sv] w fun e w' => e = .returned (.tuple #[g.val, I n]) ∧ Below w.heap.size w w' := by
  subst hv he
  exact schk_c V sv l w hV hs0 hn hsz

theorem harm_yes {g : Geo} (hg : geoB g = true) {hd s : ByteArray} (hh : tailOk hd = some 0) (hz : hd.size ≤ 256) (hs : s.size ≤ 256) {q : Nat} (hq : q ≠ 0) (hq2 : (q : Int) < totV g)
    (h : ∀ k : Nat, (k : Int) < g.slots → headV g (k : Int) = q → tailE s = 0) : chkG ((fmtTo g (gbV g) hd g.slots.toNat).set q s) = some g := by
  have hf := geo_facts hg
  have ht := geo_sizes hg
  have htt : totV g = dataAt g + g.blocks * g.per := by rw [totV, if_pos hg]
  refine chk_yes (s := gbV g) (by rw [List.getElem?_set_ne hq]; exact fmt_top hg _ _ _ (by omega)) (sup_back hg) (by rw [List.length_set, fmtTo_len]; omega) (fun x hx => ?_) ((headsOk_iff g _).2 fun k hk => ?_)
  · rcases List.mem_or_eq_of_mem_set hx with hx | rfl
    · exact fmt_small (gbV_size g) hz _ x hx
    · exact hs
  · have hp := (head_pos hg hk).1
    rw [List.getD_eq_getElem?_getD]
    by_cases hkq : headV g (k : Int) = q
    · rw [hkq, Int.toNat_natCast, List.getElem?_set_self (by rw [fmtTo_len]; omega), Option.getD_some]
      exact h k hk hkq
    · rw [List.getElem?_set_ne (by omega), fmt_head hg _ _ _ (by omega) k (by omega), Option.getD_some, tailE, hh]; rfl

theorem harm_noHead {g : Geo} (hg : geoB g = true) {hd s : ByteArray} {q : Nat} (hq : q ≠ 0) (hq2 : (q : Int) < totV g) {k : Nat} (hk : (k : Int) < g.slots) (hkq : headV g (k : Int) = q) (h : tailE s ≠ 0) :
    chkG ((fmtTo g (gbV g) hd g.slots.toNat).set q s) = none := by
  refine chk_noHead (s := gbV g) (by rw [List.getElem?_set_ne hq]; exact fmt_top hg _ _ _ (by omega)) (sup_back hg) ?_
  rw [Bool.eq_false_iff]
  intro hh
  have := (headsOk_iff g _).1 hh k hk
  rw [List.getD_eq_getElem?_getD, hkq, Int.toNat_natCast, List.getElem?_set_self (by rw [fmtTo_len]; omega), Option.getD_some] at this
  exact h this

theorem harm_noSup {g : Geo} {top hd s : ByteArray} (ht : 0 < totV g) {i : Nat} (h : srE s ≠ 0) : chkG ((fmtTo g top hd i).set 0 s) = none := by
  refine chk_noSup (s := s) (by rw [List.getElem?_set_self (by rw [fmtTo_len]; omega)]) ?_
  unfold srE at h
  cases hq : srOk s with
  | none => rfl
  | some g => rw [hq] at h; exact absurd rfl h

theorem harm_more {g : Geo} (hg : geoB g = true) {hd x : ByteArray} : chkG (fmtTo g (gbV g) hd g.slots.toNat ++ [x]) = none := by
  have hf := geo_facts hg
  have ht := geo_sizes hg
  have htt : totV g = dataAt g + g.blocks * g.per := by rw [totV, if_pos hg]
  refine chk_noLen (s := gbV g) ?_ (sup_back hg) (by rw [List.length_append, fmtTo_len]; simp; omega)
  rw [List.getElem?_append_left (by rw [fmtTo_len]; omega)]
  exact fmt_top hg _ _ _ (by omega)

theorem harm_less {g : Geo} (hg : geoB g = true) {hd : ByteArray} {n : Nat} (hn : totV g = n) : 2 ≤ n ∧ chkG ((fmtTo g (gbV g) hd g.slots.toNat).take (n - 1)) = none := by
  have hf := geo_facts hg
  have ht := geo_sizes hg
  have htt : totV g = dataAt g + g.blocks * g.per := by rw [totV, if_pos hg]
  have hb : 1 ≤ g.blocks * g.per := by
    have := Int.mul_pos (a := g.blocks) (b := g.per) (by omega) (by omega)
    omega
  have h2 : 2 ≤ n := by omega
  refine ⟨h2, chk_noLen (s := gbV g) ?_ (sup_back hg) (by rw [List.length_take, fmtTo_len]; omega)⟩
  rw [List.getElem?_take, if_pos (by omega)]
  exact fmt_top hg _ _ _ (by omega)

theorem chk_none {l : List ByteArray} (h : chkG l = none) : chkV l = geo0 ∧ chkE l = 50 := by
  rw [chkV, chkE, h]; exact ⟨rfl, rfl⟩

theorem chk_some {l : List ByteArray} {g : Geo} (h : chkG l = some g) : chkV l = g ∧ chkE l = 0 := by
  rw [chkV, chkE, h]; exact ⟨rfl, rfl⟩

theorem strs_ones (l : List ByteArray) : ∀ u ∈ l.flatMap encS, u.oneCell' = true := by
  intro u hu
  obtain ⟨x, _, hx⟩ := List.mem_flatMap.1 hu
  simp only [List.mem_singleton] at hx
  subst hx
  rfl

theorem src_keep {E : Env} {O : Go.Eng.Own} {nl : Nat} {V : Vw} {w : World} (hm : Mem E O nl V w) (l q : Nat) {b e sz m : Nat} {xs : List Value} {v : Value} (hl : lk O l = some (.row e sz m xs)) (hk : lk O q = some (.keep l b v)) :
    Go.Eng.Src Try.prog sz v m xs w := by
  have := ownsRow_src (P := Try.prog) (hm.row _ _ _ _ _ hl)
  rwa [(hm.kp _ _ _ _ hk).2.1] at this

theorem slOf_keep {E : Env} {O : Go.Eng.Own} {nl : Nat} {V : Vw} {w : World} (hm : Mem E O nl V w) (l q : Nat) {b e : Nat} {L : List ByteArray} {v : Value} (hl : lk O l = some (.row e 1 L.length (L.flatMap encS))) (hk : lk O q = some (.keep l b v)) :
    SlOf (vw w) encS 1 v L := by
  have := hm.rowOf l hl (fun _ => rfl)
  rwa [(hm.kp _ _ _ _ hk).2.1] at this

theorem superHarm_law (w : World) {v0 v1 v2 : Value} (R0 : ∃ g : Geo, v0 = g.val ∧ g.Ok) (R1 : ∃ n : Int, v1 = I n ∧ R64 n) (R2 : ∃ s : ByteArray, v2 = .string s ∧ s.size ≤ maxLen) :
    Calls Try.prog 7 #[v0, v1, v2] w fun e w' => e = .returned (.bool true) ∧ Below w.heap.size w w' := by
  obtain ⟨g, rfl, ok⟩ := R0
  obtain ⟨at_, rfl, hat⟩ := R1
  obtain ⟨s, rfl, hs⟩ := R2
  obtain ⟨hd, hdt, hdz, hh1, hh2⟩ := head0
  have hnil := fun w => sformat_c g ok hd hh1 w
  by_cases hG : geoB g = true
  · have hfm : ∀ w : World, Calls Try.prog 46 #[g.val] w fun e w' => ∃ v, e = .returned (.tuple #[v, I 0]) ∧ w'.ownsRow w.heap.size 9 1 v (totV g).toNat ((fmtTo g (gbV g) hd g.slots.toNat).flatMap encS) ∧ Below w.heap.size w w' := fun w => by
      refine (hnil w).mono ?_
      rintro e w' ⟨⟨_, v, he, ho⟩ | ⟨hn, _⟩, hb⟩
      · exact ⟨v, he, ho, hb⟩
      · rw [hG] at hn; cases hn
    clear hnil
    have hf := geo_facts hG
    have hz := geo_sizes hG
    have htt : totV g = dataAt g + g.blocks * g.per := by rw [totV, if_pos hG]
    obtain ⟨n, hn⟩ : ∃ n : Nat, totV g = n := ⟨(totV g).toNat, by omega⟩
    obtain ⟨hn2, hless⟩ := harm_less (hd := hd) hG hn
    have hmore := harm_more (hd := hd) (x := ByteArray.empty) hG
    have hyes := fun {q : Nat} {s : ByteArray} => harm_yes (hd := hd) (s := s) (q := q) hG hdt hdz
    have hnoH := fun {q : Nat} {s : ByteArray} => harm_noHead (hd := hd) (s := s) (q := q) hG
    have hnoS := fun {s : ByteArray} => harm_noSup (g := g) (top := gbV g) (hd := hd) (s := s) (i := g.slots.toNat) (by omega)
    have hfc := fmt_chk hG hdt hdz
    have hsmall := fmt_small (g := g) (gbV_size g) hdz g.slots.toNat
    have hL := fmtTo_len g (gbV g) hd g.slots.toNat
    rw [show (totV g).toNat = n by omega] at hL hfm
    generalize fmtTo g (gbV g) hd g.slots.toNat = L at *
    have hsz : ∀ x ∈ L, x.size ≤ maxLen := fun x hx => by have := hsmall x hx; simp only [maxLen]; omega
    refine enter (E := E0) (O := []) (nl := 0) (V := vw w) [.a (.v g.val), .a (.v (I at_)), .a (.v (S s))] Try.func7 rfl rfl (mem0 E0 0 w) rfl rfl ?_
    refine c_seq ?_
    refine c_region ?_
    refine o_new tok rfl rfl rfl rfl ?_
    refine o_yield rfl rfl rfl (y_val tok rfl) ?_
    refine o_end [1, 2, 3] rfl ?_
    refine x_then ?_
    refine c_seq ?_
    refine c_region ?_
    refine o_yield rfl rfl rfl (y_val tok rfl) ?_
    refine o_step rfl rfl rfl rfl rfl (s_callR (fun _ : Unit => True) (fun _ => .tup [.row 1, .v (I 0)]) 9 1 (fun _ => n) (fun _ => L.flatMap encS) rfl fnok46 (fun _ => rfl) (fun E w hm => (hfm w).mono (fun e w' ⟨v, he, ho, hb⟩ => ⟨(), v, he, ho, hb, trivial⟩))) (fun _ _ => ?_)
    refine o_yield rfl rfl rfl (y_val tok rfl) ?_
    refine o_yield rfl rfl rfl (y_val tok rfl) ?_
    refine o_yield rfl rfl rfl (y_val tok rfl) ?_
    refine o_yield rfl rfl rfl (y_val tok rfl) ?_
    refine o_yield rfl rfl rfl (y_val tok rfl) ?_
    refine o_end [1, 2, 3, 7, 8] rfl ?_
    refine x_then ?_
    refine c_seq ?_
    refine c_seq ?_
    refine c_region ?_
    refine o_yield rfl rfl rfl (y_val tok rfl) ?_
    refine o_yield rfl rfl rfl (y_val tok rfl) ?_
    refine o_yield rfl rfl rfl (y_val tok rfl) ?_
    refine o_yield rfl rfl rfl (y_val tok rfl) ?_
    refine o_yield rfl rfl rfl (y_val tok rfl) ?_
    refine o_yield rfl rfl rfl (y_val tok rfl) ?_
    refine o_yield rfl rfl rfl (y_val tok rfl) ?_
    refine o_end [1, 2, 3, 7, 34] rfl ?_
    refine x_then ?_
    refine c_cond rfl (fun h => ?_) (fun h => ?_)
    ·
      refine c_seq ?_
      refine c_region ?_
      refine o_call (.a (.v _)) rfl rfl fnok45 rfl rfl rfl (fun hg E w1 hm => by exact wakes05_c _) ?_
      refine o_yield rfl rfl rfl (y_val tok rfl) ?_
      refine o_end [6] rfl ?_
      refine x_then ?_
      refine c_ret ?_
      refine x_then_ret ?_
      refine b_ret tok rfl ?_
      intro E w' hm _
      refine ⟨?_, hm.below (Vw.le.refl _)⟩
      rfl
    ·
      have hs2 : s.size ≤ 256 := by
        have h2 : ¬ (256 : Int) < s.size := by simpa using h
        omega
      clear h
      refine c_skip ?_
      refine x_then ?_
      refine c_seq ?_
      refine c_seq ?_
      refine k_plainS [1, 2, 3, 7] [1] rfl (by repeat (first | exact SubF.nil | refine SubF.cons rfl ?_)) rfl rfl (fun Ea V1 hle1 hlit => ?_)
      have hb0 := hlit 0 _ _ rfl rfl
      clear hlit
      refine c_region ?_
      refine o_yield rfl rfl rfl (y_val tok rfl) ?_
      refine o_yield rfl rfl rfl (y_ownKs 1 2 _ (.a (.v (I n))) rfl rfl rfl (fun V' hv => y_len tok rfl (fun hg => hv))) ?_
      refine o_yield rfl rfl rfl (y_ldp tok rfl (fun hg => hb0) rfl) ?_
      refine o_call (.a (.v _)) rfl rfl fnok15 rfl rfl rfl (fun hg E w1 hm => by exact refTotal_c g ok _) ?_
      refine o_yield rfl rfl rfl (y_val tok rfl) ?_
      refine o_end [1, 2, 3, 7, 40] rfl ?_
      refine x_then ?_
      refine c_cond rfl (fun h => ?_) (fun h => ?_)
      ·
        refine c_seq ?_
        refine c_region ?_
        refine o_yield rfl rfl rfl (y_val tok rfl) ?_
        refine o_end [6] rfl ?_
        refine x_then ?_
        refine c_ret ?_
        refine x_then_ret ?_
        refine b_ret tok rfl ?_
        exact absurd h (by simp [hn])
      ·
        clear h
        refine c_skip ?_
        refine x_then ?_
        refine c_seq ?_
        refine c_region ?_
        refine o_step rfl rfl rfl rfl rfl (s_bs tok 1 rfl rfl rfl) (fun _ _ => ?_)
        refine o_yield rfl rfl rfl (y_val tok rfl) ?_
        refine o_step rfl rfl rfl rfl rfl (s_app tok (L.flatMap encS) rfl (fun E w hm => src_keep hm 1 2 rfl rfl) (fun _ _ _ => strs_ones _) (by dsimp only; omega)) (fun _ _ => ?_)
        refine o_step rfl rfl rfl rfl rfl (s_bs tok 1 rfl rfl rfl) (fun _ _ => ?_)
        refine o_step rfl rfl rfl rfl rfl (s_app tok ([ByteArray.empty].flatMap encS) rfl (fun E w hm => ownsRow_src (hm.row _ _ _ _ _ rfl)) (fun _ _ _ => strs_ones _) (by dsimp only; omega)) (fun _ _ => ?_)
        rw [List.nil_append, ← List.flatMap_append, show 0 + n + 1 = (L ++ [ByteArray.empty]).length by simp; omega]
        refine o_call (.a (.v _)) rfl rfl fnok47 rfl rfl rfl (fun hg E w1 hm => by exact schk_e (vw w1) _ (L ++ [ByteArray.empty]) geo0 50 (chk_none hmore).1 (chk_none hmore).2 _ (Vw.le.refl _) (hm.rowOf 6 rfl (fun _ => rfl)) (by simp; omega) (fun x hx => (List.mem_append.1 hx).elim (hsz x) (fun h => by rw [List.mem_singleton.1 h]; simp))) ?_
        refine o_yield rfl rfl rfl (y_val tok rfl) ?_
        refine o_yield rfl rfl rfl (y_val tok rfl) ?_
        refine o_yield rfl rfl rfl (y_val tok rfl) ?_
        refine o_new tok rfl rfl rfl rfl ?_
        refine o_store tok rfl rfl rfl (by first | exact ⟨trivial, trivial⟩ | (repeat' first | exact trivial | exact rfl | apply And.intro); done | simp [onesP, oneP, lk, Value.oneCell']) ?_
        refine o_yield rfl rfl rfl (y_val tok rfl) ?_
        refine o_end [1, 2, 3, 7, 10] rfl ?_
        refine x_then ?_
        refine c_seq ?_
        refine c_region ?_
        refine o_yield rfl rfl rfl (y_val tok rfl) ?_
        refine o_yield rfl rfl rfl (y_val tok rfl) ?_
        refine o_yield rfl rfl rfl (y_ownKs 1 2 _ (.a (.v (I n))) rfl rfl rfl (fun V' hv => y_len tok rfl (fun hg => hv))) ?_
        refine o_yield rfl rfl rfl (y_val tok rfl) ?_
        rw [wrapI (n := (n : Int) - 1) (by omega) (by omega)]
        refine o_yield rfl rfl rfl (y_ownKs 1 2 _ (.a (.v (sliceV (Ea.κ 1) 0 ((n : Int) - 1).toNat 1))) rfl rfl rfl (fun V' hv => y_sl (lo := none) (hi := some ((n : Int) - 1)) tok rfl (fun hg => hv) (fun hg => by dsimp only [Option.getD]; omega))) ?_
        rw [show ((n : Int) - 1).toNat = n - 1 by omega]
        refine o_call (.a (.v _)) rfl rfl fnok47 rfl rfl rfl (fun hg E w1 hm => by exact schk_e (vw w1) _ (L.take (n - 1)) geo0 50 (chk_none hless).1 (chk_none hless).2 _ (Vw.le.refl _) (by have h1 := (slOf_keep (L := L) hm 1 2 (by rw [hL]; rfl) rfl).cut (lo := 0) (hi := n - 1) (by omega) (by omega); simp only [List.drop_zero, Nat.sub_zero] at h1; exact h1) (by simp; omega) (fun x hx => hsz x (List.mem_of_mem_take hx))) ?_
        refine o_yield rfl rfl rfl (y_val tok rfl) ?_
        refine o_yield rfl rfl rfl (y_val tok rfl) ?_
        refine o_yield rfl rfl rfl (y_val tok rfl) ?_
        refine o_new tok rfl rfl rfl rfl ?_
        refine o_store tok rfl rfl rfl (by first | exact ⟨trivial, trivial⟩ | (repeat' first | exact trivial | exact rfl | apply And.intro); done | simp [onesP, oneP, lk, Value.oneCell']) ?_
        refine o_yield rfl rfl rfl (y_val tok rfl) ?_
        refine o_end [1, 2, 3, 7, 10, 12] rfl ?_
        refine x_then ?_
        refine c_seq ?_
        refine c_region ?_
        refine o_yield rfl rfl rfl (y_val tok rfl) ?_
        refine o_yield rfl rfl rfl (y_val tok rfl) ?_
        refine o_yield rfl rfl rfl (y_ownKs 1 2 _ (.a (.v (I n))) rfl rfl rfl (fun V' hv => y_len tok rfl (fun hg => hv))) ?_
        refine o_yield rfl rfl rfl (y_rem rfl (fun hg => by omega)) ?_
        refine o_yield rfl rfl rfl (y_val tok rfl) ?_
        refine o_yield rfl rfl rfl (y_ownKs 1 2 _ (.a (.v (I n))) rfl rfl rfl (fun V' hv => y_len tok rfl (fun hg => hv))) ?_
        refine o_yield rfl rfl rfl (y_val tok rfl) ?_
        refine o_yield rfl rfl rfl (y_val tok rfl) ?_
        refine o_yield rfl rfl rfl (y_ownKs 1 2 _ (.a (.v (I n))) rfl rfl rfl (fun V' hv => y_len tok rfl (fun hg => hv))) ?_
        refine o_yield rfl rfl rfl (y_rem rfl (fun hg => by omega)) ?_
        refine o_yield rfl rfl rfl (y_val tok rfl) ?_
        refine o_end [1, 2, 3, 7, 10, 12] rfl ?_
        refine x_then ?_
        refine c_seq ?_
        refine c_region ?_
        obtain ⟨q, hq, hqn⟩ : ∃ q : Nat, (IntKind.i64.wrap (at_.tmod n + n)).tmod n = q ∧ q < n := by
          have hn0 : (0 : Int) < n := by omega
          have h1 := Int.tmod_lt_of_pos at_ hn0
          have h2 : -(n : Int) < at_.tmod n := by
            have h3 := Int.tmod_lt_of_pos (-at_) hn0
            rw [Int.neg_tmod] at h3
            omega
          rw [wrapI (by omega) (by omega), Int.tmod_eq_emod_of_nonneg (by omega)]
          have h4 := Int.emod_nonneg (at_.tmod n + n) (b := (n : Int)) (by omega)
          have h5 := Int.emod_lt_of_pos (at_.tmod n + n) hn0
          exact ⟨((at_.tmod n + n) % n).toNat, by omega, by omega⟩
        rw [hq]
        obtain ⟨was, hwas⟩ : ∃ x, L[q]? = some x := ⟨_, List.getElem?_eq_getElem (by omega)⟩
        refine o_yield rfl rfl rfl (y_ldp tok rfl (fun hg => hb0) rfl) ?_
        refine o_yield rfl rfl rfl (y_val tok rfl) ?_
        refine o_callV (fun x V' => ∃ k a b, x = .tuple #[I8 k, I a, I b] ∧ WhatP g q k a b) rfl rfl fnok25 rfl rfl (fun hg E w1 hm => by exact what_cV V1 g ok hG q (by omega) _ hm.leV) ?_
        rintro x V2 hle2 hx
        obtain ⟨k, ka, kb, rfl, hW⟩ := hx rfl
        clear hx
        refine o_yield rfl rfl rfl (y_val tok rfl) ?_
        refine o_yield rfl rfl rfl (y_val tok rfl) ?_
        refine o_yield rfl rfl rfl (y_val tok rfl) ?_
        refine o_yield rfl rfl rfl (y_val tok rfl) ?_
        refine o_yield rfl rfl rfl (y_val tok rfl) ?_
        refine o_yield rfl rfl rfl (y_val tok rfl) ?_
        refine o_yield rfl rfl rfl (y_val tok rfl) ?_
        refine o_end [1, 2, 3, 7, 10, 12, 13] rfl ?_
        refine x_then ?_
        refine c_seq ?_
        refine c_region ?_
        refine o_yield rfl rfl rfl (y_val tok rfl) ?_
        refine o_yield rfl rfl rfl (y_val tok rfl) ?_
        refine o_yield rfl rfl rfl (y_ownK 1 2 _ q rfl rfl (fun V' hv => y_idxK tok q rfl (by simp) (fun hg => hv) (fun hg => by omega))) ?_
        refine o_yield rfl rfl rfl (y_own (s := .a (.v (S was))) 1 rfl rfl (fun v V' hv => y_lel (enc := encS) (l := L) tok q 0 was rfl (fun hg => ⟨by rw [hL]; exact hv, fun _ => rfl⟩) (fun hg => hwas) (by simp) rfl)) ?_
        refine o_yield rfl rfl rfl (y_val tok rfl) ?_
        refine o_end [1, 2, 3, 7, 10, 12, 13, 16] rfl ?_
        refine x_then ?_
        refine c_seq ?_
        refine c_region ?_
        refine o_yield rfl rfl rfl (y_val tok rfl) ?_
        refine o_yield rfl rfl rfl (y_val tok rfl) ?_
        refine o_yield rfl rfl rfl (y_val tok rfl) ?_
        refine o_yield rfl rfl rfl (y_ownK 1 2 _ q rfl rfl (fun V' hv => y_idxK tok q rfl (by simp) (fun hg => hv) (fun hg => by omega))) ?_
        refine o_stepN rfl rfl rfl rfl (s_rst tok rfl rfl (by intro u hu; simp only [List.mem_singleton] at hu; subst hu; rfl) (by simp only [List.length_singleton]; omega) (by omega)) (fun _ _ => ?_)
        refine o_end [2, 3, 7, 10, 12, 13, 16] rfl ?_
        refine x_then ?_
        refine c_seq ?_
        refine c_region ?_
        refine o_yield rfl rfl rfl (y_val tok rfl) ?_
        have hset := overL_set (enc := encS) (sz := 1) (fun _ => rfl) L q s (by omega)
        rw [Nat.mul_one] at hset
        rw [show overL q [A.den Ea (A.v (S s))] _ = _ from hset]
        have hML : (L.set q s).length = n := by rw [List.length_set, hL]
        have hMs : ∀ x ∈ L.set q s, x.size ≤ maxLen := fun x hx => (List.mem_or_eq_of_mem_set hx).elim (hsz x) (fun h => by rw [h]; exact hs)
        have hq2 : (q : Int) < totV g := by omega
        clear hset
        refine o_call (.a (.v _)) rfl rfl fnok47 rfl rfl rfl (fun hg E w1 hm => by exact schk_e (vw w1) _ (L.set q s) (chkV (L.set q s)) (chkE (L.set q s)) rfl rfl _ (Vw.le.refl _) (slOf_keep hm 1 2 (by rw [hML]; rfl) rfl) (by omega) hMs) ?_
        refine o_yield rfl rfl rfl (y_val tok rfl) ?_
        refine o_yield rfl rfl rfl (y_val tok rfl) ?_
        refine o_yield rfl rfl rfl (y_val tok rfl) ?_
        refine o_new tok rfl rfl rfl rfl ?_
        refine o_store tok rfl rfl rfl (by first | exact ⟨trivial, trivial⟩ | (repeat' first | exact trivial | exact rfl | apply And.intro); done | simp [onesP, oneP, lk, Value.oneCell']) ?_
        refine o_yield rfl rfl rfl (y_val tok rfl) ?_
        refine o_end [2, 3, 10, 12, 13, 16, 17, 18] rfl ?_
        refine x_then ?_
        refine c_seq ?_
        refine c_seq ?_
        refine c_region ?_
        refine o_yield rfl rfl rfl (y_val tok rfl) ?_
        refine o_yield rfl rfl rfl (y_val tok rfl) ?_
        refine o_yield rfl rfl rfl (y_val tok rfl) ?_
        refine o_yield rfl rfl rfl (y_val tok rfl) ?_
        refine o_yield rfl rfl rfl (y_val tok rfl) ?_
        refine o_yield rfl rfl rfl (y_val tok rfl) ?_
        refine o_end [2, 3, 13, 16, 17, 18, 94] rfl ?_
        refine x_then ?_
        refine c_cond rfl (fun h => ?_) (fun h => ?_)
        ·
          refine c_seq ?_
          refine c_region ?_
          refine o_yield rfl rfl rfl (y_val tok rfl) ?_
          refine o_end [6] rfl ?_
          refine x_then ?_
          refine c_ret ?_
          refine x_then_ret ?_
          refine b_ret tok rfl ?_
          exact absurd h (by decide)
        ·
          clear h
          refine c_skip ?_
          refine x_then ?_
          refine c_seq ?_
          refine c_region ?_
          refine o_yield rfl rfl rfl (y_val tok rfl) ?_
          refine o_call (.a (.v _)) rfl rfl fnok54 rfl rfl rfl (fun hg E w1 hm => by exact rstail_c s hs _) ?_
          refine o_yield rfl rfl rfl (y_val tok rfl) ?_
          refine o_yield rfl rfl rfl (y_val tok rfl) ?_
          refine o_yield rfl rfl rfl (y_val tok rfl) ?_
          refine o_yield rfl rfl rfl (y_val tok rfl) ?_
          refine o_yield rfl rfl rfl (y_val tok rfl) ?_
          refine o_end [2, 3, 13, 16, 17, 18, 20] rfl ?_
          refine x_then ?_
          refine c_seq ?_
          refine c_block ?_
          refine c_seq ?_
          refine c_seq ?_
          refine c_region ?_
          refine o_yield rfl rfl rfl (y_val tok rfl) ?_
          refine o_yield rfl rfl rfl (y_val tok rfl) ?_
          refine o_yield rfl rfl rfl (y_val tok rfl) ?_
          refine o_yield rfl rfl rfl (y_val tok rfl) ?_
          refine o_end [2, 3, 13, 17, 18, 20, 100] rfl ?_
          refine x_then ?_
          refine c_cond rfl (fun h => ?_) (fun h => ?_)
          ·
            have hsw : s = was := by
              rw [str_beq] at h
              exact str_ext (by simpa using h)
            have hM : chkG (L.set q s) = some g := by
              have he : L.set q s = L := by
                subst hsw
                obtain ⟨hlt, hget⟩ := List.getElem?_eq_some_iff.1 hwas
                rw [← hget, List.set_getElem_self]
              rw [he]; exact hfc
            refine c_skip ?_
            refine x_then ?_
            refine c_cond rfl (fun h => ?_) (fun h => ?_)
            ·
              refine c_seq ?_
              refine c_region ?_
              refine o_yield rfl rfl rfl (y_val tok rfl) ?_
              refine o_yield rfl rfl rfl (y_val tok rfl) ?_
              refine o_yield rfl rfl rfl (y_val tok rfl) ?_
              refine o_yield rfl rfl rfl (y_val tok rfl) ?_
              refine o_yield rfl rfl rfl (y_ldp tok rfl (fun hg => hle2.get _ _ hb0) rfl) ?_
              refine o_yield rfl rfl rfl (y_seq (.bool ((chkV (L.set q s)).eqB g)) rfl (fun E w => geoEq _ _ w (.inl rfl))) ?_
              refine o_yield rfl rfl rfl (y_val tok rfl) ?_
              refine o_yield rfl rfl rfl (y_val tok rfl) ?_
              refine o_call (.a (.v _)) rfl rfl fnok45 rfl rfl rfl (fun hg E w1 hm => by exact wakes05_c _) ?_
              refine o_yield rfl rfl rfl (y_val tok rfl) ?_
              refine o_yield rfl rfl rfl (y_val tok rfl) ?_
              refine o_end [6] rfl ?_
              refine x_then ?_
              refine c_ret ?_
              refine x_block_ret ?_
              refine x_then_ret ?_
              refine b_ret tok rfl ?_
              intro E w' hm _
              refine ⟨?_, hm.below ((hle1.trans hle2))⟩
              rw [(chk_some hM).1, (chk_some hM).2, Geo.eqB_refl]
              rfl
            ·
              exact absurd h (by rename_i h0; rw [h0]; decide)
          ·
            clear h
            refine c_region ?_
            refine o_yield rfl rfl rfl (y_val tok rfl) ?_
            refine o_yield rfl rfl rfl (y_val tok rfl) ?_
            refine o_yield rfl rfl rfl (y_val tok rfl) ?_
            refine o_yield rfl rfl rfl (y_val tok rfl) ?_
            refine o_yield rfl rfl rfl (y_val tok rfl) ?_
            refine o_yield rfl rfl rfl (y_val tok rfl) ?_
            refine o_yield rfl rfl rfl (y_val tok rfl) ?_
            refine o_end [2, 3, 13, 17, 18, 100] rfl ?_
            refine x_then ?_
            refine c_cond rfl (fun h => ?_) (fun h => ?_)
            ·
              have hM : chkG (L.set q s) = some g := by
                simp only [Bool.and_eq_true, beq_iff_eq] at h
                obtain ⟨i, hi⟩ := hW.head.1 h.1
                have := (head_pos hG hi.1).1
                exact hyes hs2 (by have := hi.2; omega) hq2 (fun _ _ _ => h.2)
              refine c_seq ?_
              refine c_region ?_
              refine o_yield rfl rfl rfl (y_val tok rfl) ?_
              refine o_yield rfl rfl rfl (y_val tok rfl) ?_
              refine o_yield rfl rfl rfl (y_val tok rfl) ?_
              refine o_yield rfl rfl rfl (y_val tok rfl) ?_
              refine o_yield rfl rfl rfl (y_ldp tok rfl (fun hg => hle2.get _ _ hb0) rfl) ?_
              refine o_yield rfl rfl rfl (y_seq (.bool ((chkV (L.set q s)).eqB g)) rfl (fun E w => geoEq _ _ w (.inl rfl))) ?_
              refine o_yield rfl rfl rfl (y_val tok rfl) ?_
              refine o_yield rfl rfl rfl (y_val tok rfl) ?_
              refine o_call (.a (.v _)) rfl rfl fnok45 rfl rfl rfl (fun hg E w1 hm => by exact wakes05_c _) ?_
              refine o_yield rfl rfl rfl (y_val tok rfl) ?_
              refine o_yield rfl rfl rfl (y_val tok rfl) ?_
              refine o_end [6] rfl ?_
              refine x_then ?_
              refine c_ret ?_
              refine x_block_ret ?_
              refine x_then_ret ?_
              refine b_ret tok rfl ?_
              intro E w' hm _
              refine ⟨?_, hm.below ((hle1.trans hle2))⟩
              rw [(chk_some hM).1, (chk_some hM).2, Geo.eqB_refl]
              rfl
            ·
              have hk5 : k = 5 → tailE s ≠ 0 := fun h1 h2 => by simp [h1, h2] at h
              clear h
              refine c_seq ?_
              refine c_region ?_
              refine o_yield rfl rfl rfl (y_val tok rfl) ?_
              refine o_yield rfl rfl rfl (y_val tok rfl) ?_
              refine o_yield rfl rfl rfl (y_val tok rfl) ?_
              refine o_end [2, 3, 13, 17, 18, 120] rfl ?_
              refine x_then ?_
              refine c_cond rfl (fun h => ?_) (fun h => ?_)
              ·
                have hq0 : q = 0 := hW.one.1 (by simpa using h)
                subst hq0
                clear h
                refine c_seq ?_
                refine c_region ?_
                refine o_yield rfl rfl rfl (y_val tok rfl) ?_
                refine o_call (.a (.v _)) rfl rfl fnok55 rfl rfl rfl (fun hg E w1 hm => by exact rsread_c s hs _) ?_
                refine o_yield rfl rfl rfl (y_val tok rfl) ?_
                refine o_yield rfl rfl rfl (y_val tok rfl) ?_
                refine o_yield rfl rfl rfl (y_val tok rfl) ?_
                refine o_new tok rfl rfl rfl rfl ?_
                refine o_store tok rfl rfl rfl (by first | exact ⟨trivial, trivial⟩ | (repeat' first | exact trivial | exact rfl | apply And.intro); done | simp [onesP, oneP, lk, Value.oneCell']) ?_
                refine o_yield rfl rfl rfl (y_val tok rfl) ?_
                refine o_end [18, 22] rfl ?_
                refine x_then ?_
                refine c_seq ?_
                refine c_region ?_
                refine o_yield rfl rfl rfl (y_val tok rfl) ?_
                refine o_yield rfl rfl rfl (y_val tok rfl) ?_
                refine o_yield rfl rfl rfl (y_val tok rfl) ?_
                refine o_yield rfl rfl rfl (y_val tok rfl) ?_
                refine o_yield rfl rfl rfl (y_val tok rfl) ?_
                refine o_yield rfl rfl rfl (y_val tok rfl) ?_
                refine o_yield rfl rfl rfl (y_val tok rfl) ?_
                refine o_call (.a (.v _)) rfl rfl fnok45 rfl rfl rfl (fun hg E w1 hm => by exact wakes05_c _) ?_
                refine o_yield rfl rfl rfl (y_val tok rfl) ?_
                refine o_yield rfl rfl rfl (y_val tok rfl) ?_
                refine o_end [6] rfl ?_
                refine x_then ?_
                refine c_ret ?_
                refine x_block_ret ?_
                refine x_then_ret ?_
                refine b_ret tok rfl ?_
                intro E w' hm _
                refine ⟨?_, hm.below ((hle1.trans hle2))⟩
                by_cases hr : srE s = 0
                · rw [hr]; rfl
                · rw [(chk_none (hnoS hr)).2]; simp
                  rfl
              ·
                have hq0 : q ≠ 0 := fun h0 => by have := hW.one.2 h0; simp [this] at h
                clear h
                refine c_seq ?_
                refine c_region ?_
                refine o_yield rfl rfl rfl (y_val tok rfl) ?_
                refine o_yield rfl rfl rfl (y_val tok rfl) ?_
                refine o_yield rfl rfl rfl (y_val tok rfl) ?_
                refine o_end [3, 17, 18, 137] rfl ?_
                refine x_then ?_
                refine c_cond rfl (fun h => ?_) (fun h => ?_)
                ·
                  have hk : k = 5 := by simpa using h
                  obtain ⟨i, hi⟩ := hW.head.1 hk
                  have hM := hnoH hq0 hq2 hi.1 hi.2 (hk5 hk)
                  refine c_seq ?_
                  refine c_region ?_
                  refine o_yield rfl rfl rfl (y_val tok rfl) ?_
                  refine o_yield rfl rfl rfl (y_val tok rfl) ?_
                  refine o_yield rfl rfl rfl (y_val tok rfl) ?_
                  refine o_call (.a (.v _)) rfl rfl fnok45 rfl rfl rfl (fun hg E w1 hm => by exact wakes05_c _) ?_
                  refine o_yield rfl rfl rfl (y_val tok rfl) ?_
                  refine o_yield rfl rfl rfl (y_val tok rfl) ?_
                  refine o_end [6] rfl ?_
                  refine x_then ?_
                  refine c_ret ?_
                  refine x_block_ret ?_
                  refine x_then_ret ?_
                  refine b_ret tok rfl ?_
                  intro E w' hm _
                  refine ⟨?_, hm.below ((hle1.trans hle2))⟩
                  rw [(chk_none hM).2]; rfl
                ·
                  have hk : k ≠ 5 := by simpa using h
                  have hM : chkG (L.set q s) = some g := hyes hs2 hq0 hq2 (fun i hi he => absurd (hW.head.2 ⟨i, hi, he⟩) hk)
                  refine c_skip ?_
                  refine x_block ?_
                  refine x_then ?_
                  refine c_seq ?_
                  refine c_region ?_
                  refine o_yield rfl rfl rfl (y_val tok rfl) ?_
                  refine o_yield rfl rfl rfl (y_val tok rfl) ?_
                  refine o_yield rfl rfl rfl (y_val tok rfl) ?_
                  refine o_yield rfl rfl rfl (y_val tok rfl) ?_
                  refine o_yield rfl rfl rfl (y_ldp tok rfl (fun hg => hle2.get _ _ hb0) rfl) ?_
                  refine o_yield rfl rfl rfl (y_seq (.bool ((chkV (L.set q s)).eqB g)) rfl (fun E w => geoEq _ _ w (.inl rfl))) ?_
                  refine o_yield rfl rfl rfl (y_val tok rfl) ?_
                  refine o_yield rfl rfl rfl (y_val tok rfl) ?_
                  refine o_call (.a (.v _)) rfl rfl fnok45 rfl rfl rfl (fun hg E w1 hm => by exact wakes05_c _) ?_
                  refine o_yield rfl rfl rfl (y_val tok rfl) ?_
                  refine o_yield rfl rfl rfl (y_val tok rfl) ?_
                  refine o_end [6] rfl ?_
                  refine x_then ?_
                  refine c_ret ?_
                  refine b_ret tok rfl ?_
                  intro E w' hm _
                  refine ⟨?_, hm.below ((hle1.trans hle2))⟩
                  rw [(chk_some hM).1, (chk_some hM).2, Geo.eqB_refl]
                  rfl
  ·
    refine enter (E := E0) (O := []) (nl := 0) (V := vw w) [.a (.v g.val), .a (.v (I at_)), .a (.v (S s))] Try.func7 rfl rfl (mem0 E0 0 w) rfl rfl ?_
    refine c_seq ?_
    refine c_region ?_
    refine o_new tok rfl rfl rfl rfl ?_
    refine o_yield rfl rfl rfl (y_val tok rfl) ?_
    refine o_end [1, 2, 3] rfl ?_
    refine x_then ?_
    refine c_seq ?_
    refine c_region ?_
    refine o_yield rfl rfl rfl (y_val tok rfl) ?_
    have hno : ∀ w : World, Calls Try.prog 46 #[g.val] w fun e w' => e = .returned (.tuple #[.slice none 0 0, I 40]) ∧ Below w.heap.size w w' := fun w => by
      refine (hnil w).mono ?_
      rintro e w' ⟨⟨h1, _⟩ | ⟨_, h2⟩, hb⟩
      · exact absurd h1 hG
      · exact ⟨h2, hb⟩
    refine o_call (.a (.v _)) rfl rfl fnok46 rfl rfl rfl (fun hg E w1 hm => by exact hno _) ?_
    refine o_yield rfl rfl rfl (y_val tok rfl) ?_
    refine o_yield rfl rfl rfl (y_val tok rfl) ?_
    refine o_yield rfl rfl rfl (y_val tok rfl) ?_
    refine o_yield rfl rfl rfl (y_val tok rfl) ?_
    refine o_yield rfl rfl rfl (y_val tok rfl) ?_
    refine o_end [1, 2, 3, 7, 8] rfl ?_
    refine x_then ?_
    refine c_seq ?_
    refine c_seq ?_
    refine c_region ?_
    refine o_yield rfl rfl rfl (y_val tok rfl) ?_
    refine o_yield rfl rfl rfl (y_val tok rfl) ?_
    refine o_yield rfl rfl rfl (y_val tok rfl) ?_
    refine o_yield rfl rfl rfl (y_val tok rfl) ?_
    refine o_yield rfl rfl rfl (y_val tok rfl) ?_
    refine o_yield rfl rfl rfl (y_val tok rfl) ?_
    refine o_yield rfl rfl rfl (y_val tok rfl) ?_
    refine o_end [1, 2, 3, 7, 34] rfl ?_
    refine x_then ?_
    refine c_cond rfl (fun h => ?_) (fun h => ?_)
    ·
      refine c_seq ?_
      refine c_region ?_
      refine o_call (.a (.v _)) rfl rfl fnok45 rfl rfl rfl (fun hg E w1 hm => by exact wakes05_c _) ?_
      refine o_yield rfl rfl rfl (y_val tok rfl) ?_
      refine o_end [6] rfl ?_
      refine x_then ?_
      refine c_ret ?_
      refine x_then_ret ?_
      refine b_ret tok rfl ?_
      intro E w' hm _
      refine ⟨?_, hm.below (Vw.le.refl _)⟩
      rfl
    ·
      refine c_skip ?_
      refine x_then ?_
      refine c_seq ?_
      refine c_seq ?_
      refine c_region ?_
      refine o_yield rfl rfl rfl (y_val tok rfl) ?_
      exact absurd h (by simp)
end Go.Proofs.Ytflimioplnbopaa
