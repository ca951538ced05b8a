import Derived.Test.YtflimioplnbopaaMRReads
import Derived.Test.YtflimioplnbopaaEng28
/- Where everything stands: the program's answer and the document's. -/
set_option linter.unusedVariables false
set_option linter.unusedSimpArgs false
set_option maxRecDepth 100000
namespace Go.Proofs.Ytflimioplnbopaa
open Go Go.Eng Go.RowKit

def dataV (g : Geo) (b k : Int) : Int := if geoB g = true ∧ 0 ≤ b ∧ b < g.blocks ∧ 0 ≤ k ∧ k < g.per then dataAt g + b * g.per + k else -1
def headV (g : Geo) (s : Int) : Int := if geoB g = true ∧ 0 ≤ s ∧ s < g.slots then 1 + 2 * g.nodes + g.log + s * (1 + g.journal) else -1
def jourV (g : Geo) (s lsn : Int) : Int := if headV g s < 0 ∨ lsn < 0 then -1 else headV g s + 1 + lsn % g.journal
def totV (g : Geo) : Int := if geoB g = true then dataAt g + g.blocks * g.per else 0

theorem find_data (g : Geo) : findR 7 (regL g) = if geoB g = true then ⟨dataAt g, g.blocks * g.per, 7, g.per⟩ else ⟨0, 0, 0, 1⟩ := by
  unfold regL
  split <;> simp [regs, findR]
theorem find_jour (g : Geo) : findR 6 (regL g) = if geoB g = true then ⟨1 + 2 * g.nodes + g.log, g.slots * (1 + g.journal), 6, 1 + g.journal⟩ else ⟨0, 0, 0, 1⟩ := by
  unfold regL
  split <;> simp [regs, findR]

theorem geo_sizes {g : Geo} (h : geoB g = true) : 0 ≤ g.slots * (1 + g.journal) ∧ g.slots * (1 + g.journal) ≤ 1040 ∧ 0 ≤ g.blocks * g.per ∧ g.blocks * g.per ≤ 512 ∧ 1 ≤ dataAt g ∧ dataAt g ≤ 1585 := by
  have hf := geo_facts h
  have hs := prod_bound (a := g.slots) (b := 1 + g.journal) (A := 16) (B := 65) (by omega) (by omega) (by omega) (by omega)
  have hb := prod_bound (a := g.blocks) (b := g.per) (A := 64) (B := 8) (by omega) (by omega) (by omega) (by omega)
  unfold dataAt
  omega

theorem data_c (g : Geo) (ok : g.Ok) (b k : Int) (w : World) : Calls Try.prog 122 #[g.val, I b, I k] w fun e w' => e = .returned (I (dataV g b k)) ∧ Below w.heap.size w w' := by
  refine enter (E := E0) (O := []) (nl := 0) (V := vw w) [.a (.v g.val), .a (.v (I b)), .a (.v (I k))] Try.func122 rfl rfl (mem0 E0 0 w) rfl rfl ?_
  refine c_seq ?_
  refine c_region ?_
  refine o_new tok rfl rfl rfl rfl ?_
  refine o_yield rfl rfl rfl (y_val tok rfl) ?_
  refine o_end [1, 2, 3] rfl ?_
  refine x_then ?_
  refine c_seq ?_
  refine c_region ?_
  refine o_yield rfl rfl rfl (y_val tok rfl) ?_
  refine o_yield rfl rfl rfl (y_val tok rfl) ?_
  refine o_yield rfl rfl rfl (y_val tok rfl) ?_
  cases hgg : geoB g with
  | false =>
    have hr := find_data g
    rw [if_neg (by simp [hgg])] at hr
    refine o_call (.a (.v _)) rfl rfl fnok187 rfl rfl rfl (fun hg E w1 hm => by exact of_c' g ok 7 b k _ hr 0 (by omega) (by simp) (by simp) (by simp) (by simp) (by simp) (dataV g b k) (by rw [dataV, if_neg (by simp [hgg]), if_pos (by dsimp only; omega)]) _) ?_
    refine o_yield rfl rfl rfl (y_val tok rfl) ?_
    refine o_end [6] rfl ?_
    refine x_then ?_
    refine c_ret ?_
    refine b_ret tok rfl ?_
    intro E w' hm _
    refine ⟨?_, hm.below (Vw.le.refl _)⟩
    rfl
  | true =>
    have hr := find_data g
    rw [if_pos hgg] at hr
    have hf := geo_facts hgg
    have hz := geo_sizes hgg
    have hv : dataV g b k = if b < 0 ∨ g.blocks ≤ b ∨ k < 0 ∨ g.per ≤ k then -1 else dataAt g + b * g.per + k := by
      unfold dataV
      by_cases h : 0 ≤ b ∧ b < g.blocks ∧ 0 ≤ k ∧ k < g.per
      · rw [if_pos ⟨hgg, h⟩, if_neg (by omega)]
      · rw [if_neg (by rintro ⟨_, hc⟩; exact h hc), if_pos (by omega)]
    refine o_call (.a (.v _)) rfl rfl fnok187 rfl rfl rfl (fun hg E w1 hm => by exact of_c' g ok 7 b k _ hr g.blocks (by omega) rfl (by dsimp only; omega) (by dsimp only; omega) (by dsimp only; omega) (by dsimp only; omega) _ hv _) ?_
    refine o_yield rfl rfl rfl (y_val tok rfl) ?_
    refine o_end [6] rfl ?_
    refine x_then ?_
    refine c_ret ?_
    refine b_ret tok rfl ?_
    intro E w' hm _
    refine ⟨?_, hm.below (Vw.le.refl _)⟩
    rfl

theorem head_c (g : Geo) (ok : g.Ok) (s : Int) (w : World) : Calls Try.prog 186 #[g.val, I s] w fun e w' => e = .returned (I (headV g s)) ∧ Below w.heap.size w w' := by
  refine enter (E := E0) (O := []) (nl := 0) (V := vw w) [.a (.v g.val), .a (.v (I s))] Try.func186 rfl rfl (mem0 E0 0 w) rfl rfl ?_
  refine c_seq ?_
  refine c_region ?_
  refine o_new tok rfl rfl rfl rfl ?_
  refine o_yield rfl rfl rfl (y_val tok rfl) ?_
  refine o_end [1, 2] rfl ?_
  refine x_then ?_
  refine c_seq ?_
  refine c_region ?_
  refine o_yield rfl rfl rfl (y_val tok rfl) ?_
  refine o_yield rfl rfl rfl (y_val tok rfl) ?_
  cases hgg : geoB g with
  | false =>
    have hr := find_jour g
    rw [if_neg (by simp [hgg])] at hr
    refine o_call (.a (.v _)) rfl rfl fnok187 rfl rfl rfl (fun hg E w1 hm => by exact of_c' g ok 6 s 0 _ hr 0 (by omega) (by simp) (by simp) (by simp) (by simp) (by simp) (headV g s) (by rw [headV, if_neg (by simp [hgg]), if_pos (by dsimp only; omega)]) _) ?_
    refine o_yield rfl rfl rfl (y_val tok rfl) ?_
    refine o_end [4] rfl ?_
    refine x_then ?_
    refine c_ret ?_
    refine b_ret tok rfl ?_
    intro E w' hm _
    refine ⟨?_, hm.below (Vw.le.refl _)⟩
    rfl
  | true =>
    have hr := find_jour g
    rw [if_pos hgg] at hr
    have hf := geo_facts hgg
    have hz := geo_sizes hgg
    have hv : headV g s = if s < 0 ∨ g.slots ≤ s ∨ (0 : Int) < 0 ∨ 1 + g.journal ≤ 0 then -1 else 1 + 2 * g.nodes + g.log + s * (1 + g.journal) + 0 := by
      unfold headV
      by_cases h : 0 ≤ s ∧ s < g.slots
      · rw [if_pos ⟨hgg, h⟩, if_neg (by omega), Int.add_zero]
      · rw [if_neg (by rintro ⟨_, hc⟩; exact h hc), if_pos (by omega)]
    refine o_call (.a (.v _)) rfl rfl fnok187 rfl rfl rfl (fun hg E w1 hm => by exact of_c' g ok 6 s 0 _ hr g.slots (by omega) rfl (by dsimp only; omega) (by dsimp only; omega) (by dsimp only; omega) (by dsimp only; omega) _ hv _) ?_
    refine o_yield rfl rfl rfl (y_val tok rfl) ?_
    refine o_end [4] rfl ?_
    refine x_then ?_
    refine c_ret ?_
    refine b_ret tok rfl ?_
    intro E w' hm _
    refine ⟨?_, hm.below (Vw.le.refl _)⟩
    rfl

theorem head_geo {g : Geo} {s : Int} (h : 0 ≤ headV g s) : geoB g = true ∧ 0 ≤ s ∧ s < g.slots := by
  unfold headV at h
  split at h
  · assumption
  · omega

theorem tmod_bounds {a b : Int} (ha : 0 ≤ a) (hb : 0 < b) : a.tmod b = a % b ∧ 0 ≤ a % b ∧ a % b < b :=
  ⟨Int.tmod_eq_emod_of_nonneg ha, Int.emod_nonneg _ (by omega), Int.emod_lt_of_pos _ hb⟩

theorem jour_c (g : Geo) (ok : g.Ok) (s lsn : Int) (w : World) : Calls Try.prog 99 #[g.val, I s, I lsn] w fun e w' => e = .returned (I (jourV g s lsn)) ∧ Below w.heap.size w w' := by
  refine enter (E := E0) (O := []) (nl := 0) (V := vw w) [.a (.v g.val), .a (.v (I s)), .a (.v (I lsn))] Try.func99 rfl rfl (mem0 E0 0 w) rfl rfl ?_
  refine c_seq ?_
  refine c_region ?_
  refine o_new tok rfl rfl rfl rfl ?_
  refine o_yield rfl rfl rfl (y_val tok rfl) ?_
  refine o_end [1, 2, 3] rfl ?_
  refine x_then ?_
  refine c_seq ?_
  refine c_seq ?_
  refine c_region ?_
  refine o_yield rfl rfl rfl (y_val tok rfl) ?_
  refine o_yield rfl rfl rfl (y_val tok rfl) ?_
  refine o_yield rfl rfl rfl (y_val tok rfl) ?_
  refine o_yield rfl rfl rfl (y_val tok rfl) ?_
  refine o_yield rfl rfl rfl (y_val tok rfl) ?_
  refine o_call (.a (.v _)) rfl rfl fnok186 rfl rfl rfl (fun hg E w1 hm => by exact head_c g ok s _) ?_
  refine o_yield rfl rfl rfl (y_val tok rfl) ?_
  refine o_yield rfl rfl rfl (y_val tok rfl) ?_
  refine o_end [1, 2, 3, 14] rfl ?_
  refine x_then ?_
  refine c_cond rfl (fun h => ?_) (fun h => ?_)
  ·
    simp only [Bool.and_eq_true, Bool.or_eq_true, Bool.not_eq_true', Bool.or_eq_false_iff, Bool.and_eq_false_iff, decide_eq_true_eq, decide_eq_false_iff_not, beq_iff_eq, bne_iff_ne, Bool.not_eq_false', beq_eq_false_iff_ne, bne_eq_false_iff_eq, ne_eq, Decidable.not_not, Int.not_lt, Int.not_le] at h
    refine c_seq ?_
    refine c_region ?_
    refine o_yield rfl rfl rfl (y_val tok rfl) ?_
    refine o_end [6] rfl ?_
    refine x_then ?_
    refine c_ret ?_
    refine x_then_ret ?_
    refine b_ret tok rfl ?_
    intro E w' hm _
    refine ⟨?_, hm.below (Vw.le.refl _)⟩
    rw [jourV, if_pos (by omega)]; rfl
  ·
    simp only [Bool.and_eq_true, Bool.or_eq_true, Bool.not_eq_true', Bool.or_eq_false_iff, Bool.and_eq_false_iff, decide_eq_true_eq, decide_eq_false_iff_not, beq_iff_eq, bne_iff_ne, Bool.not_eq_false', beq_eq_false_iff_ne, bne_eq_false_iff_eq, ne_eq, Decidable.not_not, Int.not_lt, Int.not_le] at h
    obtain ⟨hgg, h1, h2⟩ := head_geo (g := g) (s := s) (by omega)
    have hf := geo_facts hgg
    have hz := geo_sizes hgg
    obtain ⟨e1, e2, e3⟩ := tmod_bounds (a := lsn) (b := g.journal) (by omega) (by omega)
    have hh : headV g s = 1 + 2 * g.nodes + g.log + s * (1 + g.journal) := by rw [headV, if_pos ⟨hgg, h1, h2⟩]
    have hr := find_jour g
    rw [if_pos hgg] at hr
    refine c_skip ?_
    refine x_then ?_
    refine c_seq ?_
    refine c_draw mixed (by kernel_rfl) ?_
    refine d_yield rfl rfl rfl (y_val tok rfl) rfl ?_
    refine d_yield rfl rfl rfl (y_val tok rfl) rfl ?_
    refine d_yield rfl rfl rfl (y_val tok rfl) rfl ?_
    refine d_yield rfl rfl rfl (y_val tok rfl) rfl ?_
    refine d_yield rfl rfl rfl (y_val tok rfl) rfl ?_
    refine d_yield rfl rfl rfl (y_rem rfl (fun hg => by omega)) rfl ?_
    refine d_yield rfl rfl rfl (y_val tok rfl) rfl ?_
    rw [e1, wrapI (n := 1 + lsn % g.journal) (by omega) (by omega)]
    have hv : jourV g s lsn = if s < 0 ∨ g.slots ≤ s ∨ 1 + lsn % g.journal < 0 ∨ 1 + g.journal ≤ 1 + lsn % g.journal then -1 else 1 + 2 * g.nodes + g.log + s * (1 + g.journal) + (1 + lsn % g.journal) := by
      rw [jourV, if_neg (by omega), hh, if_neg (by omega), ← Int.add_assoc]
    refine d_call (.a (.v _)) rfl rfl fnok187 rfl rfl rfl (fun hg E w1 hm => by exact of_c' g ok 6 s (1 + lsn % g.journal) _ hr g.slots (by omega) rfl (by dsimp only; omega) (by dsimp only; omega) (by dsimp only; omega) (by dsimp only; omega) _ hv _) ?_
    refine d_yield rfl rfl rfl (y_val tok rfl) rfl ?_
    refine d_end [6] rfl ?_
    refine x_then ?_
    refine c_ret ?_
    refine b_ret tok rfl ?_
    intro E w' hm _
    refine ⟨?_, hm.below (Vw.le.refl _)⟩
    rfl

theorem total_c (g : Geo) (ok : g.Ok) (w : World) : Calls Try.prog 128 #[g.val] w fun e w' => e = .returned (I (totV g)) ∧ Below w.heap.size w w' := by
  refine enter (E := E0) (O := []) (nl := 0) (V := vw w) [.a (.v g.val)] Try.func128 rfl rfl (mem0 E0 0 w) rfl rfl ?_
  refine c_seq ?_
  refine c_region ?_
  refine o_new tok rfl rfl rfl rfl ?_
  refine o_yield rfl rfl rfl (y_val tok rfl) ?_
  refine o_end [1] rfl ?_
  refine x_then ?_
  refine c_seq ?_
  refine c_region ?_
  refine o_yield rfl rfl rfl (y_val tok rfl) ?_
  refine o_call (.a (.v _)) rfl rfl fnok200 rfl rfl rfl (fun hg E w1 hm => by exact find_c g ok 7 _) ?_
  refine o_yield rfl rfl rfl (y_val tok rfl) ?_
  refine o_call (.a (.v _)) rfl rfl fnok201 rfl rfl rfl (fun hg E w1 hm => by exact stretchEnd_c _ _ _) ?_
  refine o_yield rfl rfl rfl (y_val tok rfl) ?_
  refine o_end [2] rfl ?_
  refine x_then ?_
  refine c_ret ?_
  refine b_ret tok rfl ?_
  intro E w' hm _
  refine ⟨?_, hm.below (Vw.le.refl _)⟩
  rw [find_data, totV]
  cases hg : geoB g with
  | false => rfl
  | true =>
    have hz := geo_sizes hg
    show Ending.returned (I (IntKind.i64.wrap (dataAt g + g.blocks * g.per))) = _
    rw [wrapI (by omega) (by omega)]; rfl

/-! The document's. -/

theorem inB_iff (n a b : Int) : inB n a b = decide (a ≤ n ∧ n ≤ b) := by
  unfold inB; rw [Bool.eq_iff_iff]; simp

theorem refHead_c (g : Geo) (ok : g.Ok) (s : Int) (w : World) : Calls Try.prog 20 #[g.val, I s] w fun e w' => e = .returned (I (headV g s)) ∧ Below w.heap.size w w' := by
  refine enter (E := E0) (O := []) (nl := 0) (V := vw w) [.a (.v g.val), .a (.v (I s))] Try.func20 rfl rfl (mem0 E0 0 w) rfl rfl ?_
  refine c_seq ?_
  refine c_region ?_
  refine o_new tok rfl rfl rfl rfl ?_
  refine o_yield rfl rfl rfl (y_val tok rfl) ?_
  refine o_end [1, 2] rfl ?_
  refine x_then ?_
  refine c_seq ?_
  refine c_seq ?_
  refine c_region ?_
  refine o_yield rfl rfl rfl (y_val tok rfl) ?_
  refine o_call (.a (.v _)) rfl rfl fnok14 rfl rfl rfl (fun hg E w1 hm => by exact refMay_c g ok _) ?_
  refine o_yield rfl rfl rfl (y_val tok rfl) ?_
  refine o_yield rfl rfl rfl (y_val tok rfl) ?_
  refine o_yield rfl rfl rfl (y_val tok rfl) ?_
  refine o_yield rfl rfl rfl (y_val tok rfl) ?_
  refine o_yield rfl rfl rfl (y_val tok rfl) ?_
  refine o_yield rfl rfl rfl (y_val tok rfl) ?_
  refine o_call (.a (.v _)) rfl rfl fnok89 rfl rfl rfl (fun hg E w1 hm => by exact in_c _ _ _ _) ?_
  refine o_yield rfl rfl rfl (y_val tok rfl) ?_
  refine o_yield rfl rfl rfl (y_val tok rfl) ?_
  refine o_end [1, 2, 15] rfl ?_
  refine x_then ?_
  refine c_cond rfl (fun h => ?_) (fun h => ?_)
  ·
    refine c_seq ?_
    refine c_region ?_
    refine o_yield rfl rfl rfl (y_val tok rfl) ?_
    refine o_end [4] rfl ?_
    refine x_then ?_
    refine c_ret ?_
    refine x_then_ret ?_
    refine b_ret tok rfl ?_
    rw [inB_iff] at h
    simp only [Bool.or_eq_true, Bool.not_eq_true', decide_eq_false_iff_not] at h
    intro E w' hm _
    refine ⟨?_, hm.below (Vw.le.refl _)⟩
    rw [headV, if_neg]
    · rfl
    · rintro ⟨h1, h2, h3⟩
      have hf := geo_facts h1
      rw [wrapI (by omega) (by omega)] at h
      rcases h with h | h
      · rw [h1] at h; cases h
      · omega
  ·
    rw [inB_iff] at h
    simp only [Bool.or_eq_false_iff, Bool.not_eq_false', decide_eq_true_eq] at h
    obtain ⟨hg, h1⟩ := h
    have hf := geo_facts hg
    have hz := geo_sizes hg
    rw [wrapI (by omega) (by omega)] at h1
    have hp := prod_bound (a := s) (b := 1 + g.journal) (A := 16) (B := 65) (by omega) (by omega) (by omega) (by omega)
    refine c_skip ?_
    refine x_then ?_
    refine c_seq ?_
    refine c_region ?_
    refine o_yield rfl rfl rfl (y_val tok rfl) ?_
    refine o_yield rfl rfl rfl (y_val tok rfl) ?_
    refine o_yield rfl rfl rfl (y_val tok rfl) ?_
    refine o_yield rfl rfl rfl (y_val tok rfl) ?_
    refine o_yield rfl rfl rfl (y_val tok rfl) ?_
    refine o_yield rfl rfl rfl (y_val tok rfl) ?_
    refine o_yield rfl rfl rfl (y_val tok rfl) ?_
    refine o_yield rfl rfl rfl (y_val tok rfl) ?_
    refine o_yield rfl rfl rfl (y_val tok rfl) ?_
    refine o_yield rfl rfl rfl (y_val tok rfl) ?_
    refine o_yield rfl rfl rfl (y_val tok rfl) ?_
    refine o_yield rfl rfl rfl (y_val tok rfl) ?_
    refine o_yield rfl rfl rfl (y_val tok rfl) ?_
    refine o_yield rfl rfl rfl (y_val tok rfl) ?_
    refine o_end [4] rfl ?_
    refine x_then ?_
    refine c_ret ?_
    refine b_ret tok rfl ?_
    intro E w' hm _
    refine ⟨?_, hm.below (Vw.le.refl _)⟩
    rw [headV, if_pos ⟨hg, by omega, by omega⟩, wrapI (n := 2 * g.nodes) (by omega) (by omega), wrapI (n := 1 + 2 * g.nodes) (by omega) (by omega), wrapI (n := 1 + 2 * g.nodes + g.log) (by omega) (by omega), wrapI (n := 1 + g.journal) (by omega) (by omega),
      wrapI (n := s * (1 + g.journal)) (by omega) (by omega), wrapI (by omega) (by omega)]
    rfl

theorem jour_le {g : Geo} {s : Int} (hh : 0 ≤ headV g s) : headV g s ≤ 1585 := by
  obtain ⟨hgg, h1, h2⟩ := head_geo hh
  have hf := geo_facts hgg
  have hz := geo_sizes hgg
  have hp := prod_bound (a := s) (b := 1 + g.journal) (A := 16) (B := 65) (by omega) (by omega) (by omega) (by omega)
  rw [headV, if_pos ⟨hgg, h1, h2⟩]
  omega

theorem refJour_c (g : Geo) (ok : g.Ok) (s lsn : Int) (w : World) : Calls Try.prog 66 #[g.val, I s, I lsn] w fun e w' => e = .returned (I (jourV g s lsn)) ∧ Below w.heap.size w w' := by
  refine enter (E := E0) (O := []) (nl := 0) (V := vw w) [.a (.v g.val), .a (.v (I s)), .a (.v (I lsn))] Try.func66 rfl rfl (mem0 E0 0 w) rfl rfl ?_
  refine c_seq ?_
  refine c_region ?_
  refine o_new tok rfl rfl rfl rfl ?_
  refine o_yield rfl rfl rfl (y_val tok rfl) ?_
  refine o_end [1, 2, 3] rfl ?_
  refine x_then ?_
  refine c_seq ?_
  refine c_seq ?_
  refine c_region ?_
  refine o_yield rfl rfl rfl (y_val tok rfl) ?_
  refine o_yield rfl rfl rfl (y_val tok rfl) ?_
  refine o_call (.a (.v _)) rfl rfl fnok20 rfl rfl rfl (fun hg E w1 hm => by exact refHead_c g ok s _) ?_
  refine o_yield rfl rfl rfl (y_val tok rfl) ?_
  refine o_yield rfl rfl rfl (y_val tok rfl) ?_
  refine o_yield rfl rfl rfl (y_val tok rfl) ?_
  refine o_yield rfl rfl rfl (y_val tok rfl) ?_
  refine o_yield rfl rfl rfl (y_val tok rfl) ?_
  refine o_end [1, 2, 3, 14] rfl ?_
  refine x_then ?_
  refine c_cond rfl (fun h => ?_) (fun h => ?_)
  ·
    simp only [Bool.and_eq_true, Bool.or_eq_true, Bool.not_eq_true', Bool.or_eq_false_iff, Bool.and_eq_false_iff, decide_eq_true_eq, decide_eq_false_iff_not, beq_iff_eq, bne_iff_ne, Bool.not_eq_false', beq_eq_false_iff_ne, bne_eq_false_iff_eq, ne_eq, Decidable.not_not, Int.not_lt, Int.not_le] at h
    refine c_seq ?_
    refine c_region ?_
    refine o_yield rfl rfl rfl (y_val tok rfl) ?_
    refine o_end [6] rfl ?_
    refine x_then ?_
    refine c_ret ?_
    refine x_then_ret ?_
    refine b_ret tok rfl ?_
    intro E w' hm _
    refine ⟨?_, hm.below (Vw.le.refl _)⟩
    rw [jourV, if_pos (by omega)]; rfl
  ·
    simp only [Bool.and_eq_true, Bool.or_eq_true, Bool.not_eq_true', Bool.or_eq_false_iff, Bool.and_eq_false_iff, decide_eq_true_eq, decide_eq_false_iff_not, beq_iff_eq, bne_iff_ne, Bool.not_eq_false', beq_eq_false_iff_ne, bne_eq_false_iff_eq, ne_eq, Decidable.not_not, Int.not_lt, Int.not_le] at h
    obtain ⟨hgg, h1, h2⟩ := head_geo (g := g) (s := s) (by omega)
    have hf := geo_facts hgg
    have hj := jour_le (g := g) (s := s) (by omega)
    obtain ⟨e1, e2, e3⟩ := tmod_bounds (a := lsn) (b := g.journal) (by omega) (by omega)
    refine c_skip ?_
    refine x_then ?_
    refine c_seq ?_
    refine c_draw mixed (by kernel_rfl) ?_
    refine d_yield rfl rfl rfl (y_val tok rfl) rfl ?_
    refine d_yield rfl rfl rfl (y_val tok rfl) rfl ?_
    refine d_call (.a (.v _)) rfl rfl fnok20 rfl rfl rfl (fun hg E w1 hm => by exact refHead_c g ok s _) ?_
    refine d_yield rfl rfl rfl (y_val tok rfl) rfl ?_
    refine d_yield rfl rfl rfl (y_val tok rfl) rfl ?_
    refine d_yield rfl rfl rfl (y_val tok rfl) rfl ?_
    refine d_yield rfl rfl rfl (y_val tok rfl) rfl ?_
    refine d_yield rfl rfl rfl (y_rem rfl (fun hg => by omega)) rfl ?_
    refine d_yield rfl rfl rfl (y_val tok rfl) rfl ?_
    refine d_yield rfl rfl rfl (y_val tok rfl) rfl ?_
    refine d_end [6] rfl ?_
    refine x_then ?_
    refine c_ret ?_
    refine b_ret tok rfl ?_
    rw [e1, wrapI (n := headV g s + 1) (by omega) (by omega)]
    intro E w' hm _
    refine ⟨?_, hm.below (Vw.le.refl _)⟩
    rw [jourV, if_neg (by omega), wrapI (by omega) (by omega)]; rfl

theorem refData_c (g : Geo) (ok : g.Ok) (b k : Int) (w : World) : Calls Try.prog 90 #[g.val, I b, I k] w fun e w' => e = .returned (I (dataV g b k)) ∧ Below w.heap.size w w' := by
  refine enter (E := E0) (O := []) (nl := 0) (V := vw w) [.a (.v g.val), .a (.v (I b)), .a (.v (I k))] Try.func90 rfl rfl (mem0 E0 0 w) rfl rfl ?_
  refine c_seq ?_
  refine c_region ?_
  refine o_new tok rfl rfl rfl rfl ?_
  refine o_yield rfl rfl rfl (y_val tok rfl) ?_
  refine o_end [1, 2, 3] rfl ?_
  refine x_then ?_
  refine c_seq ?_
  refine c_seq ?_
  refine c_region ?_
  refine o_yield rfl rfl rfl (y_val tok rfl) ?_
  refine o_call (.a (.v _)) rfl rfl fnok14 rfl rfl rfl (fun hg E w1 hm => by exact refMay_c g ok _) ?_
  refine o_yield rfl rfl rfl (y_val tok rfl) ?_
  refine o_yield rfl rfl rfl (y_val tok rfl) ?_
  refine o_yield rfl rfl rfl (y_val tok rfl) ?_
  refine o_yield rfl rfl rfl (y_val tok rfl) ?_
  refine o_yield rfl rfl rfl (y_val tok rfl) ?_
  refine o_yield rfl rfl rfl (y_val tok rfl) ?_
  refine o_call (.a (.v _)) rfl rfl fnok89 rfl rfl rfl (fun hg E w1 hm => by exact in_c _ _ _ _) ?_
  refine o_yield rfl rfl rfl (y_val tok rfl) ?_
  refine o_yield rfl rfl rfl (y_val tok rfl) ?_
  refine o_yield rfl rfl rfl (y_val tok rfl) ?_
  refine o_yield rfl rfl rfl (y_val tok rfl) ?_
  refine o_yield rfl rfl rfl (y_val tok rfl) ?_
  refine o_yield rfl rfl rfl (y_val tok rfl) ?_
  refine o_yield rfl rfl rfl (y_val tok rfl) ?_
  refine o_call (.a (.v _)) rfl rfl fnok89 rfl rfl rfl (fun hg E w1 hm => by exact in_c _ _ _ _) ?_
  refine o_yield rfl rfl rfl (y_val tok rfl) ?_
  refine o_yield rfl rfl rfl (y_val tok rfl) ?_
  refine o_end [1, 2, 3, 25] rfl ?_
  refine x_then ?_
  refine c_cond rfl (fun h => ?_) (fun h => ?_)
  ·
    refine c_seq ?_
    refine c_region ?_
    refine o_yield rfl rfl rfl (y_val tok rfl) ?_
    refine o_end [6] rfl ?_
    refine x_then ?_
    refine c_ret ?_
    refine x_then_ret ?_
    refine b_ret tok rfl ?_
    rw [inB_iff, inB_iff] at h
    simp only [Bool.or_eq_true, Bool.not_eq_true', decide_eq_false_iff_not] at h
    intro E w' hm _
    refine ⟨?_, hm.below (Vw.le.refl _)⟩
    rw [dataV, if_neg]
    · rfl
    · rintro ⟨h1, h2⟩
      have hf := geo_facts h1
      rw [wrapI (by omega) (by omega), wrapI (by omega) (by omega), h1] at h
      simp only [Bool.true_eq_false, false_or] at h
      omega
  ·
    rw [inB_iff, inB_iff] at h
    simp only [Bool.or_eq_false_iff, Bool.not_eq_false', decide_eq_true_eq] at h
    obtain ⟨⟨hgg, h1⟩, h2⟩ := h
    have hf := geo_facts hgg
    have hz := geo_sizes hgg
    rw [wrapI (by omega) (by omega)] at h1 h2
    have hp := prod_bound (a := b) (b := g.per) (A := 64) (B := 8) (by omega) (by omega) (by omega) (by omega)
    have hda : dataAt g = 1 + 2 * g.nodes + g.log + g.slots * (1 + g.journal) := rfl
    refine c_skip ?_
    refine x_then ?_
    refine c_seq ?_
    refine c_region ?_
    refine o_yield rfl rfl rfl (y_val tok rfl) ?_
    refine o_yield rfl rfl rfl (y_val tok rfl) ?_
    refine o_yield rfl rfl rfl (y_val tok rfl) ?_
    refine o_yield rfl rfl rfl (y_val tok rfl) ?_
    refine o_yield rfl rfl rfl (y_val tok rfl) ?_
    refine o_yield rfl rfl rfl (y_val tok rfl) ?_
    refine o_yield rfl rfl rfl (y_val tok rfl) ?_
    refine o_yield rfl rfl rfl (y_val tok rfl) ?_
    refine o_yield rfl rfl rfl (y_val tok rfl) ?_
    refine o_yield rfl rfl rfl (y_val tok rfl) ?_
    refine o_yield rfl rfl rfl (y_val tok rfl) ?_
    refine o_yield rfl rfl rfl (y_val tok rfl) ?_
    refine o_yield rfl rfl rfl (y_val tok rfl) ?_
    refine o_yield rfl rfl rfl (y_val tok rfl) ?_
    refine o_yield rfl rfl rfl (y_val tok rfl) ?_
    refine o_yield rfl rfl rfl (y_val tok rfl) ?_
    refine o_yield rfl rfl rfl (y_val tok rfl) ?_
    refine o_yield rfl rfl rfl (y_val tok rfl) ?_
    refine o_yield rfl rfl rfl (y_val tok rfl) ?_
    refine o_yield rfl rfl rfl (y_val tok rfl) ?_
    refine o_yield rfl rfl rfl (y_val tok rfl) ?_
    refine o_yield rfl rfl rfl (y_val tok rfl) ?_
    refine o_end [6] rfl ?_
    refine x_then ?_
    refine c_ret ?_
    refine b_ret tok rfl ?_
    intro E w' hm _
    refine ⟨?_, hm.below (Vw.le.refl _)⟩
    rw [dataV, if_pos ⟨hgg, by omega, by omega, by omega, by omega⟩, wrapI (n := 2 * g.nodes) (by omega) (by omega), wrapI (n := 1 + 2 * g.nodes) (by omega) (by omega), wrapI (n := 1 + 2 * g.nodes + g.log) (by omega) (by omega), wrapI (n := 1 + g.journal) (by omega) (by omega),
      wrapI (n := g.slots * (1 + g.journal)) (by omega) (by omega), wrapI (n := 1 + 2 * g.nodes + g.log + g.slots * (1 + g.journal)) (by omega) (by omega), ← hda, wrapI (n := b * g.per) (by omega) (by omega), wrapI (n := dataAt g + b * g.per) (by omega) (by omega), wrapI (by omega) (by omega)]
    rfl

theorem refTotal_c (g : Geo) (ok : g.Ok) (w : World) : Calls Try.prog 15 #[g.val] w fun e w' => e = .returned (I (totV g)) ∧ Below w.heap.size w w' := by
  refine enter (E := E0) (O := []) (nl := 0) (V := vw w) [.a (.v g.val)] Try.func15 rfl rfl (mem0 E0 0 w) rfl rfl ?_
  refine c_seq ?_
  refine c_region ?_
  refine o_new tok rfl rfl rfl rfl ?_
  refine o_yield rfl rfl rfl (y_val tok rfl) ?_
  refine o_end [1] rfl ?_
  refine x_then ?_
  refine c_seq ?_
  refine c_seq ?_
  refine c_region ?_
  refine o_yield rfl rfl rfl (y_val tok rfl) ?_
  refine o_call (.a (.v _)) rfl rfl fnok14 rfl rfl rfl (fun hg E w1 hm => by exact refMay_c g ok _) ?_
  refine o_yield rfl rfl rfl (y_val tok rfl) ?_
  refine o_end [1, 5] rfl ?_
  refine x_then ?_
  refine c_cond rfl (fun h => ?_) (fun h => ?_)
  ·
    simp only [Bool.and_eq_true, Bool.or_eq_true, Bool.not_eq_true', Bool.or_eq_false_iff, Bool.and_eq_false_iff, decide_eq_true_eq, decide_eq_false_iff_not, beq_iff_eq, bne_iff_ne, Bool.not_eq_false', beq_eq_false_iff_ne, bne_eq_false_iff_eq, ne_eq, Decidable.not_not, Int.not_lt, Int.not_le] at h
    refine c_seq ?_
    refine c_region ?_
    refine o_yield rfl rfl rfl (y_val tok rfl) ?_
    refine o_end [2] rfl ?_
    refine x_then ?_
    refine c_ret ?_
    refine x_then_ret ?_
    refine b_ret tok rfl ?_
    intro E w' hm _
    refine ⟨?_, hm.below (Vw.le.refl _)⟩
    rw [totV, if_neg (by simp [h])]; rfl
  ·
    simp only [Bool.and_eq_true, Bool.or_eq_true, Bool.not_eq_true', Bool.or_eq_false_iff, Bool.and_eq_false_iff, decide_eq_true_eq, decide_eq_false_iff_not, beq_iff_eq, bne_iff_ne, Bool.not_eq_false', beq_eq_false_iff_ne, bne_eq_false_iff_eq, ne_eq, Decidable.not_not, Int.not_lt, Int.not_le] at h
    have hf := geo_facts h
    have hz := geo_sizes h
    refine c_skip ?_
    refine x_then ?_
    refine c_seq ?_
    refine c_region ?_
    refine o_yield rfl rfl rfl (y_val tok rfl) ?_
    refine o_yield rfl rfl rfl (y_val tok rfl) ?_
    refine o_yield rfl rfl rfl (y_val tok rfl) ?_
    refine o_yield rfl rfl rfl (y_val tok rfl) ?_
    refine o_yield rfl rfl rfl (y_val tok rfl) ?_
    refine o_yield rfl rfl rfl (y_val tok rfl) ?_
    refine o_yield rfl rfl rfl (y_val tok rfl) ?_
    rw [wrapI (n := g.blocks - 1) (by omega) (by omega), wrapI (n := g.per - 1) (by omega) (by omega)]
    refine o_call (.a (.v _)) rfl rfl fnok90 rfl rfl rfl (fun hg E w1 hm => by exact refData_c g ok _ _ _) ?_
    refine o_yield rfl rfl rfl (y_val tok rfl) ?_
    refine o_yield rfl rfl rfl (y_val tok rfl) ?_
    refine o_end [2] rfl ?_
    refine x_then ?_
    refine c_ret ?_
    refine b_ret tok rfl ?_
    have hb := prod_bound (a := g.blocks) (b := g.per) (A := 64) (B := 8) (by omega) (by omega) (by omega) (by omega)
    have e : dataV g (g.blocks - 1) (g.per - 1) + 1 = totV g := by
      rw [dataV, if_pos ⟨h, by omega, by omega, by omega, by omega⟩, totV, if_pos h, Int.sub_mul, Int.one_mul]
      omega
    have ht : totV g ≤ 2097 ∧ 0 ≤ totV g := by rw [totV, if_pos h]; omega
    intro E w' hm _
    refine ⟨?_, hm.below (Vw.le.refl _)⟩
    rw [← e, wrapI (by omega) (by omega)]; rfl
end Go.Proofs.Ytflimioplnbopaa

/- Whether a transaction fits, which blocks may be. -/
set_option linter.unusedVariables false
set_option linter.unusedSimpArgs false
set_option maxRecDepth 100000
namespace Go.Proofs.Ytflimioplnbopaa
open Go Go.Eng Go.RowKit

def fitsV (g : Geo) (used n : Int) : Int :=
  if geoB g = false ∨ used < 0 ∨ g.journal < used ∨ n < 0 then 2 else if g.journal < manyOf g n then 180 else if g.journal < manyOf g n + used then 190 else 0

theorem many_bound (g : Geo) (n : Int) : 0 ≤ manyOf g n ∧ manyOf g n ≤ 8796093022209 := by
  unfold manyOf
  split
  · rename_i h
    have hf := geo_facts h.1
    have := prod_bound (a := g.per) (b := min n 1099511627776) (A := 8) (B := 1099511627776) (by omega) (by omega) (by omega) (by omega)
    omega
  · omega

theorem fits_c (g : Geo) (ok : g.Ok) (used n : Int) (w : World) : Calls Try.prog 94 #[g.val, I used, I n] w fun e w' => e = .returned (I (fitsV g used n)) ∧ Below w.heap.size w w' := by
  have hm := many_bound g n
  refine enter (E := E0) (O := []) (nl := 0) (V := vw w) [.a (.v g.val), .a (.v (I used)), .a (.v (I n))] Try.func94 rfl rfl (mem0 E0 0 w) rfl rfl ?_
  refine c_seq ?_
  refine c_region ?_
  refine o_new tok rfl rfl rfl rfl ?_
  refine o_yield rfl rfl rfl (y_val tok rfl) ?_
  refine o_end [1, 2, 3] rfl ?_
  refine x_then ?_
  refine c_seq ?_
  refine c_region ?_
  refine o_yield rfl rfl rfl (y_val tok rfl) ?_
  refine o_yield rfl rfl rfl (y_val tok rfl) ?_
  refine o_call (.a (.v _)) rfl rfl fnok180 rfl rfl rfl (fun hg E w1 hm => by exact many_c g ok n _) ?_
  refine o_yield rfl rfl rfl (y_val tok rfl) ?_
  refine o_end [1, 2, 3, 7] rfl ?_
  refine x_then ?_
  refine c_seq ?_
  refine c_block ?_
  refine c_seq ?_
  refine c_region ?_
  refine o_yield rfl rfl rfl (y_val tok rfl) ?_
  refine o_call (.a (.v _)) rfl rfl fnok127 rfl rfl rfl (fun hg E w1 hm => by exact geoMay_c g ok _) ?_
  refine o_yield rfl rfl rfl (y_val tok rfl) ?_
  refine o_yield rfl rfl rfl (y_val tok rfl) ?_
  refine o_yield rfl rfl rfl (y_val tok rfl) ?_
  refine o_yield rfl rfl rfl (y_val tok rfl) ?_
  refine o_yield rfl rfl rfl (y_val tok rfl) ?_
  refine o_yield rfl rfl rfl (y_val tok rfl) ?_
  refine o_yield rfl rfl rfl (y_val tok rfl) ?_
  refine o_yield rfl rfl rfl (y_val tok rfl) ?_
  refine o_yield rfl rfl rfl (y_val tok rfl) ?_
  refine o_yield rfl rfl rfl (y_val tok rfl) ?_
  refine o_yield rfl rfl rfl (y_val tok rfl) ?_
  refine o_yield rfl rfl rfl (y_val tok rfl) ?_
  refine o_yield rfl rfl rfl (y_val tok rfl) ?_
  refine o_yield rfl rfl rfl (y_val tok rfl) ?_
  refine o_yield rfl rfl rfl (y_val tok rfl) ?_
  refine o_yield rfl rfl rfl (y_val tok rfl) ?_
  refine o_end [1, 3, 7, 11] rfl ?_
  refine x_then ?_
  refine c_cond rfl (fun h => ?_) (fun h => ?_)
  ·
    simp only [Bool.and_eq_true, Bool.or_eq_true, Bool.not_eq_true', Bool.or_eq_false_iff, Bool.and_eq_false_iff, decide_eq_true_eq, decide_eq_false_iff_not, beq_iff_eq, bne_iff_ne, Bool.not_eq_false', beq_eq_false_iff_ne, bne_eq_false_iff_eq, ne_eq, Decidable.not_not, Int.not_lt, Int.not_le] at h
    refine c_seq ?_
    refine c_region ?_
    refine o_yield rfl rfl rfl (y_val tok rfl) ?_
    refine o_end [6] rfl ?_
    refine x_then ?_
    refine c_ret ?_
    refine x_block_ret ?_
    refine x_then_ret ?_
    refine b_ret tok rfl ?_
    intro E w' hm _
    refine ⟨?_, hm.below (Vw.le.refl _)⟩
    rw [fitsV, if_pos]
    · rfl
    · cases hgg : geoB g with
      | false => exact .inl rfl
      | true =>
        rw [hgg] at h
        simp only [Bool.true_eq_false, false_or] at h
        exact .inr (by omega)
  ·
    simp only [Bool.and_eq_true, Bool.or_eq_true, Bool.not_eq_true', Bool.or_eq_false_iff, Bool.and_eq_false_iff, decide_eq_true_eq, decide_eq_false_iff_not, beq_iff_eq, bne_iff_ne, Bool.not_eq_false', beq_eq_false_iff_ne, bne_eq_false_iff_eq, ne_eq, Decidable.not_not, Int.not_lt, Int.not_le] at h
    have h1 := h
    have hgg : geoB g = true := by cases hq : geoB g <;> simp [hq] at h1 ⊢
    have hf := geo_facts hgg
    have hu : 0 ≤ used ∧ used ≤ g.journal ∧ 0 ≤ n := by omega
    clear h h1
    have hpre : ¬ (geoB g = false ∨ used < 0 ∨ g.journal < used ∨ n < 0) := by rw [hgg]; simp; omega
    refine c_seq ?_
    refine c_region ?_
    refine o_yield rfl rfl rfl (y_val tok rfl) ?_
    refine o_yield rfl rfl rfl (y_val tok rfl) ?_
    refine o_yield rfl rfl rfl (y_val tok rfl) ?_
    refine o_yield rfl rfl rfl (y_val tok rfl) ?_
    refine o_yield rfl rfl rfl (y_val tok rfl) ?_
    refine o_end [1, 3, 7, 29] rfl ?_
    refine x_then ?_
    refine c_cond rfl (fun h => ?_) (fun h => ?_)
    ·
      simp only [Bool.and_eq_true, Bool.or_eq_true, Bool.not_eq_true', Bool.or_eq_false_iff, Bool.and_eq_false_iff, decide_eq_true_eq, decide_eq_false_iff_not, beq_iff_eq, bne_iff_ne, Bool.not_eq_false', beq_eq_false_iff_ne, bne_eq_false_iff_eq, ne_eq, Decidable.not_not, Int.not_lt, Int.not_le] at h
      refine c_seq ?_
      refine c_region ?_
      refine o_yield rfl rfl rfl (y_val tok rfl) ?_
      refine o_end [6] rfl ?_
      refine x_then ?_
      refine c_ret ?_
      refine x_block_ret ?_
      refine x_then_ret ?_
      refine b_ret tok rfl ?_
      intro E w' hm _
      refine ⟨?_, hm.below (Vw.le.refl _)⟩
      rw [fitsV, if_neg hpre, if_pos h]; rfl
    ·
      simp only [Bool.and_eq_true, Bool.or_eq_true, Bool.not_eq_true', Bool.or_eq_false_iff, Bool.and_eq_false_iff, decide_eq_true_eq, decide_eq_false_iff_not, beq_iff_eq, bne_iff_ne, Bool.not_eq_false', beq_eq_false_iff_ne, bne_eq_false_iff_eq, ne_eq, Decidable.not_not, Int.not_lt, Int.not_le] at h
      have h2 := h
      clear h
      refine c_seq ?_
      refine c_region ?_
      refine o_yield rfl rfl rfl (y_val tok rfl) ?_
      refine o_yield rfl rfl rfl (y_val tok rfl) ?_
      refine o_yield rfl rfl rfl (y_val tok rfl) ?_
      refine o_yield rfl rfl rfl (y_val tok rfl) ?_
      refine o_yield rfl rfl rfl (y_val tok rfl) ?_
      refine o_yield rfl rfl rfl (y_val tok rfl) ?_
      refine o_yield rfl rfl rfl (y_val tok rfl) ?_
      refine o_end [34] rfl ?_
      refine x_then ?_
      refine c_cond rfl (fun h => ?_) (fun h => ?_)
      ·
        simp only [Bool.and_eq_true, Bool.or_eq_true, Bool.not_eq_true', Bool.or_eq_false_iff, Bool.and_eq_false_iff, decide_eq_true_eq, decide_eq_false_iff_not, beq_iff_eq, bne_iff_ne, Bool.not_eq_false', beq_eq_false_iff_ne, bne_eq_false_iff_eq, ne_eq, Decidable.not_not, Int.not_lt, Int.not_le] at h
        refine c_seq ?_
        refine c_region ?_
        refine o_yield rfl rfl rfl (y_val tok rfl) ?_
        refine o_end [6] rfl ?_
        refine x_then ?_
        refine c_ret ?_
        refine x_block_ret ?_
        refine x_then_ret ?_
        refine b_ret tok rfl ?_
        rw [wrapI (by omega) (by omega)] at h
        intro E w' hm _
        refine ⟨?_, hm.below (Vw.le.refl _)⟩
        rw [fitsV, if_neg hpre, if_neg (by omega), if_pos h]; rfl
      ·
        simp only [Bool.and_eq_true, Bool.or_eq_true, Bool.not_eq_true', Bool.or_eq_false_iff, Bool.and_eq_false_iff, decide_eq_true_eq, decide_eq_false_iff_not, beq_iff_eq, bne_iff_ne, Bool.not_eq_false', beq_eq_false_iff_ne, bne_eq_false_iff_eq, ne_eq, Decidable.not_not, Int.not_lt, Int.not_le] at h
        refine c_skip ?_
        refine x_block ?_
        refine x_then ?_
        refine c_seq ?_
        refine c_region ?_
        refine o_yield rfl rfl rfl (y_val tok rfl) ?_
        refine o_end [6] rfl ?_
        refine x_then ?_
        refine c_ret ?_
        refine b_ret tok rfl ?_
        rw [wrapI (by omega) (by omega)] at h
        intro E w' hm _
        refine ⟨?_, hm.below (Vw.le.refl _)⟩
        rw [fitsV, if_neg hpre, if_neg (by omega), if_neg (by omega)]; rfl

/-- Blocks behind a number. -/
def mayF (g : Geo) : Int → List Block → Bool
  | _, [] => true
  | last, x :: r => decide (last < x.n ∧ x.n < g.blocks ∧ (x.text.size : Int) ≤ g.per * 256) && mayF g x.n r

def mayL (g : Geo) (l : List Block) : Bool := geoB g && mayF g (-1) l

theorem mayF_cons {g : Geo} {last : Int} {x : Block} {r : List Block} : mayF g last (x :: r) = true ↔ (last < x.n ∧ x.n < g.blocks ∧ (x.text.size : Int) ≤ g.per * 256) ∧ mayF g x.n r = true := by
  simp [mayF]

theorem lastN_succ {l : List Block} {i : Nat} {x : Block} (h : l[i]? = some x) : lastN l (i + 1) = x.n := by rw [lastN, blkAt_eq h]

theorem refBMay_c (V : Vw) (g : Geo) (ok : g.Ok) (sv : Value) (l : List Block) (w : World) (hV : V.le (vw w)) (hs0 : SlOf V Block.cells 2 sv l) (hn : l.length ≤ maxLen) :
    Calls Try.prog 32 #[g.val, sv] w fun e w' => e = .returned (.bool (mayL g l)) ∧ Below w.heap.size w w' := by
  have hs := hs0.mono hV
  simp only [maxLen] at hn
  refine enter (E := E0) (O := []) (nl := 0) (V := vw w) [.a (.v g.val), .a (.v sv)] Try.func32 rfl rfl (mem0 E0 0 w) rfl rfl ?_
  refine c_seq ?_
  refine c_region ?_
  refine o_new tok rfl rfl rfl rfl ?_
  refine o_yield rfl rfl rfl (y_val tok rfl) ?_
  refine o_end [1, 2] rfl ?_
  refine x_then ?_
  refine c_seq ?_
  refine c_seq ?_
  refine c_region ?_
  refine o_yield rfl rfl rfl (y_val tok rfl) ?_
  refine o_call (.a (.v _)) rfl rfl fnok14 rfl rfl rfl (fun hg E w1 hm => by exact refMay_c g ok _) ?_
  refine o_yield rfl rfl rfl (y_val tok rfl) ?_
  refine o_end [1, 2, 8] rfl ?_
  refine x_then ?_
  refine c_cond rfl (fun h => ?_) (fun h => ?_)
  ·
    simp only [Bool.and_eq_true, Bool.or_eq_true, Bool.not_eq_true', Bool.or_eq_false_iff, Bool.and_eq_false_iff, decide_eq_true_eq, decide_eq_false_iff_not, beq_iff_eq, bne_iff_ne, Bool.not_eq_false', beq_eq_false_iff_ne, bne_eq_false_iff_eq, ne_eq, Decidable.not_not, Int.not_lt, Int.not_le] at h
    refine c_seq ?_
    refine c_region ?_
    refine o_yield rfl rfl rfl (y_val tok rfl) ?_
    refine o_end [4] rfl ?_
    refine x_then ?_
    refine c_ret ?_
    refine x_then_ret ?_
    refine b_ret tok rfl ?_
    intro E w' hm _
    refine ⟨?_, hm.below (Vw.le.refl _)⟩
    rw [mayL, h]; rfl
  ·
    simp only [Bool.and_eq_true, Bool.or_eq_true, Bool.not_eq_true', Bool.or_eq_false_iff, Bool.and_eq_false_iff, decide_eq_true_eq, decide_eq_false_iff_not, beq_iff_eq, bne_iff_ne, Bool.not_eq_false', beq_eq_false_iff_ne, bne_eq_false_iff_eq, ne_eq, Decidable.not_not, Int.not_lt, Int.not_le] at h
    have hgg := h
    have hf := geo_facts hgg
    clear h
    have hmL : mayL g l = mayF g (-1) l := by rw [mayL, hgg, Bool.true_and]
    refine c_skip ?_
    refine x_then ?_
    refine c_seq ?_
    refine c_seq ?_
    refine c_region ?_
    refine o_yield rfl rfl rfl (y_val tok rfl) ?_
    refine o_end [1, 2, 5] rfl ?_
    refine x_then ?_
    refine c_block ?_
    refine c_loopK [1, 2] [] rfl rfl (σ := Nat) (fun i => [(5, .a (.v (I i)))]) (fun i => []) (fun i => i ≤ l.length ∧ mayF g (-1) l = mayF g (lastN l i) (l.drop i) ∧ -1 ≤ lastN l i) (fun i => l.length - i) (0) (⟨by omega, rfl, by simp [lastN]⟩) (by repeat (first | exact SubF.nil | refine SubF.cons rfl ?_)) (by repeat (first | exact SubO.nil | refine SubO.cons rfl ?_)) rfl ?_
    rintro i ⟨hi, heq, hlast⟩
    have hlc : (i = 0 ∧ lastN l i = -1) ∨ (0 < i ∧ lastN l i = (blkAt l (i - 1)).n) := by
      cases i with
      | zero => exact .inl ⟨rfl, rfl⟩
      | succ j => exact .inr ⟨by omega, rfl⟩
    refine c_seq ?_
    refine c_seq ?_
    refine c_region ?_
    refine o_yield rfl rfl rfl (y_val tok rfl) ?_
    refine o_yield rfl rfl rfl (y_val tok rfl) ?_
    refine o_yield rfl rfl rfl (y_len tok rfl (fun hg => hs.sl)) ?_
    refine o_yield rfl rfl rfl (y_val tok rfl) ?_
    refine o_end [1, 2, 5, 12] rfl ?_
    refine x_then ?_
    refine c_cond rfl (fun h => ?_) (fun h => ?_)
    ·
      simp only [Bool.and_eq_true, Bool.or_eq_true, Bool.not_eq_true', Bool.or_eq_false_iff, Bool.and_eq_false_iff, decide_eq_true_eq, decide_eq_false_iff_not, beq_iff_eq, bne_iff_ne, Bool.not_eq_false', beq_eq_false_iff_ne, bne_eq_false_iff_eq, ne_eq, Decidable.not_not, Int.not_lt, Int.not_le] at h
      refine c_skip ?_
      refine x_then ?_
      refine c_seq ?_
      refine c_block ?_
      refine c_seq ?_
      refine c_draw mixed (by kernel_rfl) ?_
      refine d_yield rfl rfl rfl (y_val tok rfl) rfl ?_
      refine d_yield rfl rfl rfl (y_val tok rfl) rfl ?_
      obtain ⟨x, h_x⟩ := hs.at (k := i) (by omega)
      rw [drop_at h_x] at heq
      have hlt_x := lt_of_at h_x
      refine d_yield rfl rfl rfl (y_idx tok rfl (fun hg => hs.sl) (fun hg => ⟨by omega, by omega⟩)) rfl ?_
      refine d_yield rfl rfl rfl (y_fel tok rfl (fun hg => hs.sl) (fun hg => by omega)) rfl ?_
      refine d_yield rfl rfl rfl (y_lel tok (i) 0 (x) rfl (fun hg => hs) (fun hg => h_x) rfl rfl) rfl ?_
      refine d_yield rfl rfl rfl (y_val tok rfl) rfl ?_
      refine d_yield rfl rfl rfl (y_val tok rfl) rfl ?_
      refine d_yield rfl rfl rfl (y_val tok rfl) rfl ?_
      refine d_yield rfl rfl rfl (y_val tok rfl) rfl ?_
      have hlt_x := lt_of_at h_x
      refine d_yield rfl rfl rfl (y_idx tok rfl (fun hg => hs.sl) (fun hg => ⟨by omega, by omega⟩)) rfl ?_
      refine d_yield rfl rfl rfl (y_fel tok rfl (fun hg => hs.sl) (fun hg => by omega)) rfl ?_
      refine d_yield rfl rfl rfl (y_lel tok (i) 0 (x) rfl (fun hg => hs) (fun hg => h_x) rfl rfl) rfl ?_
      refine d_yield rfl rfl rfl (y_val tok rfl) rfl ?_
      refine d_yield rfl rfl rfl (y_val tok rfl) rfl ?_
      refine d_yield rfl rfl rfl (y_val tok rfl) rfl ?_
      refine d_yield rfl rfl rfl (y_val tok rfl) rfl ?_
      refine d_yield rfl rfl rfl (y_val tok rfl) rfl ?_
      refine d_yield rfl rfl rfl (y_val tok rfl) rfl ?_
      refine d_yield rfl rfl rfl (y_val tok rfl) rfl ?_
      refine d_yield rfl rfl rfl (y_val tok rfl) rfl ?_
      refine d_yield rfl rfl rfl (y_val tok rfl) rfl ?_
      refine d_yield rfl rfl rfl (y_val tok rfl) rfl ?_
      have hlt_x := lt_of_at h_x
      refine d_yield rfl rfl rfl (y_idx tok rfl (fun hg => hs.sl) (fun hg => ⟨by omega, by omega⟩)) rfl ?_
      refine d_yield rfl rfl rfl (y_fel tok rfl (fun hg => hs.sl) (fun hg => by omega)) rfl ?_
      refine d_yield rfl rfl rfl (y_lel tok (i) 0 (x) rfl (fun hg => hs) (fun hg => h_x) rfl rfl) rfl ?_
      refine d_yield rfl rfl rfl (y_val tok rfl) rfl ?_
      refine d_yield rfl rfl rfl (y_val tok rfl) rfl ?_
      refine d_yield rfl rfl rfl (y_val tok rfl) rfl ?_
      refine d_yield rfl rfl rfl (y_idxK tok ((i - 1) * 2) rfl (by rw [wrapI (by omega) (by omega)]; dsimp only; omega) (fun hg => hs.sl) (fun hg => by simp at hg; rw [wrapI (by omega) (by omega)]; omega)) rfl ?_
      refine d_yield rfl rfl rfl (y_fel tok rfl (fun hg => hs.sl) (fun hg => by omega)) rfl ?_
      refine d_yield rfl rfl rfl (y_lel tok (i - 1) 0 (blkAt l (i - 1)) rfl (fun hg => hs) (fun hg => by rw [blkAt, List.getD, List.getElem?_eq_getElem (by omega)]; rfl) rfl rfl) rfl ?_
      refine d_yield rfl rfl rfl (y_val tok rfl) rfl ?_
      refine d_yield rfl rfl rfl (y_val tok rfl) rfl ?_
      refine d_yield rfl rfl rfl (y_val tok rfl) rfl ?_
      refine d_yield rfl rfl rfl (y_val tok rfl) rfl ?_
      refine d_yield rfl rfl rfl (y_val tok rfl) rfl ?_
      refine d_yield rfl rfl rfl (y_val tok rfl) rfl ?_
      have hwp : IntKind.i64.wrap (g.per * 256) = g.per * 256 := wrapI (by omega) (by omega)
      have hlt_x := lt_of_at h_x
      refine d_yield rfl rfl rfl (y_idx tok rfl (fun hg => hs.sl) (fun hg => ⟨by omega, by omega⟩)) rfl ?_
      refine d_yield rfl rfl rfl (y_fel tok rfl (fun hg => hs.sl) (fun hg => by omega)) rfl ?_
      refine d_yield rfl rfl rfl (y_lel tok (i) 1 (x) rfl (fun hg => hs) (fun hg => h_x) rfl rfl) rfl ?_
      refine d_yield rfl rfl rfl (y_val tok rfl) rfl ?_
      refine d_yield rfl rfl rfl (y_val tok rfl) rfl ?_
      refine d_yield rfl rfl rfl (y_val tok rfl) rfl ?_
      refine d_yield rfl rfl rfl (y_val tok rfl) rfl ?_
      refine d_yield rfl rfl rfl (y_val tok rfl) rfl ?_
      refine d_yield rfl rfl rfl (y_val tok rfl) rfl ?_
      refine d_end [1, 2, 5, 60] rfl ?_
      refine x_then ?_
      refine c_cond rfl (fun h => ?_) (fun h => ?_)
      ·
        simp only [Bool.and_eq_true, Bool.or_eq_true, Bool.not_eq_true', Bool.or_eq_false_iff, Bool.and_eq_false_iff, decide_eq_true_eq, decide_eq_false_iff_not, beq_iff_eq, bne_iff_ne, Bool.not_eq_false', beq_eq_false_iff_ne, bne_eq_false_iff_eq, ne_eq, Decidable.not_not, Int.not_lt, Int.not_le] at h
        refine c_seq ?_
        refine c_region ?_
        refine o_yield rfl rfl rfl (y_val tok rfl) ?_
        refine o_end [4] rfl ?_
        refine x_then ?_
        refine c_ret ?_
        refine x_block_ret ?_
        refine x_then_ret ?_
        refine x_then_ret ?_
        refine x_block_ret ?_
        refine x_then_ret ?_
        refine b_ret tok rfl ?_
        have hno : mayF g (lastN l i) (x :: l.drop (i + 1)) = false := by
          rw [Bool.eq_false_iff]
          intro hc
          obtain ⟨⟨h1, h2, h3⟩, _⟩ := mayF_cons.1 hc
          omega
        intro E w' hm _
        refine ⟨?_, hm.below (Vw.le.refl _)⟩
        rw [hmL, heq, hno]; rfl
      ·
        simp only [Bool.and_eq_true, Bool.or_eq_true, Bool.not_eq_true', Bool.or_eq_false_iff, Bool.and_eq_false_iff, decide_eq_true_eq, decide_eq_false_iff_not, beq_iff_eq, bne_iff_ne, Bool.not_eq_false', beq_eq_false_iff_ne, bne_eq_false_iff_eq, ne_eq, Decidable.not_not, Int.not_lt, Int.not_le] at h
        refine c_skip ?_
        refine x_block ?_
        refine x_then ?_
        refine c_region ?_
        refine o_yield rfl rfl rfl (y_val tok rfl) ?_
        refine o_yield rfl rfl rfl (y_val tok rfl) ?_
        refine o_yield rfl rfl rfl (y_val tok rfl) ?_
        refine o_end [1, 2, 5] rfl ?_
        refine x_then ?_
        have hyes : mayF g (lastN l i) (x :: l.drop (i + 1)) = mayF g x.n (l.drop (i + 1)) := by
          rw [mayF, decide_eq_true (by omega), Bool.true_and]
        rw [wrapI (n := (i : Int) + 1) (by omega) (by omega)]
        refine x_round (i + 1) (⟨by omega, by rw [heq, hyes, lastN_succ h_x], by rw [lastN_succ h_x]; omega⟩) (by first | omega | (dsimp only; omega)) (by repeat (first | exact SubF.nil | refine SubF.cons rfl ?_)) (by repeat (first | exact SubO.nil | refine SubO.cons rfl ?_)) rfl (Vw.le.refl _)
    ·
      simp only [Bool.and_eq_true, Bool.or_eq_true, Bool.not_eq_true', Bool.or_eq_false_iff, Bool.and_eq_false_iff, decide_eq_true_eq, decide_eq_false_iff_not, beq_iff_eq, bne_iff_ne, Bool.not_eq_false', beq_eq_false_iff_ne, bne_eq_false_iff_eq, ne_eq, Decidable.not_not, Int.not_lt, Int.not_le] at h
      refine c_exit ?_
      refine x_then_exit ?_
      refine x_then_exit ?_
      refine x_block_hit ?_
      refine x_then ?_
      refine c_seq ?_
      refine c_region ?_
      refine o_yield rfl rfl rfl (y_val tok rfl) ?_
      refine o_end [4] rfl ?_
      refine x_then ?_
      refine c_ret ?_
      refine b_ret tok rfl ?_
      have hkL : i = l.length := by omega
      subst hkL
      rw [List.drop_length, mayF] at heq
      intro E w' hm _
      refine ⟨?_, hm.below (Vw.le.refl _)⟩
      rw [hmL, heq]; rfl

theorem mayF_at {g : Geo} : ∀ {l : List Block} {last : Int}, mayF g last l = true → ∀ i b, l[i]? = some b → (if i = 0 then last else (blkAt l (i - 1)).n) < b.n ∧ b.n < g.blocks ∧ (b.text.size : Int) ≤ g.per * 256 ∧ last < b.n ∧ last + i < b.n
  | [], _, _, i, b, hb => by simp at hb
  | x :: r, last, h, 0, b, hb => by
    obtain ⟨⟨h1, h2, h3⟩, _⟩ := mayF_cons.1 h
    simp at hb
    subst hb
    exact ⟨by simpa using h1, h2, h3, h1, by omega⟩
  | x :: r, last, h, i + 1, b, hb => by
    obtain ⟨⟨h1, h2, h3⟩, h4⟩ := mayF_cons.1 h
    simp only [List.getElem?_cons_succ] at hb
    obtain ⟨k1, k2, k3, k4, k5⟩ := mayF_at h4 i b hb
    refine ⟨?_, k2, k3, by omega, by omega⟩
    rw [if_neg (by omega), show i + 1 - 1 = i by omega]
    cases i with
    | zero => simpa [blkAt] using k1
    | succ j =>
      rw [if_neg (by omega), show j + 1 - 1 = j by omega] at k1
      simpa [blkAt, List.getD] using k1

theorem mayL_len {g : Geo} {l : List Block} (h : mayL g l = true) : (l.length : Int) ≤ g.blocks := by
  rw [mayL, Bool.and_eq_true] at h
  have hf := geo_facts h.1
  cases hl : l.length with
  | zero => omega
  | succ k =>
    obtain ⟨b, hb⟩ : ∃ b, l[k]? = some b := ⟨l[k]'(by omega), by simp [hl]⟩
    obtain ⟨_, h2, _, _, h5⟩ := mayF_at h.2 k b hb
    omega

theorem of_ok {g : Geo} {key lsn : Int} {l : List Block} (hm : mayL g l = true) (hne : l ≠ []) (hk : keyB key = true) (h0 : 0 ≤ lsn) (h1 : lsn + (l.length * g.per.toNat : Nat) ≤ 1099511627776) (h2 : l.length * g.per.toNat < 64) : OfOk g key lsn l := by
  have hlen := mayL_len hm
  rw [mayL, Bool.and_eq_true] at hm
  have hf := geo_facts hm.1
  have hat := mayF_at hm.2
  refine ⟨hm.1, hne, hlen, ?_, fun i b hb => ?_, fun j hj => ?_, ?_⟩
  · simp only [belowB, Bool.and_eq_true, decide_eq_true_eq]; omega
  · obtain ⟨k1, k2, k3, _, _⟩ := hat i b hb
    refine ⟨?_, k2, k3⟩
    cases i with
    | zero => simpa [lastN] using k1
    | succ j => simpa [lastN] using k1
  · have hp : 0 < g.per.toNat := by omega
    have hd : j / g.per.toNat < l.length := (Nat.div_lt_iff_lt_mul hp).2 hj
    have hmod := Nat.mod_lt j hp
    obtain ⟨b, hb⟩ : ∃ b, l[j / g.per.toNat]? = some b := ⟨l[j / g.per.toNat], by simp [hd]⟩
    obtain ⟨_, k2, _, k4, _⟩ := hat _ b hb
    have hh := head_size (restAt b.text (j % g.per.toNat))
    simp only [recAt, blkAt_eq hb, recB, hk, Bool.true_and, belowB, if_neg (show ¬ (0 : Int) < 0 by omega), Bool.and_eq_true, decide_eq_true_eq]
    omega
  · have hp : 0 < l.length * g.per.toNat := Nat.mul_pos (List.length_pos_iff.2 hne) (by omega)
    obtain ⟨m, hmm⟩ : ∃ m, l.length * g.per.toNat = m := ⟨_, rfl⟩
    rw [hmm] at hp h1 h2 ⊢
    have e : recB (commitOf key lsn m) = (keyB key && belowB (lsn + m) 1099511627777 && belowB m 64 && (if 0 < (m : Int) then decide ((0 : Int) = 0) && decide ((0 : Int) = 0) && (ByteArray.empty.size == 0) else belowB 0 64 && belowB 0 8 && decide ((ByteArray.empty.size : Int) ≤ 256))) := rfl
    rw [e, hk, if_pos (by omega), belowB, belowB, decide_eq_true (show 0 ≤ lsn + (m : Int) by omega), decide_eq_true (show lsn + (m : Int) < 1099511627777 by omega), decide_eq_true (show (0 : Int) ≤ (m : Int) by omega), decide_eq_true (show (m : Int) < 64 by omega)]
    rfl
end Go.Proofs.Ytflimioplnbopaa

/- A transaction that is committed: the program's. -/
set_option linter.unusedVariables false
set_option linter.unusedSimpArgs false
set_option maxRecDepth 100000
namespace Go.Proofs.Ytflimioplnbopaa
open Go Go.Eng Go.RowKit

/-- What the device is asked. -/
structure ActV where
  kind : Int
  sector : Int
  b : ByteArray
  key : Int
abbrev ActV.val (a : ActV) : Value := .agg #[I8 a.kind, I a.sector, S a.b, I a.key]
abbrev act0 : ActV := ⟨0, 0, ByteArray.empty, 0⟩

abbrev putV (v : Value) (i : Int) : Value := .agg #[v, I i]

theorem fits_low {g : Geo} {used n : Int} (h : fitsV g used n = 0) : geoB g = true ∧ 0 ≤ used ∧ used ≤ g.journal ∧ 0 ≤ n ∧ manyOf g n + used ≤ g.journal := by
  unfold fitsV at h
  split at h
  · omega
  · rename_i h1
    split at h
    · omega
    · split at h
      · omega
      · cases hg : geoB g with
        | false => simp [hg] at h1
        | true => simp [hg] at h1; exact ⟨rfl, by omega, by omega, by omega, by omega⟩

/-- record.Of: its rows, or none. -/
def OfRes (g : Geo) (key lsn : Int) (l : List Block) (x : List Record × Int) : Prop := (OfOk g key lsn l ∧ x.1 = allRecs g key lsn l ∧ x.2 = 0) ∨ (¬ OfOk g key lsn l ∧ x.1 = [] ∧ x.2 = 2)

section
variable {o : Oper} {n : Nat} {F : Frame0} {C : List Nat} {O : Own} {nl : Nat} {V : Vw}
theorem s_of {p : List (Nat × Bool)} (g : Geo) (ok : g.Ok) (key lsn : Int) (l : List Block) {ss : List SV} (hv : evalC F p o.op = some (95, ss)) (hn : l.length ≤ lim)
    (hargs : ∀ E w, Mem E O nl V w → ∃ sv, ss.map (SV.den E) = [g.val, I key, I lsn, sv] ∧ SlOf (vw w) Block.cells 2 sv l) :
    StepTo Try.prog o p n F C O nl V (σ := List Record × Int) (OfRes g key lsn l) (fun x => .tup [.row nl, .v (I x.2)]) (fun x => (nl, .row 99 6 x.1.length (x.1.flatMap Record.cells)) :: O) (nl + 1) (fun _ => V) := by
  refine s_callR (OfRes g key lsn l) (fun x => .tup [.row nl, .v (I x.2)]) 99 6 (fun x => x.1.length) (fun x => x.1.flatMap Record.cells) hv fnok95 (fun _ => by simp [SV.ok, allOk, A.ok, blt_iff]) ?_
  intro E w hm
  obtain ⟨sv, ha, hsl⟩ := hargs E w hm
  rw [ha]
  refine (of_c (vw w) g ok key lsn sv l w (Vw.le.refl _) hsl hn).mono ?_
  rintro e w' ⟨⟨h1, v, rfl, hown⟩ | ⟨h1, rfl⟩, hb⟩
  · exact ⟨(allRecs g key lsn l, 0), v, by simp [SV.den, A.den, Env.setκ], hown, hb, .inl ⟨h1, rfl, rfl⟩⟩
  · exact ⟨([], 2), .slice none 0 0, by simp [SV.den, A.den, Env.setκ], World.ownsRow_nil w' w.heap.size _ _, hb, .inr ⟨h1, rfl, rfl⟩⟩
end

/-- What beginning to commit comes to. -/
def BegRes (g : Geo) (key head tail : Int) (l : List Block) (L : List Record) (e : Int) : Prop :=
  (fitsV g (IntKind.i64.wrap (head - tail)) l.length ≠ 0 ∧ L = [] ∧ e = fitsV g (IntKind.i64.wrap (head - tail)) l.length) ∨
  (fitsV g (IntKind.i64.wrap (head - tail)) l.length = 0 ∧ OfRes g key head l (L, e))

theorem cbegin_R (V : Vw) (g : Geo) (ok : g.Ok) (key head tail : Int) (sv : Value) (l : List Block) (w : World) (hV : V.le (vw w)) (hs0 : SlOf V Block.cells 2 sv l) (hn : l.length ≤ lim) :
    Calls Try.prog 21 #[g.val, I key, I head, I tail, sv] w fun e w' => ∃ v L ec, e = .returned (.tuple #[putV v 0, I ec]) ∧ w'.ownsRow w.heap.size 99 6 v L.length (L.flatMap Record.cells) ∧ Below w.heap.size w w' ∧ BegRes g key head tail l L ec := by
  have hs := hs0.mono hV
  refine enter (E := E0) (O := []) (nl := 0) (V := vw w) [.a (.v g.val), .a (.v (I key)), .a (.v (I head)), .a (.v (I tail)), .a (.v sv)] Try.func21 rfl rfl (mem0 E0 0 w) rfl rfl ?_
  refine c_seq ?_
  refine c_region ?_
  refine o_new tok rfl rfl rfl rfl ?_
  refine o_new tok rfl rfl rfl rfl ?_
  refine o_yield rfl rfl rfl (y_val tok rfl) ?_
  refine o_end [1, 2, 3, 4, 5, 10] rfl ?_
  refine x_then ?_
  refine c_seq ?_
  refine c_seq ?_
  refine c_region ?_
  refine o_yield rfl rfl rfl (y_val tok rfl) ?_
  refine o_yield rfl rfl rfl (y_val tok rfl) ?_
  refine o_yield rfl rfl rfl (y_val tok rfl) ?_
  refine o_yield rfl rfl rfl (y_val tok rfl) ?_
  refine o_yield rfl rfl rfl (y_val tok rfl) ?_
  refine o_yield rfl rfl rfl (y_len tok rfl (fun hg => hs.sl)) ?_
  refine o_call (.a (.v _)) rfl rfl fnok94 rfl rfl rfl (fun hg E w1 hm => by exact fits_c g ok _ _ _) ?_
  refine o_yield rfl rfl rfl (y_val tok rfl) ?_
  refine o_end [1, 2, 4, 5, 10, 12] rfl ?_
  refine x_then ?_
  refine c_seq ?_
  refine c_region ?_
  refine o_yield rfl rfl rfl (y_val tok rfl) ?_
  refine o_yield rfl rfl rfl (y_val tok rfl) ?_
  refine o_end [1, 2, 4, 5, 10, 12, 23] rfl ?_
  refine x_then ?_
  refine c_cond rfl (fun h => ?_) (fun h => ?_)
  ·
    simp only [Bool.and_eq_true, Bool.or_eq_true, Bool.not_eq_true', Bool.or_eq_false_iff, Bool.and_eq_false_iff, decide_eq_true_eq, decide_eq_false_iff_not, beq_iff_eq, bne_iff_ne, Bool.not_eq_false', beq_eq_false_iff_ne, bne_eq_false_iff_eq, ne_eq, Decidable.not_not, Int.not_lt, Int.not_le] at h
    refine c_seq ?_
    refine c_region ?_
    refine o_yield rfl rfl rfl (y_val tok rfl) ?_
    refine o_yield rfl rfl rfl (y_val tok rfl) ?_
    refine o_store tok rfl rfl rfl (by first | exact ⟨trivial, trivial⟩ | (repeat' first | exact trivial | exact rfl | apply And.intro); done | simp [onesP, oneP, lk, Value.oneCell']) ?_
    refine o_yield rfl rfl rfl (y_val tok rfl) ?_
    refine o_end [10, 11] rfl ?_
    refine x_then ?_
    refine c_ret ?_
    refine x_then_ret ?_
    refine b_ret tok rfl ?_
    intro E w' hm _
    exact ⟨_, [], _, rfl, World.ownsRow_nil w' w.heap.size _ _, hm.below (Vw.le.refl _), .inl ⟨h, rfl, rfl⟩⟩
  ·
    simp only [Bool.and_eq_true, Bool.or_eq_true, Bool.not_eq_true', Bool.or_eq_false_iff, Bool.and_eq_false_iff, decide_eq_true_eq, decide_eq_false_iff_not, beq_iff_eq, bne_iff_ne, Bool.not_eq_false', beq_eq_false_iff_ne, bne_eq_false_iff_eq, ne_eq, Decidable.not_not, Int.not_lt, Int.not_le] at h
    have h0 := h
    clear h
    refine c_skip ?_
    refine x_then ?_
    refine c_seq ?_
    refine c_region ?_
    refine o_yield rfl rfl rfl (y_val tok rfl) ?_
    refine o_yield rfl rfl rfl (y_val tok rfl) ?_
    refine o_yield rfl rfl rfl (y_val tok rfl) ?_
    refine o_yield rfl rfl rfl (y_val tok rfl) ?_
    refine o_step rfl rfl rfl rfl rfl (s_of g ok key head l rfl hn (fun E w1 hm => ⟨sv, rfl, hs.mono hm.leV⟩)) (fun x hx => ?_)
    obtain ⟨L, ec⟩ := x
    refine o_yield rfl rfl rfl (y_val tok rfl) ?_
    refine o_yield rfl rfl rfl (y_val tok rfl) ?_
    refine o_yield rfl rfl rfl (y_val tok rfl) ?_
    refine o_yield rfl rfl rfl (y_val tok rfl) ?_
    refine o_yield rfl rfl rfl (y_val tok rfl) ?_
    refine o_end [10, 13, 14] rfl ?_
    refine x_then ?_
    refine c_seq ?_
    refine c_seq ?_
    refine c_region ?_
    refine o_yield rfl rfl rfl (y_val tok rfl) ?_
    refine o_yield rfl rfl rfl (y_val tok rfl) ?_
    refine o_end [10, 13, 14, 35] rfl ?_
    refine x_then ?_
    refine c_cond rfl (fun h => ?_) (fun h => ?_)
    ·
      simp only [Bool.and_eq_true, Bool.or_eq_true, Bool.not_eq_true', Bool.or_eq_false_iff, Bool.and_eq_false_iff, decide_eq_true_eq, decide_eq_false_iff_not, beq_iff_eq, bne_iff_ne, Bool.not_eq_false', beq_eq_false_iff_ne, bne_eq_false_iff_eq, ne_eq, Decidable.not_not, Int.not_lt, Int.not_le] at h
      refine c_seq ?_
      refine c_region ?_
      refine o_yield rfl rfl rfl (y_val tok rfl) ?_
      refine o_yield rfl rfl rfl (y_val tok rfl) ?_
      refine o_store tok rfl rfl rfl (by first | exact ⟨trivial, trivial⟩ | (repeat' first | exact trivial | exact rfl | apply And.intro); done | simp [onesP, oneP, lk, Value.oneCell']) ?_
      refine o_yield rfl rfl rfl (y_val tok rfl) ?_
      refine o_end [10, 11] rfl ?_
      refine x_then ?_
      refine c_ret ?_
      refine x_then_ret ?_
      refine b_ret tok rfl ?_
      rcases hx with ⟨_, _, h2⟩ | ⟨h1, h2, h3⟩
      · exact absurd h2 h
      · simp only at h2 h3
        subst h2 h3
        intro E w' hm _
        exact ⟨_, [], 2, rfl, World.ownsRow_nil w' w.heap.size _ _, hm.below (Vw.le.refl _), .inr ⟨h0, .inr ⟨h1, rfl, rfl⟩⟩⟩
    ·
      simp only [Bool.and_eq_true, Bool.or_eq_true, Bool.not_eq_true', Bool.or_eq_false_iff, Bool.and_eq_false_iff, decide_eq_true_eq, decide_eq_false_iff_not, beq_iff_eq, bne_iff_ne, Bool.not_eq_false', beq_eq_false_iff_ne, bne_eq_false_iff_eq, ne_eq, Decidable.not_not, Int.not_lt, Int.not_le] at h
      refine c_skip ?_
      refine x_then ?_
      refine c_seq ?_
      refine c_region ?_
      refine o_yield rfl rfl rfl (y_val tok rfl) ?_
      refine o_yield rfl rfl rfl (y_val tok rfl) ?_
      refine o_store tok rfl rfl rfl (by first | exact ⟨trivial, trivial⟩ | (repeat' first | exact trivial | exact rfl | apply And.intro); done | simp [onesP, oneP, lk, Value.oneCell']) ?_
      refine o_yield rfl rfl rfl (y_val tok rfl) ?_
      refine o_end [10, 11] rfl ?_
      refine x_then ?_
      refine c_ret ?_
      refine b_ret tok rfl ?_
      intro E w' hm _
      refine ⟨E.κ 2, L, 0, rfl, hm.rowFresh (Vw.le.refl _) (l := 2) rfl, hm.below (Vw.le.refl _), .inr ⟨h0, ?_⟩⟩
      subst h
      exact hx

theorem cbegin_cV (V : Vw) (g : Geo) (ok : g.Ok) (key head tail : Int) (sv : Value) (l : List Block) (w : World) (hV : V.le (vw w)) (hs : SlOf V Block.cells 2 sv l) (hn : l.length ≤ lim) :
    Calls Try.prog 21 #[g.val, I key, I head, I tail, sv] w fun e w' => ∃ x V', e = .returned x ∧ Below w.heap.size w w' ∧ Vext w.heap.size V V' w' ∧
      ∃ a n c L ec, x = .tuple #[putV (.slice a n c) 0, I ec] ∧ SlOf V' Record.cells 6 (.slice a n c) L ∧ BegRes g key head tail l L ec := by
  refine (cbegin_R V g ok key head tail sv l w hV hs hn).mono ?_
  rintro e w' ⟨v, L, ec, rfl, hown, hb, hr⟩
  obtain ⟨V', hx, hsl⟩ := ownsRow_vext hV hb hown
  obtain ⟨a, n, c, rfl⟩ := sl_shape hsl
  exact ⟨_, V', rfl, hb, hx, a, n, c, L, ec, rfl, ⟨hsl, fun _ => rfl⟩, hr⟩


theorem over_c (V : Vw) (v : Value) (L : List Record) (i : Int) (w : World) (hV : V.le (vw w)) (hs0 : SlOf V Record.cells 6 v L) :
    Calls Try.prog 26 #[putV v i] w fun e w' => e = .returned (.bool (decide ((L.length : Int) ≤ i))) ∧ Below w.heap.size w w' := by
  obtain ⟨a, n, c, rfl⟩ := sl_shape hs0.sl
  have hs := hs0.mono hV
  refine enter (E := E0) (O := []) (nl := 0) (V := vw w) [.a (.v (putV (.slice a n c) i))] Try.func26 rfl rfl (mem0 E0 0 w) rfl rfl ?_
  refine c_seq ?_
  refine c_region ?_
  refine o_new tok rfl rfl rfl rfl ?_
  refine o_yield rfl rfl rfl (y_val tok rfl) ?_
  refine o_end [1] rfl ?_
  refine x_then ?_
  refine c_seq ?_
  refine c_region ?_
  refine o_yield rfl rfl rfl (y_val tok rfl) ?_
  refine o_yield rfl rfl rfl (y_val tok rfl) ?_
  refine o_yield rfl rfl rfl (y_val tok rfl) ?_
  refine o_yield rfl rfl rfl (y_val tok rfl) ?_
  refine o_yield rfl rfl rfl (y_len tok rfl (fun hg => hs.sl)) ?_
  refine o_yield rfl rfl rfl (y_val tok rfl) ?_
  refine o_yield rfl rfl rfl (y_val tok rfl) ?_
  refine o_end [2] rfl ?_
  refine x_then ?_
  refine c_ret ?_
  refine b_ret tok rfl ?_
  intro E w' hm _
  refine ⟨?_, hm.below (Vw.le.refl _)⟩
  rfl

def leftV (n i : Int) : Int := max 0 (n - max i 0)

theorem leftIn_c (V : Vw) (v : Value) (L : List Record) (i : Int) (hi : R64 i) (w : World) (hV : V.le (vw w)) (hs0 : SlOf V Record.cells 6 v L) (hn : L.length ≤ lim) :
    Calls Try.prog 96 #[putV v i] w fun e w' => e = .returned (I (leftV L.length i)) ∧ Below w.heap.size w w' := by
  obtain ⟨a, n, c, rfl⟩ := sl_shape hs0.sl
  have hs := hs0.mono hV
  simp only [lim] at hn
  unfold R64 at hi
  refine enter (E := E0) (O := []) (nl := 0) (V := vw w) [.a (.v (putV (.slice a n c) i))] Try.func96 rfl rfl (mem0 E0 0 w) rfl rfl ?_
  refine c_seq ?_
  refine c_region ?_
  refine o_new tok rfl rfl rfl rfl ?_
  refine o_yield rfl rfl rfl (y_val tok rfl) ?_
  refine o_end [1] rfl ?_
  refine x_then ?_
  refine c_seq ?_
  refine c_region ?_
  refine o_yield rfl rfl rfl (y_val tok rfl) ?_
  refine o_yield rfl rfl rfl (y_val tok rfl) ?_
  refine o_yield rfl rfl rfl (y_val tok rfl) ?_
  refine o_yield rfl rfl rfl (y_len tok rfl (fun hg => hs.sl)) ?_
  refine o_yield rfl rfl rfl (y_val tok rfl) ?_
  refine o_yield rfl rfl rfl (y_val tok rfl) ?_
  refine o_yield rfl rfl rfl (y_val tok rfl) ?_
  refine o_yield rfl rfl rfl (y_mm rfl) ?_
  refine o_yield rfl rfl rfl (y_val tok rfl) ?_
  refine o_yield rfl rfl rfl (y_mm rfl) ?_
  refine o_yield rfl rfl rfl (y_val tok rfl) ?_
  refine o_end [2] rfl ?_
  refine x_then ?_
  refine c_ret ?_
  refine b_ret tok rfl ?_
  intro E w' hm _
  refine ⟨?_, hm.below (Vw.le.refl _)⟩
  show Ending.returned (I (max 0 (IntKind.i64.wrap ((L.length : Int) - max i 0)))) = _
  rw [wrapI (by omega) (by omega)]; rfl

theorem left_c (V : Vw) (v : Value) (L : List Record) (i : Int) (hi : R64 i) (w : World) (hV : V.le (vw w)) (hs0 : SlOf V Record.cells 6 v L) (hn : L.length ≤ lim) :
    Calls Try.prog 22 #[putV v i] w fun e w' => e = .returned (I (leftV L.length i)) ∧ Below w.heap.size w w' := by
  obtain ⟨a, n, c, rfl⟩ := sl_shape hs0.sl
  have hs := hs0.mono hV
  refine enter (E := E0) (O := []) (nl := 0) (V := vw w) [.a (.v (putV (.slice a n c) i))] Try.func22 rfl rfl (mem0 E0 0 w) rfl rfl ?_
  refine c_seq ?_
  refine c_region ?_
  refine o_new tok rfl rfl rfl rfl ?_
  refine o_yield rfl rfl rfl (y_val tok rfl) ?_
  refine o_end [1] rfl ?_
  refine x_then ?_
  refine c_seq ?_
  refine c_region ?_
  refine o_yield rfl rfl rfl (y_val tok rfl) ?_
  refine o_yield rfl rfl rfl (y_val tok rfl) ?_
  refine o_call (.a (.v _)) rfl rfl fnok96 rfl rfl rfl (fun hg E w1 hm => by exact leftIn_c _ _ L i hi _ hm.leV hs hn) ?_
  refine o_yield rfl rfl rfl (y_val tok rfl) ?_
  refine o_end [2] rfl ?_
  refine x_then ?_
  refine c_ret ?_
  refine b_ret tok rfl ?_
  intro E w' hm _
  refine ⟨?_, hm.below (Vw.le.refl _)⟩
  rfl

theorem chead_c (V : Vw) (v : Value) (L : List Record) (i k : Int) (w : World) (hV : V.le (vw w)) (hs0 : SlOf V Record.cells 6 v L) :
    Calls Try.prog 31 #[putV v i, I k] w fun e w' => e = .returned (I (IntKind.i64.wrap (k + L.length))) ∧ Below w.heap.size w w' := by
  obtain ⟨a, n, c, rfl⟩ := sl_shape hs0.sl
  have hs := hs0.mono hV
  refine enter (E := E0) (O := []) (nl := 0) (V := vw w) [.a (.v (putV (.slice a n c) i)), .a (.v (I k))] Try.func31 rfl rfl (mem0 E0 0 w) rfl rfl ?_
  refine c_seq ?_
  refine c_region ?_
  refine o_new tok rfl rfl rfl rfl ?_
  refine o_yield rfl rfl rfl (y_val tok rfl) ?_
  refine o_end [1, 2] rfl ?_
  refine x_then ?_
  refine c_seq ?_
  refine c_region ?_
  refine o_yield rfl rfl rfl (y_val tok rfl) ?_
  refine o_yield rfl rfl rfl (y_val tok rfl) ?_
  refine o_yield rfl rfl rfl (y_val tok rfl) ?_
  refine o_yield rfl rfl rfl (y_len tok rfl (fun hg => hs.sl)) ?_
  refine o_yield rfl rfl rfl (y_val tok rfl) ?_
  refine o_yield rfl rfl rfl (y_val tok rfl) ?_
  refine o_end [4] rfl ?_
  refine x_then ?_
  refine c_ret ?_
  refine b_ret tok rfl ?_
  intro E w' hm _
  refine ⟨?_, hm.below (Vw.le.refl _)⟩
  rfl

def takeI (n i : Int) : Int := if n ≤ i then i else IntKind.i64.wrap (i + 1)

theorem take_c (V : Vw) (v : Value) (L : List Record) (i : Int) (w : World) (hV : V.le (vw w)) (hs0 : SlOf V Record.cells 6 v L) :
    Calls Try.prog 27 #[putV v i] w fun e w' => e = .returned (putV v (takeI L.length i)) ∧ Below w.heap.size w w' := by
  obtain ⟨a, n, c, rfl⟩ := sl_shape hs0.sl
  have hs := hs0.mono hV
  refine enter (E := E0) (O := []) (nl := 0) (V := vw w) [.a (.v (putV (.slice a n c) i))] Try.func27 rfl rfl (mem0 E0 0 w) rfl rfl ?_
  refine c_seq ?_
  refine c_region ?_
  refine o_new tok rfl rfl rfl rfl ?_
  refine o_new tok rfl rfl rfl rfl ?_
  refine o_end [1, 2] rfl ?_
  refine x_then ?_
  refine c_seq ?_
  refine c_seq ?_
  refine c_region ?_
  refine o_yield rfl rfl rfl (y_val tok rfl) ?_
  refine o_call (.a (.v _)) rfl rfl fnok26 rfl rfl rfl (fun hg E w1 hm => by exact over_c _ _ L i _ hm.leV hs) ?_
  refine o_yield rfl rfl rfl (y_val tok rfl) ?_
  refine o_end [1, 2, 5] rfl ?_
  refine x_then ?_
  refine c_cond rfl (fun h => ?_) (fun h => ?_)
  ·
    simp only [Bool.and_eq_true, Bool.or_eq_true, Bool.not_eq_true', Bool.or_eq_false_iff, Bool.and_eq_false_iff, decide_eq_true_eq, decide_eq_false_iff_not, beq_iff_eq, bne_iff_ne, Bool.not_eq_false', beq_eq_false_iff_ne, bne_eq_false_iff_eq, ne_eq, Decidable.not_not, Int.not_lt, Int.not_le] at h
    refine c_region ?_
    refine o_yield rfl rfl rfl (y_val tok rfl) ?_
    refine o_yield rfl rfl rfl (y_val tok rfl) ?_
    refine o_yield rfl rfl rfl (y_val tok rfl) ?_
    refine o_yield rfl rfl rfl (y_val tok rfl) ?_
    refine o_store tok rfl rfl rfl (by first | exact ⟨trivial, trivial⟩ | (repeat' first | exact trivial | exact rfl | apply And.intro); done | simp [onesP, oneP, lk, Value.oneCell']) ?_
    refine o_end [1, 2] rfl ?_
    refine x_then ?_
    refine c_seq ?_
    refine c_region ?_
    refine o_yield rfl rfl rfl (y_val tok rfl) ?_
    refine o_store tok rfl rfl rfl (by first | exact ⟨trivial, trivial⟩ | (repeat' first | exact trivial | exact rfl | apply And.intro); done | simp [onesP, oneP, lk, Value.oneCell']) ?_
    refine o_end [2] rfl ?_
    refine x_then ?_
    refine c_ret ?_
    refine b_ret tok rfl ?_
    intro E w' hm _
    refine ⟨?_, hm.below (Vw.le.refl _)⟩
    rw [takeI, if_neg (by omega)]; rfl
  ·
    simp only [Bool.and_eq_true, Bool.or_eq_true, Bool.not_eq_true', Bool.or_eq_false_iff, Bool.and_eq_false_iff, decide_eq_true_eq, decide_eq_false_iff_not, beq_iff_eq, bne_iff_ne, Bool.not_eq_false', beq_eq_false_iff_ne, bne_eq_false_iff_eq, ne_eq, Decidable.not_not, Int.not_lt, Int.not_le] at h
    refine c_skip ?_
    refine x_then ?_
    refine c_seq ?_
    refine c_region ?_
    refine o_yield rfl rfl rfl (y_val tok rfl) ?_
    refine o_store tok rfl rfl rfl (by first | exact ⟨trivial, trivial⟩ | (repeat' first | exact trivial | exact rfl | apply And.intro); done | simp [onesP, oneP, lk, Value.oneCell']) ?_
    refine o_end [2] rfl ?_
    refine x_then ?_
    refine c_ret ?_
    refine b_ret tok rfl ?_
    intro E w' hm _
    refine ⟨?_, hm.below (Vw.le.refl _)⟩
    rw [takeI, if_pos (by omega)]; rfl

def rec0' : Record := ⟨0, 0, 0, 0, ByteArray.empty, 0⟩
def nextR (L : List Record) (i : Int) : Record := if i < 0 then rec0' else (L[i.toNat]?).getD rec0'

theorem next_c (V : Vw) (v : Value) (L : List Record) (i : Int) (w : World) (hV : V.le (vw w)) (hs0 : SlOf V Record.cells 6 v L) :
    Calls Try.prog 188 #[putV v i] w fun e w' => e = .returned (.tuple #[(nextR L i).val, .bool (decide (0 ≤ i ∧ i < L.length))]) ∧ Below w.heap.size w w' := by
  obtain ⟨a, n, c, rfl⟩ := sl_shape hs0.sl
  have hs := hs0.mono hV
  refine enter (E := E0) (O := []) (nl := 0) (V := vw w) [.a (.v (putV (.slice a n c) i))] Try.func188 rfl rfl (mem0 E0 0 w) rfl rfl ?_
  refine c_seq ?_
  refine c_region ?_
  refine o_new tok rfl rfl rfl rfl ?_
  refine o_new tok rfl rfl rfl rfl ?_
  refine o_yield rfl rfl rfl (y_val tok rfl) ?_
  refine o_end [1, 2] rfl ?_
  refine x_then ?_
  refine c_seq ?_
  refine c_seq ?_
  refine c_region ?_
  refine o_yield rfl rfl rfl (y_val tok rfl) ?_
  refine o_yield rfl rfl rfl (y_val tok rfl) ?_
  refine o_yield rfl rfl rfl (y_val tok rfl) ?_
  refine o_yield rfl rfl rfl (y_val tok rfl) ?_
  refine o_yield rfl rfl rfl (y_val tok rfl) ?_
  refine o_yield rfl rfl rfl (y_val tok rfl) ?_
  refine o_yield rfl rfl rfl (y_val tok rfl) ?_
  refine o_yield rfl rfl rfl (y_val tok rfl) ?_
  refine o_yield rfl rfl rfl (y_val tok rfl) ?_
  refine o_yield rfl rfl rfl (y_val tok rfl) ?_
  refine o_yield rfl rfl rfl (y_val tok rfl) ?_
  refine o_yield rfl rfl rfl (y_len tok rfl (fun hg => hs.sl)) ?_
  refine o_yield rfl rfl rfl (y_val tok rfl) ?_
  refine o_yield rfl rfl rfl (y_val tok rfl) ?_
  refine o_end [1, 2, 17] rfl ?_
  refine x_then ?_
  refine c_cond rfl (fun h => ?_) (fun h => ?_)
  ·
    simp only [Bool.and_eq_true, Bool.or_eq_true, Bool.not_eq_true', Bool.or_eq_false_iff, Bool.and_eq_false_iff, decide_eq_true_eq, decide_eq_false_iff_not, beq_iff_eq, bne_iff_ne, Bool.not_eq_false', beq_eq_false_iff_ne, bne_eq_false_iff_eq, ne_eq, Decidable.not_not, Int.not_lt, Int.not_le] at h
    refine c_seq ?_
    refine c_region ?_
    refine o_yield rfl rfl rfl (y_val tok rfl) ?_
    refine o_store tok rfl rfl rfl (by first | exact ⟨trivial, trivial⟩ | (repeat' first | exact trivial | exact rfl | apply And.intro); done | simp [onesP, oneP, lk, Value.oneCell']) ?_
    refine o_yield rfl rfl rfl (y_val tok rfl) ?_
    refine o_end [2, 3] rfl ?_
    refine x_then ?_
    refine c_ret ?_
    refine x_then_ret ?_
    refine b_ret tok rfl ?_
    have e1 : nextR L i = rec0' := by
      unfold nextR
      by_cases h0 : i < 0
      · rw [if_pos h0]
      · rw [if_neg h0, List.getElem?_eq_none (by omega)]; rfl
    intro E w' hm _
    refine ⟨?_, hm.below (Vw.le.refl _)⟩
    rw [e1, decide_eq_false (by omega)]; rfl
  ·
    simp only [Bool.and_eq_true, Bool.or_eq_true, Bool.not_eq_true', Bool.or_eq_false_iff, Bool.and_eq_false_iff, decide_eq_true_eq, decide_eq_false_iff_not, beq_iff_eq, bne_iff_ne, Bool.not_eq_false', beq_eq_false_iff_ne, bne_eq_false_iff_eq, ne_eq, Decidable.not_not, Int.not_lt, Int.not_le] at h
    obtain ⟨k, rfl⟩ : ∃ k : Nat, i = k := ⟨i.toNat, by omega⟩
    have h1 : k < L.length := by omega
    clear h
    refine c_skip ?_
    refine x_then ?_
    refine c_seq ?_
    refine c_region ?_
    refine o_yield rfl rfl rfl (y_val tok rfl) ?_
    refine o_yield rfl rfl rfl (y_val tok rfl) ?_
    refine o_yield rfl rfl rfl (y_val tok rfl) ?_
    refine o_yield rfl rfl rfl (y_val tok rfl) ?_
    refine o_yield rfl rfl rfl (y_val tok rfl) ?_
    refine o_yield rfl rfl rfl (y_val tok rfl) ?_
    obtain ⟨r, h_r⟩ := hs.at (k := k) (by omega)
    have hlt_r := lt_of_at h_r
    refine o_yield rfl rfl rfl (y_idx tok rfl (fun hg => hs.sl) (fun hg => ⟨by omega, by omega⟩)) ?_
    refine o_yield rfl rfl rfl (y_lel tok (k) 0 (r) rfl (fun hg => hs) (fun hg => h_r) rfl rfl) ?_
    refine o_store tok rfl rfl rfl (by first | exact ⟨trivial, trivial⟩ | (repeat' first | exact trivial | exact rfl | apply And.intro); done | simp [onesP, oneP, lk, Value.oneCell']) ?_
    refine o_yield rfl rfl rfl (y_val tok rfl) ?_
    refine o_end [2, 3] rfl ?_
    refine x_then ?_
    refine c_ret ?_
    refine b_ret tok rfl ?_
    have e1 : nextR L k = r := by
      unfold nextR
      rw [if_neg (by omega), Int.toNat_natCast, h_r]; rfl
    intro E w' hm _
    refine ⟨?_, hm.below (Vw.le.refl _)⟩
    rw [e1, decide_eq_true (by omega)]; rfl
end Go.Proofs.Ytflimioplnbopaa

/- What a commit asks of the device. -/
set_option linter.unusedVariables false
set_option linter.unusedSimpArgs false
set_option maxRecDepth 100000
namespace Go.Proofs.Ytflimioplnbopaa
open Go Go.Eng Go.RowKit

theorem wantFn_c (g : Geo) (ok : g.Ok) (slot lsn : Int) (b1 b2 : Nat) (w : World) (h1 : w.heap[b1]? = some (.cells g.cells.toArray 23 (0, 0))) (h2 : w.heap[b2]? = some (.cells [I slot].toArray 3 (0, 0))) :
    Calls Try.prog 98 #[I lsn, Ptr b1, Ptr b2] w fun e w' => e = .returned (I (jourV g slot lsn)) ∧ Below w.heap.size w w' := by
  refine enter (E := E0) (O := []) (nl := 0) (V := vw w) [.a (.v (I lsn)), .a (.v (Ptr b1)), .a (.v (Ptr b2))] Try.func98 rfl rfl (mem0 E0 0 w) rfl rfl ?_
  refine c_seq ?_
  refine c_region ?_
  refine o_yield rfl rfl rfl (y_val tok rfl) ?_
  refine o_end [0, 1, 2] rfl ?_
  refine x_then ?_
  refine c_seq ?_
  refine c_region ?_
  refine o_yield rfl rfl rfl (y_ldp tok rfl (fun hg => h1) rfl) ?_
  refine o_yield rfl rfl rfl (y_ldp tok rfl (fun hg => h2) rfl) ?_
  refine o_yield rfl rfl rfl (y_val tok rfl) ?_
  refine o_call (.a (.v _)) rfl rfl fnok99 rfl rfl rfl (fun hg E w1 hm => by exact jour_c g ok slot lsn _) ?_
  refine o_yield rfl rfl rfl (y_val tok rfl) ?_
  refine o_end [4] rfl ?_
  refine x_then ?_
  refine c_ret ?_
  refine b_ret tok rfl ?_
  intro E w' hm _
  refine ⟨?_, hm.below (Vw.le.refl _)⟩
  rfl

/-- A function value that tells where an lsn stands. -/
def TellsJ (V : Vw) (fv : Value) (pl : Int → Int) : Prop :=
  ∀ (lsn : Int) w', V.le (vw w') → CallsFn Try.prog fv [I lsn] w' fun e w'' => e = .returned (I (pl lsn)) ∧ Below w'.heap.size w' w''

def wantV (pl : Int → Int) (L : List Record) (i : Int) : ActV :=
  if (0 ≤ i ∧ i < L.length) ∧ bytesE (nextR L i) = 0 ∧ 0 ≤ pl (nextR L i).lsn then ⟨2, pl (nextR L i).lsn, bytesV (nextR L i), 0⟩ else act0

theorem act_c (V : Vw) (v : Value) (L : List Record) (i : Int) (f : Nat) (cs : Array Value) (pl : Int → Int) (w : World) (hV : V.le (vw w)) (hs0 : SlOf V Record.cells 6 v L) (hf : TellsJ V (.func (.func f) #[] cs) pl) :
    Calls Try.prog 100 #[.agg #[v, I i, .func (.func f) #[] cs]] w fun e w' => e = .returned (wantV pl L i).val ∧ Below w.heap.size w w' := by
  obtain ⟨a, n, c, rfl⟩ := sl_shape hs0.sl
  have hs := hs0.mono hV
  refine enter (E := E0) (O := []) (nl := 0) (V := vw w) [.a (.v (.agg #[.slice a n c, I i, .func (.func f) #[] cs]))] Try.func100 rfl rfl (mem0 E0 0 w) rfl rfl ?_
  refine c_seq ?_
  refine c_region ?_
  refine o_new tok rfl rfl rfl rfl ?_
  refine o_new tok rfl rfl rfl rfl ?_
  refine o_end [1, 2] rfl ?_
  refine x_then ?_
  refine c_seq ?_
  refine c_region ?_
  refine o_yield rfl rfl rfl (y_val tok rfl) ?_
  refine o_yield rfl rfl rfl (y_val tok rfl) ?_
  refine o_call (.a (.v _)) rfl rfl fnok188 rfl rfl rfl (fun hg E w1 hm => by exact next_c (vw w) _ L i _ hm.leV hs) ?_
  refine o_yield rfl rfl rfl (y_val tok rfl) ?_
  refine o_yield rfl rfl rfl (y_val tok rfl) ?_
  refine o_yield rfl rfl rfl (y_val tok rfl) ?_
  refine o_new tok rfl rfl rfl rfl ?_
  refine o_store tok rfl rfl rfl (by first | exact ⟨trivial, trivial⟩ | (repeat' first | exact trivial | exact rfl | apply And.intro); done | simp [onesP, oneP, lk, Value.oneCell']) ?_
  refine o_yield rfl rfl rfl (y_val tok rfl) ?_
  refine o_end [1, 2, 3, 4] rfl ?_
  refine x_then ?_
  refine c_seq ?_
  refine c_region ?_
  refine o_yield rfl rfl rfl (y_val tok rfl) ?_
  refine o_call (.a (.v _)) rfl rfl fnok189 rfl rfl rfl (fun hg E w1 hm => by exact recBytes_c (nextR L i) _) ?_
  refine o_yield rfl rfl rfl (y_val tok rfl) ?_
  refine o_yield rfl rfl rfl (y_val tok rfl) ?_
  refine o_yield rfl rfl rfl (y_val tok rfl) ?_
  refine o_yield rfl rfl rfl (y_val tok rfl) ?_
  refine o_yield rfl rfl rfl (y_val tok rfl) ?_
  refine o_end [1, 2, 3, 4, 5, 6] rfl ?_
  refine x_then ?_
  refine c_seq ?_
  refine c_seq ?_
  refine c_region ?_
  refine o_yield rfl rfl rfl (y_val tok rfl) ?_
  refine o_yield rfl rfl rfl (y_val tok rfl) ?_
  refine o_yield rfl rfl rfl (y_val tok rfl) ?_
  refine o_yield rfl rfl rfl (y_val tok rfl) ?_
  refine o_callF (.a (.v _)) rfl rfl rfl rfl rfl (fun hg E w1 hm => by exact hf (nextR L i).lsn w1 (hV.trans hm.leV)) ?_
  refine o_yield rfl rfl rfl (y_val tok rfl) ?_
  refine o_end [2, 4, 5, 6, 7] rfl ?_
  refine x_then ?_
  refine c_seq ?_
  refine c_region ?_
  refine o_yield rfl rfl rfl (y_val tok rfl) ?_
  refine o_yield rfl rfl rfl (y_val tok rfl) ?_
  refine o_yield rfl rfl rfl (y_val tok rfl) ?_
  refine o_yield rfl rfl rfl (y_val tok rfl) ?_
  refine o_yield rfl rfl rfl (y_val tok rfl) ?_
  refine o_yield rfl rfl rfl (y_val tok rfl) ?_
  refine o_yield rfl rfl rfl (y_val tok rfl) ?_
  refine o_yield rfl rfl rfl (y_val tok rfl) ?_
  refine o_yield rfl rfl rfl (y_val tok rfl) ?_
  refine o_end [2, 5, 7, 32] rfl ?_
  refine x_then ?_
  refine c_cond rfl (fun h => ?_) (fun h => ?_)
  ·
    simp only [Bool.and_eq_true, Bool.or_eq_true, Bool.not_eq_true', Bool.or_eq_false_iff, Bool.and_eq_false_iff, decide_eq_true_eq, decide_eq_false_iff_not, beq_iff_eq, bne_iff_ne, Bool.not_eq_false', beq_eq_false_iff_ne, bne_eq_false_iff_eq, ne_eq, Decidable.not_not, Int.not_lt, Int.not_le] at h
    refine c_seq ?_
    refine c_region ?_
    refine o_yield rfl rfl rfl (y_val tok rfl) ?_
    refine o_yield rfl rfl rfl (y_val tok rfl) ?_
    refine o_yield rfl rfl rfl (y_val tok rfl) ?_
    refine o_store tok rfl rfl rfl (by first | exact ⟨trivial, trivial⟩ | (repeat' first | exact trivial | exact rfl | apply And.intro); done | simp [onesP, oneP, lk, Value.oneCell']) ?_
    refine o_end [2] rfl ?_
    refine x_then ?_
    refine c_ret ?_
    refine x_then_ret ?_
    refine b_ret tok rfl ?_
    intro E w' hm _
    refine ⟨?_, hm.below (Vw.le.refl _)⟩
    rw [wantV, if_pos (by omega)]; rfl
  ·
    simp only [Bool.and_eq_true, Bool.or_eq_true, Bool.not_eq_true', Bool.or_eq_false_iff, Bool.and_eq_false_iff, decide_eq_true_eq, decide_eq_false_iff_not, beq_iff_eq, bne_iff_ne, Bool.not_eq_false', beq_eq_false_iff_ne, bne_eq_false_iff_eq, ne_eq, Decidable.not_not, Int.not_lt, Int.not_le] at h
    refine c_skip ?_
    refine x_then ?_
    refine c_seq ?_
    refine c_region ?_
    refine o_yield rfl rfl rfl (y_val tok rfl) ?_
    refine o_store tok rfl rfl rfl (by first | exact ⟨trivial, trivial⟩ | (repeat' first | exact trivial | exact rfl | apply And.intro); done | simp [onesP, oneP, lk, Value.oneCell']) ?_
    refine o_end [2] rfl ?_
    refine x_then ?_
    refine c_ret ?_
    refine b_ret tok rfl ?_
    intro E w' hm _
    refine ⟨?_, hm.below (Vw.le.refl _)⟩
    rw [wantV, if_neg (by omega)]; rfl

theorem want_c (V : Vw) (g : Geo) (ok : g.Ok) (v : Value) (L : List Record) (i slot : Int) (w : World) (hV : V.le (vw w)) (hs0 : SlOf V Record.cells 6 v L) :
    Calls Try.prog 24 #[g.val, putV v i, I slot] w fun e w' => e = .returned (wantV (jourV g slot) L i).val ∧ Below w.heap.size w w' := by
  obtain ⟨a, n, c, rfl⟩ := sl_shape hs0.sl
  have hs := hs0.mono hV
  refine enter (E := E0) (O := []) (nl := 0) (V := vw w) [.a (.v g.val), .a (.v (putV (.slice a n c) i)), .a (.v (I slot))] Try.func24 rfl rfl (mem0 E0 0 w) rfl rfl ?_
  refine c_seq ?_
  refine c_region ?_
  refine o_new tok rfl rfl rfl rfl ?_
  refine o_new tok rfl rfl rfl rfl ?_
  refine o_new tok rfl rfl rfl rfl ?_
  refine o_new tok rfl rfl rfl rfl ?_
  refine o_end [3, 4, 5, 6] rfl ?_
  refine x_then ?_
  refine c_seq ?_
  refine c_region ?_
  refine o_yield rfl rfl rfl (y_val tok rfl) ?_
  refine o_yield rfl rfl rfl (y_val tok rfl) ?_
  refine o_yield rfl rfl rfl (y_val tok rfl) ?_
  refine o_yield rfl rfl rfl (y_val tok rfl) ?_
  refine o_call (.a (.v _)) rfl rfl fnok100 rfl rfl rfl (fun hg E w1 hm => by exact act_c (vw w1) _ L i 98 _ (jourV g slot) _ (Vw.le.refl _) (hs.mono hm.leV) (fun lsn w' hle => ⟨98, _, rfl, fnok98, wantFn_c g ok slot lsn _ _ w' (hle.get _ _ (hm.lit 0 _ _ rfl)) (hle.get _ _ (hm.lit 2 _ _ rfl))⟩)) ?_
  refine o_store tok rfl rfl rfl (by first | exact ⟨trivial, trivial⟩ | (repeat' first | exact trivial | exact rfl | apply And.intro); done | simp [onesP, oneP, lk, Value.oneCell']) ?_
  refine o_end [6] rfl ?_
  refine x_then ?_
  refine c_ret ?_
  refine b_ret tok rfl ?_
  intro E w' hm _
  refine ⟨?_, hm.below (Vw.le.refl _)⟩
  rfl

theorem geo19_c (w : World) : Calls Try.prog 91 #[] w fun e w' => e = .returned (⟨1, 1, 2, 1, 4, 8, 1, 2⟩ : Geo).val ∧ Below w.heap.size w w' := by
  refine enter (E := E0) (O := []) (nl := 0) (V := vw w) [] Try.func91 rfl rfl (mem0 E0 0 w) rfl rfl ?_
  refine c_seq ?_
  refine c_region ?_
  refine o_new tok rfl rfl rfl rfl ?_
  refine o_end [0] rfl ?_
  refine x_then ?_
  refine c_seq ?_
  refine c_region ?_
  refine o_yield rfl rfl rfl (y_val tok rfl) ?_
  refine o_store tok rfl rfl rfl (by first | exact ⟨trivial, trivial⟩ | (repeat' first | exact trivial | exact rfl | apply And.intro); done | simp [onesP, oneP, lk, Value.oneCell']) ?_
  refine o_end [0] rfl ?_
  refine x_then ?_
  refine c_ret ?_
  refine b_ret tok rfl ?_
  intro E w' hm _
  refine ⟨?_, hm.below (Vw.le.refl _)⟩
  rfl

abbrev geoC : Geo := ⟨1, 1, 2, 1, 4, 8, 1, 2⟩
theorem geoC_ok : geoC.Ok := by constructor <;> simp [R64]
def aS : ByteArray := ⟨#[97]⟩
theorem ofC : OfOk geoC 16 3 [⟨1, aS⟩] := by
  refine ⟨by decide, by simp, by decide, by decide, ?_, ?_, by decide⟩
  · intro i b hb
    cases i with
    | zero => simp at hb; subst hb; exact ⟨by decide, by decide, by decide⟩
    | succ i => simp at hb
  · intro j hj
    have : j = 0 := by simp at hj; omega
    subst this; decide
abbrev recsC : List Record := [⟨16, 3, 1, 0, aS, 0⟩, ⟨16, 4, 0, 0, ByteArray.empty, 1⟩]
theorem allC : allRecs geoC 16 3 [⟨1, aS⟩] = recsC := by rfl
theorem begC {L : List Record} {ec : Int} (h : BegRes geoC 16 3 3 [⟨1, aS⟩] L ec) : L = recsC ∧ ec = 0 := by
  rcases h with ⟨h, _⟩ | ⟨_, ⟨_, h2, h3⟩ | ⟨h1, _⟩⟩
  · exact absurd (by decide) h
  · exact ⟨h2.trans allC, h3⟩
  · exact absurd ofC h1

abbrev ActV.cells (a : ActV) : List Value := [I8 a.kind, I a.sector, S a.b, I a.key]
abbrev actC0 : ActV := ⟨2, 15, bytesV ⟨16, 3, 1, 0, aS, 0⟩, 0⟩
abbrev actC1 : ActV := ⟨2, 12, bytesV ⟨16, 4, 0, 0, ByteArray.empty, 1⟩, 0⟩
theorem recC0 : recB ⟨16, 3, 1, 0, aS, 0⟩ = true := by decide
theorem recC1 : recB ⟨16, 4, 0, 0, ByteArray.empty, 1⟩ = true := by decide
theorem wantC0 : wantV (jourV geoC 0) recsC 0 = actC0 := by
  have e : nextR recsC 0 = ⟨16, 3, 1, 0, aS, 0⟩ := rfl
  rw [wantV, e, bytesE, if_pos recC0, if_pos (by decide)]; rfl
theorem wantC1 : wantV (jourV geoC 0) recsC 1 = actC1 := by
  have e : nextR recsC 1 = ⟨16, 4, 0, 0, ByteArray.empty, 1⟩ := rfl
  rw [wantV, e, bytesE, if_pos recC1, if_pos (by decide)]; rfl

theorem wantC0_c (V : Vw) (v : Value) (w : World) (hV : V.le (vw w)) (hs : SlOf V Record.cells 6 v recsC) :
    Calls Try.prog 24 #[geoC.val, putV v 0, I 0] w fun e w' => e = .returned actC0.val ∧ Below w.heap.size w w' := by
  have := want_c V geoC geoC_ok v recsC 0 0 w hV hs
  rwa [wantC0] at this
theorem wantC1_c (V : Vw) (v : Value) (w : World) (hV : V.le (vw w)) (hs : SlOf V Record.cells 6 v recsC) :
    Calls Try.prog 24 #[geoC.val, putV v 1, I 0] w fun e w' => e = .returned actC1.val ∧ Below w.heap.size w w' := by
  have := want_c V geoC geoC_ok v recsC 1 0 w hV hs
  rwa [wantC1] at this
theorem takeC0_c (V : Vw) (v : Value) (w : World) (hV : V.le (vw w)) (hs : SlOf V Record.cells 6 v recsC) :
    Calls Try.prog 27 #[putV v 0] w fun e w' => e = .returned (putV v 1) ∧ Below w.heap.size w w' := take_c V v recsC 0 w hV hs

theorem wakes19_c (w : World) : Calls Try.prog 17 #[] w fun e w' => e = .returned (.bool true) ∧ Below w.heap.size w w' := by
  refine enter (E := E0) (O := []) (nl := 0) (V := vw w) [] Try.func17 rfl rfl (mem0 E0 0 w) rfl rfl ?_
  refine c_seq ?_
  refine c_region ?_
  refine o_yield rfl rfl rfl (y_val tok rfl) ?_
  refine o_end [] rfl ?_
  refine x_then ?_
  refine c_seq ?_
  refine c_region ?_
  refine o_call (.a (.v _)) rfl rfl fnok91 rfl rfl rfl (fun hg E w1 hm => by exact geo19_c _) ?_
  refine o_yield rfl rfl rfl (y_val tok rfl) ?_
  refine o_bs tok rfl rfl rfl rfl (fun b1 V1 hle1 hb1 => ?_)
  refine o_callV (fun x V' => ∃ a n c L ec, x = .tuple #[putV (.slice a n c) 0, I ec] ∧ SlOf V' Record.cells 6 (.slice a n c) L ∧ BegRes geoC 16 3 3 [⟨1, aS⟩] L ec) rfl rfl fnok21 rfl rfl (fun hg E w1 hm => by exact cbegin_cV V1 geoC geoC_ok 16 3 3 _ [⟨1, aS⟩] _ hm.leV (SlOf.ofBlock (enc := Block.cells) (sz := 2) (l := [⟨1, aS⟩]) (hb1 rfl) rfl (fun _ => rfl) (Nat.le_refl _)) (by simp [lim])) ?_
  rintro x V2 hle2 hx
  obtain ⟨a, n, c, L, ec, rfl, hs, hr⟩ := hx rfl
  obtain ⟨rfl, rfl⟩ := begC hr
  refine o_yield rfl rfl rfl (y_val tok rfl) ?_
  refine o_yield rfl rfl rfl (y_val tok rfl) ?_
  refine o_yield rfl rfl rfl (y_val tok rfl) ?_
  refine o_new tok rfl rfl rfl rfl ?_
  refine o_store tok rfl rfl rfl (by first | exact ⟨trivial, trivial⟩ | (repeat' first | exact trivial | exact rfl | apply And.intro); done | simp [onesP, oneP, lk, Value.oneCell']) ?_
  refine o_yield rfl rfl rfl (y_val tok rfl) ?_
  refine o_end [1, 2] rfl ?_
  refine x_then ?_
  refine c_seq ?_
  refine k_trim [1, 2] [] 1 rfl rfl (by repeat (first | exact SubF.nil | refine SubF.cons rfl ?_)) (by repeat (first | exact SubO.nil | refine SubO.cons rfl ?_)) rfl ?_
  refine c_heldM (σ := Unit) (fun _ => [(1, .a (.ptr 0 0)), (2, .a (.v (I 0))), (3, .a (.ptr 1 0))]) (fun _ => [(0, .lit [.v (.slice a n c), .v (I 0)] 43), (1, .lit (actC0.cells.map .v) 50)]) (2) (fun _ => V2) (fun _ => True) mixed ?_ ?_
  ·
    refine t_take 1 rfl (by kernel_rfl) rfl rfl rfl (y_val tok rfl) rfl ?_
    refine t_go ?_
    refine h_two 0 3 (by kernel_rfl) ?_ ?_
    ·
      refine h_call 0 (.a (.v (⟨1, 1, 2, 1, 4, 8, 1, 2⟩ : Geo).val)) rfl rfl rfl fnok91 rfl rfl rfl (fun hg E w1 hm => by exact geo19_c _) ?_
      refine h_two 2 3 (by kernel_rfl) ?_ ?_
      ·
        refine h_call 2 (.a (.v actC0.val)) rfl rfl rfl fnok24 rfl rfl rfl (fun hg E w1 hm => by exact wantC0_c _ _ _ hm.leV hs) ?_
        refine h_one 3 (by kernel_rfl) ?_
        refine h_new 3 tok rfl rfl rfl rfl rfl rfl ?_
        refine h_one 4 (by kernel_rfl) ?_
        refine h_store 4 tok rfl rfl rfl rfl (by first | exact ⟨trivial, trivial⟩ | (repeat' first | exact trivial | exact rfl | apply And.intro); done | simp [onesP, oneP, lk, Value.oneCell']) (.inr ⟨(by repeat (first | exact SubO.nil | refine SubO.cons rfl ?_)), rfl, (by first | exact Vw.le.refl _ | assumption)⟩) ?_
        refine h_done [1, 2, 3] (by kernel_rfl) rfl ?_
        exact x_meet () trivial (by repeat (first | exact SubF.nil | refine SubF.cons rfl ?_)) (by repeat (first | exact SubO.nil | refine SubO.cons rfl ?_)) rfl (Vw.le.refl _)
      ·
        refine h_new 3 tok rfl rfl rfl rfl rfl rfl ?_
        refine h_one 2 (by kernel_rfl) ?_
        refine h_call 2 (.a (.v actC0.val)) rfl rfl rfl fnok24 rfl rfl rfl (fun hg E w1 hm => by exact wantC0_c _ _ _ hm.leV hs) ?_
        refine h_one 4 (by kernel_rfl) ?_
        refine h_store 4 tok rfl rfl rfl rfl (by first | exact ⟨trivial, trivial⟩ | (repeat' first | exact trivial | exact rfl | apply And.intro); done | simp [onesP, oneP, lk, Value.oneCell']) (.inr ⟨(by repeat (first | exact SubO.nil | refine SubO.cons rfl ?_)), rfl, (by first | exact Vw.le.refl _ | assumption)⟩) ?_
        refine h_done [1, 2, 3] (by kernel_rfl) rfl ?_
        exact x_meet () trivial (by repeat (first | exact SubF.nil | refine SubF.cons rfl ?_)) (by repeat (first | exact SubO.nil | refine SubO.cons rfl ?_)) rfl (Vw.le.refl _)
    ·
      refine h_new 3 tok rfl rfl rfl rfl rfl rfl ?_
      refine h_one 0 (by kernel_rfl) ?_
      refine h_call 0 (.a (.v (⟨1, 1, 2, 1, 4, 8, 1, 2⟩ : Geo).val)) rfl rfl rfl fnok91 rfl rfl rfl (fun hg E w1 hm => by exact geo19_c _) ?_
      refine h_one 2 (by kernel_rfl) ?_
      refine h_call 2 (.a (.v actC0.val)) rfl rfl rfl fnok24 rfl rfl rfl (fun hg E w1 hm => by exact wantC0_c _ _ _ hm.leV hs) ?_
      refine h_one 4 (by kernel_rfl) ?_
      refine h_store 4 tok rfl rfl rfl rfl (by first | exact ⟨trivial, trivial⟩ | (repeat' first | exact trivial | exact rfl | apply And.intro); done | simp [onesP, oneP, lk, Value.oneCell']) (.inr ⟨(by repeat (first | exact SubO.nil | refine SubO.cons rfl ?_)), rfl, (by first | exact Vw.le.refl _ | assumption)⟩) ?_
      refine h_done [1, 2, 3] (by kernel_rfl) rfl ?_
      exact x_meet () trivial (by repeat (first | exact SubF.nil | refine SubF.cons rfl ?_)) (by repeat (first | exact SubO.nil | refine SubO.cons rfl ?_)) rfl (Vw.le.refl _)
  rintro ⟨⟩ -
  refine x_then ?_
  refine c_seq ?_
  refine c_heldM (σ := Unit) (fun _ => [(1, .a (.ptr 0 0)), (2, .a (.v (I 0))), (3, .a (.ptr 1 0)), (4, .a (.ptr 2 0))]) (fun _ => [(0, .lit [.v (.slice a n c), .v (I 0)] 43), (1, .lit (actC0.cells.map .v) 50), (2, .lit (actC1.cells.map .v) 50)]) (3) (fun _ => V2) (fun _ => True) mixed ?_ ?_
  ·
    refine t_take 1 rfl (by kernel_rfl) rfl rfl rfl (y_val tok rfl) rfl ?_
    refine t_go ?_
    refine h_two 0 4 (by kernel_rfl) ?_ ?_
    ·
      refine h_call 0 (.a (.v (⟨1, 1, 2, 1, 4, 8, 1, 2⟩ : Geo).val)) rfl rfl rfl fnok91 rfl rfl rfl (fun hg E w1 hm => by exact geo19_c _) ?_
      refine h_two 2 4 (by kernel_rfl) ?_ ?_
      ·
        refine h_call 2 (.a (.v (putV (.slice a n c) 1))) rfl rfl rfl fnok27 rfl rfl rfl (fun hg E w1 hm => by exact takeC0_c _ _ _ hm.leV hs) ?_
        refine h_two 3 4 (by kernel_rfl) ?_ ?_
        ·
          refine h_call 3 (.a (.v actC1.val)) rfl rfl rfl fnok24 rfl rfl rfl (fun hg E w1 hm => by exact wantC1_c _ _ _ hm.leV hs) ?_
          refine h_one 4 (by kernel_rfl) ?_
          refine h_new 4 tok rfl rfl rfl rfl rfl rfl ?_
          refine h_one 5 (by kernel_rfl) ?_
          refine h_store 5 tok rfl rfl rfl rfl (by first | exact ⟨trivial, trivial⟩ | (repeat' first | exact trivial | exact rfl | apply And.intro); done | simp [onesP, oneP, lk, Value.oneCell']) (.inr ⟨(by repeat (first | exact SubO.nil | refine SubO.cons rfl ?_)), rfl, (by first | exact Vw.le.refl _ | assumption)⟩) ?_
          refine h_done [1, 2, 3, 4] (by kernel_rfl) rfl ?_
          exact x_meet () trivial (by repeat (first | exact SubF.nil | refine SubF.cons rfl ?_)) (by repeat (first | exact SubO.nil | refine SubO.cons rfl ?_)) rfl (Vw.le.refl _)
        ·
          refine h_new 4 tok rfl rfl rfl rfl rfl rfl ?_
          refine h_one 3 (by kernel_rfl) ?_
          refine h_call 3 (.a (.v actC1.val)) rfl rfl rfl fnok24 rfl rfl rfl (fun hg E w1 hm => by exact wantC1_c _ _ _ hm.leV hs) ?_
          refine h_one 5 (by kernel_rfl) ?_
          refine h_store 5 tok rfl rfl rfl rfl (by first | exact ⟨trivial, trivial⟩ | (repeat' first | exact trivial | exact rfl | apply And.intro); done | simp [onesP, oneP, lk, Value.oneCell']) (.inr ⟨(by repeat (first | exact SubO.nil | refine SubO.cons rfl ?_)), rfl, (by first | exact Vw.le.refl _ | assumption)⟩) ?_
          refine h_done [1, 2, 3, 4] (by kernel_rfl) rfl ?_
          exact x_meet () trivial (by repeat (first | exact SubF.nil | refine SubF.cons rfl ?_)) (by repeat (first | exact SubO.nil | refine SubO.cons rfl ?_)) rfl (Vw.le.refl _)
      ·
        refine h_new 4 tok rfl rfl rfl rfl rfl rfl ?_
        refine h_one 2 (by kernel_rfl) ?_
        refine h_call 2 (.a (.v (putV (.slice a n c) 1))) rfl rfl rfl fnok27 rfl rfl rfl (fun hg E w1 hm => by exact takeC0_c _ _ _ hm.leV hs) ?_
        refine h_one 3 (by kernel_rfl) ?_
        refine h_call 3 (.a (.v actC1.val)) rfl rfl rfl fnok24 rfl rfl rfl (fun hg E w1 hm => by exact wantC1_c _ _ _ hm.leV hs) ?_
        refine h_one 5 (by kernel_rfl) ?_
        refine h_store 5 tok rfl rfl rfl rfl (by first | exact ⟨trivial, trivial⟩ | (repeat' first | exact trivial | exact rfl | apply And.intro); done | simp [onesP, oneP, lk, Value.oneCell']) (.inr ⟨(by repeat (first | exact SubO.nil | refine SubO.cons rfl ?_)), rfl, (by first | exact Vw.le.refl _ | assumption)⟩) ?_
        refine h_done [1, 2, 3, 4] (by kernel_rfl) rfl ?_
        exact x_meet () trivial (by repeat (first | exact SubF.nil | refine SubF.cons rfl ?_)) (by repeat (first | exact SubO.nil | refine SubO.cons rfl ?_)) rfl (Vw.le.refl _)
    ·
      refine h_new 4 tok rfl rfl rfl rfl rfl rfl ?_
      refine h_one 0 (by kernel_rfl) ?_
      refine h_call 0 (.a (.v (⟨1, 1, 2, 1, 4, 8, 1, 2⟩ : Geo).val)) rfl rfl rfl fnok91 rfl rfl rfl (fun hg E w1 hm => by exact geo19_c _) ?_
      refine h_one 2 (by kernel_rfl) ?_
      refine h_call 2 (.a (.v (putV (.slice a n c) 1))) rfl rfl rfl fnok27 rfl rfl rfl (fun hg E w1 hm => by exact takeC0_c _ _ _ hm.leV hs) ?_
      refine h_one 3 (by kernel_rfl) ?_
      refine h_call 3 (.a (.v actC1.val)) rfl rfl rfl fnok24 rfl rfl rfl (fun hg E w1 hm => by exact wantC1_c _ _ _ hm.leV hs) ?_
      refine h_one 5 (by kernel_rfl) ?_
      refine h_store 5 tok rfl rfl rfl rfl (by first | exact ⟨trivial, trivial⟩ | (repeat' first | exact trivial | exact rfl | apply And.intro); done | simp [onesP, oneP, lk, Value.oneCell']) (.inr ⟨(by repeat (first | exact SubO.nil | refine SubO.cons rfl ?_)), rfl, (by first | exact Vw.le.refl _ | assumption)⟩) ?_
      refine h_done [1, 2, 3, 4] (by kernel_rfl) rfl ?_
      exact x_meet () trivial (by repeat (first | exact SubF.nil | refine SubF.cons rfl ?_)) (by repeat (first | exact SubO.nil | refine SubO.cons rfl ?_)) rfl (Vw.le.refl _)
  rintro ⟨⟩ -
  refine x_then ?_
  refine c_seq ?_
  refine c_draw mixed (by kernel_rfl) ?_
  refine d_yield rfl rfl rfl (y_val tok rfl) rfl ?_
  refine d_yield rfl rfl rfl (y_val tok rfl) rfl ?_
  refine d_yield rfl rfl rfl (y_val tok rfl) rfl ?_
  refine d_yield rfl rfl rfl (y_val tok rfl) rfl ?_
  refine d_call (.a (.v _)) rfl rfl fnok22 rfl rfl rfl (fun hg E w1 hm => by exact left_c V2 _ recsC 0 (by simp [R64]) _ hm.leV hs (by simp [lim])) ?_
  refine d_yield rfl rfl rfl (y_val tok rfl) rfl ?_
  refine d_yield rfl rfl rfl (y_val tok rfl) rfl ?_
  refine d_yield rfl rfl rfl (y_val tok rfl) rfl ?_
  refine d_yield rfl rfl rfl (y_val tok rfl) rfl ?_
  refine d_call (.a (.v _)) rfl rfl fnok31 rfl rfl rfl (fun hg E w1 hm => by exact chead_c V2 _ recsC 0 3 _ hm.leV hs) ?_
  refine d_yield rfl rfl rfl (y_val tok rfl) rfl ?_
  refine d_yield rfl rfl rfl (y_val tok rfl) rfl ?_
  refine d_yield rfl rfl rfl (y_val tok rfl) rfl ?_
  refine d_yield rfl rfl rfl (y_val tok rfl) rfl ?_
  refine d_yield rfl rfl rfl (y_val tok rfl) rfl ?_
  refine d_yield rfl rfl rfl (y_val tok rfl) rfl ?_
  refine d_yield rfl rfl rfl (y_val tok rfl) rfl ?_
  refine d_yield rfl rfl rfl (y_val tok rfl) rfl ?_
  refine d_yield rfl rfl rfl (y_val tok rfl) rfl ?_
  refine d_yield rfl rfl rfl (y_val tok rfl) rfl ?_
  refine d_call (.a (.v _)) rfl rfl fnok91 rfl rfl rfl (fun hg E w1 hm => by exact geo19_c _) ?_
  refine d_call (.a (.v _)) rfl rfl fnok66 rfl rfl rfl (fun hg E w1 hm => by exact refJour_c geoC geoC_ok 0 3 _) ?_
  refine d_yield rfl rfl rfl (y_val tok rfl) rfl ?_
  refine d_yield rfl rfl rfl (y_val tok rfl) rfl ?_
  refine d_yield rfl rfl rfl (y_val tok rfl) rfl ?_
  refine d_yield rfl rfl rfl (y_val tok rfl) rfl ?_
  refine d_yield rfl rfl rfl (y_val tok rfl) rfl ?_
  refine d_call (.a (.v _)) rfl rfl fnok91 rfl rfl rfl (fun hg E w1 hm => by exact geo19_c _) ?_
  refine d_call (.a (.v _)) rfl rfl fnok66 rfl rfl rfl (fun hg E w1 hm => by exact refJour_c geoC geoC_ok 0 4 _) ?_
  refine d_yield rfl rfl rfl (y_val tok rfl) rfl ?_
  refine d_yield rfl rfl rfl (y_val tok rfl) rfl ?_
  refine d_yield rfl rfl rfl (y_val tok rfl) rfl ?_
  refine d_yield rfl rfl rfl (y_val tok rfl) rfl ?_
  refine d_call (.a (.v _)) rfl rfl fnok27 rfl rfl rfl (fun hg E w1 hm => by exact takeC0_c V2 _ _ hm.leV hs) ?_
  refine d_call (.a (.v _)) rfl rfl fnok27 rfl rfl rfl (fun hg E w1 hm => by exact take_c V2 _ recsC 1 _ hm.leV hs) ?_
  refine d_call (.a (.v _)) rfl rfl fnok26 rfl rfl rfl (fun hg E w1 hm => by exact over_c V2 _ recsC _ _ hm.leV hs) ?_
  refine d_yield rfl rfl rfl (y_val tok rfl) rfl ?_
  refine d_yield rfl rfl rfl (y_val tok rfl) rfl ?_
  refine d_end [0] rfl ?_
  refine x_then ?_
  refine c_ret ?_
  refine b_ret tok rfl ?_
  intro E w' hm _
  refine ⟨?_, hm.below ((hle1.trans hle2))⟩
  rfl
end Go.Proofs.Ytflimioplnbopaa

/- The law CommitFits from what comes in. -/
set_option linter.unusedVariables false
set_option linter.unusedSimpArgs false
set_option maxRecDepth 100000
namespace Go.Proofs.Ytflimioplnbopaa
open Go Go.Eng Go.RowKit

end Go.Proofs.Ytflimioplnbopaa

/- The law CommitActs from what comes in. -/
set_option linter.unusedVariables false
set_option linter.unusedSimpArgs false
set_option maxRecDepth 100000
namespace Go.Proofs.Ytflimioplnbopaa
open Go Go.Eng Go.RowKit

def ActV.eqB (a b : ActV) : Bool := a.kind == b.kind && (a.sector == b.sector && (a.b.toList == b.b.toList && a.key == b.key))

theorem actEq {op : BinOp} {ox oy : Operand} (a b : ActV) (w : World) (hop : op = .eql ∨ op = .neq) :
    (do eqGuard op 50 ox oy a.val b.val; binOp op 50 a.val b.val : Sem Value).run Try.prog w = .ok (.bool (if op = .eql then a.eqB b else !(a.eqB b))) w := by
  have hS : Try.prog.underlying 50 = some (.struct (Try.prog.fieldsOf 50)) := by kernel_rfl
  have hp : Try.prog.stoodInHeld 50 = false := by kernel_rfl
  have hg : Try.prog.eqGuardType Try.prog.depth 50 = false := by kernel_rfl
  have key : (Op.equalIn 10000 50 a.val b.val).run Try.prog w = .ok (a.eqB b) w := by
    have u3 := Try.underlying3
    have a3 := Try.isAgg3
    have z3 := Try.sizeOf3
    have u8 := Try.underlying48
    have a8 := Try.isAgg48
    have z8 := Try.sizeOf48
    have u9 := Try.underlying9
    have a9 := Try.isAgg9
    have z9 := Try.sizeOf9
    rw [show (10000 : Nat) = 9999 + 1 from rfl, run_equalIn_agg w 9999 50 _ _ hS hp]
    simp only [Program.fieldsOf, Try.underlying50]
    go_simp
    unfold ActV.eqB
    by_cases h1 : a.kind = b.kind <;> by_cases h2 : a.sector = b.sector <;> by_cases h3 : a.b.toList = b.b.toList <;> by_cases h4 : a.key = b.key <;> simp [h1, h2, h3, h4]
  rw [Sem.run_bind, run_eqGuard_agg w _ _ _ _ _ _ hg]
  rcases hop with rfl | rfl
  · simp only [Result.andThen_ok, run_eql_struct, key]; rfl
  · simp only [Result.andThen_ok, run_neq_struct, key]; rfl

theorem ActV.eqB_refl (a : ActV) : a.eqB a = true := by simp [ActV.eqB]

theorem all_recB {g : Geo} {key lsn : Int} {l : List Block} (h : OfOk g key lsn l) {i : Nat} {r : Record} (hr : (allRecs g key lsn l)[i]? = some r) : recB r = true := by
  have hlt := (List.getElem?_eq_some_iff.1 hr).1
  rw [all_len] at hlt
  by_cases hi : i < l.length * g.per.toNat
  · rw [all_at hi] at hr
    cases hr
    exact h.recsB i hi
  · have : i = l.length * g.per.toNat := by omega
    subst this
    rw [all_last] at hr
    cases hr
    exact h.commitB

theorem jour_some {g : Geo} {slot lsn : Int} (hg : geoB g = true) (h0 : 0 ≤ slot) (h1 : slot < g.slots) (h2 : 0 ≤ lsn) : 0 ≤ jourV g slot lsn := by
  have hf := geo_facts hg
  have hh : headV g slot = 1 + 2 * g.nodes + g.log + slot * (1 + g.journal) := by rw [headV, if_pos ⟨hg, h0, h1⟩]
  have hm : 0 ≤ slot * (1 + g.journal) := Int.mul_nonneg h0 (by omega)
  have he : 0 ≤ lsn % g.journal := Int.emod_nonneg _ (by omega)
  rw [jourV, if_neg (by omega)]
  omega

theorem next_at {L : List Record} {i : Nat} {r : Record} (h : L[i]? = some r) : nextR L i = r := by
  rw [nextR, if_neg (by omega), Int.toNat_natCast, h]; rfl

theorem want_at {pl : Int → Int} {L : List Record} {i : Nat} {r : Record} (h : L[i]? = some r) (hr : recB r = true) (hp : 0 ≤ pl r.lsn) : wantV pl L i = ⟨2, pl r.lsn, recBytes r, 0⟩ := by
  have hlt := (List.getElem?_eq_some_iff.1 h).1
  rw [wantV, next_at h, bytesE, if_pos hr, bytesV, if_pos hr, if_pos ⟨⟨by omega, by omega⟩, rfl, hp⟩]

theorem want_end {pl : Int → Int} {L : List Record} : wantV pl L L.length = act0 := by
  rw [wantV, if_neg (by omega)]

end Go.Proofs.Ytflimioplnbopaa

/- Sectors that are made of numbers: the document's. -/
set_option linter.unusedVariables false
set_option linter.unusedSimpArgs false
set_option maxRecDepth 100000
namespace Go.Proofs.Ytflimioplnbopaa
open Go Go.Eng Go.RowKit

theorem refMake_c (kind : Int) (hk : R8 kind) (t : ByteArray) (V : Vw) (kv nv : Value) (ks ns : List Int) (w : World) (ht : t.size ≤ 1099511627776) (hV : V.le (vw w)) (hks : SlOf V encI64 1 kv ks) (hns : SlOf V encI64 1 nv ns)
    (hlen : ks.length = ns.length) (hn : ns.length ≤ 1000) (hfit : ∀ (i : Nat) (k n : Int), ks[i]? = some k → ns[i]? = some n → putOk k [n] = true) (hsz : ∀ i : Nat, (packL (ks.take i) (ns.take i)).length ≤ 505) :
    Calls Try.prog 93 #[I8 kind, S t, kv, nv] w fun e w' => e = .returned (.tuple #[S (sealS kind (strOf (packL ks ns) ++ t)).1, I (sealS kind (strOf (packL ks ns) ++ t)).2]) ∧ Below w.heap.size w w' := by
  have hks' := hks.mono hV
  have hns' := hns.mono hV
  refine enter (E := E0) (O := []) (nl := 0) (V := vw w) [.a (.v (I8 kind)), .a (.v (S t)), .a (.v kv), .a (.v nv)] Try.func93 rfl rfl (mem0 E0 0 w) rfl rfl ?_
  refine c_seq ?_
  refine c_region ?_
  refine o_yield rfl rfl rfl (y_val tok rfl) ?_
  refine o_yield rfl rfl rfl (y_val tok rfl) ?_
  refine o_end [0, 1, 2, 3] rfl ?_
  refine x_then ?_
  refine c_seq ?_
  refine c_seq ?_
  refine c_region ?_
  refine o_yield rfl rfl rfl (y_val tok rfl) ?_
  refine o_yield rfl rfl rfl (y_len tok rfl (fun hg => hks'.sl)) ?_
  refine o_yield rfl rfl rfl (y_val tok rfl) ?_
  refine o_yield rfl rfl rfl (y_len tok rfl (fun hg => hns'.sl)) ?_
  refine o_yield rfl rfl rfl (y_val tok rfl) ?_
  refine o_end [0, 1, 2, 3, 18] rfl ?_
  refine x_then ?_
  refine c_cond rfl (fun h => ?_) (fun h => ?_)
  ·
    simp only [Bool.and_eq_true, Bool.or_eq_true, Bool.not_eq_true', Bool.or_eq_false_iff, Bool.and_eq_false_iff, decide_eq_true_eq, decide_eq_false_iff_not, beq_iff_eq, bne_iff_ne, Bool.not_eq_false', beq_eq_false_iff_ne, bne_eq_false_iff_eq, ne_eq, Decidable.not_not, Int.not_lt, Int.not_le] at h
    refine c_seq ?_
    refine c_region ?_
    refine o_yield rfl rfl rfl (y_val tok rfl) ?_
    refine o_yield rfl rfl rfl (y_val tok rfl) ?_
    refine o_end [8, 9] rfl ?_
    refine x_then ?_
    refine c_ret ?_
    refine x_then_ret ?_
    refine b_ret tok rfl ?_
    omega
  ·
    simp only [Bool.and_eq_true, Bool.or_eq_true, Bool.not_eq_true', Bool.or_eq_false_iff, Bool.and_eq_false_iff, decide_eq_true_eq, decide_eq_false_iff_not, beq_iff_eq, bne_iff_ne, Bool.not_eq_false', beq_eq_false_iff_ne, bne_eq_false_iff_eq, ne_eq, Decidable.not_not, Int.not_lt, Int.not_le] at h
    clear h
    refine c_skip ?_
    refine x_then ?_
    refine c_seq ?_
    refine c_region ?_
    refine o_yield rfl rfl rfl (y_val tok rfl) ?_
    refine o_end [0, 1, 2, 3, 10] rfl ?_
    refine x_then ?_
    refine c_seq ?_
    refine c_seq ?_
    refine c_region ?_
    refine o_yield rfl rfl rfl (y_val tok rfl) ?_
    refine o_end [0, 1, 2, 3, 10, 11] rfl ?_
    refine x_then ?_
    refine c_block ?_
    refine k_nil 10 5 1 rfl rfl ?_
    refine c_loopK [0, 1, 2, 3] [0] rfl rfl (σ := Nat) (fun i => [(10, .a (.row 0)), (11, .a (.v (I i)))]) (fun i => [(0, .row 5 1 (packL (ks.take i) (ns.take i)).length ((packL (ks.take i) (ns.take i)).flatMap encByte))]) (fun i => i ≤ ns.length) (fun i => ns.length - i) (0) (by omega) (by repeat (first | exact SubF.nil | refine SubF.cons rfl ?_)) (by repeat (first | exact SubO.nil | refine SubO.cons rfl ?_)) rfl ?_
    rintro i hi
    refine c_seq ?_
    refine c_seq ?_
    refine c_region ?_
    refine o_yield rfl rfl rfl (y_val tok rfl) ?_
    refine o_yield rfl rfl rfl (y_val tok rfl) ?_
    refine o_yield rfl rfl rfl (y_len tok rfl (fun hg => hns'.sl)) ?_
    refine o_yield rfl rfl rfl (y_val tok rfl) ?_
    refine o_end [0, 1, 2, 3, 10, 11, 22] rfl ?_
    refine x_then ?_
    refine c_cond rfl (fun h => ?_) (fun h => ?_)
    ·
      simp only [Bool.and_eq_true, Bool.or_eq_true, Bool.not_eq_true', Bool.or_eq_false_iff, Bool.and_eq_false_iff, decide_eq_true_eq, decide_eq_false_iff_not, beq_iff_eq, bne_iff_ne, Bool.not_eq_false', beq_eq_false_iff_ne, bne_eq_false_iff_eq, ne_eq, Decidable.not_not, Int.not_lt, Int.not_le] at h
      refine c_skip ?_
      refine x_then ?_
      refine c_seq ?_
      refine c_block ?_
      refine c_seq ?_
      refine c_heldR mixed rfl (by repeat (first | exact SubO.nil | refine SubO.cons rfl ?_)) (by first | rfl | simp [okCels, allOk_plain]) ?_
      refine t_take 0 rfl (by kernel_rfl) rfl rfl rfl (y_val tok rfl) rfl ?_
      refine t_take 1 rfl (by kernel_rfl) rfl rfl rfl (y_val tok rfl) rfl ?_
      refine t_take 2 rfl (by kernel_rfl) rfl rfl rfl (y_val tok rfl) rfl ?_
      obtain ⟨n, h_n⟩ := hns'.at (k := i) (by omega)
      obtain ⟨k, h_k⟩ := hks'.at (k := i) (by omega)
      have hpi := hsz i
      have hps := hsz (i + 1)
      have hlt_k := lt_of_at h_k
      refine t_take 3 rfl (by kernel_rfl) rfl rfl rfl (y_idx tok rfl (fun hg => hks'.sl) (fun hg => ⟨by omega, by omega⟩)) rfl ?_
      refine t_take 4 rfl (by kernel_rfl) rfl rfl rfl (y_lel tok (i) 0 (k) rfl (fun hg => hks') (fun hg => h_k) rfl rfl) rfl ?_
      refine t_take 5 rfl (by kernel_rfl) rfl rfl rfl (y_val tok rfl) rfl ?_
      refine t_take 6 rfl (by kernel_rfl) rfl rfl rfl (y_val tok rfl) rfl ?_
      have hlt_n := lt_of_at h_n
      refine t_take 7 rfl (by kernel_rfl) rfl rfl rfl (y_idx tok rfl (fun hg => hns'.sl) (fun hg => ⟨by omega, by omega⟩)) rfl ?_
      refine t_take 8 rfl (by kernel_rfl) rfl rfl rfl (y_lel tok (i) 0 (n) rfl (fun hg => hns') (fun hg => h_n) rfl rfl) rfl ?_
      refine t_go ?_
      refine h_one 9 (by kernel_rfl) ?_
      refine h_to 9 rfl rfl rfl rfl rfl rfl (s_bs tok 1 rfl rfl rfl) (.inr fun _ _ => ⟨(by repeat (first | exact SubO.nil | refine SubO.cons rfl ?_)), rfl, (by first | exact Vw.le.refl _ | assumption)⟩) (fun _ _ => ?_)
      refine h_one 10 (by kernel_rfl) ?_
      have hpp : putL (packL (ks.take i) (ns.take i)) k [n] = packL (ks.take (i + 1)) (ns.take (i + 1)) := by rw [putL_one, ← packL_succ h_k h_n]
      refine h_to 10 rfl rfl rfl rfl rfl rfl (s_refPut (packL (ks.take i) (ns.take i)) k [n] rfl (hfit i k n h_k h_n) (by omega) (by simp) (fun E w hm => ⟨_, _, rfl, hm.rowOf (enc := encByte) 0 rfl (fun _ => rfl), hm.rowOf (enc := encI64) (L := [n]) 1 rfl (fun _ => rfl)⟩)) (.inr fun _ _ => ⟨(by repeat (first | exact SubO.nil | refine SubO.cons rfl ?_)), rfl, (by first | exact Vw.le.refl _ | assumption)⟩) (fun _ _ => ?_)
      refine h_one 11 (by kernel_rfl) ?_
      refine h_yield 11 rfl rfl rfl rfl (y_val tok rfl) ?_
      refine h_take 12 rfl (by kernel_rfl) rfl rfl rfl rfl (y_val tok rfl) rfl ?_
      refine h_take 13 rfl (by kernel_rfl) rfl rfl rfl rfl (y_val tok rfl) rfl ?_
      refine h_one 14 (by kernel_rfl) ?_
      refine h_yield 14 rfl rfl rfl rfl (y_val tok rfl) ?_
      refine h_one 15 (by kernel_rfl) ?_
      refine h_yield 15 rfl rfl rfl rfl (y_val tok rfl) ?_
      refine h_done [0, 1, 2, 3, 11, 12, 13] (by kernel_rfl) rfl ?_
      refine x_then ?_
      refine c_seq ?_
      refine c_seq ?_
      refine c_region ?_
      refine o_yield rfl rfl rfl (y_val tok rfl) ?_
      refine o_yield rfl rfl rfl (y_val tok rfl) ?_
      refine o_end [0, 1, 2, 3, 11, 12, 40] rfl ?_
      refine x_then ?_
      refine c_cond rfl (fun h => ?_) (fun h => ?_)
      ·
        simp only [Bool.and_eq_true, Bool.or_eq_true, Bool.not_eq_true', Bool.or_eq_false_iff, Bool.and_eq_false_iff, decide_eq_true_eq, decide_eq_false_iff_not, beq_iff_eq, bne_iff_ne, Bool.not_eq_false', beq_eq_false_iff_ne, bne_eq_false_iff_eq, ne_eq, Decidable.not_not, Int.not_lt, Int.not_le] at h
        refine c_seq ?_
        refine c_region ?_
        refine o_yield rfl rfl rfl (y_val tok rfl) ?_
        refine o_yield rfl rfl rfl (y_val tok rfl) ?_
        refine o_end [8, 9] rfl ?_
        refine x_then ?_
        refine c_ret ?_
        refine x_then_ret ?_
        refine x_block_ret ?_
        refine x_then_ret ?_
        refine x_then_ret ?_
        refine x_block_ret ?_
        refine x_then_ret ?_
        refine b_ret tok rfl ?_
        contradiction
      ·
        simp only [Bool.and_eq_true, Bool.or_eq_true, Bool.not_eq_true', Bool.or_eq_false_iff, Bool.and_eq_false_iff, decide_eq_true_eq, decide_eq_false_iff_not, beq_iff_eq, bne_iff_ne, Bool.not_eq_false', beq_eq_false_iff_ne, bne_eq_false_iff_eq, ne_eq, Decidable.not_not, Int.not_lt, Int.not_le] at h
        clear h
        rw [hpp]
        refine c_skip ?_
        refine x_then ?_
        refine c_seq ?_
        refine c_region ?_
        refine o_yield rfl rfl rfl (y_val tok rfl) ?_
        refine o_yield rfl rfl rfl (y_val tok rfl) ?_
        refine o_end [0, 1, 2, 3, 10, 11] rfl ?_
        refine x_then ?_
        refine c_seq ?_
        refine c_region ?_
        refine o_yield rfl rfl rfl (y_val tok rfl) ?_
        refine o_yield rfl rfl rfl (y_val tok rfl) ?_
        refine o_yield rfl rfl rfl (y_val tok rfl) ?_
        refine o_end [0, 1, 2, 3, 10, 11, 44] rfl ?_
        refine x_then ?_
        refine c_cond rfl (fun h => ?_) (fun h => ?_)
        ·
          simp only [Bool.and_eq_true, Bool.or_eq_true, Bool.not_eq_true', Bool.or_eq_false_iff, Bool.and_eq_false_iff, decide_eq_true_eq, decide_eq_false_iff_not, beq_iff_eq, bne_iff_ne, Bool.not_eq_false', beq_eq_false_iff_ne, bne_eq_false_iff_eq, ne_eq, Decidable.not_not, Int.not_lt, Int.not_le] at h
          refine c_seq ?_
          refine c_region ?_
          refine o_yield rfl rfl rfl (y_val tok rfl) ?_
          refine o_yield rfl rfl rfl (y_val tok rfl) ?_
          refine o_end [8, 9] rfl ?_
          refine x_then ?_
          refine c_ret ?_
          refine x_block_ret ?_
          refine x_then_ret ?_
          refine x_then_ret ?_
          refine x_block_ret ?_
          refine x_then_ret ?_
          refine b_ret tok rfl ?_
          omega
        ·
          simp only [Bool.and_eq_true, Bool.or_eq_true, Bool.not_eq_true', Bool.or_eq_false_iff, Bool.and_eq_false_iff, decide_eq_true_eq, decide_eq_false_iff_not, beq_iff_eq, bne_iff_ne, Bool.not_eq_false', beq_eq_false_iff_ne, bne_eq_false_iff_eq, ne_eq, Decidable.not_not, Int.not_lt, Int.not_le] at h
          refine c_skip ?_
          refine x_block ?_
          refine x_then ?_
          refine c_region ?_
          refine o_yield rfl rfl rfl (y_val tok rfl) ?_
          refine o_yield rfl rfl rfl (y_val tok rfl) ?_
          refine o_yield rfl rfl rfl (y_val tok rfl) ?_
          refine o_end [0, 1, 2, 3, 10, 11] rfl ?_
          refine x_then ?_
          rw [wrapI (n := (i : Int) + 1) (by omega) (by omega)]
          refine k_swap 0 2 rfl ?_
          refine x_round (i + 1) (by omega) (by first | omega | (dsimp only; omega)) (by repeat (first | exact SubF.nil | refine SubF.cons rfl ?_)) (by repeat (first | exact SubO.nil | refine SubO.cons rfl ?_)) rfl (Vw.le.refl _)
    ·
      simp only [Bool.and_eq_true, Bool.or_eq_true, Bool.not_eq_true', Bool.or_eq_false_iff, Bool.and_eq_false_iff, decide_eq_true_eq, decide_eq_false_iff_not, beq_iff_eq, bne_iff_ne, Bool.not_eq_false', beq_eq_false_iff_ne, bne_eq_false_iff_eq, ne_eq, Decidable.not_not, Int.not_lt, Int.not_le] at h
      have hil : i = ns.length := by omega
      subst hil
      have hpi := hsz ns.length
      rw [List.take_length, show ks.take ns.length = ks by rw [← hlen, List.take_length]] at hpi ⊢
      refine c_exit ?_
      refine x_then_exit ?_
      refine x_then_exit ?_
      refine x_block_hit ?_
      refine x_then ?_
      refine c_seq ?_
      refine c_region ?_
      refine o_yield rfl rfl rfl (y_val tok rfl) ?_
      refine o_yield rfl rfl rfl (y_val tok rfl) ?_
      refine o_yield rfl rfl rfl (y_own (s := .a (.v (.string (strOf (packL ks ns))))) 0 rfl rfl (fun v V' hs => y_b2s tok _ rfl (fun hg => hs))) ?_
      refine o_yield rfl rfl rfl (y_val tok rfl) ?_
      have hst := strOf_size (packL ks ns)
      have hcs : (strOf (packL ks ns) ++ t).size = (packL ks ns).length + t.size := by rw [ByteArray.size_append, hst]
      refine o_yield rfl rfl rfl (y_cat rfl (fun hg => by omega)) ?_
      refine o_call (.a (.v _)) rfl rfl fnok179 rfl rfl rfl (fun hg E w1 hm => by exact refSeal_c kind hk (strOf (packL ks ns) ++ t) (by simp only [maxLen]; omega) _) ?_
      refine o_yield rfl rfl rfl (y_val tok rfl) ?_
      refine o_yield rfl rfl rfl (y_val tok rfl) ?_
      refine o_yield rfl rfl rfl (y_val tok rfl) ?_
      refine o_yield rfl rfl rfl (y_val tok rfl) ?_
      refine o_end [8, 9] rfl ?_
      refine x_then ?_
      refine c_ret ?_
      refine b_ret tok rfl ?_
      intro E w' hm _
      refine ⟨?_, hm.below (Vw.le.refl _)⟩
      rfl

theorem rec_pack_take (r : Record) (i : Nat) : (packL (rWidths.take i) ((rNums r).take i)).length ≤ 505 := by
  have h1 := pack_len (rWidths.take i) ((rNums r).take i)
  have h2 : ((rWidths.take i).map Int.toNat).sum ≤ 17 := by
    match i with
    | 0 => decide
    | 1 => decide
    | 2 => decide
    | 3 => decide
    | 4 => decide
    | i + 5 => rw [List.take_of_length_le (by simp [rWidths])]; decide
  omega

theorem refBytes_c (r : Record) (w : World) : Calls Try.prog 142 #[r.val] w fun e w' => e = .returned (.tuple #[S (bytesV r), I (bytesE r)]) ∧ Below w.heap.size w w' := by
  refine enter (E := E0) (O := []) (nl := 0) (V := vw w) [.a (.v r.val)] Try.func142 rfl rfl (mem0 E0 0 w) rfl rfl ?_
  refine c_seq ?_
  refine c_region ?_
  refine o_new tok rfl rfl rfl rfl ?_
  refine o_yield rfl rfl rfl (y_val tok rfl) ?_
  refine o_yield rfl rfl rfl (y_val tok rfl) ?_
  refine o_end [1] rfl ?_
  refine x_then ?_
  refine c_seq ?_
  refine c_seq ?_
  refine c_region ?_
  refine o_yield rfl rfl rfl (y_val tok rfl) ?_
  refine o_call (.a (.v _)) rfl rfl fnok141 rfl rfl rfl (fun hg E w1 hm => by exact refRecMay_c r _) ?_
  refine o_yield rfl rfl rfl (y_val tok rfl) ?_
  refine o_end [1, 6] rfl ?_
  refine x_then ?_
  refine c_cond rfl (fun h => ?_) (fun h => ?_)
  ·
    simp only [Bool.and_eq_true, Bool.or_eq_true, Bool.not_eq_true', Bool.or_eq_false_iff, Bool.and_eq_false_iff, decide_eq_true_eq, decide_eq_false_iff_not, beq_iff_eq, bne_iff_ne, Bool.not_eq_false', beq_eq_false_iff_ne, bne_eq_false_iff_eq, ne_eq, Decidable.not_not, Int.not_lt, Int.not_le] at h
    refine c_seq ?_
    refine c_region ?_
    refine o_yield rfl rfl rfl (y_val tok rfl) ?_
    refine o_yield rfl rfl rfl (y_val tok rfl) ?_
    refine o_end [2, 3] rfl ?_
    refine x_then ?_
    refine c_ret ?_
    refine x_then_ret ?_
    refine b_ret tok rfl ?_
    intro E w' hm _
    refine ⟨?_, hm.below (Vw.le.refl _)⟩
    rw [bytesV, bytesE, if_neg (by simp [h]), if_neg (by simp [h])]
    rfl
  ·
    simp only [Bool.and_eq_true, Bool.or_eq_true, Bool.not_eq_true', Bool.or_eq_false_iff, Bool.and_eq_false_iff, decide_eq_true_eq, decide_eq_false_iff_not, beq_iff_eq, bne_iff_ne, Bool.not_eq_false', beq_eq_false_iff_ne, bne_eq_false_iff_eq, ne_eq, Decidable.not_not, Int.not_lt, Int.not_le] at h
    have hr := h
    have ok := recOk hr
    have hrt := ok.text
    clear h
    refine c_skip ?_
    refine x_then ?_
    refine c_seq ?_
    refine c_region ?_
    refine o_yield rfl rfl rfl (y_val tok rfl) ?_
    refine o_yield rfl rfl rfl (y_val tok rfl) ?_
    refine o_bs tok rfl rfl rfl rfl (fun b1 V1 hle1 hb1 => ?_)
    refine o_yield rfl rfl rfl (y_val tok rfl) ?_
    refine o_yield rfl rfl rfl (y_val tok rfl) ?_
    refine o_yield rfl rfl rfl (y_val tok rfl) ?_
    refine o_yield rfl rfl rfl (y_val tok rfl) ?_
    refine o_yield rfl rfl rfl (y_val tok rfl) ?_
    refine o_yield rfl rfl rfl (y_val tok rfl) ?_
    refine o_yield rfl rfl rfl (y_val tok rfl) ?_
    refine o_yield rfl rfl rfl (y_val tok rfl) ?_
    refine o_yield rfl rfl rfl (y_val tok rfl) ?_
    refine o_yield rfl rfl rfl (y_val tok rfl) ?_
    refine o_bs tok rfl rfl rfl rfl (fun b2 V2 hle2 hb2 => ?_)
    have h1 := SlOf.ofBlock (enc := encI64) (sz := 1) (l := rWidths) (hle2.get _ _ (hb1 rfl)) rfl (fun _ => rfl) (Nat.le_refl _)
    have h2 := SlOf.ofBlock (enc := encI64) (sz := 1) (l := rNums r) (hb2 rfl) rfl (fun _ => rfl) (Nat.le_refl _)
    have hpk : ∀ i : Nat, (packL (rWidths.take i) ((rNums r).take i)).length ≤ 505 := rec_pack_take r
    refine o_call (.a (.v _)) rfl rfl fnok93 rfl rfl rfl (fun hg E w1 hm => by exact refMake_c 6 (by unfold R8; omega) r.text V2 _ _ rWidths (rNums r) _ (by omega) hm.leV h1 h2 rfl (by simp [rNums]) (fun i k n hk hn => putOk_of (rec_fits ok i k n hk hn)) hpk) ?_
    refine o_yield rfl rfl rfl (y_val tok rfl) ?_
    refine o_yield rfl rfl rfl (y_val tok rfl) ?_
    refine o_yield rfl rfl rfl (y_val tok rfl) ?_
    refine o_yield rfl rfl rfl (y_val tok rfl) ?_
    refine o_end [2, 3] rfl ?_
    refine x_then ?_
    refine c_ret ?_
    refine b_ret tok rfl ?_
    rw [seal_rec ok]
    intro E w' hm _
    refine ⟨?_, hm.below ((hle1.trans hle2))⟩
    rw [bytesV, bytesE, if_pos hr, if_pos hr]
    rfl
end Go.Proofs.Ytflimioplnbopaa

/- Superblocks and headers: the program's. -/
set_option linter.unusedVariables false
set_option linter.unusedSimpArgs false
set_option maxRecDepth 100000
namespace Go.Proofs.Ytflimioplnbopaa
open Go Go.Eng Go.RowKit

abbrev gW : List Int := [2, 2, 2, 2, 2, 2, 4, 4]
abbrev gNums (g : Geo) : List Int := [g.nodes, g.slots, g.blocks, g.per, g.journal, g.log, g.lease, g.wait]

theorem swidths_c (w : World) : Calls Try.prog 133 #[] w fun e w' => ∃ v, e = .returned v ∧ w'.ownsRow w.heap.size 3 1 v gW.length (gW.flatMap encI64) ∧ Below w.heap.size w w' := by
  refine enter (E := E0) (O := []) (nl := 0) (V := vw w) [] Try.func133 rfl rfl (mem0 E0 0 w) rfl rfl ?_
  refine c_seq ?_
  refine c_region ?_
  refine o_yield rfl rfl rfl (y_val tok rfl) ?_
  refine o_end [] rfl ?_
  refine x_then ?_
  refine c_seq ?_
  refine c_region ?_
  refine o_step rfl rfl rfl rfl rfl (s_bs tok 1 rfl rfl rfl) (fun _ _ => ?_)
  refine o_yield rfl rfl rfl (y_val tok rfl) ?_
  refine o_end [0] rfl ?_
  refine x_then ?_
  refine c_ret ?_
  refine b_ret tok rfl ?_
  intro E w' hm _
  exact ⟨E.κ 0, rfl, hm.rowFresh (Vw.le.refl _) (l := 0) rfl, hm.below (Vw.le.refl _)⟩

theorem shapeMay_c (g : Geo) (ok : g.Ok) (b e0 : Nat) (tl : List Value) (w : World) (hb : w.heap[b]? = some (.cells (g.cells ++ tl).toArray e0 (0, 0))) :
    Calls Try.prog 135 #[Ptr b] w fun e w' => e = .returned (.bool (geoB g)) ∧ Below w.heap.size w w' := by
  refine enter1 [.a (.ptr 0 0)] hb Try.func135 rfl rfl rfl rfl ?_
  refine c_seq ?_
  refine c_region ?_
  refine o_yield rfl rfl rfl (y_val tok rfl) ?_
  refine o_end [0] rfl ?_
  refine x_then ?_
  refine c_seq ?_
  refine c_region ?_
  refine o_yield rfl rfl rfl (y_val tok rfl) ?_
  refine o_yield rfl rfl rfl (y_val tok rfl) ?_
  refine o_yield rfl rfl rfl (y_val tok rfl) ?_
  refine o_yield rfl rfl rfl (y_val tok rfl) ?_
  refine o_call (.a (.v _)) rfl rfl fnok127 rfl rfl rfl (fun hg E w1 hm => by exact geoMay_c g ok _) ?_
  refine o_yield rfl rfl rfl (y_val tok rfl) ?_
  refine o_end [2] rfl ?_
  refine x_then ?_
  refine c_ret ?_
  refine b_ret tok rfl ?_
  intro E w' hm _
  exact ⟨rfl, below1 hb hm (Vw.le.refl _) rfl rfl rfl⟩

abbrev encP (b : Nat) (k : Nat) : List Value := [.pointer (some ⟨b, k, none⟩)]

theorem numbers_cV (V : Vw) (b : Nat) (w : World) (hV : V.le (vw w)) :
    Calls Try.prog 134 #[Ptr b] w fun e w' => ∃ x V', e = .returned x ∧ Below w.heap.size w w' ∧ Vext w.heap.size V V' w' ∧ SlOf V' (encP b) 1 x (List.range 8) := by
  have key : Calls Try.prog 134 #[Ptr b] w fun e w' => ∃ v, e = .returned v ∧ w'.ownsRow w.heap.size 194 1 v 8 ((List.range 8).flatMap (encP b)) ∧ Below w.heap.size w w' := by
    refine enter (E := E0) (O := []) (nl := 0) (V := vw w) [.a (.v (Ptr b))] Try.func134 rfl rfl (mem0 E0 0 w) rfl rfl ?_
    refine c_seq ?_
    refine c_region ?_
    refine o_yield rfl rfl rfl (y_val tok rfl) ?_
    refine o_end [0] rfl ?_
    refine x_then ?_
    refine c_seq ?_
    refine c_heldR mixed rfl (by repeat (first | exact SubO.nil | refine SubO.cons rfl ?_)) (by first | rfl | simp [okCels, allOk_plain]) ?_
    refine t_take 0 rfl (by kernel_rfl) rfl rfl rfl (y_val tok rfl) rfl ?_
    refine t_take 1 rfl (by kernel_rfl) rfl rfl rfl (y_val tok rfl) rfl ?_
    refine t_take 2 rfl (by kernel_rfl) rfl rfl rfl (y_val tok rfl) rfl ?_
    refine t_take 3 rfl (by kernel_rfl) rfl rfl rfl (y_val tok rfl) rfl ?_
    refine t_take 4 rfl (by kernel_rfl) rfl rfl rfl (y_val tok rfl) rfl ?_
    refine t_take 5 rfl (by kernel_rfl) rfl rfl rfl (y_val tok rfl) rfl ?_
    refine t_take 6 rfl (by kernel_rfl) rfl rfl rfl (y_val tok rfl) rfl ?_
    refine t_take 7 rfl (by kernel_rfl) rfl rfl rfl (y_val tok rfl) rfl ?_
    refine t_take 8 rfl (by kernel_rfl) rfl rfl rfl (y_val tok rfl) rfl ?_
    refine t_take 9 rfl (by kernel_rfl) rfl rfl rfl (y_val tok rfl) rfl ?_
    refine t_take 10 rfl (by kernel_rfl) rfl rfl rfl (y_val tok rfl) rfl ?_
    refine t_take 11 rfl (by kernel_rfl) rfl rfl rfl (y_val tok rfl) rfl ?_
    refine t_take 12 rfl (by kernel_rfl) rfl rfl rfl (y_val tok rfl) rfl ?_
    refine t_take 13 rfl (by kernel_rfl) rfl rfl rfl (y_val tok rfl) rfl ?_
    refine t_take 14 rfl (by kernel_rfl) rfl rfl rfl (y_val tok rfl) rfl ?_
    refine t_take 15 rfl (by kernel_rfl) rfl rfl rfl (y_val tok rfl) rfl ?_
    refine t_take 16 rfl (by kernel_rfl) rfl rfl rfl (y_val tok rfl) rfl ?_
    refine t_take 17 rfl (by kernel_rfl) rfl rfl rfl (y_val tok rfl) rfl ?_
    refine t_take 18 rfl (by kernel_rfl) rfl rfl rfl (y_val tok rfl) rfl ?_
    refine t_take 19 rfl (by kernel_rfl) rfl rfl rfl (y_val tok rfl) rfl ?_
    refine t_take 20 rfl (by kernel_rfl) rfl rfl rfl (y_val tok rfl) rfl ?_
    refine t_take 21 rfl (by kernel_rfl) rfl rfl rfl (y_val tok rfl) rfl ?_
    refine t_take 22 rfl (by kernel_rfl) rfl rfl rfl (y_val tok rfl) rfl ?_
    refine t_take 23 rfl (by kernel_rfl) rfl rfl rfl (y_val tok rfl) rfl ?_
    refine t_take 24 rfl (by kernel_rfl) rfl rfl rfl (y_val tok rfl) rfl ?_
    refine t_take 25 rfl (by kernel_rfl) rfl rfl rfl (y_val tok rfl) rfl ?_
    refine t_take 26 rfl (by kernel_rfl) rfl rfl rfl (y_val tok rfl) rfl ?_
    refine t_take 27 rfl (by kernel_rfl) rfl rfl rfl (y_val tok rfl) rfl ?_
    refine t_take 28 rfl (by kernel_rfl) rfl rfl rfl (y_val tok rfl) rfl ?_
    refine t_take 29 rfl (by kernel_rfl) rfl rfl rfl (y_val tok rfl) rfl ?_
    refine t_take 30 rfl (by kernel_rfl) rfl rfl rfl (y_val tok rfl) rfl ?_
    refine t_take 31 rfl (by kernel_rfl) rfl rfl rfl (y_val tok rfl) rfl ?_
    refine t_go ?_
    refine h_one 32 (by kernel_rfl) ?_
    refine h_to 32 rfl rfl rfl rfl rfl rfl (s_bs tok 1 rfl rfl rfl) (.inr fun _ _ => ⟨(by repeat (first | exact SubO.nil | refine SubO.cons rfl ?_)), rfl, (by first | exact Vw.le.refl _ | assumption)⟩) (fun _ _ => ?_)
    refine h_one 33 (by kernel_rfl) ?_
    refine h_yield 33 rfl rfl rfl rfl (y_val tok rfl) ?_
    refine h_done [2] (by kernel_rfl) rfl ?_
    refine x_then ?_
    refine c_ret ?_
    refine b_ret tok rfl ?_
    intro E w' hm _
    exact ⟨E.κ 0, rfl, hm.rowFresh (Vw.le.refl _) (l := 0) rfl, hm.below (Vw.le.refl _)⟩
  refine key.mono ?_
  rintro e w' ⟨v, rfl, hown, hb⟩
  obtain ⟨V', hx, hsl⟩ := ownsRow_vext hV hb hown
  exact ⟨v, V', rfl, hb, hx, ⟨hsl, fun _ => rfl⟩⟩

theorem numbers_cP (V : Vw) (b b' : Nat) (he : b' = b) (w : World) (hV : V.le (vw w)) :
    Calls Try.prog 134 #[Ptr b'] w fun e w' => ∃ x V', e = .returned x ∧ Below w.heap.size w w' ∧ Vext w.heap.size V V' w' ∧ SlOf V' (encP b) 1 x (List.range 8) := by
  subst he; exact numbers_cV V _ w hV

def gbV (g : Geo) : ByteArray := if geoB g = true then strOf (sealL 1 (packL gW (gNums g))) else ByteArray.empty
def gbE (g : Geo) : Int := if geoB g = true then 0 else 40

theorem gnums_fit {g : Geo} (h : geoB g = true) : ∀ (i : Nat) (k n : Int), gW[i]? = some k → (gNums g)[i]? = some n → fitsB n k = true := by
  have m2 : mostN (2 : Int).toNat = 65535 := by decide
  have m4 : mostN (4 : Int).toNat = 4294967295 := by decide
  have hf := geo_facts h
  intro i k n hk hn
  match i with
  | 0 => cases hk; cases hn; rw [fitsB, m2]; simp [widthB]; omega
  | 1 => cases hk; cases hn; rw [fitsB, m2]; simp [widthB]; omega
  | 2 => cases hk; cases hn; rw [fitsB, m2]; simp [widthB]; omega
  | 3 => cases hk; cases hn; rw [fitsB, m2]; simp [widthB]; omega
  | 4 => cases hk; cases hn; rw [fitsB, m2]; simp [widthB]; omega
  | 5 => cases hk; cases hn; rw [fitsB, m2]; simp [widthB]; omega
  | 6 => cases hk; cases hn; rw [fitsB, m4]; simp [widthB]; omega
  | 7 => cases hk; cases hn; rw [fitsB, m4]; simp [widthB]; omega
  | i + 8 => simp [gW] at hk

theorem gpack_take (g : Geo) (i : Nat) : (packL (gW.take i) ((gNums g).take i)).length ≤ 505 := by
  have h1 := pack_len (gW.take i) ((gNums g).take i)
  have h2 : ((gW.take i).map Int.toNat).sum ≤ 20 := by
    match i with
    | 0 => decide
    | 1 => decide
    | 2 => decide
    | 3 => decide
    | 4 => decide
    | 5 => decide
    | 6 => decide
    | 7 => decide
    | i + 8 => rw [List.take_of_length_le (by simp [gW])]; decide
  omega

theorem gseal (g : Geo) : sealS 1 (strOf (packL gW (gNums g)) ++ ByteArray.empty) = (strOf (sealL 1 (packL gW (gNums g))), 0) := by
  have h20 : (packL gW (gNums g)).length = 20 := by simp [packL, gW, gNums, leB, leTake_len]
  rw [sealS, if_neg (by rw [ByteArray.size_append, strOf_size]; simp; omega)]
  congr 2

theorem gcell {g : Geo} {i : Nat} {n : Int} (h : (gNums g)[i]? = some n) : (g.cells.map A.v)[i]? = some (.v (I n)) := by
  have : g.cells.map A.v = (gNums g).map fun n => A.v (I n) := rfl
  rw [this, List.getElem?_map, h]; rfl

theorem sbytes_c (g : Geo) (ok : g.Ok) (w : World) : Calls Try.prog 51 #[g.val] w fun e w' => e = .returned (.tuple #[S (gbV g), I (gbE g)]) ∧ Below w.heap.size w w' := by
  refine enter (E := E0) (O := []) (nl := 0) (V := vw w) [.a (.v g.val)] Try.func51 rfl rfl (mem0 E0 0 w) rfl rfl ?_
  refine c_seq ?_
  refine c_region ?_
  refine o_new tok rfl rfl rfl rfl ?_
  refine o_yield rfl rfl rfl (y_val tok rfl) ?_
  refine o_yield rfl rfl rfl (y_val tok rfl) ?_
  refine o_end [1] rfl ?_
  refine x_then ?_
  refine c_seq ?_
  refine c_region ?_
  refine o_yield rfl rfl rfl (y_val tok rfl) ?_
  refine o_yield rfl rfl rfl (y_val tok rfl) ?_
  refine o_new tok rfl rfl rfl rfl ?_
  refine o_yield rfl rfl rfl (y_val tok rfl) ?_
  refine o_end [4] rfl ?_
  refine x_then ?_
  refine c_seq ?_
  refine c_seq ?_
  refine c_region ?_
  refine o_yield rfl rfl rfl (y_val tok rfl) ?_
  refine o_call (.a (.v _)) rfl rfl fnok135 rfl rfl rfl (fun hg E w1 hm => by exact shapeMay_c g ok _ _ [] _ (hm.lit 1 _ _ rfl)) ?_
  refine o_yield rfl rfl rfl (y_val tok rfl) ?_
  refine o_end [4, 13] rfl ?_
  refine x_then ?_
  refine c_cond rfl (fun h => ?_) (fun h => ?_)
  ·
    simp only [Bool.and_eq_true, Bool.or_eq_true, Bool.not_eq_true', Bool.or_eq_false_iff, Bool.and_eq_false_iff, decide_eq_true_eq, decide_eq_false_iff_not, beq_iff_eq, bne_iff_ne, Bool.not_eq_false', beq_eq_false_iff_ne, bne_eq_false_iff_eq, ne_eq, Decidable.not_not, Int.not_lt, Int.not_le] at h
    refine c_seq ?_
    refine c_region ?_
    refine o_yield rfl rfl rfl (y_val tok rfl) ?_
    refine o_yield rfl rfl rfl (y_val tok rfl) ?_
    refine o_end [2, 3] rfl ?_
    refine x_then ?_
    refine c_ret ?_
    refine x_then_ret ?_
    refine b_ret tok rfl ?_
    intro E w' hm _
    refine ⟨?_, hm.below (Vw.le.refl _)⟩
    rw [gbV, gbE, if_neg (by simp [h]), if_neg (by simp [h])]; rfl
  ·
    simp only [Bool.and_eq_true, Bool.or_eq_true, Bool.not_eq_true', Bool.or_eq_false_iff, Bool.and_eq_false_iff, decide_eq_true_eq, decide_eq_false_iff_not, beq_iff_eq, bne_iff_ne, Bool.not_eq_false', beq_eq_false_iff_ne, bne_eq_false_iff_eq, ne_eq, Decidable.not_not, Int.not_lt, Int.not_le] at h
    have hgg := h
    clear h
    refine k_pin 1 rfl (fun b => ?_)
    refine c_skip ?_
    refine x_then ?_
    refine c_seq ?_
    refine c_region ?_
    refine o_yield rfl rfl rfl (y_val tok rfl) ?_
    refine o_end [4, 5] rfl ?_
    refine x_then ?_
    refine c_seq ?_
    refine c_seq ?_
    refine c_region ?_
    refine o_yield rfl rfl rfl (y_val tok rfl) ?_
    refine o_callV (fun x V' => SlOf V' (encP b) 1 x (List.range 8)) rfl rfl fnok134 rfl rfl (fun hg E w1 hm => by exact numbers_cP (vw w) b _ (hm.pin 2 1 _ rfl).1 _ hm.leV) ?_
    rintro x V1 hle1 hx
    have hp := hx rfl
    clear hx
    refine o_yield rfl rfl rfl (y_len tok rfl (fun hg => hp.sl)) ?_
    refine o_yield rfl rfl rfl (y_val tok rfl) ?_
    refine o_end [5, 15, 16, 17] rfl ?_
    refine x_then ?_
    refine c_block ?_
    refine k_nil 5 3 1 rfl rfl ?_
    have h8 : (List.range 8).length = 8 := rfl
    refine c_loopK [15, 16] [3] rfl rfl (σ := Nat) (fun i => [(5, .a (.row 3)), (17, .a (.v (I i)))]) (fun i => [(3, .row 3 1 ((gNums g).take i).length (((gNums g).take i).flatMap encI64))]) (fun i => i ≤ 8) (fun i => 8 - i) (0) (by omega) (by repeat (first | exact SubF.nil | refine SubF.cons rfl ?_)) (by repeat (first | exact SubO.nil | refine SubO.cons rfl ?_)) rfl ?_
    rintro i hi
    refine c_seq ?_
    refine c_region ?_
    refine o_yield rfl rfl rfl (y_val tok rfl) ?_
    refine o_end [5, 15, 16, 17, 18] rfl ?_
    refine x_then ?_
    refine c_seq ?_
    refine c_cond rfl (fun h => ?_) (fun h => ?_)
    ·
      simp only [Bool.and_eq_true, Bool.or_eq_true, Bool.not_eq_true', Bool.or_eq_false_iff, Bool.and_eq_false_iff, decide_eq_true_eq, decide_eq_false_iff_not, beq_iff_eq, bne_iff_ne, Bool.not_eq_false', beq_eq_false_iff_ne, bne_eq_false_iff_eq, ne_eq, Decidable.not_not, Int.not_lt, Int.not_le] at h
      refine c_skip ?_
      refine x_then ?_
      refine c_seq ?_
      refine c_block ?_
      refine c_seq ?_
      refine c_region ?_
      have hri : (List.range 8)[i]? = some i := by rw [List.getElem?_range (by omega)]
      obtain ⟨n, hn⟩ : ∃ n, (gNums g)[i]? = some n := ⟨(gNums g)[i]'(by simp; omega), by simp⟩
      have hlt_i := lt_of_at hri
      refine o_yield rfl rfl rfl (y_idx tok rfl (fun hg => hp.sl) (fun hg => ⟨by omega, by omega⟩)) ?_
      refine o_yield rfl rfl rfl (y_lel tok (i) 0 (i) rfl (fun hg => hp) (fun hg => hri) rfl rfl) ?_
      refine o_yield rfl rfl rfl (y_val tok rfl) ?_
      refine o_end [5, 7, 15, 16, 17] rfl ?_
      refine x_then ?_
      refine c_region ?_
      refine o_yield rfl rfl rfl (y_val tok rfl) ?_
      refine o_yield rfl rfl rfl (y_val tok rfl) ?_
      refine o_yield rfl rfl rfl (y_val tok rfl) ?_
      refine k_unptr 23 2 1 b i rfl rfl rfl ?_
      refine o_yield rfl rfl rfl (y_ald tok rfl rfl (fun hg => gcell hn)) ?_
      refine o_step rfl rfl rfl rfl rfl (s_bs tok 1 rfl rfl rfl) (fun _ _ => ?_)
      refine o_step rfl rfl rfl rfl rfl (s_app tok ([n].flatMap encI64) rfl (fun E w hm => ownsRow_src (hm.row _ _ _ _ _ rfl)) (fun _ _ _ => int_ones _) (by dsimp only; simp only [List.length_take]; omega)) (fun _ _ => ?_)
      refine o_yield rfl rfl rfl (y_val tok rfl) ?_
      refine o_end [5, 15, 16, 17] rfl ?_
      refine x_block ?_
      refine x_then ?_
      refine c_region ?_
      refine o_yield rfl rfl rfl (y_val tok rfl) ?_
      refine o_yield rfl rfl rfl (y_val tok rfl) ?_
      refine o_end [5, 15, 16, 17] rfl ?_
      refine x_then ?_
      rw [wrapI (n := (i : Int) + 1) (by omega) (by omega), ← List.flatMap_append, ← take_succ_at hn, show ((gNums g).take i).length + 1 = ((gNums g).take (i + 1)).length by simp only [List.length_take]; simp; omega]
      refine k_swap 3 5 rfl ?_
      refine x_round (i + 1) (by omega) (by first | omega | (dsimp only; omega)) (by repeat (first | exact SubF.nil | refine SubF.cons rfl ?_)) (by repeat (first | exact SubO.nil | refine SubO.cons rfl ?_)) rfl (Vw.le.refl _)
    ·
      simp only [Bool.and_eq_true, Bool.or_eq_true, Bool.not_eq_true', Bool.or_eq_false_iff, Bool.and_eq_false_iff, decide_eq_true_eq, decide_eq_false_iff_not, beq_iff_eq, bne_iff_ne, Bool.not_eq_false', beq_eq_false_iff_ne, bne_eq_false_iff_eq, ne_eq, Decidable.not_not, Int.not_lt, Int.not_le] at h
      have hi8 : i = 8 := by omega
      subst hi8
      rw [List.take_of_length_le (by simp)]
      refine c_exit ?_
      refine x_then_exit ?_
      refine x_then_exit ?_
      refine x_block_hit ?_
      refine x_then ?_
      refine c_seq ?_
      refine c_region ?_
      refine o_step rfl rfl rfl rfl rfl (s_callRow 3 1 gW.length (gW.flatMap encI64) rfl fnok133 (fun E w1 hm => swidths_c w1)) (fun _ _ => ?_)
      refine o_yield rfl rfl rfl (y_val tok rfl) ?_
      refine o_call (.a (.v _)) rfl rfl fnok136 rfl rfl rfl (fun hg E w1 hm => by exact make_c 1 (by unfold R8; omega) ByteArray.empty (vw w1) _ _ gW (gNums g) _ (by simp) (Vw.le.refl _) (hm.rowOf 4 rfl (fun _ => rfl)) (hm.rowOf 3 rfl (fun _ => rfl)) rfl (by simp) (fun i k n hk hn => putOk_of (gnums_fit hgg i k n hk hn)) (gpack_take g)) ?_
      refine o_yield rfl rfl rfl (y_val tok rfl) ?_
      refine o_yield rfl rfl rfl (y_val tok rfl) ?_
      refine o_yield rfl rfl rfl (y_val tok rfl) ?_
      refine o_yield rfl rfl rfl (y_val tok rfl) ?_
      refine o_end [2, 3] rfl ?_
      refine x_then ?_
      refine c_ret ?_
      refine b_ret tok rfl ?_
      rw [gseal]
      intro E w' hm _
      refine ⟨?_, hm.below (hle1)⟩
      rw [gbV, gbE, if_pos hgg, if_pos hgg]; rfl


/-- What a superblock's numbers say. -/
def geoOf : List Int → Geo
  | [a, b, c, d, e, f, g, h] => ⟨a, b, c, d, e, f, g, h⟩
  | _ => ⟨0, 0, 0, 0, 0, 0, 0, 0⟩
abbrev geo0 : Geo := ⟨0, 0, 0, 0, 0, 0, 0, 0⟩

/-- What a superblock is read as. -/
def srOk (s : ByteArray) : Option Geo := match fieldsR 1 s gW with
  | some (l, r) => if r.size = 0 ∧ geoB (geoOf l) = true then some (geoOf l) else none
  | none => none
def srV (s : ByteArray) : Geo := (srOk s).getD geo0
def srE (s : ByteArray) : Int := if (srOk s).isSome then 0 else 50

theorem eight {l : List Int} (h : l.length = 8) : ∃ a b c d e f g i, l = [a, b, c, d, e, f, g, i] := by
  match l, h with
  | [a, b, c, d, e, f, g, i], _ => exact ⟨a, b, c, d, e, f, g, i, rfl⟩

theorem fields_64 {kind : Int} {s : ByteArray} : ∀ (ks acc : List Int) (r : ByteArray) {l : List Int} {q : ByteArray}, (∀ n ∈ acc, R64 n) → fldA acc r ks = some (l, q) → ∀ n ∈ l, R64 n
  | [], acc, r, l, q, h, he => by simp [fldA] at he; rw [← he.1]; exact h
  | k :: ks, acc, r, l, q, h, he => by
    rw [fldA] at he
    split at he
    · cases he
    · refine fields_64 (kind := kind) (s := s) ks _ _ ?_ he
      intro n hn
      rcases List.mem_append.1 hn with hn | hn
      · exact h n hn
      · simp at hn
        subst hn
        have := getSpec_64 r 0 k
        unfold R64; omega

theorem fieldsR_64 {kind : Int} {s : ByteArray} {ks l : List Int} {q : ByteArray} (h : fieldsR kind s ks = some (l, q)) : ∀ n ∈ l, R64 n := by
  unfold fieldsR at h
  split at h
  · exact fields_64 (kind := kind) (s := s) ks [] _ (by simp) h
  · cases h

theorem geoOf_ok {l : List Int} (h8 : l.length = 8) (h : ∀ n ∈ l, R64 n) : (geoOf l).Ok := by
  obtain ⟨a, b, c, d, e, f, g, i, rfl⟩ := eight h8
  constructor <;> exact h _ (by simp [geoOf])

theorem geo0_ok : geo0.Ok := by constructor <;> simp [R64]

theorem geoOf_nums {l : List Int} (h8 : l.length = 8) : gNums (geoOf l) = l := by
  obtain ⟨a, b, c, d, e, f, g, i, rfl⟩ := eight h8; rfl

theorem size_empty' (r : ByteArray) : (r.toList == (⟨#[]⟩ : ByteArray).toList) = decide (r.size = 0) := empty_beq r

/-- The cells of a geometry of which the first numbers are known. -/
def geoC' (l : List Int) (i j : Nat) : A := .v (I (if j < i then l.getD j 0 else 0))
def geoTo (l : List Int) (i : Nat) : List A := [geoC' l i 0, geoC' l i 1, geoC' l i 2, geoC' l i 3, geoC' l i 4, geoC' l i 5, geoC' l i 6, geoC' l i 7]

theorem geoTo_set {l : List Int} (h8 : l.length = 8) {i : Nat} {n : Int} (hn : l[i]? = some n) : (geoTo l i).set i (.v (I n)) = geoTo l (i + 1) := by
  have hlt := (List.getElem?_eq_some_iff.1 hn).1
  obtain ⟨a, b, c, d, e, f, g, h, rfl⟩ := eight h8
  match i, hlt with
  | 0, _ => cases hn; rfl
  | 1, _ => cases hn; rfl
  | 2, _ => cases hn; rfl
  | 3, _ => cases hn; rfl
  | 4, _ => cases hn; rfl
  | 5, _ => cases hn; rfl
  | 6, _ => cases hn; rfl
  | 7, _ => cases hn; rfl
  | i + 8, hlt => exact absurd hlt (by simp only [List.length_cons, List.length_nil]; omega)

theorem sread_c (s : ByteArray) (hs : s.size ≤ maxLen) (w : World) : Calls Try.prog 50 #[S s] w fun e w' => e = .returned (.tuple #[(srV s).val, I (srE s)]) ∧ Below w.heap.size w w' := by
  refine enter (E := E0) (O := []) (nl := 0) (V := vw w) [.a (.v (S s))] Try.func50 rfl rfl (mem0 E0 0 w) rfl rfl ?_
  refine c_seq ?_
  refine c_region ?_
  refine o_new tok rfl rfl rfl rfl ?_
  refine o_yield rfl rfl rfl (y_val tok rfl) ?_
  refine o_end [0, 2] rfl ?_
  refine x_then ?_
  refine c_seq ?_
  refine c_region ?_
  refine o_yield rfl rfl rfl (y_val tok rfl) ?_
  refine o_new tok rfl rfl rfl rfl ?_
  refine o_yield rfl rfl rfl (y_val tok rfl) ?_
  refine o_end [0, 2, 4] rfl ?_
  refine x_then ?_
  refine c_seq ?_
  refine c_region ?_
  refine o_yield rfl rfl rfl (y_val tok rfl) ?_
  refine o_step rfl rfl rfl rfl rfl (s_callRow 3 1 gW.length (gW.flatMap encI64) rfl fnok133 (fun E w1 hm => swidths_c w1)) (fun _ _ => ?_)
  refine o_callV (FVal 1 s gW) rfl rfl fnok132 rfl rfl (fun hg E w1 hm => by exact fval_of hm.leV (fields_c 1 s (vw w1) _ gW w1 hs (Vw.le.refl _) (hm.rowOf 2 rfl (fun _ => rfl)) (by simp))) ?_
  rintro x V1 hle1 hx
  have hx' := hx rfl
  clear hx
  rcases hx' with ⟨l, r, v, hfr, rfl, hsl⟩ | ⟨hfr, rfl⟩
  rotate_left
  ·
    refine o_yield rfl rfl rfl (y_val tok rfl) ?_
    refine o_yield rfl rfl rfl (y_val tok rfl) ?_
    refine o_yield rfl rfl rfl (y_val tok rfl) ?_
    refine o_yield rfl rfl rfl (y_val tok rfl) ?_
    refine o_yield rfl rfl rfl (y_val tok rfl) ?_
    refine o_yield rfl rfl rfl (y_val tok rfl) ?_
    refine o_yield rfl rfl rfl (y_val tok rfl) ?_
    refine o_end [2, 4, 5, 6, 7] rfl ?_
    refine x_then ?_
    refine c_seq ?_
    refine c_seq ?_
    refine c_region ?_
    refine o_yield rfl rfl rfl (y_val tok rfl) ?_
    refine o_yield rfl rfl rfl (y_val tok rfl) ?_
    refine o_end [2, 4, 5, 6, 7, 20] rfl ?_
    refine x_then ?_
    refine c_cond rfl (fun h => ?_) (fun h => ?_)
    · exact absurd h (by decide)
    ·
      refine c_skip ?_
      refine x_then ?_
      refine c_seq ?_
      refine c_seq ?_
      refine c_region ?_
      refine o_yield rfl rfl rfl (y_val tok rfl) ?_
      refine o_yield rfl rfl rfl (y_val tok rfl) ?_
      refine o_yield rfl rfl rfl (y_val tok rfl) ?_
      refine o_yield rfl rfl rfl (y_val tok rfl) ?_
      refine o_yield rfl rfl rfl (y_val tok rfl) ?_
      refine o_yield rfl rfl rfl (y_val tok rfl) ?_
      refine o_yield rfl rfl rfl (y_val tok rfl) ?_
      refine o_yield rfl rfl rfl (y_val tok rfl) ?_
      refine o_call (.a (.v _)) rfl rfl fnok135 rfl rfl rfl (fun hg E w1 hm => by exact shapeMay_c geo0 geo0_ok _ _ [] _ (hm.lit 1 _ _ rfl)) ?_
      refine o_yield rfl rfl rfl (y_val tok rfl) ?_
      refine o_yield rfl rfl rfl (y_val tok rfl) ?_
      refine o_end [2, 4, 46] rfl ?_
      refine x_then ?_
      refine c_cond rfl (fun h => ?_) (fun h => ?_)
      ·
        refine c_seq ?_
        refine c_region ?_
        refine o_yield rfl rfl rfl (y_val tok rfl) ?_
        refine o_store tok rfl rfl rfl (by first | exact ⟨trivial, trivial⟩ | (repeat' first | exact trivial | exact rfl | apply And.intro); done | simp [onesP, oneP, lk, Value.oneCell']) ?_
        refine o_yield rfl rfl rfl (y_val tok rfl) ?_
        refine o_end [2, 3] rfl ?_
        refine x_then ?_
        refine c_ret ?_
        refine x_then_ret ?_
        refine b_ret tok rfl ?_
        intro E w' hm _
        refine ⟨?_, hm.below (hle1)⟩
        have : srOk s = none := by rw [srOk, hfr]
        rw [srV, srE, this]; rfl
      · exact absurd h (by decide)
  ·
    have hl8 : l.length = 8 := by rw [fields_len hfr]; rfl
    have hl64 := fieldsR_64 hfr
    refine o_yield rfl rfl rfl (y_val tok rfl) ?_
    refine o_yield rfl rfl rfl (y_val tok rfl) ?_
    refine o_yield rfl rfl rfl (y_val tok rfl) ?_
    refine o_yield rfl rfl rfl (y_val tok rfl) ?_
    refine o_yield rfl rfl rfl (y_val tok rfl) ?_
    refine o_yield rfl rfl rfl (y_val tok rfl) ?_
    refine o_yield rfl rfl rfl (y_val tok rfl) ?_
    refine o_end [2, 4, 5, 6, 7] rfl ?_
    refine x_then ?_
    refine c_seq ?_
    refine c_seq ?_
    refine c_region ?_
    refine o_yield rfl rfl rfl (y_val tok rfl) ?_
    refine o_yield rfl rfl rfl (y_val tok rfl) ?_
    refine o_end [2, 4, 5, 6, 7, 20] rfl ?_
    refine x_then ?_
    refine c_cond rfl (fun h => ?_) (fun h => ?_)
    ·
      refine c_seq ?_
      refine c_region ?_
      refine o_yield rfl rfl rfl (y_val tok rfl) ?_
      clear h
      refine k_pin 1 rfl (fun b => ?_)
      refine o_callV (fun x V' => SlOf V' (encP b) 1 x (List.range 8)) rfl rfl fnok134 rfl rfl (fun hg E w1 hm => by exact numbers_cP V1 b _ (hm.pin 3 1 _ rfl).1 _ hm.leV) ?_
      rintro x V2 hle2 hx
      have hp := hx rfl
      clear hx
      have hsl2 := hsl.mono hle2
      have h8 : (List.range 8).length = 8 := rfl
      refine o_yield rfl rfl rfl (y_len tok rfl (fun hg => hp.sl)) ?_
      refine o_yield rfl rfl rfl (y_val tok rfl) ?_
      refine o_end [2, 4, 5, 6, 7, 22, 23, 24] rfl ?_
      refine x_then ?_
      refine c_block ?_
      refine c_loopV [2, 4, 5, 6, 7, 22, 23] [1] rfl rfl (σ := Nat) (fun i => [(24, .a (.v (I i)))]) (fun i => [(1, .lit (geoTo l i) 182)]) (fun i => V2) (fun i => i ≤ 8) (fun i => 8 - i) (0) (by omega) (by repeat (first | exact SubF.nil | refine SubF.cons rfl ?_)) (by repeat (first | exact SubO.nil | refine SubO.cons rfl ?_)) rfl (Vw.le.refl _) ?_
      rintro i hi
      refine c_seq ?_
      refine c_region ?_
      refine o_yield rfl rfl rfl (y_val tok rfl) ?_
      refine o_end [2, 4, 5, 6, 7, 22, 23, 24, 25] rfl ?_
      refine x_then ?_
      refine c_seq ?_
      refine c_cond rfl (fun h => ?_) (fun h => ?_)
      ·
        simp only [Bool.and_eq_true, Bool.or_eq_true, Bool.not_eq_true', Bool.or_eq_false_iff, Bool.and_eq_false_iff, decide_eq_true_eq, decide_eq_false_iff_not, beq_iff_eq, bne_iff_ne, Bool.not_eq_false', beq_eq_false_iff_ne, bne_eq_false_iff_eq, ne_eq, Decidable.not_not, Int.not_lt, Int.not_le] at h
        refine c_skip ?_
        refine x_then ?_
        refine c_seq ?_
        refine c_block ?_
        refine c_seq ?_
        refine c_region ?_
        refine o_yield rfl rfl rfl (y_val tok rfl) ?_
        have hri : (List.range 8)[i]? = some i := by rw [List.getElem?_range (by omega)]
        obtain ⟨n, hn⟩ : ∃ n, l[i]? = some n := ⟨l[i]'(by omega), by simp⟩
        have hlt_i := lt_of_at hri
        refine o_yield rfl rfl rfl (y_idx tok rfl (fun hg => hp.sl) (fun hg => ⟨by omega, by omega⟩)) ?_
        refine o_yield rfl rfl rfl (y_lel tok (i) 0 (i) rfl (fun hg => hp) (fun hg => hri) rfl rfl) ?_
        refine o_yield rfl rfl rfl (y_val tok rfl) ?_
        refine o_yield rfl rfl rfl (y_val tok rfl) ?_
        refine o_end [2, 4, 5, 6, 7, 8, 9, 22, 23, 24] rfl ?_
        refine x_then ?_
        refine c_region ?_
        refine o_yield rfl rfl rfl (y_val tok rfl) ?_
        refine o_yield rfl rfl rfl (y_val tok rfl) ?_
        refine o_yield rfl rfl rfl (y_val tok rfl) ?_
        have hlt_n := lt_of_at hn
        refine o_yield rfl rfl rfl (y_idx tok rfl (fun hg => hsl2.sl) (fun hg => ⟨by omega, by omega⟩)) ?_
        refine o_yield rfl rfl rfl (y_lel tok (i) 0 (n) rfl (fun hg => hsl2) (fun hg => hn) rfl rfl) ?_
        refine o_yield rfl rfl rfl (y_val tok rfl) ?_
        refine k_unptr 34 3 1 b i rfl rfl rfl ?_
        refine o_stepN rfl rfl rfl rfl (s_ast tok rfl rfl rfl (by simp only [geoTo, List.length_cons, List.length_nil]; omega)) (fun _ _ => ?_)
        refine o_end [2, 4, 5, 6, 7, 22, 23, 24] rfl ?_
        refine x_block ?_
        refine x_then ?_
        refine c_region ?_
        refine o_yield rfl rfl rfl (y_val tok rfl) ?_
        refine o_yield rfl rfl rfl (y_val tok rfl) ?_
        refine o_end [2, 4, 5, 6, 7, 22, 23, 24] rfl ?_
        refine x_then ?_
        rw [geoTo_set hl8 hn, wrapI (n := (i : Int) + 1) (by omega) (by omega)]
        refine x_round (i + 1) (by omega) (by first | omega | (dsimp only; omega)) (by repeat (first | exact SubF.nil | refine SubF.cons rfl ?_)) (by repeat (first | exact SubO.nil | refine SubO.cons rfl ?_)) rfl (Vw.le.refl _)
      ·
        simp only [Bool.and_eq_true, Bool.or_eq_true, Bool.not_eq_true', Bool.or_eq_false_iff, Bool.and_eq_false_iff, decide_eq_true_eq, decide_eq_false_iff_not, beq_iff_eq, bne_iff_ne, Bool.not_eq_false', beq_eq_false_iff_ne, bne_eq_false_iff_eq, ne_eq, Decidable.not_not, Int.not_lt, Int.not_le] at h
        have hi8 : i = 8 := by omega
        subst hi8
        have hgt : geoTo l 8 = (geoOf l).cells.map .v := by
          obtain ⟨a, b, c, d, e, f, g, i, rfl⟩ := eight hl8
          rfl
        rw [hgt]
        refine c_exit ?_
        refine x_then_exit ?_
        refine x_then_exit ?_
        refine x_block_hit ?_
        refine x_then ?_
        refine c_seq ?_
        refine c_seq ?_
        refine c_region ?_
        refine o_yield rfl rfl rfl (y_val tok rfl) ?_
        refine o_yield rfl rfl rfl (y_val tok rfl) ?_
        refine o_yield rfl rfl rfl (y_val tok rfl) ?_
        refine o_yield rfl rfl rfl (y_val tok rfl) ?_
        refine o_yield rfl rfl rfl (y_val tok rfl) ?_
        refine o_yield rfl rfl rfl (y_val tok rfl) ?_
        refine o_yield rfl rfl rfl (y_val tok rfl) ?_
        refine o_yield rfl rfl rfl (y_val tok rfl) ?_
        have okg := geoOf_ok hl8 hl64
        refine o_call (.a (.v _)) rfl rfl fnok135 rfl rfl rfl (fun hg E w1 hm => by exact shapeMay_c (geoOf l) okg _ _ [] _ (hm.lit 1 _ _ rfl)) ?_
        refine o_yield rfl rfl rfl (y_val tok rfl) ?_
        refine o_yield rfl rfl rfl (y_val tok rfl) ?_
        refine o_end [2, 4, 46] rfl ?_
        refine x_then ?_
        refine c_cond rfl (fun h => ?_) (fun h => ?_)
        ·
          refine c_seq ?_
          refine c_region ?_
          refine o_yield rfl rfl rfl (y_val tok rfl) ?_
          refine o_store tok rfl rfl rfl (by first | exact ⟨trivial, trivial⟩ | (repeat' first | exact trivial | exact rfl | apply And.intro); done | simp [onesP, oneP, lk, Value.oneCell']) ?_
          refine o_yield rfl rfl rfl (y_val tok rfl) ?_
          refine o_end [2, 3] rfl ?_
          refine x_then ?_
          refine c_ret ?_
          refine x_then_ret ?_
          refine b_ret tok rfl ?_
          intro E w' hm _
          refine ⟨?_, hm.below ((hle1.trans hle2))⟩
          have : srOk s = none := by
            rw [srOk, hfr]
            simp only
            rw [if_neg]
            rintro ⟨h1, h2⟩
            rw [size_empty', h2] at h
            simp [h1] at h
          rw [srV, srE, this]; rfl
        ·
          refine c_skip ?_
          refine x_then ?_
          refine c_seq ?_
          refine c_region ?_
          refine o_yield rfl rfl rfl (y_val tok rfl) ?_
          refine o_yield rfl rfl rfl (y_val tok rfl) ?_
          refine o_yield rfl rfl rfl (y_val tok rfl) ?_
          refine o_yield rfl rfl rfl (y_val tok rfl) ?_
          refine o_store tok rfl rfl rfl (by first | exact ⟨trivial, trivial⟩ | (repeat' first | exact trivial | exact rfl | apply And.intro); done | simp [onesP, oneP, lk, Value.oneCell']) ?_
          refine o_yield rfl rfl rfl (y_val tok rfl) ?_
          refine o_end [2, 3] rfl ?_
          refine x_then ?_
          refine c_ret ?_
          refine b_ret tok rfl ?_
          intro E w' hm _
          refine ⟨?_, hm.below ((hle1.trans hle2))⟩
          have : srOk s = some (geoOf l) := by
            rw [srOk, hfr]
            simp only
            rw [if_pos]
            rw [size_empty'] at h
            simpa using h
          rw [srV, srE, this]; rfl
    ·
      refine c_skip ?_
      refine x_then ?_
      refine c_seq ?_
      refine c_seq ?_
      refine c_region ?_
      refine o_yield rfl rfl rfl (y_val tok rfl) ?_
      refine o_yield rfl rfl rfl (y_val tok rfl) ?_
      refine o_yield rfl rfl rfl (y_val tok rfl) ?_
      refine o_yield rfl rfl rfl (y_val tok rfl) ?_
      refine o_yield rfl rfl rfl (y_val tok rfl) ?_
      refine o_yield rfl rfl rfl (y_val tok rfl) ?_
      refine o_yield rfl rfl rfl (y_val tok rfl) ?_
      refine o_yield rfl rfl rfl (y_val tok rfl) ?_
      exact absurd h (by decide)
end Go.Proofs.Ytflimioplnbopaa
