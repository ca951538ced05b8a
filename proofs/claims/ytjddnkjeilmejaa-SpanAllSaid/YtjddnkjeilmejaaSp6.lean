/- Spans: the law SpanParts from what comes in. -/
import Derived.Test.YtjddnkjeilmejaaSp5
set_option linter.unusedVariables false
set_option linter.unusedSimpArgs false
set_option maxRecDepth 100000
namespace Go.Proofs.Ytjddnkjeilmejaa
open Go Go.Eng Go.RowKit

theorem meets_parts {lo hi m lo' hi' : Int} (h1 : lo ≤ m) (h2 : m < hi) : meets lo hi lo' hi' = (meets lo m lo' hi' || meets (m + 1) hi lo' hi') := by
  unfold meets hasB
  rw [Bool.eq_iff_iff]
  simp
  omega

theorem meets_apart {lo hi m : Int} (h1 : lo ≤ m) (h2 : m < hi) : meets lo m (m + 1) hi = false := by
  unfold meets hasB
  rw [Bool.eq_false_iff]
  simp
  omega

theorem touches_parts (l : List Hold) (key : Int) {lo hi m : Int} (h1 : lo ≤ m) (h2 : m < hi) : touches l key lo hi = (touches l key lo m || touches l key (m + 1) hi) := by
  unfold touches
  induction l with
  | nil => rfl
  | cons x r ih =>
    simp only [List.any_cons, ih, touchesAt]
    rw [meets_comm x.lo x.hi lo hi, meets_parts h1 h2, meets_comm x.lo x.hi lo m, meets_comm x.lo x.hi (m + 1) hi]
    cases (x.key == key) <;> cases meets lo m x.lo x.hi <;> cases meets (m + 1) hi x.lo x.hi <;> simp

theorem fits_parts (l : List Hold) (key mode : Int) {lo hi m : Int} (h1 : lo ≤ m) (h2 : m < hi) :
    fits ⟨key, lo, hi, mode⟩ l = (fits ⟨key, lo, m, mode⟩ l && fits ⟨key, m + 1, hi, mode⟩ l) := by
  unfold fits
  induction l with
  | nil => rfl
  | cons x r ih =>
    simp only [List.all_cons, ih, together]
    rw [meets_parts h1 h2]
    cases (key == x.key) <;> cases meets lo m x.lo x.hi <;> cases meets (m + 1) hi x.lo x.hi <;> cases ((mode == 1) && (x.mode == 1)) <;> simp

theorem spanParts_law (w : World) {v0 v1 v2 v3 v4 v5 : Value} (R0 : ∃ lo hi : Int, v0 = .agg #[I lo, I hi])
    (R1 : ∃ lo hi : Int, v1 = .agg #[I lo, I hi])
    (R2 : ∃ n : Int, v2 = I n ∧ -9223372036854775808 ≤ n ∧ n ≤ 9223372036854775807)
    (R3 : ∃ l : List Hold, SlOf (vw w) Hold.cells 4 v3 l ∧ l.length ≤ maxLen) (R4 : ∃ n : Int, v4 = I n ∧ -9223372036854775808 ≤ n ∧ n ≤ 9223372036854775807) (R5 : ∃ n : Int, v5 = I8 n) :
    Calls Try.prog 5 #[v0, v1, v2, v3, v4, v5] w fun e w' => e = .returned (.bool true) ∧ Below w.heap.size w w' := by
  obtain ⟨lo, hi, rfl⟩ := R0
  obtain ⟨lo', hi', rfl⟩ := R1
  obtain ⟨m, rfl, _⟩ := R2
  obtain ⟨l, hs, _⟩ := R3
  obtain ⟨key, rfl, _⟩ := R4
  obtain ⟨mode, rfl⟩ := R5
  refine enter (E := E0) (O := []) (nl := 0) (V := vw w) [.a (.v (.agg #[I lo, I hi])), .a (.v (.agg #[I lo', I hi'])), .a (.v (I m)), .a (.v v3), .a (.v (I key)), .a (.v (I8 mode))] Try.func5 rfl rfl (mem0 E0 0 w) rfl rfl ?_
  refine c_seq ?_
  refine c_region ?_
  refine o_new tok rfl rfl rfl rfl ?_
  refine o_new tok rfl rfl rfl rfl ?_
  refine o_yield rfl rfl rfl (y_val tok rfl) ?_
  refine o_end [2, 3, 4, 5, 6, 7] rfl ?_
  refine x_then ?_
  refine c_seq ?_
  refine c_seq ?_
  refine c_region ?_
  refine o_yield rfl rfl rfl (y_val tok rfl) ?_
  refine o_yield rfl rfl rfl (y_len tok rfl (fun hg => hs.sl)) ?_
  refine o_yield rfl rfl rfl (y_val tok rfl) ?_
  refine o_yield rfl rfl rfl (y_val tok rfl) ?_
  refine o_yield rfl rfl rfl (y_val tok rfl) ?_
  refine o_yield rfl rfl rfl (y_val tok rfl) ?_
  refine o_yield rfl rfl rfl (y_val tok rfl) ?_
  refine o_yield rfl rfl rfl (y_val tok rfl) ?_
  refine o_yield rfl rfl rfl (y_val tok rfl) ?_
  refine o_yield rfl rfl rfl (y_val tok rfl) ?_
  refine o_yield rfl rfl rfl (y_val tok rfl) ?_
  refine o_yield rfl rfl rfl (y_val tok rfl) ?_
  refine o_yield rfl rfl rfl (y_val tok rfl) ?_
  refine o_yield rfl rfl rfl (y_val tok rfl) ?_
  refine o_yield rfl rfl rfl (y_val tok rfl) ?_
  refine o_yield rfl rfl rfl (y_val tok rfl) ?_
  refine o_yield rfl rfl rfl (y_val tok rfl) ?_
  refine o_yield rfl rfl rfl (y_val tok rfl) ?_
  refine o_yield rfl rfl rfl (y_val tok rfl) ?_
  refine o_yield rfl rfl rfl (y_val tok rfl) ?_
  refine o_yield rfl rfl rfl (y_val tok rfl) ?_
  refine o_yield rfl rfl rfl (y_val tok rfl) ?_
  refine o_yield rfl rfl rfl (y_val tok rfl) ?_
  refine o_yield rfl rfl rfl (y_val tok rfl) ?_
  refine o_yield rfl rfl rfl (y_val tok rfl) ?_
  refine o_end [2, 3, 4, 5, 6, 7, 39] rfl ?_
  refine x_then ?_
  refine c_cond rfl (fun h => ?_) (fun h => ?_)
  ·
    refine c_seq ?_
    refine c_region ?_
    refine o_call (.a (.v _)) rfl rfl fnok8 rfl rfl rfl (fun hg E w1 hm => by exact wakes_c _) ?_
    refine o_yield rfl rfl rfl (y_val tok rfl) ?_
    refine o_end [12] rfl ?_
    refine x_then ?_
    refine c_ret ?_
    refine x_then_ret ?_
    refine b_ret tok rfl ?_
    intro E w' hm _
    exact ⟨rfl, hm.below (Vw.le.refl _)⟩
  ·
    refine c_skip ?_
    refine x_then ?_
    refine c_seq ?_
    simp only [Bool.or_eq_false_iff, decide_eq_false_iff_not] at h
    have hlim : l.length ≤ lim := by unfold lim; omega
    have h1 : lo ≤ m := by omega
    have h2 : m < hi := by omega
    refine c_heldM (σ := Unit) (fun _ => [(3, .a (.v v3)), (4, .a (.v (I key))), (5, .a (.v (I8 mode))), (6, .a (.ptr 0 0)), (7, .a (.ptr 1 0)), (13, .a (.ptr 2 0)), (14, .a (.ptr 3 0))]) (fun _ => [(0, .lit [.v (I lo), .v (I hi)] 23), (1, .lit [.v (I lo'), .v (I hi')] 23), (2, .lit [.v (I lo), .v (I m)] 23), (3, .lit [.v (I (IntKind.i64.wrap (m + 1))), .v (I hi)] 23)]) (4) (fun _ => vw w) (fun _ => True) mixed ?_ ?_
    ·
      refine t_take 0 rfl (by kernel_rfl) rfl rfl rfl (y_val tok rfl) rfl ?_
      refine t_take 1 rfl (by kernel_rfl) rfl rfl rfl (y_val tok rfl) rfl ?_
      refine t_take 2 rfl (by kernel_rfl) rfl rfl rfl (y_val tok rfl) rfl ?_
      refine t_take 3 rfl (by kernel_rfl) rfl rfl rfl (y_val tok rfl) rfl ?_
      refine t_take 4 rfl (by kernel_rfl) rfl rfl rfl (y_val tok rfl) rfl ?_
      refine t_take 5 rfl (by kernel_rfl) rfl rfl rfl (y_val tok rfl) rfl ?_
      refine t_take 6 rfl (by kernel_rfl) rfl rfl rfl (y_val tok rfl) rfl ?_
      refine t_take 7 rfl (by kernel_rfl) rfl rfl rfl (y_val tok rfl) rfl ?_
      refine t_take 8 rfl (by kernel_rfl) rfl rfl rfl (y_val tok rfl) rfl ?_
      refine t_go ?_
      refine h_two 9 10 (by kernel_rfl) ?_ ?_
      ·
        refine h_new 9 tok rfl rfl rfl rfl rfl rfl ?_
        refine h_one 10 (by kernel_rfl) ?_
        refine h_new 10 tok rfl rfl rfl rfl rfl rfl ?_
        refine h_one 11 (by kernel_rfl) ?_
        refine h_store 11 tok rfl rfl rfl rfl (by simp [onesP, oneP, lk, Value.oneCell']) (.inr ⟨(by repeat (first | exact SubO.nil | refine SubO.cons rfl ?_)), rfl, Vw.le.refl _⟩) ?_
        refine h_one 12 (by kernel_rfl) ?_
        refine h_store 12 tok rfl rfl rfl rfl (by simp [onesP, oneP, lk, Value.oneCell']) (.inr ⟨(by repeat (first | exact SubO.nil | refine SubO.cons rfl ?_)), rfl, Vw.le.refl _⟩) ?_
        refine h_done [3, 4, 5, 6, 7, 13, 14] (by kernel_rfl) rfl ?_
        exact x_meet () trivial (by repeat (first | exact SubF.nil | refine SubF.cons rfl ?_)) (by repeat (first | exact SubO.nil | refine SubO.cons rfl ?_)) rfl (Vw.le.refl _)
      ·
        refine h_new 10 tok rfl rfl rfl rfl rfl rfl ?_
        refine h_one 9 (by kernel_rfl) ?_
        refine h_new 9 tok rfl rfl rfl rfl rfl rfl ?_
        refine h_one 11 (by kernel_rfl) ?_
        refine h_store 11 tok rfl rfl rfl rfl (by simp [onesP, oneP, lk, Value.oneCell']) (.inr ⟨(by repeat (first | exact SubO.nil | refine SubO.cons rfl ?_)), rfl, Vw.le.refl _⟩) ?_
        refine h_one 12 (by kernel_rfl) ?_
        refine h_store 12 tok rfl rfl rfl rfl (by simp [onesP, oneP, lk, Value.oneCell']) (.inr ⟨(by repeat (first | exact SubO.nil | refine SubO.cons rfl ?_)), rfl, Vw.le.refl _⟩) ?_
        refine h_done [3, 4, 5, 6, 7, 13, 14] (by kernel_rfl) rfl ?_
        refine k_swap 2 3 rfl ?_
        exact x_meet () trivial (by repeat (first | exact SubF.nil | refine SubF.cons rfl ?_)) (by repeat (first | exact SubO.nil | refine SubO.cons rfl ?_)) rfl (Vw.le.refl _)
    rintro ⟨⟩ -
    refine x_then ?_
    refine c_seq ?_
    refine c_seq ?_
    refine c_draw mixed (by kernel_rfl) ?_
    refine d_yield rfl rfl rfl (y_val tok rfl) rfl ?_
    refine d_yield rfl rfl rfl (y_val tok rfl) rfl ?_
    rw [wrapI (by omega) (by omega)]
    refine d_call (.a (.v _)) rfl rfl fnok9 rfl rfl rfl (fun hg E w1 hm => by exact overlap_c _ _ _ _ _) ?_
    refine d_yield rfl rfl rfl (y_val tok rfl) rfl ?_
    refine d_yield rfl rfl rfl (y_val tok rfl) rfl ?_
    refine d_yield rfl rfl rfl (y_val tok rfl) rfl ?_
    refine d_call (.a (.v _)) rfl rfl fnok9 rfl rfl rfl (fun hg E w1 hm => by exact overlap_c _ _ _ _ _) ?_
    refine d_yield rfl rfl rfl (y_val tok rfl) rfl ?_
    refine d_yield rfl rfl rfl (y_val tok rfl) rfl ?_
    refine d_call (.a (.v _)) rfl rfl fnok9 rfl rfl rfl (fun hg E w1 hm => by exact overlap_c _ _ _ _ _) ?_
    refine d_yield rfl rfl rfl (y_val tok rfl) rfl ?_
    refine d_yield rfl rfl rfl (y_val tok rfl) rfl ?_
    refine d_yield rfl rfl rfl (y_val tok rfl) rfl ?_
    refine d_call (.a (.v _)) rfl rfl fnok9 rfl rfl rfl (fun hg E w1 hm => by exact overlap_c _ _ _ _ _) ?_
    refine d_yield rfl rfl rfl (y_val tok rfl) rfl ?_
    refine d_yield rfl rfl rfl (y_val tok rfl) rfl ?_
    refine d_yield rfl rfl rfl (y_val tok rfl) rfl ?_
    refine d_end [3, 4, 5, 6, 13, 14, 66] rfl ?_
    refine x_then ?_
    refine c_cond rfl (fun h => ?_) (fun h => ?_)
    ·
      refine c_seq ?_
      refine c_region ?_
      refine o_yield rfl rfl rfl (y_val tok rfl) ?_
      refine o_end [12] rfl ?_
      refine x_then ?_
      refine c_ret ?_
      refine x_then_ret ?_
      refine b_ret tok rfl ?_
      exfalso
      revert h
      rw [meets_apart h1 h2, meets_parts h1 h2]
      simp
    ·
      refine c_skip ?_
      refine x_then ?_
      refine c_seq ?_
      refine c_draw mixed (by kernel_rfl) ?_
      refine d_yield rfl rfl rfl (y_val tok rfl) rfl ?_
      refine d_yield rfl rfl rfl (y_val tok rfl) rfl ?_
      refine d_yield rfl rfl rfl (y_val tok rfl) rfl ?_
      refine d_call (.a (.v _)) rfl rfl fnok12 rfl rfl rfl (fun hg E w1 hm => by exact touches_c (vw w) _ l _ _ _ _ hm.leV hs hlim) ?_
      refine d_yield rfl rfl rfl (y_val tok rfl) rfl ?_
      refine d_yield rfl rfl rfl (y_val tok rfl) rfl ?_
      refine d_yield rfl rfl rfl (y_val tok rfl) rfl ?_
      refine d_call (.a (.v _)) rfl rfl fnok12 rfl rfl rfl (fun hg E w1 hm => by exact touches_c (vw w) _ l _ _ _ _ hm.leV hs hlim) ?_
      refine d_yield rfl rfl rfl (y_val tok rfl) rfl ?_
      refine d_yield rfl rfl rfl (y_val tok rfl) rfl ?_
      refine d_yield rfl rfl rfl (y_val tok rfl) rfl ?_
      refine d_yield rfl rfl rfl (y_val tok rfl) rfl ?_
      refine d_call (.a (.v _)) rfl rfl fnok12 rfl rfl rfl (fun hg E w1 hm => by exact touches_c (vw w) _ l _ _ _ _ hm.leV hs hlim) ?_
      refine d_yield rfl rfl rfl (y_val tok rfl) rfl ?_
      refine d_yield rfl rfl rfl (y_val tok rfl) rfl ?_
      refine d_yield rfl rfl rfl (y_val tok rfl) rfl ?_
      refine d_yield rfl rfl rfl (y_val tok rfl) rfl ?_
      refine d_yield rfl rfl rfl (y_val tok rfl) rfl ?_
      refine d_yield rfl rfl rfl (y_val tok rfl) rfl ?_
      refine d_yield rfl rfl rfl (y_val tok rfl) rfl ?_
      refine d_yield rfl rfl rfl (y_val tok rfl) rfl ?_
      refine d_call (.a (.v _)) rfl rfl fnok13 rfl rfl rfl (fun hg E w1 hm => by exact fits_c (vw w) ⟨key, lo, hi, mode⟩ _ l _ hm.leV hs hlim) ?_
      refine d_yield rfl rfl rfl (y_val tok rfl) rfl ?_
      refine d_yield rfl rfl rfl (y_val tok rfl) rfl ?_
      refine d_yield rfl rfl rfl (y_val tok rfl) rfl ?_
      refine d_yield rfl rfl rfl (y_val tok rfl) rfl ?_
      refine d_yield rfl rfl rfl (y_val tok rfl) rfl ?_
      refine d_call (.a (.v _)) rfl rfl fnok13 rfl rfl rfl (fun hg E w1 hm => by exact fits_c (vw w) ⟨key, lo, m, mode⟩ _ l _ hm.leV hs hlim) ?_
      refine d_yield rfl rfl rfl (y_val tok rfl) rfl ?_
      refine d_yield rfl rfl rfl (y_val tok rfl) rfl ?_
      refine d_yield rfl rfl rfl (y_val tok rfl) rfl ?_
      refine d_yield rfl rfl rfl (y_val tok rfl) rfl ?_
      refine d_yield rfl rfl rfl (y_val tok rfl) rfl ?_
      refine d_yield rfl rfl rfl (y_val tok rfl) rfl ?_
      refine d_call (.a (.v _)) rfl rfl fnok13 rfl rfl rfl (fun hg E w1 hm => by exact fits_c (vw w) ⟨key, m + 1, hi, mode⟩ _ l _ hm.leV hs hlim) ?_
      refine d_yield rfl rfl rfl (y_val tok rfl) rfl ?_
      refine d_yield rfl rfl rfl (y_val tok rfl) rfl ?_
      refine d_yield rfl rfl rfl (y_val tok rfl) rfl ?_
      refine d_yield rfl rfl rfl (y_val tok rfl) rfl ?_
      refine d_call (.a (.v _)) rfl rfl fnok8 rfl rfl rfl (fun hg E w1 hm => by exact wakes_c _) ?_
      refine d_yield rfl rfl rfl (y_val tok rfl) rfl ?_
      refine d_yield rfl rfl rfl (y_val tok rfl) rfl ?_
      refine d_end [12] rfl ?_
      refine x_then ?_
      refine c_ret ?_
      refine b_ret tok rfl ?_
      intro E w' hm _
      refine ⟨?_, hm.below (Vw.le.refl _)⟩
      show Ending.returned (.bool (((touches l key lo hi == (touches l key lo m || touches l key (m + 1) hi)) && (fits ⟨key, lo, hi, mode⟩ l == (fits ⟨key, lo, m, mode⟩ l && fits ⟨key, m + 1, hi, mode⟩ l))) && true)) = _
      rw [touches_parts l key h1 h2, fits_parts l key mode h1 h2]
      simp
end Go.Proofs.Ytjddnkjeilmejaa
