/- Spans: the law SpanAll from what comes in. -/
import Derived.Test.YtjddnkjeilmejaaSp6
set_option linter.unusedVariables false
set_option linter.unusedSimpArgs false
set_option maxRecDepth 100000
namespace Go.Proofs.Ytjddnkjeilmejaa
open Go Go.Eng Go.RowKit

theorem allFrom_iff (l : List Hold) : ∀ (r : List Hold) (i : Nat), l.drop i = r → (allFrom l i r = true ↔ ∀ j x, i ≤ j → l[j]? = some x → fits x (l.take j) = true)
  | [], i, hd => by
    have : l.length ≤ i := by simpa using hd
    simp only [allFrom, true_iff]
    intro j x hj hx
    have := (List.getElem?_eq_some_iff.1 hx).1
    omega
  | y :: r, i, hd => by
    have hlt : i < l.length := by
      rcases Nat.lt_or_ge i l.length with h | h
      · exact h
      · rw [List.drop_eq_nil_of_le h] at hd; cases hd
    have hy : l[i]? = some y := by
      have := congrArg (fun q : List Hold => q[0]?) hd
      simpa using this
    have hr : l.drop (i + 1) = r := by
      have := congrArg List.tail hd
      simpa using this
    have ih := allFrom_iff l r (i + 1) hr
    simp only [allFrom, Bool.and_eq_true, ih]
    constructor
    · rintro ⟨h1, h2⟩ j x hj hx
      by_cases e : j = i
      · subst e; rw [hy] at hx; cases hx; exact h1
      · exact h2 j x (by omega) hx
    · intro h
      exact ⟨h i y (Nat.le_refl _) hy, fun j x hj hx => h j x (by omega) hx⟩

theorem allB_iff (l : List Hold) : allB l = true ↔ ∀ j x, l[j]? = some x → fits x (l.take j) = true := by
  rw [allB, allFrom_iff l l 0 rfl]
  exact ⟨fun h j x hx => h j x (Nat.zero_le _) hx, fun h j x _ hx => h j x hx⟩

theorem allB_two {l : List Hold} (h : allB l = true) {i j : Nat} {x y : Hold} (hx : l[i]? = some x) (hy : l[j]? = some y) : together x y = true := by
  rw [allB_iff] at h
  have key : ∀ {i j : Nat} {x y : Hold}, i < j → l[i]? = some x → l[j]? = some y → together y x = true := by
    intro i j x y hij hx hy
    have := h j y hy
    rw [fits, List.all_eq_true] at this
    exact this x (List.mem_of_getElem? (by rw [List.getElem?_take_of_lt hij]; exact hx))
  rcases Nat.lt_trichotomy i j with hij | hij | hij
  · rw [together_comm]; exact key hij hx hy
  · subst hij
    rw [hx] at hy
    cases hy
    simp [together]
  · exact key hij hy hx

theorem fits_own {l : List Hold} (h : allB l = true) {i : Nat} {x : Hold} (hx : l[i]? = some x) : fits x l = true := by
  rw [fits, List.all_eq_true]
  intro y hy
  obtain ⟨j, hj⟩ := List.getElem?_of_mem hy
  exact allB_two h hx hj

theorem covers_apart {l : List Hold} (h : allB l = true) {a b block : Int} (hab : a ≠ b) (h1 : covers l a block 2 = true) (h2 : covers l b block 1 = true) : False := by
  simp only [covers, List.any_eq_true, coversAt, Bool.and_eq_true, Bool.or_eq_true, beq_iff_eq] at h1 h2
  obtain ⟨x, hx, ⟨hxa, hxb⟩, hxm⟩ := h1
  obtain ⟨y, hy, ⟨hya, hyb⟩, hym⟩ := h2
  obtain ⟨i, hi⟩ := List.getElem?_of_mem hx
  obtain ⟨j, hj⟩ := List.getElem?_of_mem hy
  have ht := allB_two h hi hj
  have hm : meets x.lo x.hi y.lo y.hi = true := by
    simp only [hasB, Bool.and_eq_true, decide_eq_true_eq] at hxb hyb
    simp only [meets, hasB]
    simp
    omega
  simp only [together, hm, Bool.not_true, Bool.or_false, Bool.or_eq_true, beq_iff_eq, Bool.and_eq_true] at ht
  omega

theorem allB_more (l : List Hold) (x : Hold) (h : allB l = true) : allB (l ++ [x]) = fits x l := by
  rw [Bool.eq_iff_iff, allB_iff]
  rw [allB_iff] at h
  constructor
  · intro h1
    have := h1 l.length x (by simp)
    simpa using this
  · intro h1 j y hy
    rcases Nat.lt_or_ge j l.length with hj | hj
    · rw [List.getElem?_append_left hj] at hy
      rw [List.take_append_of_le_length (by omega)]
      exact h j y hy
    · rw [List.getElem?_append_right hj] at hy
      have : j = l.length := by
        have := (List.getElem?_eq_some_iff.1 hy).1
        simp at this; omega
      subst this
      simp at hy
      subst hy
      simpa using h1

theorem hold_ones (l : List Hold) : ∀ u ∈ l.flatMap Hold.cells, u.oneCell' = true := by
  intro u hu
  obtain ⟨x, _, hx⟩ := List.mem_flatMap.1 hu
  simp only [Hold.cells, List.mem_cons, List.not_mem_nil, or_false] at hx
  rcases hx with rfl | rfl | rfl | rfl <;> rfl

theorem spanAll_law (w : World) {v0 v1 v2 v3 : Value} (R0 : ∃ g : Geo, v0 = g.val) (R1 : ∃ l : List Hold, SlOf (vw w) Hold.cells 4 v1 l ∧ l.length ≤ maxLen) (R2 : ∃ a : Hold, v2 = a.val)
    (R3 : ∃ n : Int, v3 = I n ∧ -9223372036854775808 ≤ n ∧ n ≤ 9223372036854775807) :
    Calls Try.prog 6 #[v0, v1, v2, v3] w fun e w' => e = .returned (.bool true) ∧ Below w.heap.size w w' := by
  obtain ⟨g, rfl⟩ := R0
  obtain ⟨l, hs, _⟩ := R1
  obtain ⟨x, rfl⟩ := R2
  obtain ⟨block, rfl, _⟩ := R3
  refine enter (E := E0) (O := []) (nl := 0) (V := vw w) [.a (.v g.val), .a (.v v1), .a (.v x.val), .a (.v (I block))] Try.func6 rfl rfl (mem0 E0 0 w) rfl rfl ?_
  refine c_seq ?_
  refine c_region ?_
  refine o_new tok rfl rfl rfl rfl ?_
  refine o_new tok rfl rfl rfl rfl ?_
  refine o_yield rfl rfl rfl (y_val tok rfl) ?_
  refine o_end [1, 3, 4, 6] rfl ?_
  refine x_then ?_
  refine c_seq ?_
  refine c_seq ?_
  refine c_region ?_
  refine o_yield rfl rfl rfl (y_val tok rfl) ?_
  refine o_yield rfl rfl rfl (y_len tok rfl (fun hg => hs.sl)) ?_
  refine o_yield rfl rfl rfl (y_val tok rfl) ?_
  refine o_end [1, 3, 4, 6, 17] rfl ?_
  refine x_then ?_
  refine c_cond rfl (fun h => ?_) (fun h => ?_)
  ·
    refine c_seq ?_
    refine c_region ?_
    refine o_call (.a (.v _)) rfl rfl fnok8 rfl rfl rfl (fun hg E w1 hm => by exact wakes_c _) ?_
    refine o_yield rfl rfl rfl (y_val tok rfl) ?_
    refine o_end [8] rfl ?_
    refine x_then ?_
    refine c_ret ?_
    refine x_then_ret ?_
    refine b_ret tok rfl ?_
    intro E w' hm _
    exact ⟨rfl, hm.below (Vw.le.refl _)⟩
  ·
    refine c_skip ?_
    refine x_then ?_
    refine c_seq ?_
    refine c_seq ?_
    refine c_region ?_
    refine o_yield rfl rfl rfl (y_val tok rfl) ?_
    refine o_end [1, 3, 4, 6, 9] rfl ?_
    refine x_then ?_
    refine c_block ?_
    have hlen : l.length ≤ 40 := by simp at h; omega
    have hlim : l.length ≤ lim := by unfold lim; omega
    clear h
    refine c_loop (σ := Nat) (fun k => [(1, .a (.v v1)), (3, .a (.v (I block))), (4, .a (.ptr 0 0)), (6, .a (.ptr 1 0)), (9, .a (.v (I k)))])
      (fun _ => [(0, .lit [.v (I g.nodes), .v (I g.slots), .v (I g.blocks), .v (I g.per), .v (I g.journal), .v (I g.log), .v (I g.lease), .v (I g.wait)] 38), (1, .lit (x.cells.map .v) 26)]) 2 (fun _ => vw w)
      (fun k => k ≤ l.length) (fun k => l.length - k) 0 (by omega) ⟨rfl, rfl, rfl, rfl, rfl, trivial⟩ ⟨rfl, rfl, trivial⟩ rfl (Vw.le.refl _) ?_
    rintro k hk
    refine c_seq ?_
    refine c_seq ?_
    refine c_region ?_
    refine o_yield rfl rfl rfl (y_val tok rfl) ?_
    refine o_yield rfl rfl rfl (y_val tok rfl) ?_
    refine o_yield rfl rfl rfl (y_len tok rfl (fun hg => hs.sl)) ?_
    refine o_yield rfl rfl rfl (y_val tok rfl) ?_
    refine o_end [1, 3, 4, 6, 9, 22] rfl ?_
    refine x_then ?_
    refine c_cond rfl (fun h => ?_) (fun h => ?_)
    ·
      refine c_skip ?_
      refine x_then ?_
      refine c_seq ?_
      refine c_block ?_
      refine c_seq ?_
      refine c_draw mixed (by kernel_rfl) ?_
      refine d_yield rfl rfl rfl (y_val tok rfl) rfl ?_
      refine d_yield rfl rfl rfl (y_val tok rfl) rfl ?_
      refine d_yield rfl rfl rfl (y_val tok rfl) rfl ?_
      have hlt : k < l.length := by simp at h; omega
      have hx : l[k]? = some l[k] := by simp [hlt]
      refine d_yield rfl rfl rfl (y_idx tok rfl (fun hg => hs.sl) (fun hg => ⟨by omega, by omega⟩)) rfl ?_
      refine d_yield rfl rfl rfl (y_lel tok (k) 0 (l[k]) rfl (fun hg => hs) (fun hg => hx) rfl rfl) rfl ?_
      refine d_call (.a (.v _)) rfl rfl fnok14 rfl rfl rfl (fun hg E w1 hm => by exact rhold_c g l[k] _) ?_
      refine d_yield rfl rfl rfl (y_val tok rfl) rfl ?_
      refine d_end [1, 3, 4, 6, 9, 31] rfl ?_
      refine x_then ?_
      refine c_cond rfl (fun h => ?_) (fun h => ?_)
      ·
        refine c_seq ?_
        refine c_region ?_
        refine o_call (.a (.v _)) rfl rfl fnok8 rfl rfl rfl (fun hg E w1 hm => by exact wakes_c _) ?_
        refine o_yield rfl rfl rfl (y_val tok rfl) ?_
        refine o_end [8] rfl ?_
        refine x_then ?_
        refine c_ret ?_
        refine x_block_ret ?_
        refine x_then_ret ?_
        refine x_then_ret ?_
        refine x_block_ret ?_
        refine x_then_ret ?_
        refine b_ret tok rfl ?_
        intro E w' hm _
        exact ⟨rfl, hm.below (Vw.le.refl _)⟩
      ·
        refine c_skip ?_
        refine x_block ?_
        refine x_then ?_
        refine c_region ?_
        refine o_yield rfl rfl rfl (y_val tok rfl) ?_
        refine o_yield rfl rfl rfl (y_val tok rfl) ?_
        refine o_yield rfl rfl rfl (y_val tok rfl) ?_
        refine o_end [1, 3, 4, 6, 9] rfl ?_
        refine x_then ?_
        rw [wrapI (by omega) (by omega)]
        exact x_round (k + 1) (by omega) (by omega) ⟨rfl, rfl, rfl, rfl, rfl, trivial⟩ ⟨rfl, rfl, trivial⟩ rfl (Vw.le.refl _)
    ·
      refine c_exit ?_
      refine x_then_exit ?_
      refine x_then_exit ?_
      refine x_block_hit ?_
      refine x_then ?_
      refine c_seq ?_
      refine c_seq ?_
      refine c_region ?_
      refine o_yield rfl rfl rfl (y_val tok rfl) ?_
      refine o_call (.a (.v _)) rfl rfl fnok15 rfl rfl rfl (fun hg E w1 hm => by exact all_c (vw w) _ l _ hm.leV hs hlim) ?_
      refine o_yield rfl rfl rfl (y_val tok rfl) ?_
      refine o_end [1, 3, 6, 35] rfl ?_
      refine x_then ?_
      refine c_cond rfl (fun h => ?_) (fun h => ?_)
      ·
        refine c_seq ?_
        refine c_region ?_
        refine o_call (.a (.v _)) rfl rfl fnok8 rfl rfl rfl (fun hg E w1 hm => by exact wakes_c _) ?_
        refine o_yield rfl rfl rfl (y_val tok rfl) ?_
        refine o_end [8] rfl ?_
        refine x_then ?_
        refine c_ret ?_
        refine x_then_ret ?_
        refine b_ret tok rfl ?_
        intro E w' hm _
        exact ⟨rfl, hm.below (Vw.le.refl _)⟩
      ·
        refine c_skip ?_
        refine x_then ?_
        refine c_seq ?_
        refine c_seq ?_
        refine c_region ?_
        refine o_yield rfl rfl rfl (y_val tok rfl) ?_
        refine o_end [1, 3, 6, 10] rfl ?_
        refine x_then ?_
        refine c_block ?_
        have hall : allB l = true := by simpa using h
        refine c_loop (σ := Nat) (fun k => [(1, .a (.v v1)), (3, .a (.v (I block))), (6, .a (.ptr 1 0)), (10, .a (.v (I k)))])
          (fun _ => [(1, .lit (x.cells.map .v) 26)]) 2 (fun _ => vw w)
          (fun k => k ≤ l.length) (fun k => l.length - k) 0 (by omega) ⟨rfl, rfl, rfl, rfl, trivial⟩ ⟨rfl, trivial⟩ rfl (Vw.le.refl _) ?_
        rintro k hk
        refine c_seq ?_
        refine c_seq ?_
        refine c_region ?_
        refine o_yield rfl rfl rfl (y_val tok rfl) ?_
        refine o_yield rfl rfl rfl (y_val tok rfl) ?_
        refine o_yield rfl rfl rfl (y_len tok rfl (fun hg => hs.sl)) ?_
        refine o_yield rfl rfl rfl (y_val tok rfl) ?_
        refine o_end [1, 3, 6, 10, 40] rfl ?_
        refine x_then ?_
        refine c_cond rfl (fun h => ?_) (fun h => ?_)
        ·
          refine c_skip ?_
          refine x_then ?_
          refine c_seq ?_
          refine c_block ?_
          refine c_seq ?_
          refine c_seq ?_
          refine c_region ?_
          refine o_yield rfl rfl rfl (y_val tok rfl) ?_
          refine o_end [1, 3, 6, 10, 11] rfl ?_
          refine x_then ?_
          refine c_block ?_
          have hlt : k < l.length := by simp at h; omega
          have hx : l[k]? = some l[k] := by simp [hlt]
          refine c_loop (σ := Nat) (fun m => [(1, .a (.v v1)), (3, .a (.v (I block))), (6, .a (.ptr 1 0)), (10, .a (.v (I k))), (11, .a (.v (I m)))])
            (fun _ => [(1, .lit (x.cells.map .v) 26)]) 2 (fun _ => vw w)
            (fun m => m ≤ l.length) (fun m => l.length - m) 0 (by omega) ⟨rfl, rfl, rfl, rfl, rfl, trivial⟩ ⟨rfl, trivial⟩ rfl (Vw.le.refl _) ?_
          rintro m hm
          refine c_seq ?_
          refine c_seq ?_
          refine c_region ?_
          refine o_yield rfl rfl rfl (y_val tok rfl) ?_
          refine o_yield rfl rfl rfl (y_val tok rfl) ?_
          refine o_yield rfl rfl rfl (y_len tok rfl (fun hg => hs.sl)) ?_
          refine o_yield rfl rfl rfl (y_val tok rfl) ?_
          refine o_end [1, 3, 6, 10, 11, 46] rfl ?_
          refine x_then ?_
          refine c_cond rfl (fun h => ?_) (fun h => ?_)
          ·
            refine c_skip ?_
            refine x_then ?_
            refine c_seq ?_
            refine c_block ?_
            refine c_seq ?_
            refine c_draw mixed (by kernel_rfl) ?_
            refine d_yield rfl rfl rfl (y_val tok rfl) rfl ?_
            refine d_yield rfl rfl rfl (y_val tok rfl) rfl ?_
            have hmlt : m < l.length := by simp at h; omega
            have hy : l[m]? = some l[m] := by simp [hmlt]
            refine d_yield rfl rfl rfl (y_idx tok rfl (fun hg => hs.sl) (fun hg => ⟨by omega, by omega⟩)) rfl ?_
            refine d_yield rfl rfl rfl (y_fel tok rfl (fun hg => hs.sl) (fun hg => by omega)) rfl ?_
            refine d_yield rfl rfl rfl (y_lel tok (k) 0 (l[k]) rfl (fun hg => hs) (fun hg => hx) rfl rfl) rfl ?_
            refine d_yield rfl rfl rfl (y_val tok rfl) rfl ?_
            refine d_yield rfl rfl rfl (y_val tok rfl) rfl ?_
            refine d_yield rfl rfl rfl (y_idx tok rfl (fun hg => hs.sl) (fun hg => ⟨by omega, by omega⟩)) rfl ?_
            refine d_yield rfl rfl rfl (y_fel tok rfl (fun hg => hs.sl) (fun hg => by omega)) rfl ?_
            refine d_yield rfl rfl rfl (y_lel tok (m) 0 (l[m]) rfl (fun hg => hs) (fun hg => hy) rfl rfl) rfl ?_
            refine d_yield rfl rfl rfl (y_val tok rfl) rfl ?_
            refine d_yield rfl rfl rfl (y_val tok rfl) rfl ?_
            refine d_end [1, 3, 6, 10, 11, 12, 13] rfl ?_
            refine x_then ?_
            refine c_seq ?_
            refine c_region ?_
            refine o_yield rfl rfl rfl (y_val tok rfl) ?_
            refine o_yield rfl rfl rfl (y_val tok rfl) ?_
            refine o_yield rfl rfl rfl (y_val tok rfl) ?_
            refine o_yield rfl rfl rfl (y_val tok rfl) ?_
            refine o_yield rfl rfl rfl (y_val tok rfl) ?_
            refine o_yield rfl rfl rfl (y_val tok rfl) ?_
            refine o_yield rfl rfl rfl (y_val tok rfl) ?_
            refine o_call (.a (.v _)) rfl rfl fnok11 rfl rfl rfl (fun hg E w1 hm => by exact covers_c (vw w) _ l _ _ _ _ hm.leV hs hlim) ?_
            refine o_yield rfl rfl rfl (y_val tok rfl) ?_
            refine o_yield rfl rfl rfl (y_val tok rfl) ?_
            refine o_yield rfl rfl rfl (y_val tok rfl) ?_
            refine o_yield rfl rfl rfl (y_val tok rfl) ?_
            refine o_yield rfl rfl rfl (y_val tok rfl) ?_
            refine o_call (.a (.v _)) rfl rfl fnok11 rfl rfl rfl (fun hg E w1 hm => by exact covers_c (vw w) _ l _ _ _ _ hm.leV hs hlim) ?_
            refine o_yield rfl rfl rfl (y_val tok rfl) ?_
            refine o_end [1, 3, 6, 10, 11, 73] rfl ?_
            refine x_then ?_
            refine c_cond rfl (fun h => ?_) (fun h => ?_)
            ·
              refine c_seq ?_
              refine c_region ?_
              refine o_yield rfl rfl rfl (y_val tok rfl) ?_
              refine o_end [8] rfl ?_
              refine x_then ?_
              refine c_ret ?_
              refine x_block_ret ?_
              refine x_then_ret ?_
              refine x_then_ret ?_
              refine x_block_ret ?_
              refine x_then_ret ?_
              refine x_block_ret ?_
              refine x_then_ret ?_
              refine x_then_ret ?_
              refine x_block_ret ?_
              refine x_then_ret ?_
              refine b_ret tok rfl ?_
              exfalso
              simp only [Bool.and_eq_true, bne_iff_ne, ne_eq] at h
              exact covers_apart hall h.1.1 h.1.2 h.2
            ·
              refine c_skip ?_
              refine x_block ?_
              refine x_then ?_
              refine c_region ?_
              refine o_yield rfl rfl rfl (y_val tok rfl) ?_
              refine o_yield rfl rfl rfl (y_val tok rfl) ?_
              refine o_yield rfl rfl rfl (y_val tok rfl) ?_
              refine o_end [1, 3, 6, 10, 11] rfl ?_
              refine x_then ?_
              rw [wrapI (by omega) (by omega)]
              exact x_round (m + 1) (by omega) (by omega) ⟨rfl, rfl, rfl, rfl, rfl, trivial⟩ ⟨rfl, trivial⟩ rfl (Vw.le.refl _)
          ·
            refine c_exit ?_
            refine x_then_exit ?_
            refine x_then_exit ?_
            refine x_block_hit ?_
            refine x_then ?_
            refine c_seq ?_
            refine c_region ?_
            refine o_yield rfl rfl rfl (y_val tok rfl) ?_
            refine o_yield rfl rfl rfl (y_val tok rfl) ?_
            refine o_yield rfl rfl rfl (y_idx tok rfl (fun hg => hs.sl) (fun hg => ⟨by omega, by omega⟩)) ?_
            refine o_yield rfl rfl rfl (y_lel tok (k) 0 (l[k]) rfl (fun hg => hs) (fun hg => hx) rfl rfl) ?_
            refine o_yield rfl rfl rfl (y_val tok rfl) ?_
            refine o_call (.a (.v _)) rfl rfl fnok13 rfl rfl rfl (fun hg E w1 hm => by exact fits_c (vw w) l[k] _ l _ hm.leV hs hlim) ?_
            refine o_yield rfl rfl rfl (y_val tok rfl) ?_
            refine o_end [1, 3, 6, 10, 80] rfl ?_
            refine x_then ?_
            refine c_cond rfl (fun h => ?_) (fun h => ?_)
            ·
              refine c_seq ?_
              refine c_region ?_
              refine o_yield rfl rfl rfl (y_val tok rfl) ?_
              refine o_end [8] rfl ?_
              refine x_then ?_
              refine c_ret ?_
              refine x_block_ret ?_
              refine x_then_ret ?_
              refine x_then_ret ?_
              refine x_block_ret ?_
              refine x_then_ret ?_
              refine b_ret tok rfl ?_
              exfalso
              rw [fits_own hall hx] at h
              simp at h
            ·
              refine c_skip ?_
              refine x_block ?_
              refine x_then ?_
              refine c_region ?_
              refine o_yield rfl rfl rfl (y_val tok rfl) ?_
              refine o_yield rfl rfl rfl (y_val tok rfl) ?_
              refine o_yield rfl rfl rfl (y_val tok rfl) ?_
              refine o_end [1, 3, 6, 10] rfl ?_
              refine x_then ?_
              rw [wrapI (by omega) (by omega)]
              exact x_round (k + 1) (by omega) (by omega) ⟨rfl, rfl, rfl, rfl, trivial⟩ ⟨rfl, trivial⟩ rfl (Vw.le.refl _)
        ·
          refine c_exit ?_
          refine x_then_exit ?_
          refine x_then_exit ?_
          refine x_block_hit ?_
          refine x_then ?_
          refine c_seq ?_
          refine c_heldM (σ := Unit) (fun _ => [(1, .a (.v v1)), (6, .a (.ptr 1 0)), (14, .a (.row 5))]) (fun _ => [(1, .lit (x.cells.map .v) 26), (5, .row 26 4 (0 + l.length + 1) ([] ++ l.flatMap Hold.cells ++ x.cells))]) (6) (fun _ => vw w) (fun _ => True) mixed ?_ ?_
          ·
            refine t_take 1 rfl (by kernel_rfl) rfl rfl rfl (y_val tok rfl) rfl ?_
            refine t_take 3 rfl (by kernel_rfl) rfl rfl rfl (y_val tok rfl) rfl ?_
            refine t_go ?_
            refine h_two 0 4 (by kernel_rfl) ?_ ?_
            ·
              refine h_to 0 rfl rfl rfl rfl rfl rfl (s_bs tok 4 rfl rfl rfl) (.inr fun _ _ => ⟨(by repeat (first | exact SubO.nil | refine SubO.cons rfl ?_)), rfl, Vw.le.refl _⟩) (fun _ _ => ?_)
              refine h_two 2 4 (by kernel_rfl) ?_ ?_
              ·
                refine h_to 2 rfl rfl rfl rfl rfl rfl (s_app tok (l.flatMap Hold.cells) rfl (fun E w hm => hs.sl.src hm.get) (fun _ _ _ => hold_ones l) (by dsimp only; omega)) (.inr fun _ _ => ⟨(by repeat (first | exact SubO.nil | refine SubO.cons rfl ?_)), rfl, Vw.le.refl _⟩) (fun _ _ => ?_)
                refine h_one 4 (by kernel_rfl) ?_
                refine h_to 4 rfl rfl rfl rfl rfl rfl (s_bs tok 4 rfl rfl rfl) (.inr fun _ _ => ⟨(by repeat (first | exact SubO.nil | refine SubO.cons rfl ?_)), rfl, Vw.le.refl _⟩) (fun _ _ => ?_)
                refine h_one 5 (by kernel_rfl) ?_
                refine h_to 5 rfl rfl rfl rfl rfl rfl (s_app tok x.cells rfl (fun E w hm => ownsRow_src (hm.row _ _ _ _ _ rfl)) (fun _ _ _ => by simpa using hold_ones [x]) (by dsimp only; omega)) (.inr fun _ _ => ⟨(by repeat (first | exact SubO.nil | refine SubO.cons rfl ?_)), rfl, Vw.le.refl _⟩) (fun _ _ => ?_)
                refine h_one 6 (by kernel_rfl) ?_
                refine h_yield 6 rfl rfl rfl rfl (y_val tok rfl) ?_
                refine h_done [1, 6, 14] (by kernel_rfl) rfl ?_
                exact x_meet () trivial (by repeat (first | exact SubF.nil | refine SubF.cons rfl ?_)) (by repeat (first | exact SubO.nil | refine SubO.cons rfl ?_)) rfl (Vw.le.refl _)
              ·
                refine h_to 4 rfl rfl rfl rfl rfl rfl (s_bs tok 4 rfl rfl rfl) (.inr fun _ _ => ⟨(by repeat (first | exact SubO.nil | refine SubO.cons rfl ?_)), rfl, Vw.le.refl _⟩) (fun _ _ => ?_)
                refine h_one 2 (by kernel_rfl) ?_
                refine h_to 2 rfl rfl rfl rfl rfl rfl (s_app tok (l.flatMap Hold.cells) rfl (fun E w hm => hs.sl.src hm.get) (fun _ _ _ => hold_ones l) (by dsimp only; omega)) (.inr fun _ _ => ⟨(by repeat (first | exact SubO.nil | refine SubO.cons rfl ?_)), rfl, Vw.le.refl _⟩) (fun _ _ => ?_)
                refine h_one 5 (by kernel_rfl) ?_
                refine h_to 5 rfl rfl rfl rfl rfl rfl (s_app tok x.cells rfl (fun E w hm => ownsRow_src (hm.row _ _ _ _ _ rfl)) (fun _ _ _ => by simpa using hold_ones [x]) (by dsimp only; omega)) (.inr fun _ _ => ⟨(by repeat (first | exact SubO.nil | refine SubO.cons rfl ?_)), rfl, Vw.le.refl _⟩) (fun _ _ => ?_)
                refine h_one 6 (by kernel_rfl) ?_
                refine h_yield 6 rfl rfl rfl rfl (y_val tok rfl) ?_
                refine h_done [1, 6, 14] (by kernel_rfl) rfl ?_
                exact x_meet () trivial (by repeat (first | exact SubF.nil | refine SubF.cons rfl ?_)) (by repeat (first | exact SubO.nil | refine SubO.cons rfl ?_)) rfl (Vw.le.refl _)
            ·
              refine h_to 4 rfl rfl rfl rfl rfl rfl (s_bs tok 4 rfl rfl rfl) (.inr fun _ _ => ⟨(by repeat (first | exact SubO.nil | refine SubO.cons rfl ?_)), rfl, Vw.le.refl _⟩) (fun _ _ => ?_)
              refine h_one 0 (by kernel_rfl) ?_
              refine h_to 0 rfl rfl rfl rfl rfl rfl (s_bs tok 4 rfl rfl rfl) (.inr fun _ _ => ⟨(by repeat (first | exact SubO.nil | refine SubO.cons rfl ?_)), rfl, Vw.le.refl _⟩) (fun _ _ => ?_)
              refine h_one 2 (by kernel_rfl) ?_
              refine h_to 2 rfl rfl rfl rfl rfl rfl (s_app tok (l.flatMap Hold.cells) rfl (fun E w hm => hs.sl.src hm.get) (fun _ _ _ => hold_ones l) (by dsimp only; omega)) (.inr fun _ _ => ⟨(by repeat (first | exact SubO.nil | refine SubO.cons rfl ?_)), rfl, Vw.le.refl _⟩) (fun _ _ => ?_)
              refine h_one 5 (by kernel_rfl) ?_
              refine h_to 5 rfl rfl rfl rfl rfl rfl (s_app tok x.cells rfl (fun E w hm => ownsRow_src (hm.row _ _ _ _ _ rfl)) (fun _ _ _ => by simpa using hold_ones [x]) (by dsimp only; omega)) (.inr fun _ _ => ⟨(by repeat (first | exact SubO.nil | refine SubO.cons rfl ?_)), rfl, Vw.le.refl _⟩) (fun _ _ => ?_)
              refine h_one 6 (by kernel_rfl) ?_
              refine h_yield 6 rfl rfl rfl rfl (y_val tok rfl) ?_
              refine h_done [1, 6, 14] (by kernel_rfl) rfl ?_
              exact x_meet () trivial (by repeat (first | exact SubF.nil | refine SubF.cons rfl ?_)) (by repeat (first | exact SubO.nil | refine SubO.cons rfl ?_)) rfl (Vw.le.refl _)
          rintro ⟨⟩ -
          refine x_then ?_
          refine c_seq ?_
          refine c_region ?_
          refine o_yield rfl rfl rfl (y_val tok rfl) ?_
          refine o_yield rfl rfl rfl (y_val tok rfl) ?_
          refine k_freeze 5 rfl (fun v V' hle hsl _ => ?_)
          have hs' : SlOf V' Hold.cells 4 v (l ++ [x]) := ⟨by simpa using hsl, fun _ => rfl⟩
          have hlim' : (l ++ [x]).length ≤ lim := by simp [lim]; omega
          refine o_call (.a (.v _)) rfl rfl fnok13 rfl rfl rfl (fun hg E w1 hm => by exact fits_c (vw w) x _ l _ (hle.trans hm.leV) hs hlim) ?_
          refine o_yield rfl rfl rfl (y_val tok rfl) ?_
          refine o_call (.a (.v _)) rfl rfl fnok15 rfl rfl rfl (fun hg E w1 hm => by exact all_c V' _ (l ++ [x]) _ hm.leV hs' hlim') ?_
          refine o_yield rfl rfl rfl (y_val tok rfl) ?_
          refine o_yield rfl rfl rfl (y_val tok rfl) ?_
          refine o_call (.a (.v _)) rfl rfl fnok8 rfl rfl rfl (fun hg E w1 hm => by exact wakes_c _) ?_
          refine o_yield rfl rfl rfl (y_val tok rfl) ?_
          refine o_yield rfl rfl rfl (y_val tok rfl) ?_
          refine o_end [8] rfl ?_
          refine x_then ?_
          refine c_ret ?_
          refine b_ret tok rfl ?_
          intro E w' hm _
          refine ⟨?_, hm.below hle⟩
          show Ending.returned (.bool ((fits x l == allB (l ++ [x])) && true)) = _
          rw [allB_more l x hall]
          simp
end Go.Proofs.Ytjddnkjeilmejaa
