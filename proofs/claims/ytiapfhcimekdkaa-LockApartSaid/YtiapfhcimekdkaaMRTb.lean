import Derived.Test.YtiapfhcimekdkaaMTSl
import Derived.Test.YtiapfhcimekdkaaEng36
/- Tables, the document's: which may be. -/
set_option linter.unusedVariables false
set_option linter.unusedSimpArgs false
set_option maxRecDepth 100000
namespace Go.Proofs.Ytiapfhcimekdkaa
open Go Go.Eng Go.RowKit

def slotGood (x : Slot) : Prop := 0 ≤ x.key ∧ 0 ≤ x.claim ∧ (x.key = 0 → x.claim = 0)

theorem slotI_found {S : List Slot} {key : Int} {i : Nat} {x : Slot} (hk : 1 ≤ key) (hx : S[i]? = some x) (he : x.key = key) (hall : ∀ (j : Nat) (y : Slot), j < i → S[j]? = some y → (y.key == key) = false) : slotI S key = i := by
  rw [slotI, if_neg (by omega), idxOf, findIdx?_at hx (by simp [he]) hall]

theorem slotI_low {S : List Slot} {key : Int} (hk : ¬ 1 ≤ key) : slotI S key = -1 := by rw [slotI, if_pos (by omega)]

theorem slotI_no {S : List Slot} {key : Int} (hall : ∀ (j : Nat) (y : Slot), S[j]? = some y → (y.key == key) = false) : slotI S key = -1 := by
  rw [slotI]
  split
  · rfl
  · rw [idxOf, findIdx?_no (fun j y _ hy => hall j y hy)]

theorem rSlot_c (V : Vw) (a : Option Addr) (n c : Nat) (hv qv : Value) (S : List Slot) (key : Int) (w : World) (hV : V.le (vw w)) (hs0 : SlOf V Slot.cells 2 (.slice a n c) S) (hn : S.length ≤ lim) :
    Calls Try.prog 39 #[.agg #[.slice a n c, hv, qv], I key] w fun e w' => e = .returned (.tuple #[I (max (slotI S key) 0), .bool (decide (0 ≤ slotI S key))]) ∧ Below w.heap.size w w' := by
  unfold lim at hn
  have hs := hs0.mono hV
  refine enter (E := E0) (O := []) (nl := 0) (V := vw w) [.a (.v (.agg #[.slice a n c, hv, qv])), .a (.v (I key))] Try.func39 rfl rfl (mem0 E0 0 w) rfl rfl ?_
  refine c_seq ?_
  refine c_region ?_
  refine o_new tok rfl rfl rfl rfl ?_
  refine o_yield rfl rfl rfl (y_val tok rfl) ?_
  refine o_yield rfl rfl rfl (y_val tok rfl) ?_
  refine o_end [1, 2] rfl ?_
  refine x_then ?_
  refine c_seq ?_
  refine c_seq ?_
  refine c_region ?_
  refine o_yield rfl rfl rfl (y_val tok rfl) ?_
  refine o_end [1, 2, 6] rfl ?_
  refine x_then ?_
  refine c_block ?_
  refine c_loopK [1, 2] [] rfl rfl (σ := Nat) (fun i => [(6, .a (.v (I i)))]) (fun i => []) (fun i => i ≤ S.length ∧ (1 ≤ key → ∀ (j : Nat) (y : Slot), j < i → S[j]? = some y → (y.key == key) = false)) (fun i => S.length - i) (0) (⟨by omega, fun _ j x hj => by omega⟩) (by repeat (first | exact SubF.nil | refine SubF.cons rfl ?_)) (by repeat (first | exact SubO.nil | refine SubO.cons rfl ?_)) rfl ?_
  rintro i ⟨hi, hall⟩
  refine c_seq ?_
  refine c_seq ?_
  refine c_region ?_
  refine o_yield rfl rfl rfl (y_val tok rfl) ?_
  refine o_yield rfl rfl rfl (y_val tok rfl) ?_
  refine o_yield rfl rfl rfl (y_val tok rfl) ?_
  refine o_yield rfl rfl rfl (y_len tok rfl (fun hg => hs.sl)) ?_
  refine o_yield rfl rfl rfl (y_val tok rfl) ?_
  refine o_end [1, 2, 6, 11] rfl ?_
  refine x_then ?_
  refine c_cond rfl (fun h => ?_) (fun h => ?_)
  ·
    simp only [Bool.and_eq_true, Bool.or_eq_true, Bool.not_eq_true', Bool.or_eq_false_iff, Bool.and_eq_false_iff, decide_eq_true_eq, decide_eq_false_iff_not, beq_iff_eq, bne_iff_ne, Bool.not_eq_false', beq_eq_false_iff_ne, bne_eq_false_iff_eq, ne_eq, Decidable.not_not, Int.not_lt, Int.not_le] at h
    obtain ⟨x, hx⟩ : ∃ x, S[i]? = some x := ⟨_, List.getElem?_eq_getElem (by omega)⟩
    refine c_skip ?_
    refine x_then ?_
    refine c_seq ?_
    refine c_block ?_
    refine c_seq ?_
    refine c_region ?_
    refine o_yield rfl rfl rfl (y_val tok rfl) ?_
    refine o_yield rfl rfl rfl (y_val tok rfl) ?_
    refine o_yield rfl rfl rfl (y_val tok rfl) ?_
    refine o_yield rfl rfl rfl (y_val tok rfl) ?_
    refine o_yield rfl rfl rfl (y_val tok rfl) ?_
    refine o_yield rfl rfl rfl (y_val tok rfl) ?_
    refine o_yield rfl rfl rfl (y_idx tok rfl (fun hg => hs.sl) (fun hg => ⟨by omega, by omega⟩)) ?_
    refine o_yield rfl rfl rfl (y_fel tok rfl (fun hg => hs.sl) (fun hg => by omega)) ?_
    refine o_yield rfl rfl rfl (y_lel tok i 0 x rfl (fun hg => hs) (fun hg => hx) rfl rfl) ?_
    refine o_yield rfl rfl rfl (y_val tok rfl) ?_
    refine o_yield rfl rfl rfl (y_val tok rfl) ?_
    refine o_yield rfl rfl rfl (y_val tok rfl) ?_
    refine o_end [1, 2, 6, 25] rfl ?_
    refine x_then ?_
    refine c_cond rfl (fun h => ?_) (fun h => ?_)
    ·
      refine c_seq ?_
      refine c_region ?_
      refine o_yield rfl rfl rfl (y_val tok rfl) ?_
      refine o_yield rfl rfl rfl (y_val tok rfl) ?_
      refine o_yield rfl rfl rfl (y_val tok rfl) ?_
      refine o_end [4, 5] rfl ?_
      refine x_then ?_
      refine c_ret ?_
      refine x_block_ret ?_
      refine x_then_ret ?_
      refine x_then_ret ?_
      refine x_block_ret ?_
      refine x_then_ret ?_
      refine b_ret tok rfl ?_
      have h2 : 1 ≤ key ∧ x.key = key := by simpa using h
      have h3 := slotI_found h2.1 hx h2.2 (hall h2.1)
      intro E w' hm _
      refine ⟨?_, hm.below (Vw.le.refl _)⟩
      rw [h3, decide_eq_true (by omega), show max (i : Int) 0 = i by omega]; rfl
    ·
      refine c_skip ?_
      refine x_block ?_
      refine x_then ?_
      refine c_region ?_
      refine o_yield rfl rfl rfl (y_val tok rfl) ?_
      refine o_yield rfl rfl rfl (y_val tok rfl) ?_
      refine o_yield rfl rfl rfl (y_val tok rfl) ?_
      refine o_end [1, 2, 6] rfl ?_
      refine x_then ?_
      have h2 : 1 ≤ key → (x.key == key) = false := by
        intro hk
        have : decide (1 ≤ key) = true := by simpa using hk
        rw [this] at h
        simpa using h
      rw [wrapI (by omega) (by omega)]
      refine x_round (i + 1) (⟨by omega, fun hk => ahead_succ hx (hall hk) (h2 hk)⟩) (by first | omega | (dsimp only; omega)) (by repeat (first | exact SubF.nil | refine SubF.cons rfl ?_)) (by repeat (first | exact SubO.nil | refine SubO.cons rfl ?_)) rfl (Vw.le.refl _)
  ·
    simp only [Bool.and_eq_true, Bool.or_eq_true, Bool.not_eq_true', Bool.or_eq_false_iff, Bool.and_eq_false_iff, decide_eq_true_eq, decide_eq_false_iff_not, beq_iff_eq, bne_iff_ne, Bool.not_eq_false', beq_eq_false_iff_ne, bne_eq_false_iff_eq, ne_eq, Decidable.not_not, Int.not_lt, Int.not_le] at h
    refine c_exit ?_
    refine x_then_exit ?_
    refine x_then_exit ?_
    refine x_block_hit ?_
    refine x_then ?_
    refine c_seq ?_
    refine c_region ?_
    refine o_yield rfl rfl rfl (y_val tok rfl) ?_
    refine o_yield rfl rfl rfl (y_val tok rfl) ?_
    refine o_end [4, 5] rfl ?_
    refine x_then ?_
    refine c_ret ?_
    refine b_ret tok rfl ?_
    have hil : i = S.length := by omega
    have h3 : slotI S key = -1 := by
      by_cases hk : 1 ≤ key
      · exact slotI_no fun j y hy => hall hk j y (by rw [hil]; exact lt_of_at hy) hy
      · exact slotI_low hk
    intro E w' hm _
    refine ⟨?_, hm.below (Vw.le.refl _)⟩
    rw [h3]; rfl

theorem rall_c (V : Vw) (g1 tv : Value) (key : Int) (t : Tb) (w : World) (ht : t.Fit) (hV : V.le (vw w)) (h : TbIs V tv t) :
    Calls Try.prog 60 #[tv, I key] w (HRow ((t.H ++ t.Q).filter fun h => h.key == key) w) := by
  obtain ⟨a, n, c, a2, n2, c2, a3, n3, c3, rfl, h1, h2, h3⟩ := h
  have hh := ht.h
  have hq := ht.q
  have hH := h2.mono hV
  have hQ := h3.mono hV
  have hal : (t.H ++ t.Q).length ≤ 200000 := by rw [List.length_append]; omega
  refine enter (E := E0) (O := []) (nl := 0) (V := vw w) [.a (.v (.agg #[.slice a n c, .slice a2 n2 c2, .slice a3 n3 c3])), .a (.v (I key))] Try.func60 rfl rfl (mem0 E0 0 w) rfl rfl ?_
  refine c_seq ?_
  refine c_region ?_
  refine o_new tok rfl rfl rfl rfl ?_
  refine o_yield rfl rfl rfl (y_val tok rfl) ?_
  refine o_end [1, 2] rfl ?_
  refine x_then ?_
  refine c_seq ?_
  refine c_region ?_
  refine o_yield rfl rfl rfl (y_val tok rfl) ?_
  refine o_end [1, 2, 5] rfl ?_
  refine x_then ?_
  refine c_seq ?_
  refine c_heldR mixed rfl (by repeat (first | exact SubO.nil | refine SubO.cons rfl ?_)) (by first | rfl | simp [okCels, allOk_plain]) ?_
  refine t_take 1 rfl (by kernel_rfl) rfl rfl rfl (y_val tok rfl) rfl ?_
  refine t_take 2 rfl (by kernel_rfl) rfl rfl rfl (y_val tok rfl) rfl ?_
  refine t_take 4 rfl (by kernel_rfl) rfl rfl rfl (y_val tok rfl) rfl ?_
  refine t_take 5 rfl (by kernel_rfl) rfl rfl rfl (y_val tok rfl) rfl ?_
  refine t_go ?_
  refine h_one 0 (by kernel_rfl) ?_
  refine h_to 0 rfl rfl rfl rfl rfl rfl (s_bs tok 4 rfl rfl rfl) (.inr fun _ _ => ⟨(by repeat (first | exact SubO.nil | refine SubO.cons rfl ?_)), rfl, (by first | exact Vw.le.refl _ | assumption)⟩) (fun _ _ => ?_)
  refine h_one 3 (by kernel_rfl) ?_
  refine h_to 3 rfl rfl rfl rfl rfl rfl (s_app (l := 1) (e := 43) (sz := 4) (by_ := 32) (m := 0) (k := t.H.length) (olds := []) tok (t.H.flatMap Hold.cells) rfl (fun E w1 hm => hH.sl.src hm.get) (fun _ _ _ => hold_ones t.H) (by omega)) (.inr fun _ _ => ⟨(by repeat (first | exact SubO.nil | refine SubO.cons rfl ?_)), rfl, (by first | exact Vw.le.refl _ | assumption)⟩) (fun _ _ => ?_)
  refine h_one 6 (by kernel_rfl) ?_
  refine h_to 6 rfl rfl rfl rfl rfl rfl (s_app (l := 2) (e := 43) (sz := 4) (by_ := 32) (m := 0 + t.H.length) (k := t.Q.length) tok (t.Q.flatMap Hold.cells) rfl (fun E w1 hm => hQ.sl.src hm.get) (fun _ _ _ => hold_ones t.Q) (by omega)) (.inr fun _ _ => ⟨(by repeat (first | exact SubO.nil | refine SubO.cons rfl ?_)), rfl, (by first | exact Vw.le.refl _ | assumption)⟩) (fun _ _ => ?_)
  refine h_one 7 (by kernel_rfl) ?_
  refine h_yield 7 rfl rfl rfl rfl (y_val tok rfl) ?_
  refine h_done [1, 5, 6] (by kernel_rfl) rfl ?_
  refine x_then ?_
  refine c_seq ?_
  refine c_seq ?_
  refine c_region ?_
  refine o_yield rfl rfl rfl (y_val tok rfl) ?_
  refine o_end [1, 5, 6, 7] rfl ?_
  refine x_then ?_
  refine c_block ?_
  rw [Nat.zero_add t.H.length, List.nil_append, ← List.length_append, ← List.flatMap_append]
  obtain ⟨L, hL⟩ : ∃ L, L = t.H ++ t.Q := ⟨_, rfl⟩
  rw [← hL] at hal ⊢
  refine k_nil 5 43 4 rfl rfl ?_
  refine c_loopK [1, 6] [4] rfl rfl (σ := Nat) (fun k => [(5, .a (.row 4)), (7, .a (.v (I k)))]) (fun k => [(4, .row 43 4 ((L.take k).filter fun h => h.key == key).length (((L.take k).filter fun h => h.key == key).flatMap Hold.cells))]) (fun k => k ≤ L.length) (fun k => L.length - k) (0) (by omega) (by repeat (first | exact SubF.nil | refine SubF.cons rfl ?_)) (by repeat (first | exact SubO.nil | refine SubO.cons rfl ?_)) rfl ?_
  rintro k hk
  refine c_seq ?_
  refine c_seq ?_
  refine c_region ?_
  refine o_yield rfl rfl rfl (y_val tok rfl) ?_
  refine o_yield rfl rfl rfl (y_val tok rfl) ?_
  refine o_yield rfl rfl rfl (y_own (s := .a (.v (I L.length))) 3 rfl rfl (fun v V' hv => y_len tok rfl (fun hg => hv))) ?_
  refine o_yield rfl rfl rfl (y_val tok rfl) ?_
  refine o_end [1, 5, 6, 7, 18] rfl ?_
  refine x_then ?_
  refine c_cond rfl (fun h => ?_) (fun h => ?_)
  ·
    simp only [Bool.and_eq_true, Bool.or_eq_true, Bool.not_eq_true', Bool.or_eq_false_iff, Bool.and_eq_false_iff, decide_eq_true_eq, decide_eq_false_iff_not, beq_iff_eq, bne_iff_ne, Bool.not_eq_false', beq_eq_false_iff_ne, bne_eq_false_iff_eq, ne_eq, Decidable.not_not, Int.not_lt, Int.not_le] at h
    refine c_skip ?_
    refine x_then ?_
    refine c_seq ?_
    refine c_block ?_
    refine c_seq ?_
    refine c_region ?_
    refine o_yield rfl rfl rfl (y_val tok rfl) ?_
    refine o_yield rfl rfl rfl (y_val tok rfl) ?_
    obtain ⟨x, hx⟩ : ∃ x, L[k]? = some x := ⟨_, List.getElem?_eq_getElem (by omega)⟩
    have hwk : IntKind.i64.wrap ((k : Int) + 1) = ((k + 1 : Nat) : Int) := wrapI (by omega) (by omega)
    have hft : (L.take (k + 1)).filter (fun h => h.key == key) = (L.take k).filter (fun h => h.key == key) ++ (if (x.key == key) = true then [x] else []) := by
      rw [take_succ_at' hx, List.filter_append]
      cases hq : (x.key == key) <;> simp [hq]
    have hfl : ((L.take k).filter fun h => h.key == key).length ≤ k := Nat.le_trans (List.length_filter_le _ _) (by rw [List.length_take]; omega)
    refine o_yield rfl rfl rfl (y_own (s := .a (.rel 3 (k * 4))) 3 rfl rfl (fun v V' hv => y_idxK tok (k * 4) rfl (by simp) (fun hg => hv) (fun hg => by omega))) ?_
    refine o_yield rfl rfl rfl (y_own (s := .a (.rel 3 (k * 4))) 3 rfl rfl (fun v V' hv => y_fel tok rfl (fun hg => hv) (fun hg => by omega))) ?_
    refine o_yield rfl rfl rfl (y_own (s := .a (.v (I x.key))) 3 rfl rfl (fun v V' hv => y_lel (enc := Hold.cells) (l := L) tok k 0 x rfl (fun hg => ⟨hv, fun _ => rfl⟩) (fun hg => hx) rfl rfl)) ?_
    refine o_yield rfl rfl rfl (y_val tok rfl) ?_
    refine o_yield rfl rfl rfl (y_val tok rfl) ?_
    refine o_end [1, 5, 6, 7, 27] rfl ?_
    refine x_then ?_
    refine c_cond rfl (fun h => ?_) (fun h => ?_)
    ·
      refine c_region ?_
      refine o_yield rfl rfl rfl (y_val tok rfl) ?_
      refine o_yield rfl rfl rfl (y_val tok rfl) ?_
      refine o_yield rfl rfl rfl (y_val tok rfl) ?_
      rw [if_pos h] at hft
      clear h
      refine o_yield rfl rfl rfl (y_own (s := .a (.rel 3 (k * 4))) 3 rfl rfl (fun v V' hv => y_idxK tok (k * 4) rfl (by simp) (fun hg => hv) (fun hg => by omega))) ?_
      refine o_yield rfl rfl rfl (y_own (s := .agg (x.cells.map .v)) 3 rfl rfl (fun v V' hv => y_lel (enc := Hold.cells) (l := L) tok k 0 x rfl (fun hg => ⟨hv, fun _ => rfl⟩) (fun hg => hx) rfl rfl)) ?_
      refine o_step rfl rfl rfl rfl rfl (s_bs tok 4 rfl rfl rfl) (fun _ _ => ?_)
      refine o_step rfl rfl rfl rfl rfl (s_app tok x.cells rfl (fun E w hm => ownsRow_src (hm.row _ _ _ _ _ rfl)) (fun _ _ _ => by simpa using hold_ones [x]) (by dsimp only; omega)) (fun _ _ => ?_)
      refine o_yield rfl rfl rfl (y_val tok rfl) ?_
      refine o_end [1, 5, 6, 7] rfl ?_
      refine x_block ?_
      refine x_then ?_
      refine c_region ?_
      refine o_yield rfl rfl rfl (y_val tok rfl) ?_
      refine o_yield rfl rfl rfl (y_val tok rfl) ?_
      refine o_yield rfl rfl rfl (y_val tok rfl) ?_
      refine o_end [1, 5, 6, 7] rfl ?_
      refine x_then ?_
      rw [(hold_snoc _ x).1, (hold_snoc _ x).2, ← hft, hwk]
      refine k_swap 4 6 rfl ?_
      refine x_round (k + 1) (by omega) (by first | omega | (dsimp only; omega)) (by repeat (first | exact SubF.nil | refine SubF.cons rfl ?_)) (by repeat (first | exact SubO.nil | refine SubO.cons rfl ?_)) rfl (Vw.le.refl _)
    ·
      refine c_skip ?_
      refine x_block ?_
      refine x_then ?_
      refine c_region ?_
      refine o_yield rfl rfl rfl (y_val tok rfl) ?_
      refine o_yield rfl rfl rfl (y_val tok rfl) ?_
      refine o_yield rfl rfl rfl (y_val tok rfl) ?_
      refine o_end [1, 5, 6, 7] rfl ?_
      refine x_then ?_
      rw [if_neg (by rw [h]; simp), List.append_nil] at hft
      rw [← hft, hwk]
      refine x_round (k + 1) (by omega) (by first | omega | (dsimp only; omega)) (by repeat (first | exact SubF.nil | refine SubF.cons rfl ?_)) (by repeat (first | exact SubO.nil | refine SubO.cons rfl ?_)) rfl (Vw.le.refl _)
  ·
    simp only [Bool.and_eq_true, Bool.or_eq_true, Bool.not_eq_true', Bool.or_eq_false_iff, Bool.and_eq_false_iff, decide_eq_true_eq, decide_eq_false_iff_not, beq_iff_eq, bne_iff_ne, Bool.not_eq_false', beq_eq_false_iff_ne, bne_eq_false_iff_eq, ne_eq, Decidable.not_not, Int.not_lt, Int.not_le] at h
    have hkl : k = L.length := by omega
    subst hkl
    rw [List.take_length]
    clear h
    refine c_exit ?_
    refine x_then_exit ?_
    refine x_then_exit ?_
    refine x_block_hit ?_
    refine x_then ?_
    refine c_seq ?_
    refine c_region ?_
    refine o_yield rfl rfl rfl (y_val tok rfl) ?_
    refine o_yield rfl rfl rfl (y_val tok rfl) ?_
    refine o_end [4] rfl ?_
    refine x_then ?_
    refine c_ret ?_
    refine b_ret tok rfl ?_
    intro E' w' hm _
    exact ⟨_, rfl, hm.rowFresh (Vw.le.refl _) (l := 4) rfl, hm.below (Vw.le.refl _)⟩

theorem rcopy_c (V : Vw) (tv : Value) (t : Tb) (w : World) (ht : t.Fit) (hV : V.le (vw w)) (h : TbIs V tv t) :
    Calls Try.prog 85 #[tv] w (Makes w (fun _ : Unit => True) (fun _ => .agg [.row 4, .row 6, .row 8]) (fun _ => [(4, (slR t.S).cel), (6, (hoR t.H).cel), (8, (hoR t.Q).cel)]) 9) := by
  obtain ⟨a, n, c, a2, n2, c2, a3, n3, c3, rfl, h1, h2, h3⟩ := h
  have hss := ht.s
  have hh := ht.h
  have hq := ht.q
  have hS := h1.mono hV
  have hH := h2.mono hV
  have hQ := h3.mono hV
  have hm1 := (mem0 E0 0 w).addSize
  refine enter [.a (.v (.agg #[.slice a n c, .slice a2 n2 c2, .slice a3 n3 c3]))] Try.func85 rfl rfl (hm1) rfl rfl ?_
  refine c_seq ?_
  refine c_region ?_
  refine o_new tok rfl rfl rfl rfl ?_
  refine o_new tok rfl rfl rfl rfl ?_
  refine o_end [1, 2] rfl ?_
  refine x_then ?_
  refine c_seq ?_
  refine c_heldMS [13] (σ := Unit) (fun _ => [(2, .a (.ptr 2 0))]) (fun _ => [(0, .size w.heap.size), (4, .row 48 2 (0 + t.S.length) ([] ++ t.S.flatMap Slot.cells)), (6, .row 43 4 (0 + t.H.length) ([] ++ t.H.flatMap Hold.cells)), (8, .row 43 4 (0 + t.Q.length) ([] ++ t.Q.flatMap Hold.cells)), (2, .lit [.row 4, .row 6, .row 8] 29)]) (9) (fun _ => vw w) (fun _ => True) mixed rfl (by repeat (first | exact SubO.nil | refine SubO.cons rfl ?_)) rfl ?_ ?_
  ·
    refine t_takeD 1 rfl (by kernel_rfl) rfl rfl rfl (y_val tok rfl) rfl ?_
    refine t_takeD 2 rfl (by kernel_rfl) rfl rfl rfl (y_val tok rfl) rfl ?_
    refine t_takeD 5 rfl (by kernel_rfl) rfl rfl rfl (y_val tok rfl) rfl ?_
    refine t_takeD 6 rfl (by kernel_rfl) rfl rfl rfl (y_val tok rfl) rfl ?_
    refine t_takeD 9 rfl (by kernel_rfl) rfl rfl rfl (y_val tok rfl) rfl ?_
    refine t_takeD 10 rfl (by kernel_rfl) rfl rfl rfl (y_val tok rfl) rfl ?_
    refine t_go ?_
    refine h_three 0 4 8 (by kernel_rfl) ?_ ?_ ?_
    ·
      refine h_to 0 rfl rfl rfl rfl rfl rfl (s_bs tok 2 rfl rfl rfl) (.inr fun _ _ => ⟨(by repeat (first | exact SubO.nil | refine SubO.cons rfl ?_)), rfl, (by first | exact Vw.le.refl _ | assumption)⟩) (fun _ _ => ?_)
      refine h_three 3 4 8 (by kernel_rfl) ?_ ?_ ?_
      ·
        refine h_to 3 rfl rfl rfl rfl rfl rfl (s_app (e := 48) (sz := 2) (by_ := 16) (m := 0) (k := t.S.length) (olds := []) tok (t.S.flatMap Slot.cells) rfl (fun E w1 hm => hS.sl.src hm.get) (fun _ _ _ => slot_ones t.S) (by omega)) (.inr fun _ _ => ⟨(by repeat (first | exact SubO.nil | refine SubO.cons rfl ?_)), rfl, (by first | exact Vw.le.refl _ | assumption)⟩) (fun _ _ => ?_)
        refine h_two 4 8 (by kernel_rfl) ?_ ?_
        ·
          refine h_to 4 rfl rfl rfl rfl rfl rfl (s_bs tok 4 rfl rfl rfl) (.inr fun _ _ => ⟨(by repeat (first | exact SubO.nil | refine SubO.cons rfl ?_)), rfl, (by first | exact Vw.le.refl _ | assumption)⟩) (fun _ _ => ?_)
          refine h_two 7 8 (by kernel_rfl) ?_ ?_
          ·
            refine h_to 7 rfl rfl rfl rfl rfl rfl (s_app (e := 43) (sz := 4) (by_ := 32) (m := 0) (k := t.H.length) (olds := []) tok (t.H.flatMap Hold.cells) rfl (fun E w1 hm => hH.sl.src hm.get) (fun _ _ _ => hold_ones t.H) (by omega)) (.inr fun _ _ => ⟨(by repeat (first | exact SubO.nil | refine SubO.cons rfl ?_)), rfl, (by first | exact Vw.le.refl _ | assumption)⟩) (fun _ _ => ?_)
            refine h_one 8 (by kernel_rfl) ?_
            refine h_to 8 rfl rfl rfl rfl rfl rfl (s_bs tok 4 rfl rfl rfl) (.inr fun _ _ => ⟨(by repeat (first | exact SubO.nil | refine SubO.cons rfl ?_)), rfl, (by first | exact Vw.le.refl _ | assumption)⟩) (fun _ _ => ?_)
            refine h_one 11 (by kernel_rfl) ?_
            refine h_to 11 rfl rfl rfl rfl rfl rfl (s_app (e := 43) (sz := 4) (by_ := 32) (m := 0) (k := t.Q.length) (olds := []) tok (t.Q.flatMap Hold.cells) rfl (fun E w1 hm => hQ.sl.src hm.get) (fun _ _ _ => hold_ones t.Q) (by omega)) (.inr fun _ _ => ⟨(by repeat (first | exact SubO.nil | refine SubO.cons rfl ?_)), rfl, (by first | exact Vw.le.refl _ | assumption)⟩) (fun _ _ => ?_)
            refine h_one 12 (by kernel_rfl) ?_
            refine h_yield 12 rfl rfl rfl rfl (y_val tok rfl) ?_
            refine h_one 13 (by kernel_rfl) ?_
            refine h_store 13 tok rfl rfl rfl rfl (by first | exact ⟨trivial, trivial⟩ | (repeat' first | exact trivial | exact rfl | apply And.intro); done | simp [onesP, oneP, lk, Value.oneCell']) (.inl rfl) ?_
            refine h_done [2] (by kernel_rfl) rfl ?_
            exact x_meet () trivial (by repeat (first | exact SubF.nil | refine SubF.cons rfl ?_)) (by repeat (first | exact SubO.nil | refine SubO.cons rfl ?_)) rfl (Vw.le.refl _)
          ·
            refine h_to 8 rfl rfl rfl rfl rfl rfl (s_bs tok 4 rfl rfl rfl) (.inr fun _ _ => ⟨(by repeat (first | exact SubO.nil | refine SubO.cons rfl ?_)), rfl, (by first | exact Vw.le.refl _ | assumption)⟩) (fun _ _ => ?_)
            refine h_one 7 (by kernel_rfl) ?_
            refine h_to 7 rfl rfl rfl rfl rfl rfl (s_app (e := 43) (sz := 4) (by_ := 32) (m := 0) (k := t.H.length) (olds := []) tok (t.H.flatMap Hold.cells) rfl (fun E w1 hm => hH.sl.src hm.get) (fun _ _ _ => hold_ones t.H) (by omega)) (.inr fun _ _ => ⟨(by repeat (first | exact SubO.nil | refine SubO.cons rfl ?_)), rfl, (by first | exact Vw.le.refl _ | assumption)⟩) (fun _ _ => ?_)
            refine h_one 11 (by kernel_rfl) ?_
            refine h_to 11 rfl rfl rfl rfl rfl rfl (s_app (e := 43) (sz := 4) (by_ := 32) (m := 0) (k := t.Q.length) (olds := []) tok (t.Q.flatMap Hold.cells) rfl (fun E w1 hm => hQ.sl.src hm.get) (fun _ _ _ => hold_ones t.Q) (by omega)) (.inr fun _ _ => ⟨(by repeat (first | exact SubO.nil | refine SubO.cons rfl ?_)), rfl, (by first | exact Vw.le.refl _ | assumption)⟩) (fun _ _ => ?_)
            refine h_one 12 (by kernel_rfl) ?_
            refine h_yield 12 rfl rfl rfl rfl (y_val tok rfl) ?_
            refine h_one 13 (by kernel_rfl) ?_
            refine h_store 13 tok rfl rfl rfl rfl (by first | exact ⟨trivial, trivial⟩ | (repeat' first | exact trivial | exact rfl | apply And.intro); done | simp [onesP, oneP, lk, Value.oneCell']) (.inl rfl) ?_
            refine h_done [2] (by kernel_rfl) rfl ?_
            refine k_swap 6 7 rfl ?_
            exact x_meet () trivial (by repeat (first | exact SubF.nil | refine SubF.cons rfl ?_)) (by repeat (first | exact SubO.nil | refine SubO.cons rfl ?_)) rfl (Vw.le.refl _)
        ·
          refine h_to 8 rfl rfl rfl rfl rfl rfl (s_bs tok 4 rfl rfl rfl) (.inr fun _ _ => ⟨(by repeat (first | exact SubO.nil | refine SubO.cons rfl ?_)), rfl, (by first | exact Vw.le.refl _ | assumption)⟩) (fun _ _ => ?_)
          refine h_one 4 (by kernel_rfl) ?_
          refine h_to 4 rfl rfl rfl rfl rfl rfl (s_bs tok 4 rfl rfl rfl) (.inr fun _ _ => ⟨(by repeat (first | exact SubO.nil | refine SubO.cons rfl ?_)), rfl, (by first | exact Vw.le.refl _ | assumption)⟩) (fun _ _ => ?_)
          refine h_one 7 (by kernel_rfl) ?_
          refine h_to 7 rfl rfl rfl rfl rfl rfl (s_app (e := 43) (sz := 4) (by_ := 32) (m := 0) (k := t.H.length) (olds := []) tok (t.H.flatMap Hold.cells) rfl (fun E w1 hm => hH.sl.src hm.get) (fun _ _ _ => hold_ones t.H) (by omega)) (.inr fun _ _ => ⟨(by repeat (first | exact SubO.nil | refine SubO.cons rfl ?_)), rfl, (by first | exact Vw.le.refl _ | assumption)⟩) (fun _ _ => ?_)
          refine h_one 11 (by kernel_rfl) ?_
          refine h_to 11 rfl rfl rfl rfl rfl rfl (s_app (e := 43) (sz := 4) (by_ := 32) (m := 0) (k := t.Q.length) (olds := []) tok (t.Q.flatMap Hold.cells) rfl (fun E w1 hm => hQ.sl.src hm.get) (fun _ _ _ => hold_ones t.Q) (by omega)) (.inr fun _ _ => ⟨(by repeat (first | exact SubO.nil | refine SubO.cons rfl ?_)), rfl, (by first | exact Vw.le.refl _ | assumption)⟩) (fun _ _ => ?_)
          refine h_one 12 (by kernel_rfl) ?_
          refine h_yield 12 rfl rfl rfl rfl (y_val tok rfl) ?_
          refine h_one 13 (by kernel_rfl) ?_
          refine h_store 13 tok rfl rfl rfl rfl (by first | exact ⟨trivial, trivial⟩ | (repeat' first | exact trivial | exact rfl | apply And.intro); done | simp [onesP, oneP, lk, Value.oneCell']) (.inl rfl) ?_
          refine h_done [2] (by kernel_rfl) rfl ?_
          refine k_swap 5 6 rfl ?_
          refine k_swap 6 7 rfl ?_
          exact x_meet () trivial (by repeat (first | exact SubF.nil | refine SubF.cons rfl ?_)) (by repeat (first | exact SubO.nil | refine SubO.cons rfl ?_)) rfl (Vw.le.refl _)
      ·
        refine h_to 4 rfl rfl rfl rfl rfl rfl (s_bs tok 4 rfl rfl rfl) (.inr fun _ _ => ⟨(by repeat (first | exact SubO.nil | refine SubO.cons rfl ?_)), rfl, (by first | exact Vw.le.refl _ | assumption)⟩) (fun _ _ => ?_)
        refine h_two 3 8 (by kernel_rfl) ?_ ?_
        ·
          refine h_to 3 rfl rfl rfl rfl rfl rfl (s_app (e := 48) (sz := 2) (by_ := 16) (m := 0) (k := t.S.length) (olds := []) tok (t.S.flatMap Slot.cells) rfl (fun E w1 hm => hS.sl.src hm.get) (fun _ _ _ => slot_ones t.S) (by omega)) (.inr fun _ _ => ⟨(by repeat (first | exact SubO.nil | refine SubO.cons rfl ?_)), rfl, (by first | exact Vw.le.refl _ | assumption)⟩) (fun _ _ => ?_)
          refine h_two 7 8 (by kernel_rfl) ?_ ?_
          ·
            refine h_to 7 rfl rfl rfl rfl rfl rfl (s_app (e := 43) (sz := 4) (by_ := 32) (m := 0) (k := t.H.length) (olds := []) tok (t.H.flatMap Hold.cells) rfl (fun E w1 hm => hH.sl.src hm.get) (fun _ _ _ => hold_ones t.H) (by omega)) (.inr fun _ _ => ⟨(by repeat (first | exact SubO.nil | refine SubO.cons rfl ?_)), rfl, (by first | exact Vw.le.refl _ | assumption)⟩) (fun _ _ => ?_)
            refine h_one 8 (by kernel_rfl) ?_
            refine h_to 8 rfl rfl rfl rfl rfl rfl (s_bs tok 4 rfl rfl rfl) (.inr fun _ _ => ⟨(by repeat (first | exact SubO.nil | refine SubO.cons rfl ?_)), rfl, (by first | exact Vw.le.refl _ | assumption)⟩) (fun _ _ => ?_)
            refine h_one 11 (by kernel_rfl) ?_
            refine h_to 11 rfl rfl rfl rfl rfl rfl (s_app (e := 43) (sz := 4) (by_ := 32) (m := 0) (k := t.Q.length) (olds := []) tok (t.Q.flatMap Hold.cells) rfl (fun E w1 hm => hQ.sl.src hm.get) (fun _ _ _ => hold_ones t.Q) (by omega)) (.inr fun _ _ => ⟨(by repeat (first | exact SubO.nil | refine SubO.cons rfl ?_)), rfl, (by first | exact Vw.le.refl _ | assumption)⟩) (fun _ _ => ?_)
            refine h_one 12 (by kernel_rfl) ?_
            refine h_yield 12 rfl rfl rfl rfl (y_val tok rfl) ?_
            refine h_one 13 (by kernel_rfl) ?_
            refine h_store 13 tok rfl rfl rfl rfl (by first | exact ⟨trivial, trivial⟩ | (repeat' first | exact trivial | exact rfl | apply And.intro); done | simp [onesP, oneP, lk, Value.oneCell']) (.inl rfl) ?_
            refine h_done [2] (by kernel_rfl) rfl ?_
            refine k_swap 4 5 rfl ?_
            exact x_meet () trivial (by repeat (first | exact SubF.nil | refine SubF.cons rfl ?_)) (by repeat (first | exact SubO.nil | refine SubO.cons rfl ?_)) rfl (Vw.le.refl _)
          ·
            refine h_to 8 rfl rfl rfl rfl rfl rfl (s_bs tok 4 rfl rfl rfl) (.inr fun _ _ => ⟨(by repeat (first | exact SubO.nil | refine SubO.cons rfl ?_)), rfl, (by first | exact Vw.le.refl _ | assumption)⟩) (fun _ _ => ?_)
            refine h_one 7 (by kernel_rfl) ?_
            refine h_to 7 rfl rfl rfl rfl rfl rfl (s_app (e := 43) (sz := 4) (by_ := 32) (m := 0) (k := t.H.length) (olds := []) tok (t.H.flatMap Hold.cells) rfl (fun E w1 hm => hH.sl.src hm.get) (fun _ _ _ => hold_ones t.H) (by omega)) (.inr fun _ _ => ⟨(by repeat (first | exact SubO.nil | refine SubO.cons rfl ?_)), rfl, (by first | exact Vw.le.refl _ | assumption)⟩) (fun _ _ => ?_)
            refine h_one 11 (by kernel_rfl) ?_
            refine h_to 11 rfl rfl rfl rfl rfl rfl (s_app (e := 43) (sz := 4) (by_ := 32) (m := 0) (k := t.Q.length) (olds := []) tok (t.Q.flatMap Hold.cells) rfl (fun E w1 hm => hQ.sl.src hm.get) (fun _ _ _ => hold_ones t.Q) (by omega)) (.inr fun _ _ => ⟨(by repeat (first | exact SubO.nil | refine SubO.cons rfl ?_)), rfl, (by first | exact Vw.le.refl _ | assumption)⟩) (fun _ _ => ?_)
            refine h_one 12 (by kernel_rfl) ?_
            refine h_yield 12 rfl rfl rfl rfl (y_val tok rfl) ?_
            refine h_one 13 (by kernel_rfl) ?_
            refine h_store 13 tok rfl rfl rfl rfl (by first | exact ⟨trivial, trivial⟩ | (repeat' first | exact trivial | exact rfl | apply And.intro); done | simp [onesP, oneP, lk, Value.oneCell']) (.inl rfl) ?_
            refine h_done [2] (by kernel_rfl) rfl ?_
            refine k_swap 4 5 rfl ?_
            refine k_swap 6 7 rfl ?_
            exact x_meet () trivial (by repeat (first | exact SubF.nil | refine SubF.cons rfl ?_)) (by repeat (first | exact SubO.nil | refine SubO.cons rfl ?_)) rfl (Vw.le.refl _)
        ·
          refine h_to 8 rfl rfl rfl rfl rfl rfl (s_bs tok 4 rfl rfl rfl) (.inr fun _ _ => ⟨(by repeat (first | exact SubO.nil | refine SubO.cons rfl ?_)), rfl, (by first | exact Vw.le.refl _ | assumption)⟩) (fun _ _ => ?_)
          refine h_one 3 (by kernel_rfl) ?_
          refine h_to 3 rfl rfl rfl rfl rfl rfl (s_app (e := 48) (sz := 2) (by_ := 16) (m := 0) (k := t.S.length) (olds := []) tok (t.S.flatMap Slot.cells) rfl (fun E w1 hm => hS.sl.src hm.get) (fun _ _ _ => slot_ones t.S) (by omega)) (.inr fun _ _ => ⟨(by repeat (first | exact SubO.nil | refine SubO.cons rfl ?_)), rfl, (by first | exact Vw.le.refl _ | assumption)⟩) (fun _ _ => ?_)
          refine h_one 7 (by kernel_rfl) ?_
          refine h_to 7 rfl rfl rfl rfl rfl rfl (s_app (e := 43) (sz := 4) (by_ := 32) (m := 0) (k := t.H.length) (olds := []) tok (t.H.flatMap Hold.cells) rfl (fun E w1 hm => hH.sl.src hm.get) (fun _ _ _ => hold_ones t.H) (by omega)) (.inr fun _ _ => ⟨(by repeat (first | exact SubO.nil | refine SubO.cons rfl ?_)), rfl, (by first | exact Vw.le.refl _ | assumption)⟩) (fun _ _ => ?_)
          refine h_one 11 (by kernel_rfl) ?_
          refine h_to 11 rfl rfl rfl rfl rfl rfl (s_app (e := 43) (sz := 4) (by_ := 32) (m := 0) (k := t.Q.length) (olds := []) tok (t.Q.flatMap Hold.cells) rfl (fun E w1 hm => hQ.sl.src hm.get) (fun _ _ _ => hold_ones t.Q) (by omega)) (.inr fun _ _ => ⟨(by repeat (first | exact SubO.nil | refine SubO.cons rfl ?_)), rfl, (by first | exact Vw.le.refl _ | assumption)⟩) (fun _ _ => ?_)
          refine h_one 12 (by kernel_rfl) ?_
          refine h_yield 12 rfl rfl rfl rfl (y_val tok rfl) ?_
          refine h_one 13 (by kernel_rfl) ?_
          refine h_store 13 tok rfl rfl rfl rfl (by first | exact ⟨trivial, trivial⟩ | (repeat' first | exact trivial | exact rfl | apply And.intro); done | simp [onesP, oneP, lk, Value.oneCell']) (.inl rfl) ?_
          refine h_done [2] (by kernel_rfl) rfl ?_
          refine k_swap 4 6 rfl ?_
          refine k_swap 5 6 rfl ?_
          refine k_swap 6 7 rfl ?_
          exact x_meet () trivial (by repeat (first | exact SubF.nil | refine SubF.cons rfl ?_)) (by repeat (first | exact SubO.nil | refine SubO.cons rfl ?_)) rfl (Vw.le.refl _)
      ·
        refine h_to 8 rfl rfl rfl rfl rfl rfl (s_bs tok 4 rfl rfl rfl) (.inr fun _ _ => ⟨(by repeat (first | exact SubO.nil | refine SubO.cons rfl ?_)), rfl, (by first | exact Vw.le.refl _ | assumption)⟩) (fun _ _ => ?_)
        refine h_two 3 4 (by kernel_rfl) ?_ ?_
        ·
          refine h_to 3 rfl rfl rfl rfl rfl rfl (s_app (e := 48) (sz := 2) (by_ := 16) (m := 0) (k := t.S.length) (olds := []) tok (t.S.flatMap Slot.cells) rfl (fun E w1 hm => hS.sl.src hm.get) (fun _ _ _ => slot_ones t.S) (by omega)) (.inr fun _ _ => ⟨(by repeat (first | exact SubO.nil | refine SubO.cons rfl ?_)), rfl, (by first | exact Vw.le.refl _ | assumption)⟩) (fun _ _ => ?_)
          refine h_one 4 (by kernel_rfl) ?_
          refine h_to 4 rfl rfl rfl rfl rfl rfl (s_bs tok 4 rfl rfl rfl) (.inr fun _ _ => ⟨(by repeat (first | exact SubO.nil | refine SubO.cons rfl ?_)), rfl, (by first | exact Vw.le.refl _ | assumption)⟩) (fun _ _ => ?_)
          refine h_one 7 (by kernel_rfl) ?_
          refine h_to 7 rfl rfl rfl rfl rfl rfl (s_app (e := 43) (sz := 4) (by_ := 32) (m := 0) (k := t.H.length) (olds := []) tok (t.H.flatMap Hold.cells) rfl (fun E w1 hm => hH.sl.src hm.get) (fun _ _ _ => hold_ones t.H) (by omega)) (.inr fun _ _ => ⟨(by repeat (first | exact SubO.nil | refine SubO.cons rfl ?_)), rfl, (by first | exact Vw.le.refl _ | assumption)⟩) (fun _ _ => ?_)
          refine h_one 11 (by kernel_rfl) ?_
          refine h_to 11 rfl rfl rfl rfl rfl rfl (s_app (e := 43) (sz := 4) (by_ := 32) (m := 0) (k := t.Q.length) (olds := []) tok (t.Q.flatMap Hold.cells) rfl (fun E w1 hm => hQ.sl.src hm.get) (fun _ _ _ => hold_ones t.Q) (by omega)) (.inr fun _ _ => ⟨(by repeat (first | exact SubO.nil | refine SubO.cons rfl ?_)), rfl, (by first | exact Vw.le.refl _ | assumption)⟩) (fun _ _ => ?_)
          refine h_one 12 (by kernel_rfl) ?_
          refine h_yield 12 rfl rfl rfl rfl (y_val tok rfl) ?_
          refine h_one 13 (by kernel_rfl) ?_
          refine h_store 13 tok rfl rfl rfl rfl (by first | exact ⟨trivial, trivial⟩ | (repeat' first | exact trivial | exact rfl | apply And.intro); done | simp [onesP, oneP, lk, Value.oneCell']) (.inl rfl) ?_
          refine h_done [2] (by kernel_rfl) rfl ?_
          refine k_swap 4 5 rfl ?_
          refine k_swap 5 6 rfl ?_
          refine k_swap 6 7 rfl ?_
          exact x_meet () trivial (by repeat (first | exact SubF.nil | refine SubF.cons rfl ?_)) (by repeat (first | exact SubO.nil | refine SubO.cons rfl ?_)) rfl (Vw.le.refl _)
        ·
          refine h_to 4 rfl rfl rfl rfl rfl rfl (s_bs tok 4 rfl rfl rfl) (.inr fun _ _ => ⟨(by repeat (first | exact SubO.nil | refine SubO.cons rfl ?_)), rfl, (by first | exact Vw.le.refl _ | assumption)⟩) (fun _ _ => ?_)
          refine h_one 3 (by kernel_rfl) ?_
          refine h_to 3 rfl rfl rfl rfl rfl rfl (s_app (e := 48) (sz := 2) (by_ := 16) (m := 0) (k := t.S.length) (olds := []) tok (t.S.flatMap Slot.cells) rfl (fun E w1 hm => hS.sl.src hm.get) (fun _ _ _ => slot_ones t.S) (by omega)) (.inr fun _ _ => ⟨(by repeat (first | exact SubO.nil | refine SubO.cons rfl ?_)), rfl, (by first | exact Vw.le.refl _ | assumption)⟩) (fun _ _ => ?_)
          refine h_one 7 (by kernel_rfl) ?_
          refine h_to 7 rfl rfl rfl rfl rfl rfl (s_app (e := 43) (sz := 4) (by_ := 32) (m := 0) (k := t.H.length) (olds := []) tok (t.H.flatMap Hold.cells) rfl (fun E w1 hm => hH.sl.src hm.get) (fun _ _ _ => hold_ones t.H) (by omega)) (.inr fun _ _ => ⟨(by repeat (first | exact SubO.nil | refine SubO.cons rfl ?_)), rfl, (by first | exact Vw.le.refl _ | assumption)⟩) (fun _ _ => ?_)
          refine h_one 11 (by kernel_rfl) ?_
          refine h_to 11 rfl rfl rfl rfl rfl rfl (s_app (e := 43) (sz := 4) (by_ := 32) (m := 0) (k := t.Q.length) (olds := []) tok (t.Q.flatMap Hold.cells) rfl (fun E w1 hm => hQ.sl.src hm.get) (fun _ _ _ => hold_ones t.Q) (by omega)) (.inr fun _ _ => ⟨(by repeat (first | exact SubO.nil | refine SubO.cons rfl ?_)), rfl, (by first | exact Vw.le.refl _ | assumption)⟩) (fun _ _ => ?_)
          refine h_one 12 (by kernel_rfl) ?_
          refine h_yield 12 rfl rfl rfl rfl (y_val tok rfl) ?_
          refine h_one 13 (by kernel_rfl) ?_
          refine h_store 13 tok rfl rfl rfl rfl (by first | exact ⟨trivial, trivial⟩ | (repeat' first | exact trivial | exact rfl | apply And.intro); done | simp [onesP, oneP, lk, Value.oneCell']) (.inl rfl) ?_
          refine h_done [2] (by kernel_rfl) rfl ?_
          refine k_swap 4 6 rfl ?_
          refine k_swap 6 7 rfl ?_
          exact x_meet () trivial (by repeat (first | exact SubF.nil | refine SubF.cons rfl ?_)) (by repeat (first | exact SubO.nil | refine SubO.cons rfl ?_)) rfl (Vw.le.refl _)
    ·
      refine h_to 4 rfl rfl rfl rfl rfl rfl (s_bs tok 4 rfl rfl rfl) (.inr fun _ _ => ⟨(by repeat (first | exact SubO.nil | refine SubO.cons rfl ?_)), rfl, (by first | exact Vw.le.refl _ | assumption)⟩) (fun _ _ => ?_)
      refine h_two 0 8 (by kernel_rfl) ?_ ?_
      ·
        refine h_to 0 rfl rfl rfl rfl rfl rfl (s_bs tok 2 rfl rfl rfl) (.inr fun _ _ => ⟨(by repeat (first | exact SubO.nil | refine SubO.cons rfl ?_)), rfl, (by first | exact Vw.le.refl _ | assumption)⟩) (fun _ _ => ?_)
        refine h_two 3 8 (by kernel_rfl) ?_ ?_
        ·
          refine h_to 3 rfl rfl rfl rfl rfl rfl (s_app (e := 48) (sz := 2) (by_ := 16) (m := 0) (k := t.S.length) (olds := []) tok (t.S.flatMap Slot.cells) rfl (fun E w1 hm => hS.sl.src hm.get) (fun _ _ _ => slot_ones t.S) (by omega)) (.inr fun _ _ => ⟨(by repeat (first | exact SubO.nil | refine SubO.cons rfl ?_)), rfl, (by first | exact Vw.le.refl _ | assumption)⟩) (fun _ _ => ?_)
          refine h_two 7 8 (by kernel_rfl) ?_ ?_
          ·
            refine h_to 7 rfl rfl rfl rfl rfl rfl (s_app (e := 43) (sz := 4) (by_ := 32) (m := 0) (k := t.H.length) (olds := []) tok (t.H.flatMap Hold.cells) rfl (fun E w1 hm => hH.sl.src hm.get) (fun _ _ _ => hold_ones t.H) (by omega)) (.inr fun _ _ => ⟨(by repeat (first | exact SubO.nil | refine SubO.cons rfl ?_)), rfl, (by first | exact Vw.le.refl _ | assumption)⟩) (fun _ _ => ?_)
            refine h_one 8 (by kernel_rfl) ?_
            refine h_to 8 rfl rfl rfl rfl rfl rfl (s_bs tok 4 rfl rfl rfl) (.inr fun _ _ => ⟨(by repeat (first | exact SubO.nil | refine SubO.cons rfl ?_)), rfl, (by first | exact Vw.le.refl _ | assumption)⟩) (fun _ _ => ?_)
            refine h_one 11 (by kernel_rfl) ?_
            refine h_to 11 rfl rfl rfl rfl rfl rfl (s_app (e := 43) (sz := 4) (by_ := 32) (m := 0) (k := t.Q.length) (olds := []) tok (t.Q.flatMap Hold.cells) rfl (fun E w1 hm => hQ.sl.src hm.get) (fun _ _ _ => hold_ones t.Q) (by omega)) (.inr fun _ _ => ⟨(by repeat (first | exact SubO.nil | refine SubO.cons rfl ?_)), rfl, (by first | exact Vw.le.refl _ | assumption)⟩) (fun _ _ => ?_)
            refine h_one 12 (by kernel_rfl) ?_
            refine h_yield 12 rfl rfl rfl rfl (y_val tok rfl) ?_
            refine h_one 13 (by kernel_rfl) ?_
            refine h_store 13 tok rfl rfl rfl rfl (by first | exact ⟨trivial, trivial⟩ | (repeat' first | exact trivial | exact rfl | apply And.intro); done | simp [onesP, oneP, lk, Value.oneCell']) (.inl rfl) ?_
            refine h_done [2] (by kernel_rfl) rfl ?_
            refine k_swap 3 4 rfl ?_
            refine k_swap 4 5 rfl ?_
            exact x_meet () trivial (by repeat (first | exact SubF.nil | refine SubF.cons rfl ?_)) (by repeat (first | exact SubO.nil | refine SubO.cons rfl ?_)) rfl (Vw.le.refl _)
          ·
            refine h_to 8 rfl rfl rfl rfl rfl rfl (s_bs tok 4 rfl rfl rfl) (.inr fun _ _ => ⟨(by repeat (first | exact SubO.nil | refine SubO.cons rfl ?_)), rfl, (by first | exact Vw.le.refl _ | assumption)⟩) (fun _ _ => ?_)
            refine h_one 7 (by kernel_rfl) ?_
            refine h_to 7 rfl rfl rfl rfl rfl rfl (s_app (e := 43) (sz := 4) (by_ := 32) (m := 0) (k := t.H.length) (olds := []) tok (t.H.flatMap Hold.cells) rfl (fun E w1 hm => hH.sl.src hm.get) (fun _ _ _ => hold_ones t.H) (by omega)) (.inr fun _ _ => ⟨(by repeat (first | exact SubO.nil | refine SubO.cons rfl ?_)), rfl, (by first | exact Vw.le.refl _ | assumption)⟩) (fun _ _ => ?_)
            refine h_one 11 (by kernel_rfl) ?_
            refine h_to 11 rfl rfl rfl rfl rfl rfl (s_app (e := 43) (sz := 4) (by_ := 32) (m := 0) (k := t.Q.length) (olds := []) tok (t.Q.flatMap Hold.cells) rfl (fun E w1 hm => hQ.sl.src hm.get) (fun _ _ _ => hold_ones t.Q) (by omega)) (.inr fun _ _ => ⟨(by repeat (first | exact SubO.nil | refine SubO.cons rfl ?_)), rfl, (by first | exact Vw.le.refl _ | assumption)⟩) (fun _ _ => ?_)
            refine h_one 12 (by kernel_rfl) ?_
            refine h_yield 12 rfl rfl rfl rfl (y_val tok rfl) ?_
            refine h_one 13 (by kernel_rfl) ?_
            refine h_store 13 tok rfl rfl rfl rfl (by first | exact ⟨trivial, trivial⟩ | (repeat' first | exact trivial | exact rfl | apply And.intro); done | simp [onesP, oneP, lk, Value.oneCell']) (.inl rfl) ?_
            refine h_done [2] (by kernel_rfl) rfl ?_
            refine k_swap 3 4 rfl ?_
            refine k_swap 4 5 rfl ?_
            refine k_swap 6 7 rfl ?_
            exact x_meet () trivial (by repeat (first | exact SubF.nil | refine SubF.cons rfl ?_)) (by repeat (first | exact SubO.nil | refine SubO.cons rfl ?_)) rfl (Vw.le.refl _)
        ·
          refine h_to 8 rfl rfl rfl rfl rfl rfl (s_bs tok 4 rfl rfl rfl) (.inr fun _ _ => ⟨(by repeat (first | exact SubO.nil | refine SubO.cons rfl ?_)), rfl, (by first | exact Vw.le.refl _ | assumption)⟩) (fun _ _ => ?_)
          refine h_one 3 (by kernel_rfl) ?_
          refine h_to 3 rfl rfl rfl rfl rfl rfl (s_app (e := 48) (sz := 2) (by_ := 16) (m := 0) (k := t.S.length) (olds := []) tok (t.S.flatMap Slot.cells) rfl (fun E w1 hm => hS.sl.src hm.get) (fun _ _ _ => slot_ones t.S) (by omega)) (.inr fun _ _ => ⟨(by repeat (first | exact SubO.nil | refine SubO.cons rfl ?_)), rfl, (by first | exact Vw.le.refl _ | assumption)⟩) (fun _ _ => ?_)
          refine h_one 7 (by kernel_rfl) ?_
          refine h_to 7 rfl rfl rfl rfl rfl rfl (s_app (e := 43) (sz := 4) (by_ := 32) (m := 0) (k := t.H.length) (olds := []) tok (t.H.flatMap Hold.cells) rfl (fun E w1 hm => hH.sl.src hm.get) (fun _ _ _ => hold_ones t.H) (by omega)) (.inr fun _ _ => ⟨(by repeat (first | exact SubO.nil | refine SubO.cons rfl ?_)), rfl, (by first | exact Vw.le.refl _ | assumption)⟩) (fun _ _ => ?_)
          refine h_one 11 (by kernel_rfl) ?_
          refine h_to 11 rfl rfl rfl rfl rfl rfl (s_app (e := 43) (sz := 4) (by_ := 32) (m := 0) (k := t.Q.length) (olds := []) tok (t.Q.flatMap Hold.cells) rfl (fun E w1 hm => hQ.sl.src hm.get) (fun _ _ _ => hold_ones t.Q) (by omega)) (.inr fun _ _ => ⟨(by repeat (first | exact SubO.nil | refine SubO.cons rfl ?_)), rfl, (by first | exact Vw.le.refl _ | assumption)⟩) (fun _ _ => ?_)
          refine h_one 12 (by kernel_rfl) ?_
          refine h_yield 12 rfl rfl rfl rfl (y_val tok rfl) ?_
          refine h_one 13 (by kernel_rfl) ?_
          refine h_store 13 tok rfl rfl rfl rfl (by first | exact ⟨trivial, trivial⟩ | (repeat' first | exact trivial | exact rfl | apply And.intro); done | simp [onesP, oneP, lk, Value.oneCell']) (.inl rfl) ?_
          refine h_done [2] (by kernel_rfl) rfl ?_
          refine k_swap 3 4 rfl ?_
          refine k_swap 4 6 rfl ?_
          refine k_swap 5 6 rfl ?_
          refine k_swap 6 7 rfl ?_
          exact x_meet () trivial (by repeat (first | exact SubF.nil | refine SubF.cons rfl ?_)) (by repeat (first | exact SubO.nil | refine SubO.cons rfl ?_)) rfl (Vw.le.refl _)
      ·
        refine h_to 8 rfl rfl rfl rfl rfl rfl (s_bs tok 4 rfl rfl rfl) (.inr fun _ _ => ⟨(by repeat (first | exact SubO.nil | refine SubO.cons rfl ?_)), rfl, (by first | exact Vw.le.refl _ | assumption)⟩) (fun _ _ => ?_)
        refine h_one 0 (by kernel_rfl) ?_
        refine h_to 0 rfl rfl rfl rfl rfl rfl (s_bs tok 2 rfl rfl rfl) (.inr fun _ _ => ⟨(by repeat (first | exact SubO.nil | refine SubO.cons rfl ?_)), rfl, (by first | exact Vw.le.refl _ | assumption)⟩) (fun _ _ => ?_)
        refine h_one 3 (by kernel_rfl) ?_
        refine h_to 3 rfl rfl rfl rfl rfl rfl (s_app (e := 48) (sz := 2) (by_ := 16) (m := 0) (k := t.S.length) (olds := []) tok (t.S.flatMap Slot.cells) rfl (fun E w1 hm => hS.sl.src hm.get) (fun _ _ _ => slot_ones t.S) (by omega)) (.inr fun _ _ => ⟨(by repeat (first | exact SubO.nil | refine SubO.cons rfl ?_)), rfl, (by first | exact Vw.le.refl _ | assumption)⟩) (fun _ _ => ?_)
        refine h_one 7 (by kernel_rfl) ?_
        refine h_to 7 rfl rfl rfl rfl rfl rfl (s_app (e := 43) (sz := 4) (by_ := 32) (m := 0) (k := t.H.length) (olds := []) tok (t.H.flatMap Hold.cells) rfl (fun E w1 hm => hH.sl.src hm.get) (fun _ _ _ => hold_ones t.H) (by omega)) (.inr fun _ _ => ⟨(by repeat (first | exact SubO.nil | refine SubO.cons rfl ?_)), rfl, (by first | exact Vw.le.refl _ | assumption)⟩) (fun _ _ => ?_)
        refine h_one 11 (by kernel_rfl) ?_
        refine h_to 11 rfl rfl rfl rfl rfl rfl (s_app (e := 43) (sz := 4) (by_ := 32) (m := 0) (k := t.Q.length) (olds := []) tok (t.Q.flatMap Hold.cells) rfl (fun E w1 hm => hQ.sl.src hm.get) (fun _ _ _ => hold_ones t.Q) (by omega)) (.inr fun _ _ => ⟨(by repeat (first | exact SubO.nil | refine SubO.cons rfl ?_)), rfl, (by first | exact Vw.le.refl _ | assumption)⟩) (fun _ _ => ?_)
        refine h_one 12 (by kernel_rfl) ?_
        refine h_yield 12 rfl rfl rfl rfl (y_val tok rfl) ?_
        refine h_one 13 (by kernel_rfl) ?_
        refine h_store 13 tok rfl rfl rfl rfl (by first | exact ⟨trivial, trivial⟩ | (repeat' first | exact trivial | exact rfl | apply And.intro); done | simp [onesP, oneP, lk, Value.oneCell']) (.inl rfl) ?_
        refine h_done [2] (by kernel_rfl) rfl ?_
        refine k_swap 3 5 rfl ?_
        refine k_swap 4 6 rfl ?_
        refine k_swap 6 7 rfl ?_
        exact x_meet () trivial (by repeat (first | exact SubF.nil | refine SubF.cons rfl ?_)) (by repeat (first | exact SubO.nil | refine SubO.cons rfl ?_)) rfl (Vw.le.refl _)
    ·
      refine h_to 8 rfl rfl rfl rfl rfl rfl (s_bs tok 4 rfl rfl rfl) (.inr fun _ _ => ⟨(by repeat (first | exact SubO.nil | refine SubO.cons rfl ?_)), rfl, (by first | exact Vw.le.refl _ | assumption)⟩) (fun _ _ => ?_)
      refine h_two 0 4 (by kernel_rfl) ?_ ?_
      ·
        refine h_to 0 rfl rfl rfl rfl rfl rfl (s_bs tok 2 rfl rfl rfl) (.inr fun _ _ => ⟨(by repeat (first | exact SubO.nil | refine SubO.cons rfl ?_)), rfl, (by first | exact Vw.le.refl _ | assumption)⟩) (fun _ _ => ?_)
        refine h_two 3 4 (by kernel_rfl) ?_ ?_
        ·
          refine h_to 3 rfl rfl rfl rfl rfl rfl (s_app (e := 48) (sz := 2) (by_ := 16) (m := 0) (k := t.S.length) (olds := []) tok (t.S.flatMap Slot.cells) rfl (fun E w1 hm => hS.sl.src hm.get) (fun _ _ _ => slot_ones t.S) (by omega)) (.inr fun _ _ => ⟨(by repeat (first | exact SubO.nil | refine SubO.cons rfl ?_)), rfl, (by first | exact Vw.le.refl _ | assumption)⟩) (fun _ _ => ?_)
          refine h_one 4 (by kernel_rfl) ?_
          refine h_to 4 rfl rfl rfl rfl rfl rfl (s_bs tok 4 rfl rfl rfl) (.inr fun _ _ => ⟨(by repeat (first | exact SubO.nil | refine SubO.cons rfl ?_)), rfl, (by first | exact Vw.le.refl _ | assumption)⟩) (fun _ _ => ?_)
          refine h_one 7 (by kernel_rfl) ?_
          refine h_to 7 rfl rfl rfl rfl rfl rfl (s_app (e := 43) (sz := 4) (by_ := 32) (m := 0) (k := t.H.length) (olds := []) tok (t.H.flatMap Hold.cells) rfl (fun E w1 hm => hH.sl.src hm.get) (fun _ _ _ => hold_ones t.H) (by omega)) (.inr fun _ _ => ⟨(by repeat (first | exact SubO.nil | refine SubO.cons rfl ?_)), rfl, (by first | exact Vw.le.refl _ | assumption)⟩) (fun _ _ => ?_)
          refine h_one 11 (by kernel_rfl) ?_
          refine h_to 11 rfl rfl rfl rfl rfl rfl (s_app (e := 43) (sz := 4) (by_ := 32) (m := 0) (k := t.Q.length) (olds := []) tok (t.Q.flatMap Hold.cells) rfl (fun E w1 hm => hQ.sl.src hm.get) (fun _ _ _ => hold_ones t.Q) (by omega)) (.inr fun _ _ => ⟨(by repeat (first | exact SubO.nil | refine SubO.cons rfl ?_)), rfl, (by first | exact Vw.le.refl _ | assumption)⟩) (fun _ _ => ?_)
          refine h_one 12 (by kernel_rfl) ?_
          refine h_yield 12 rfl rfl rfl rfl (y_val tok rfl) ?_
          refine h_one 13 (by kernel_rfl) ?_
          refine h_store 13 tok rfl rfl rfl rfl (by first | exact ⟨trivial, trivial⟩ | (repeat' first | exact trivial | exact rfl | apply And.intro); done | simp [onesP, oneP, lk, Value.oneCell']) (.inl rfl) ?_
          refine h_done [2] (by kernel_rfl) rfl ?_
          refine k_swap 3 4 rfl ?_
          refine k_swap 4 5 rfl ?_
          refine k_swap 5 6 rfl ?_
          refine k_swap 6 7 rfl ?_
          exact x_meet () trivial (by repeat (first | exact SubF.nil | refine SubF.cons rfl ?_)) (by repeat (first | exact SubO.nil | refine SubO.cons rfl ?_)) rfl (Vw.le.refl _)
        ·
          refine h_to 4 rfl rfl rfl rfl rfl rfl (s_bs tok 4 rfl rfl rfl) (.inr fun _ _ => ⟨(by repeat (first | exact SubO.nil | refine SubO.cons rfl ?_)), rfl, (by first | exact Vw.le.refl _ | assumption)⟩) (fun _ _ => ?_)
          refine h_one 3 (by kernel_rfl) ?_
          refine h_to 3 rfl rfl rfl rfl rfl rfl (s_app (e := 48) (sz := 2) (by_ := 16) (m := 0) (k := t.S.length) (olds := []) tok (t.S.flatMap Slot.cells) rfl (fun E w1 hm => hS.sl.src hm.get) (fun _ _ _ => slot_ones t.S) (by omega)) (.inr fun _ _ => ⟨(by repeat (first | exact SubO.nil | refine SubO.cons rfl ?_)), rfl, (by first | exact Vw.le.refl _ | assumption)⟩) (fun _ _ => ?_)
          refine h_one 7 (by kernel_rfl) ?_
          refine h_to 7 rfl rfl rfl rfl rfl rfl (s_app (e := 43) (sz := 4) (by_ := 32) (m := 0) (k := t.H.length) (olds := []) tok (t.H.flatMap Hold.cells) rfl (fun E w1 hm => hH.sl.src hm.get) (fun _ _ _ => hold_ones t.H) (by omega)) (.inr fun _ _ => ⟨(by repeat (first | exact SubO.nil | refine SubO.cons rfl ?_)), rfl, (by first | exact Vw.le.refl _ | assumption)⟩) (fun _ _ => ?_)
          refine h_one 11 (by kernel_rfl) ?_
          refine h_to 11 rfl rfl rfl rfl rfl rfl (s_app (e := 43) (sz := 4) (by_ := 32) (m := 0) (k := t.Q.length) (olds := []) tok (t.Q.flatMap Hold.cells) rfl (fun E w1 hm => hQ.sl.src hm.get) (fun _ _ _ => hold_ones t.Q) (by omega)) (.inr fun _ _ => ⟨(by repeat (first | exact SubO.nil | refine SubO.cons rfl ?_)), rfl, (by first | exact Vw.le.refl _ | assumption)⟩) (fun _ _ => ?_)
          refine h_one 12 (by kernel_rfl) ?_
          refine h_yield 12 rfl rfl rfl rfl (y_val tok rfl) ?_
          refine h_one 13 (by kernel_rfl) ?_
          refine h_store 13 tok rfl rfl rfl rfl (by first | exact ⟨trivial, trivial⟩ | (repeat' first | exact trivial | exact rfl | apply And.intro); done | simp [onesP, oneP, lk, Value.oneCell']) (.inl rfl) ?_
          refine h_done [2] (by kernel_rfl) rfl ?_
          refine k_swap 3 4 rfl ?_
          refine k_swap 4 6 rfl ?_
          refine k_swap 6 7 rfl ?_
          exact x_meet () trivial (by repeat (first | exact SubF.nil | refine SubF.cons rfl ?_)) (by repeat (first | exact SubO.nil | refine SubO.cons rfl ?_)) rfl (Vw.le.refl _)
      ·
        refine h_to 4 rfl rfl rfl rfl rfl rfl (s_bs tok 4 rfl rfl rfl) (.inr fun _ _ => ⟨(by repeat (first | exact SubO.nil | refine SubO.cons rfl ?_)), rfl, (by first | exact Vw.le.refl _ | assumption)⟩) (fun _ _ => ?_)
        refine h_one 0 (by kernel_rfl) ?_
        refine h_to 0 rfl rfl rfl rfl rfl rfl (s_bs tok 2 rfl rfl rfl) (.inr fun _ _ => ⟨(by repeat (first | exact SubO.nil | refine SubO.cons rfl ?_)), rfl, (by first | exact Vw.le.refl _ | assumption)⟩) (fun _ _ => ?_)
        refine h_one 3 (by kernel_rfl) ?_
        refine h_to 3 rfl rfl rfl rfl rfl rfl (s_app (e := 48) (sz := 2) (by_ := 16) (m := 0) (k := t.S.length) (olds := []) tok (t.S.flatMap Slot.cells) rfl (fun E w1 hm => hS.sl.src hm.get) (fun _ _ _ => slot_ones t.S) (by omega)) (.inr fun _ _ => ⟨(by repeat (first | exact SubO.nil | refine SubO.cons rfl ?_)), rfl, (by first | exact Vw.le.refl _ | assumption)⟩) (fun _ _ => ?_)
        refine h_one 7 (by kernel_rfl) ?_
        refine h_to 7 rfl rfl rfl rfl rfl rfl (s_app (e := 43) (sz := 4) (by_ := 32) (m := 0) (k := t.H.length) (olds := []) tok (t.H.flatMap Hold.cells) rfl (fun E w1 hm => hH.sl.src hm.get) (fun _ _ _ => hold_ones t.H) (by omega)) (.inr fun _ _ => ⟨(by repeat (first | exact SubO.nil | refine SubO.cons rfl ?_)), rfl, (by first | exact Vw.le.refl _ | assumption)⟩) (fun _ _ => ?_)
        refine h_one 11 (by kernel_rfl) ?_
        refine h_to 11 rfl rfl rfl rfl rfl rfl (s_app (e := 43) (sz := 4) (by_ := 32) (m := 0) (k := t.Q.length) (olds := []) tok (t.Q.flatMap Hold.cells) rfl (fun E w1 hm => hQ.sl.src hm.get) (fun _ _ _ => hold_ones t.Q) (by omega)) (.inr fun _ _ => ⟨(by repeat (first | exact SubO.nil | refine SubO.cons rfl ?_)), rfl, (by first | exact Vw.le.refl _ | assumption)⟩) (fun _ _ => ?_)
        refine h_one 12 (by kernel_rfl) ?_
        refine h_yield 12 rfl rfl rfl rfl (y_val tok rfl) ?_
        refine h_one 13 (by kernel_rfl) ?_
        refine h_store 13 tok rfl rfl rfl rfl (by first | exact ⟨trivial, trivial⟩ | (repeat' first | exact trivial | exact rfl | apply And.intro); done | simp [onesP, oneP, lk, Value.oneCell']) (.inl rfl) ?_
        refine h_done [2] (by kernel_rfl) rfl ?_
        refine k_swap 3 5 rfl ?_
        refine k_swap 4 6 rfl ?_
        refine k_swap 5 6 rfl ?_
        refine k_swap 6 7 rfl ?_
        exact x_meet () trivial (by repeat (first | exact SubF.nil | refine SubF.cons rfl ?_)) (by repeat (first | exact SubO.nil | refine SubO.cons rfl ?_)) rfl (Vw.le.refl _)
  rintro ⟨⟩ -
  refine x_then ?_
  refine c_ret ?_
  refine b_ret tok rfl ?_
  rw [Nat.zero_add t.S.length, Nat.zero_add t.H.length, Nat.zero_add t.Q.length, List.nil_append, List.nil_append, List.nil_append]
  intro E' w' hm _
  exact ⟨(), E', rfl, trivial, rfl, hm.big 0 _ rfl, hm.weak (by repeat (first | exact SubO.nil | refine SubO.cons rfl ?_)) rfl (Vw.le.refl _)⟩

/-- What the document's Grant leaves. -/
abbrev grMakes (t : Tb) (w : World) : Ending → World → Prop := Makes w (fun _ : Unit => True) (fun _ => .agg [.row 7, .row 9, .row 13]) (fun _ => [(7, (slR t.S).cel), (9, (hoR t.grant.H).cel), (13, (hoR t.grant.Q).cel)]) 14

theorem rgrantM_c (V : Vw) (tv : Value) (t : Tb) (w : World) (ht : t.Fit) (hV : V.le (vw w)) (h : TbIs V tv t) :
    Calls Try.prog 61 #[tv] w (grMakes t w) := by
  have h0 := h
  obtain ⟨a, n, c, a2, n2, c2, a3, n3, c3, rfl, h1, h2, h3⟩ := h
  have hh := ht.h
  have hq := ht.q
  have hlim : lim = 4398046511104 := rfl
  have hQ := h3.mono hV
  have hm1 := (mem0 E0 0 w).addSize
  refine enter [.a (.v (.agg #[.slice a n c, .slice a2 n2 c2, .slice a3 n3 c3]))] Try.func61 rfl rfl (hm1) rfl rfl ?_
  refine c_seq ?_
  refine c_region ?_
  refine o_new tok rfl rfl rfl rfl ?_
  refine o_new tok rfl rfl rfl rfl ?_
  refine o_end [1, 2] rfl ?_
  refine x_then ?_
  refine c_seq ?_
  refine c_region ?_
  refine o_yield rfl rfl rfl (y_val tok rfl) ?_
  refine o_step rfl rfl rfl rfl rfl (s_makes (fun _ : Unit => True) (fun _ => .agg [.row 4, .row 6, .row 8]) (fun _ => [(4, (slR t.S).cel), (6, (hoR t.H).cel), (8, (hoR t.Q).cel)]) 9 rfl fnok85 (fun E w1 hm => rcopy_c V _ t w1 ht (hV.trans hm.leV) h0)) (fun _ _ => ?_)
  refine o_new tok rfl rfl rfl rfl ?_
  refine o_store tok rfl rfl rfl (by first | exact ⟨trivial, trivial⟩ | (repeat' first | exact trivial | exact rfl | apply And.intro); done | simp [onesP, oneP, lk, Value.oneCell']) ?_
  refine o_end [1, 2, 3] rfl ?_
  refine x_then ?_
  refine c_seq ?_
  refine c_region ?_
  refine o_yield rfl rfl rfl (y_val tok rfl) ?_
  refine o_store tok rfl rfl rfl (by first | exact ⟨trivial, trivial⟩ | (repeat' first | exact trivial | exact rfl | apply And.intro); done | simp [onesP, oneP, lk, Value.oneCell']) ?_
  refine o_end [1, 2, 3] rfl ?_
  refine x_then ?_
  refine c_seq ?_
  refine c_seq ?_
  refine c_region ?_
  refine o_yield rfl rfl rfl (y_val tok rfl) ?_
  refine o_end [1, 2, 3, 4] rfl ?_
  refine x_then ?_
  refine c_block ?_
  refine k_nilO 12 2 43 4 rfl rfl ?_
  refine c_loopK [1, 2, 3] [9, 13] rfl rfl (σ := Nat × List Hold × List Hold) (fun (k, A, B) => [(4, .a (.v (I k)))]) (fun (k, A, B) => [(9, .row 43 4 A.length (A.flatMap Hold.cells)), (13, .row 43 4 B.length (B.flatMap Hold.cells))]) (fun (k, A, B) => k ≤ t.Q.length ∧ A.length + B.length = t.H.length + k ∧ grantGo (t.Q.drop k) A B = grantGo t.Q t.H []) (fun (k, A, B) => t.Q.length - k) ((0, t.H, [])) (⟨by omega, by simp, rfl⟩) (by repeat (first | exact SubF.nil | refine SubF.cons rfl ?_)) (by repeat (first | exact SubO.nil | refine SubO.cons rfl ?_)) rfl ?_
  rintro ⟨k, A, B⟩ ⟨hk, hl, hgo⟩
  dsimp only at hk hl hgo ⊢
  refine c_seq ?_
  refine c_seq ?_
  refine c_region ?_
  refine o_yield rfl rfl rfl (y_val tok rfl) ?_
  refine o_yield rfl rfl rfl (y_val tok rfl) ?_
  refine o_yield rfl rfl rfl (y_val tok rfl) ?_
  refine o_yield rfl rfl rfl (y_len tok rfl (fun hg => hQ.sl)) ?_
  refine o_yield rfl rfl rfl (y_val tok rfl) ?_
  refine o_end [1, 2, 3, 4, 13] rfl ?_
  refine x_then ?_
  refine c_cond rfl (fun h => ?_) (fun h => ?_)
  ·
    simp only [Bool.and_eq_true, Bool.or_eq_true, Bool.not_eq_true', Bool.or_eq_false_iff, Bool.and_eq_false_iff, decide_eq_true_eq, decide_eq_false_iff_not, beq_iff_eq, bne_iff_ne, Bool.not_eq_false', beq_eq_false_iff_ne, bne_eq_false_iff_eq, ne_eq, Decidable.not_not, Int.not_lt, Int.not_le] at h
    refine c_skip ?_
    refine x_then ?_
    refine c_seq ?_
    refine c_block ?_
    refine c_seq ?_
    refine c_region ?_
    refine o_yield rfl rfl rfl (y_val tok rfl) ?_
    refine o_yield rfl rfl rfl (y_val tok rfl) ?_
    refine o_yield rfl rfl rfl (y_val tok rfl) ?_
    obtain ⟨x, hx⟩ : ∃ x, t.Q[k]? = some x := ⟨_, List.getElem?_eq_getElem (by omega)⟩
    rw [grantGo_at hx] at hgo
    have hwk : IntKind.i64.wrap ((k : Int) + 1) = ((k + 1 : Nat) : Int) := wrapI (by omega) (by omega)
    have hlt_x := lt_of_at hx
    refine o_yield rfl rfl rfl (y_idx tok rfl (fun hg => hQ.sl) (fun hg => ⟨by omega, by omega⟩)) ?_
    refine o_yield rfl rfl rfl (y_lel tok (k) 0 (x) rfl (fun hg => hQ) (fun hg => hx) rfl rfl) ?_
    refine o_new tok rfl rfl rfl rfl ?_
    refine o_store tok rfl rfl rfl (by first | exact ⟨trivial, trivial⟩ | (repeat' first | exact trivial | exact rfl | apply And.intro); done | simp [onesP, oneP, lk, Value.oneCell']) ?_
    refine o_end [1, 2, 3, 4, 5] rfl ?_
    refine x_then ?_
    refine c_seq ?_
    refine c_region ?_
    refine o_yield rfl rfl rfl (y_val tok rfl) ?_
    refine o_yield rfl rfl rfl (y_val tok rfl) ?_
    refine o_yield rfl rfl rfl (y_val tok rfl) ?_
    refine o_call (.a (.v _)) rfl rfl fnok78 rfl rfl rfl (fun hg E w1 hm => by exact spRfits_c (vw w1) x (E.κ 9) A _ (Vw.le.refl _) (hm.rowOf 9 rfl (fun _ => rfl)) (by omega)) ?_
    refine o_yield rfl rfl rfl (y_val tok rfl) ?_
    refine o_yield rfl rfl rfl (y_val tok rfl) ?_
    refine o_yield rfl rfl rfl (y_val tok rfl) ?_
    refine o_yield rfl rfl rfl (y_val tok rfl) ?_
    refine o_call (.a (.v _)) rfl rfl fnok78 rfl rfl rfl (fun hg E w1 hm => by exact spRfits_c (vw w1) x (E.κ 13) B _ (Vw.le.refl _) (hm.rowOf 13 rfl (fun _ => rfl)) (by omega)) ?_
    refine o_yield rfl rfl rfl (y_val tok rfl) ?_
    refine o_end [1, 2, 3, 4, 5, 30] rfl ?_
    refine x_then ?_
    refine c_cond rfl (fun h => ?_) (fun h => ?_)
    ·
      refine c_region ?_
      refine o_yield rfl rfl rfl (y_val tok rfl) ?_
      refine o_yield rfl rfl rfl (y_val tok rfl) ?_
      refine o_yield rfl rfl rfl (y_val tok rfl) ?_
      rw [if_pos h] at hgo
      clear h
      refine o_step rfl rfl rfl rfl rfl (s_bs tok 4 rfl rfl rfl) (fun _ _ => ?_)
      refine o_step rfl rfl rfl rfl rfl (s_app tok x.cells rfl (fun E w hm => ownsRow_src (hm.row _ _ _ _ _ rfl)) (fun _ _ _ => by simpa using hold_ones [x]) (by dsimp only; omega)) (fun _ _ => ?_)
      refine o_yield rfl rfl rfl (y_val tok rfl) ?_
      refine o_store tok rfl rfl rfl (by first | exact ⟨trivial, trivial⟩ | (repeat' first | exact trivial | exact rfl | apply And.intro); done | simp [onesP, oneP, lk, Value.oneCell']) ?_
      refine o_end [1, 2, 3, 4] rfl ?_
      refine x_block ?_
      refine x_then ?_
      refine c_region ?_
      refine o_yield rfl rfl rfl (y_val tok rfl) ?_
      refine o_yield rfl rfl rfl (y_val tok rfl) ?_
      refine o_yield rfl rfl rfl (y_val tok rfl) ?_
      refine o_end [1, 2, 3, 4] rfl ?_
      refine x_then ?_
      rw [(hold_snoc A x).1, (hold_snoc A x).2, hwk]
      refine k_swap 9 16 rfl ?_
      refine x_round ((k + 1, A ++ [x], B)) (⟨by dsimp only; omega, by simp; omega, hgo⟩) (by first | omega | (dsimp only; omega)) (by repeat (first | exact SubF.nil | refine SubF.cons rfl ?_)) (by repeat (first | exact SubO.nil | refine SubO.cons rfl ?_)) rfl (Vw.le.refl _)
    ·
      refine c_region ?_
      refine o_yield rfl rfl rfl (y_val tok rfl) ?_
      refine o_yield rfl rfl rfl (y_val tok rfl) ?_
      refine o_yield rfl rfl rfl (y_val tok rfl) ?_
      rw [if_neg (by rw [h]; simp)] at hgo
      clear h
      refine o_step rfl rfl rfl rfl rfl (s_bs tok 4 rfl rfl rfl) (fun _ _ => ?_)
      refine o_step rfl rfl rfl rfl rfl (s_app tok x.cells rfl (fun E w hm => ownsRow_src (hm.row _ _ _ _ _ rfl)) (fun _ _ _ => by simpa using hold_ones [x]) (by dsimp only; omega)) (fun _ _ => ?_)
      refine o_yield rfl rfl rfl (y_val tok rfl) ?_
      refine o_store tok rfl rfl rfl (by first | exact ⟨trivial, trivial⟩ | (repeat' first | exact trivial | exact rfl | apply And.intro); done | simp [onesP, oneP, lk, Value.oneCell']) ?_
      refine o_end [1, 2, 3, 4] rfl ?_
      refine x_block ?_
      refine x_then ?_
      refine c_region ?_
      refine o_yield rfl rfl rfl (y_val tok rfl) ?_
      refine o_yield rfl rfl rfl (y_val tok rfl) ?_
      refine o_yield rfl rfl rfl (y_val tok rfl) ?_
      refine o_end [1, 2, 3, 4] rfl ?_
      refine x_then ?_
      rw [(hold_snoc B x).1, (hold_snoc B x).2, hwk]
      refine k_swap 13 16 rfl ?_
      refine x_round ((k + 1, A, B ++ [x])) (⟨by dsimp only; omega, by simp; omega, hgo⟩) (by first | omega | (dsimp only; omega)) (by repeat (first | exact SubF.nil | refine SubF.cons rfl ?_)) (by repeat (first | exact SubO.nil | refine SubO.cons rfl ?_)) rfl (Vw.le.refl _)
  ·
    simp only [Bool.and_eq_true, Bool.or_eq_true, Bool.not_eq_true', Bool.or_eq_false_iff, Bool.and_eq_false_iff, decide_eq_true_eq, decide_eq_false_iff_not, beq_iff_eq, bne_iff_ne, Bool.not_eq_false', beq_eq_false_iff_ne, bne_eq_false_iff_eq, ne_eq, Decidable.not_not, Int.not_lt, Int.not_le] at h
    have hkl : k = t.Q.length := by omega
    subst hkl
    rw [List.drop_length] at hgo
    have hA : t.grant = ⟨t.S, A, B⟩ := by rw [Tb.grant, ← hgo]; rfl
    rw [grMakes, hA]
    clear h hA
    refine c_exit ?_
    refine x_then_exit ?_
    refine x_then_exit ?_
    refine x_block_hit ?_
    refine x_then ?_
    refine c_seq ?_
    refine c_region ?_
    refine o_yield rfl rfl rfl (y_val tok rfl) ?_
    refine o_store tok rfl rfl rfl (by first | exact ⟨trivial, trivial⟩ | (repeat' first | exact trivial | exact rfl | apply And.intro); done | simp [onesP, oneP, lk, Value.oneCell']) ?_
    refine o_end [2] rfl ?_
    refine x_then ?_
    refine c_ret ?_
    refine b_ret tok rfl ?_
    intro E' w' hm _
    exact ⟨(), E', rfl, trivial, rfl, hm.big 0 _ rfl, hm.weak (by repeat (first | exact SubO.nil | refine SubO.cons rfl ?_)) rfl (Vw.le.refl _)⟩

/-- A table of rows of one's own, read. -/
theorem TbIs.rows {E : Env} {O : Go.Eng.Own} {nl : Nat} {V : Vw} {w : World} (hm : Mem E O nl V w) (a b c : Nat) {t : Tb} (ha : lk O a = some (slR t.S).cel) (hb : lk O b = some (hoR t.H).cel) (hc : lk O c = some (hoR t.Q).cel) : TbIs (vw w) (.agg #[E.κ a, E.κ b, E.κ c]) t := by
  have s1 := hm.rowOf (enc := Slot.cells) (L := t.S) a ha (fun _ => rfl)
  have s2 := hm.rowOf (enc := Hold.cells) (L := t.H) b hb (fun _ => rfl)
  have s3 := hm.rowOf (enc := Hold.cells) (L := t.Q) c hc (fun _ => rfl)
  obtain ⟨x1, y1, z1, e1⟩ := sl_shape s1.sl
  obtain ⟨x2, y2, z2, e2⟩ := sl_shape s2.sl
  obtain ⟨x3, y3, z3, e3⟩ := sl_shape s3.sl
  exact ⟨x1, y1, z1, x2, y2, z2, x3, y3, z3, by rw [e1, e2, e3], e1 ▸ s1, e2 ▸ s2, e3 ▸ s3⟩
end Go.Proofs.Ytiapfhcimekdkaa

/- Tables, the document's: commands. -/
set_option linter.unusedVariables false
set_option linter.unusedSimpArgs false
set_option maxRecDepth 100000
namespace Go.Proofs.Ytiapfhcimekdkaa
open Go Go.Eng Go.RowKit

theorem filt_stepW {l : List Hold} {k : Nat} {x : Hold} (pr : Hold → Bool) (h : l[k]? = some x) : (l.take (k + 1)).filter pr = (l.take k).filter pr ++ (if pr x = true then [x] else []) := by
  rw [take_succ_at' h, List.filter_append]
  cases hq : pr x <;> simp [hq]

theorem rwithout_c (V : Vw) (sv : Value) (l : List Hold) (key : Int) (w : World) (hV : V.le (vw w)) (hs0 : SlOf V Hold.cells 4 sv l) (hn : l.length ≤ 1000000) :
    Calls Try.prog 126 #[sv, I key] w (HRow (l.filter fun h => !(h.key == key)) w) := by
  have hs := hs0.mono hV
  refine enter (E := E0) (O := []) (nl := 0) (V := vw w) [.a (.v sv), .a (.v (I key))] Try.func126 rfl rfl (mem0 E0 0 w) rfl rfl ?_
  refine c_seq ?_
  refine c_region ?_
  refine o_yield rfl rfl rfl (y_val tok rfl) ?_
  refine o_end [0, 1] rfl ?_
  refine x_then ?_
  refine c_seq ?_
  refine c_region ?_
  refine o_yield rfl rfl rfl (y_val tok rfl) ?_
  refine o_end [0, 1, 5] rfl ?_
  refine x_then ?_
  refine c_seq ?_
  refine c_seq ?_
  refine c_region ?_
  refine o_yield rfl rfl rfl (y_val tok rfl) ?_
  refine o_end [0, 1, 5, 6] rfl ?_
  refine x_then ?_
  refine c_block ?_
  refine k_nil 5 43 4 rfl rfl ?_
  refine c_loopK [0, 1] [0] rfl rfl (σ := Nat) (fun i => [(5, .a (.row 0)), (6, .a (.v (I i)))]) (fun i => [(0, .row 43 4 ((l.take i).filter fun h => !(h.key == key)).length (((l.take i).filter fun h => !(h.key == key)).flatMap Hold.cells))]) (fun i => i ≤ l.length) (fun i => l.length - i) (0) (by omega) (by repeat (first | exact SubF.nil | refine SubF.cons rfl ?_)) (by repeat (first | exact SubO.nil | refine SubO.cons rfl ?_)) rfl ?_
  rintro i hi
  refine c_seq ?_
  refine c_seq ?_
  refine c_region ?_
  refine o_yield rfl rfl rfl (y_val tok rfl) ?_
  refine o_yield rfl rfl rfl (y_val tok rfl) ?_
  refine o_yield rfl rfl rfl (y_len tok rfl (fun hg => hs.sl)) ?_
  refine o_yield rfl rfl rfl (y_val tok rfl) ?_
  refine o_end [0, 1, 5, 6, 10] rfl ?_
  refine x_then ?_
  refine c_cond rfl (fun h => ?_) (fun h => ?_)
  ·
    simp only [Bool.and_eq_true, Bool.or_eq_true, Bool.not_eq_true', Bool.or_eq_false_iff, Bool.and_eq_false_iff, decide_eq_true_eq, decide_eq_false_iff_not, beq_iff_eq, bne_iff_ne, Bool.not_eq_false', beq_eq_false_iff_ne, bne_eq_false_iff_eq, ne_eq, Decidable.not_not, Int.not_lt, Int.not_le] at h
    obtain ⟨x, h_x⟩ : ∃ x, l[i]? = some x := ⟨_, List.getElem?_eq_getElem (by omega)⟩
    have hwi : IntKind.i64.wrap ((i : Int) + 1) = ((i + 1 : Nat) : Int) := wrapI (by omega) (by omega)
    have hfl : ((l.take i).filter fun h => !(h.key == key)).length ≤ i := Nat.le_trans (List.length_filter_le _ _) (by rw [List.length_take]; omega)
    have hft := filt_stepW (fun h => !(h.key == key)) h_x
    refine c_skip ?_
    refine x_then ?_
    refine c_seq ?_
    refine c_block ?_
    refine c_seq ?_
    refine c_region ?_
    refine o_yield rfl rfl rfl (y_val tok rfl) ?_
    refine o_yield rfl rfl rfl (y_val tok rfl) ?_
    have hlt_x := lt_of_at h_x
    refine o_yield rfl rfl rfl (y_idx tok rfl (fun hg => hs.sl) (fun hg => ⟨by omega, by omega⟩)) ?_
    refine o_yield rfl rfl rfl (y_fel tok rfl (fun hg => hs.sl) (fun hg => by omega)) ?_
    refine o_yield rfl rfl rfl (y_lel tok (i) 0 (x) rfl (fun hg => hs) (fun hg => h_x) rfl rfl) ?_
    refine o_yield rfl rfl rfl (y_val tok rfl) ?_
    refine o_yield rfl rfl rfl (y_val tok rfl) ?_
    refine o_end [0, 1, 5, 6, 19] rfl ?_
    refine x_then ?_
    refine c_cond rfl (fun h => ?_) (fun h => ?_)
    ·
      refine c_region ?_
      refine o_yield rfl rfl rfl (y_val tok rfl) ?_
      refine o_yield rfl rfl rfl (y_val tok rfl) ?_
      refine o_yield rfl rfl rfl (y_val tok rfl) ?_
      have h' : (!(x.key == key)) = true := by simpa [bne] using h
      rw [if_pos h'] at hft
      have hlt_x := lt_of_at h_x
      refine o_yield rfl rfl rfl (y_idx tok rfl (fun hg => hs.sl) (fun hg => ⟨by omega, by omega⟩)) ?_
      refine o_yield rfl rfl rfl (y_lel tok (i) 0 (x) rfl (fun hg => hs) (fun hg => h_x) rfl rfl) ?_
      refine o_step rfl rfl rfl rfl rfl (s_bs tok 4 rfl rfl rfl) (fun _ _ => ?_)
      refine o_step rfl rfl rfl rfl rfl (s_app tok x.cells rfl (fun E w hm => ownsRow_src (hm.row _ _ _ _ _ rfl)) (fun _ _ _ => by simpa using hold_ones [x]) (by dsimp only; omega)) (fun _ _ => ?_)
      refine o_yield rfl rfl rfl (y_val tok rfl) ?_
      refine o_end [0, 1, 5, 6] rfl ?_
      refine x_block ?_
      refine x_then ?_
      refine c_region ?_
      refine o_yield rfl rfl rfl (y_val tok rfl) ?_
      refine o_yield rfl rfl rfl (y_val tok rfl) ?_
      refine o_yield rfl rfl rfl (y_val tok rfl) ?_
      refine o_end [0, 1, 5, 6] rfl ?_
      refine x_then ?_
      rw [(hold_snoc _ x).1, (hold_snoc _ x).2, ← hft, hwi]
      refine k_swap 0 2 rfl ?_
      refine x_round (i + 1) (by omega) (by first | omega | (dsimp only; omega)) (by repeat (first | exact SubF.nil | refine SubF.cons rfl ?_)) (by repeat (first | exact SubO.nil | refine SubO.cons rfl ?_)) rfl (Vw.le.refl _)
    ·
      refine c_skip ?_
      refine x_block ?_
      refine x_then ?_
      refine c_region ?_
      refine o_yield rfl rfl rfl (y_val tok rfl) ?_
      refine o_yield rfl rfl rfl (y_val tok rfl) ?_
      refine o_yield rfl rfl rfl (y_val tok rfl) ?_
      refine o_end [0, 1, 5, 6] rfl ?_
      refine x_then ?_
      have h' : ¬ (!(x.key == key)) = true := by simpa [bne] using h
      rw [if_neg h', List.append_nil] at hft
      rw [← hft, hwi]
      refine x_round (i + 1) (by omega) (by first | omega | (dsimp only; omega)) (by repeat (first | exact SubF.nil | refine SubF.cons rfl ?_)) (by repeat (first | exact SubO.nil | refine SubO.cons rfl ?_)) rfl (Vw.le.refl _)
  ·
    simp only [Bool.and_eq_true, Bool.or_eq_true, Bool.not_eq_true', Bool.or_eq_false_iff, Bool.and_eq_false_iff, decide_eq_true_eq, decide_eq_false_iff_not, beq_iff_eq, bne_iff_ne, Bool.not_eq_false', beq_eq_false_iff_ne, bne_eq_false_iff_eq, ne_eq, Decidable.not_not, Int.not_lt, Int.not_le] at h
    refine c_exit ?_
    refine x_then_exit ?_
    refine x_then_exit ?_
    refine x_block_hit ?_
    refine x_then ?_
    refine c_seq ?_
    refine c_region ?_
    refine o_yield rfl rfl rfl (y_val tok rfl) ?_
    refine o_yield rfl rfl rfl (y_val tok rfl) ?_
    refine o_end [4] rfl ?_
    refine x_then ?_
    refine c_ret ?_
    refine b_ret tok rfl ?_
    have hil : i = l.length := by omega
    subst hil
    rw [List.take_length]
    intro E' w' hm _
    exact ⟨_, rfl, hm.rowFresh (Vw.le.refl _) (l := 0) rfl, hm.below (Vw.le.refl _)⟩

theorem rat_c (V : Vw) (sv : Value) (l : List Hold) (key lo hi : Int) (w : World) (hV : V.le (vw w)) (hs0 : SlOf V Hold.cells 4 sv l) (hn : l.length ≤ 1000000) :
    Calls Try.prog 87 #[sv, I key, .agg #[I lo, I hi]] w fun e w' => e = .returned (I (idxOf (justB key lo hi) l)) ∧ Below w.heap.size w w' := by
  have hs := hs0.mono hV
  refine enter (E := E0) (O := []) (nl := 0) (V := vw w) [.a (.v sv), .a (.v (I key)), .a (.v (.agg #[I lo, I hi]))] Try.func87 rfl rfl (mem0 E0 0 w) rfl rfl ?_
  refine c_seq ?_
  refine c_region ?_
  refine o_new tok rfl rfl rfl rfl ?_
  refine o_yield rfl rfl rfl (y_val tok rfl) ?_
  refine o_end [0, 1, 5] rfl ?_
  refine x_then ?_
  refine c_seq ?_
  refine c_seq ?_
  refine c_region ?_
  refine o_yield rfl rfl rfl (y_val tok rfl) ?_
  refine o_end [0, 1, 5, 7] rfl ?_
  refine x_then ?_
  refine c_block ?_
  refine c_loopK [0, 1, 5] [] rfl rfl (σ := Nat) (fun i => [(7, .a (.v (I i)))]) (fun i => []) (fun i => i ≤ l.length ∧ ∀ (j : Nat) (x : Hold), j < i → l[j]? = some x → justB key lo hi x = false) (fun i => l.length - i) (0) (⟨by omega, by simp⟩) (by repeat (first | exact SubF.nil | refine SubF.cons rfl ?_)) (by repeat (first | exact SubO.nil | refine SubO.cons rfl ?_)) rfl ?_
  rintro i ⟨hil, hall⟩
  refine c_seq ?_
  refine c_seq ?_
  refine c_region ?_
  refine o_yield rfl rfl rfl (y_val tok rfl) ?_
  refine o_yield rfl rfl rfl (y_val tok rfl) ?_
  refine o_yield rfl rfl rfl (y_len tok rfl (fun hg => hs.sl)) ?_
  refine o_yield rfl rfl rfl (y_val tok rfl) ?_
  refine o_end [0, 1, 5, 7, 11] rfl ?_
  refine x_then ?_
  refine c_cond rfl (fun h => ?_) (fun h => ?_)
  ·
    simp only [Bool.and_eq_true, Bool.or_eq_true, Bool.not_eq_true', Bool.or_eq_false_iff, Bool.and_eq_false_iff, decide_eq_true_eq, decide_eq_false_iff_not, beq_iff_eq, bne_iff_ne, Bool.not_eq_false', beq_eq_false_iff_ne, bne_eq_false_iff_eq, ne_eq, Decidable.not_not, Int.not_lt, Int.not_le] at h
    obtain ⟨x, h_x⟩ : ∃ x, l[i]? = some x := ⟨_, List.getElem?_eq_getElem (by omega)⟩
    refine c_skip ?_
    refine x_then ?_
    refine c_seq ?_
    refine c_block ?_
    refine c_seq ?_
    refine c_draw mixed (by kernel_rfl) ?_
    refine d_yield rfl rfl rfl (y_val tok rfl) rfl ?_
    refine d_yield rfl rfl rfl (y_val tok rfl) rfl ?_
    have hlt_x := lt_of_at h_x
    refine d_yield rfl rfl rfl (y_idx tok rfl (fun hg => hs.sl) (fun hg => ⟨by omega, by omega⟩)) rfl ?_
    refine d_yield rfl rfl rfl (y_fel tok rfl (fun hg => hs.sl) (fun hg => by omega)) rfl ?_
    refine d_yield rfl rfl rfl (y_lel tok (i) 0 (x) rfl (fun hg => hs) (fun hg => h_x) rfl rfl) rfl ?_
    refine d_yield rfl rfl rfl (y_val tok rfl) rfl ?_
    refine d_yield rfl rfl rfl (y_val tok rfl) rfl ?_
    refine d_yield rfl rfl rfl (y_val tok rfl) rfl ?_
    refine d_yield rfl rfl rfl (y_val tok rfl) rfl ?_
    refine d_yield rfl rfl rfl (y_val tok rfl) rfl ?_
    have hlt_x := lt_of_at h_x
    refine d_yield rfl rfl rfl (y_idx tok rfl (fun hg => hs.sl) (fun hg => ⟨by omega, by omega⟩)) rfl ?_
    refine d_yield rfl rfl rfl (y_fel tok rfl (fun hg => hs.sl) (fun hg => by omega)) rfl ?_
    refine d_yield rfl rfl rfl (y_lel tok (i) 1 (x) rfl (fun hg => hs) (fun hg => h_x) rfl rfl) rfl ?_
    refine d_yield rfl rfl rfl (y_val tok rfl) rfl ?_
    refine d_yield rfl rfl rfl (y_seq (.bool (x.lo == lo && x.hi == hi)) rfl (fun E w => spanEq x.lo x.hi lo hi w (.inl rfl))) rfl ?_
    refine d_yield rfl rfl rfl (y_val tok rfl) rfl ?_
    refine d_end [0, 1, 5, 7, 29] rfl ?_
    refine x_then ?_
    refine c_cond rfl (fun h => ?_) (fun h => ?_)
    ·
      refine c_seq ?_
      refine c_region ?_
      refine o_yield rfl rfl rfl (y_val tok rfl) ?_
      refine o_yield rfl rfl rfl (y_val tok rfl) ?_
      refine o_end [6] rfl ?_
      refine x_then ?_
      refine c_ret ?_
      refine x_block_ret ?_
      refine x_then_ret ?_
      refine x_then_ret ?_
      refine x_block_ret ?_
      refine x_then_ret ?_
      refine b_ret tok rfl ?_
      have h' : justB key lo hi x = true := h
      intro E w' hm _
      refine ⟨?_, hm.below (Vw.le.refl _)⟩
      rw [idxOf, findIdx?_at h_x h' hall]; rfl
    ·
      refine c_skip ?_
      refine x_block ?_
      refine x_then ?_
      refine c_region ?_
      refine o_yield rfl rfl rfl (y_val tok rfl) ?_
      refine o_yield rfl rfl rfl (y_val tok rfl) ?_
      refine o_yield rfl rfl rfl (y_val tok rfl) ?_
      refine o_end [0, 1, 5, 7] rfl ?_
      refine x_then ?_
      have h' : justB key lo hi x = false := h
      rw [wrapI (by omega) (by omega)]
      refine x_round (i + 1) (⟨by omega, ahead_succ h_x hall h'⟩) (by first | omega | (dsimp only; omega)) (by repeat (first | exact SubF.nil | refine SubF.cons rfl ?_)) (by repeat (first | exact SubO.nil | refine SubO.cons rfl ?_)) rfl (Vw.le.refl _)
  ·
    simp only [Bool.and_eq_true, Bool.or_eq_true, Bool.not_eq_true', Bool.or_eq_false_iff, Bool.and_eq_false_iff, decide_eq_true_eq, decide_eq_false_iff_not, beq_iff_eq, bne_iff_ne, Bool.not_eq_false', beq_eq_false_iff_ne, bne_eq_false_iff_eq, ne_eq, Decidable.not_not, Int.not_lt, Int.not_le] at h
    refine c_exit ?_
    refine x_then_exit ?_
    refine x_then_exit ?_
    refine x_block_hit ?_
    refine x_then ?_
    refine c_seq ?_
    refine c_region ?_
    refine o_yield rfl rfl rfl (y_val tok rfl) ?_
    refine o_end [6] rfl ?_
    refine x_then ?_
    refine c_ret ?_
    refine b_ret tok rfl ?_
    have hge : i = l.length := by omega
    intro E w' hm _
    refine ⟨?_, hm.below (Vw.le.refl _)⟩
    rw [idxOf, findIdx?_no (hge ▸ hall)]; rfl

/-- What the document's leave leaves. -/
theorem rleave_c (V : Vw) (tv : Value) (t : Tb) (k : Nat) (x : Slot) (hx : t.S[k]? = some x) (w : World) (ht : t.Fit) (hV : V.le (vw w)) (h : TbIs V tv t) :
    Calls Try.prog 86 #[tv, I k] w (Makes w (fun _ : Unit => True) (fun _ => .agg [.row 22, .row 24, .row 28]) (fun _ => [(22, (slR (t.clear k).S).cel), (24, (hoR (t.clear k).H).cel), (28, (hoR (t.clear k).Q).cel)]) 29) := by
  have h0 := h
  obtain ⟨a, n, c, a2, n2, c2, a3, n3, c3, rfl, h1, h2, h3⟩ := h
  have hss := ht.s
  have hh := ht.h
  have hq := ht.q
  have hk := lt_of_at hx
  have hm1 := (mem0 E0 0 w).addSize
  have hcl : t.clear k = Tb.grant ⟨t.S.set k ⟨0, 0⟩, t.H.filter (fun h => !(h.key == x.key)), t.Q.filter (fun h => !(h.key == x.key))⟩ := by rw [Tb.clear, slotKey_at hx]
  rw [hcl]
  refine enter [.a (.v (.agg #[.slice a n c, .slice a2 n2 c2, .slice a3 n3 c3])), .a (.v (I k))] Try.func86 rfl rfl (hm1) rfl rfl ?_
  refine c_seq ?_
  refine c_region ?_
  refine o_new tok rfl rfl rfl rfl ?_
  refine o_new tok rfl rfl rfl rfl ?_
  refine o_end [1, 2, 4] rfl ?_
  refine x_then ?_
  refine c_seq ?_
  refine c_region ?_
  refine o_yield rfl rfl rfl (y_val tok rfl) ?_
  refine o_step rfl rfl rfl rfl rfl (s_makes (fun _ : Unit => True) (fun _ => .agg [.row 4, .row 6, .row 8]) (fun _ => [(4, (slR t.S).cel), (6, (hoR t.H).cel), (8, (hoR t.Q).cel)]) 9 rfl fnok85 (fun E w1 hm => rcopy_c V _ t w1 ht (hV.trans hm.leV) h0)) (fun _ _ => ?_)
  refine o_new tok rfl rfl rfl rfl ?_
  refine o_store tok rfl rfl rfl (by first | exact ⟨trivial, trivial⟩ | (repeat' first | exact trivial | exact rfl | apply And.intro); done | simp [onesP, oneP, lk, Value.oneCell']) ?_
  refine o_end [1, 4, 5] rfl ?_
  refine x_then ?_
  refine c_seq ?_
  refine c_region ?_
  refine o_yield rfl rfl rfl (y_val tok rfl) ?_
  refine o_yield rfl rfl rfl (y_val tok rfl) ?_
  refine o_yield rfl rfl rfl (y_val tok rfl) ?_
  refine o_yield rfl rfl rfl (y_own (s := .a (.rel 7 (k * 2))) 7 rfl rfl (fun v V' hv => y_idxK tok (k * 2) rfl (by simp) (fun hg => hv) (fun hg => by first | omega | (dsimp only [slR]; omega)))) ?_
  refine o_yield rfl rfl rfl (y_own (s := .a (.rel 7 (k * 2))) 7 rfl rfl (fun v V' hv => y_fel tok rfl (fun hg => hv) (fun hg => by first | omega | (dsimp only [slR]; omega)))) ?_
  refine o_yield rfl rfl rfl (y_own (s := .a (.v (I x.key))) 7 rfl rfl (fun v V' hv => y_lel (enc := Slot.cells) (l := t.S) tok k 0 x rfl (fun hg => ⟨hv, fun _ => rfl⟩) (fun hg => hx) rfl rfl)) ?_
  refine o_yield rfl rfl rfl (y_val tok rfl) ?_
  refine o_end [1, 4, 5, 6] rfl ?_
  refine x_then ?_
  refine c_seq ?_
  refine c_region ?_
  refine o_yield rfl rfl rfl (y_val tok rfl) ?_
  refine o_yield rfl rfl rfl (y_val tok rfl) ?_
  refine o_yield rfl rfl rfl (y_val tok rfl) ?_
  obtain ⟨H1, hH1⟩ : ∃ H1, H1 = t.H.filter fun h => !(h.key == x.key) := ⟨_, rfl⟩
  obtain ⟨Q1, hQ1⟩ : ∃ Q1, Q1 = t.Q.filter fun h => !(h.key == x.key) := ⟨_, rfl⟩
  have hH1l : H1.length ≤ t.H.length := by rw [hH1]; exact List.length_filter_le _ _
  have hQ1l : Q1.length ≤ t.Q.length := by rw [hQ1]; exact List.length_filter_le _ _
  rw [← hH1, ← hQ1]
  refine o_step rfl rfl rfl rfl rfl (s_callRow 43 4 H1.length (H1.flatMap Hold.cells) rfl fnok126 (fun E w1 hm => by rw [hH1]; exact rwithout_c (vw w1) (E.κ 9) t.H x.key w1 (Vw.le.refl _) (hm.rowOf 9 rfl (fun _ => rfl)) (by omega))) (fun _ _ => ?_)
  refine o_yield rfl rfl rfl (y_val tok rfl) ?_
  refine o_store tok rfl rfl rfl (by first | exact ⟨trivial, trivial⟩ | (repeat' first | exact trivial | exact rfl | apply And.intro); done | simp [onesP, oneP, lk, Value.oneCell']) ?_
  refine o_end [1, 4, 5, 6] rfl ?_
  refine x_then ?_
  refine c_seq ?_
  refine c_region ?_
  refine o_yield rfl rfl rfl (y_val tok rfl) ?_
  refine o_yield rfl rfl rfl (y_val tok rfl) ?_
  refine o_yield rfl rfl rfl (y_val tok rfl) ?_
  refine o_step rfl rfl rfl rfl rfl (s_callRow 43 4 Q1.length (Q1.flatMap Hold.cells) rfl fnok126 (fun E w1 hm => by rw [hQ1]; exact rwithout_c (vw w1) (E.κ 11) t.Q x.key w1 (Vw.le.refl _) (hm.rowOf 11 rfl (fun _ => rfl)) (by omega))) (fun _ _ => ?_)
  refine o_yield rfl rfl rfl (y_val tok rfl) ?_
  refine o_store tok rfl rfl rfl (by first | exact ⟨trivial, trivial⟩ | (repeat' first | exact trivial | exact rfl | apply And.intro); done | simp [onesP, oneP, lk, Value.oneCell']) ?_
  refine o_end [1, 4, 5] rfl ?_
  refine x_then ?_
  refine c_seq ?_
  refine c_region ?_
  refine o_yield rfl rfl rfl (y_val tok rfl) ?_
  refine o_yield rfl rfl rfl (y_val tok rfl) ?_
  refine o_yield rfl rfl rfl (y_val tok rfl) ?_
  refine o_yield rfl rfl rfl (y_val tok rfl) ?_
  refine o_yield rfl rfl rfl (y_own (s := .a (.rel 7 (k * 2))) 7 rfl rfl (fun v V' hv => y_idxK tok (k * 2) rfl (by simp) (fun hg => hv) (fun hg => by first | omega | (dsimp only [slR]; omega)))) ?_
  refine o_stepN rfl rfl rfl rfl (s_rst tok rfl rfl (by simpa using slot_ones [⟨0, 0⟩]) (by show k * 2 + 2 ≤ _; first | omega | (dsimp only [slR]; omega)) (by first | omega | (dsimp only [slR]; omega))) (fun _ _ => ?_)
  refine o_end [4, 5] rfl ?_
  refine x_then ?_
  refine c_seq ?_
  refine c_region ?_
  refine o_yield rfl rfl rfl (y_val tok rfl) ?_
  rw [show overL (k * 2) _ _ = (t.S.set k ⟨0, 0⟩).flatMap Slot.cells from overL_set (enc := Slot.cells) (sz := 2) (fun _ => rfl) t.S k ⟨0, 0⟩ hk]
  refine o_step rfl rfl rfl rfl rfl (s_makes (fun _ : Unit => True) (fun _ => .agg [.row 7, .row 9, .row 13]) (fun _ => [(7, (slR (t.S.set k ⟨0, 0⟩)).cel), (9, (hoR (Tb.grant ⟨t.S.set k ⟨0, 0⟩, H1, Q1⟩).H).cel), (13, (hoR (Tb.grant ⟨t.S.set k ⟨0, 0⟩, H1, Q1⟩).Q).cel)]) 14 rfl fnok61 (fun E w1 hm => rgrantM_c (vw w1) _ ⟨t.S.set k ⟨0, 0⟩, H1, Q1⟩ w1 ⟨by simpa using hss, Nat.le_trans hH1l hh, Nat.le_trans hQ1l hq⟩ (Vw.le.refl _) (TbIs.rows hm 7 13 14 (by dsimp only; rw [← slR_set]; rfl) rfl rfl))) (fun _ _ => ?_)
  refine o_store tok rfl rfl rfl (by first | exact ⟨trivial, trivial⟩ | (repeat' first | exact trivial | exact rfl | apply And.intro); done | simp [onesP, oneP, lk, Value.oneCell']) ?_
  refine o_end [4] rfl ?_
  refine x_then ?_
  refine c_ret ?_
  refine b_ret tok rfl ?_
  intro E' w' hm _
  exact ⟨(), E', rfl, trivial, rfl, hm.big 0 _ rfl, hm.weak (by repeat (first | exact SubO.nil | refine SubO.cons rfl ?_)) rfl (Vw.le.refl _)⟩

/-- What the document's free leaves. -/
abbrev frMakes (t : Tb) (w : World) : Ending → World → Prop := Makes w (fun _ : Unit => True) (fun _ => .agg [.row 23, .row 25, .row 29]) (fun _ => [(23, (slR t.S).cel), (25, (hoR t.H).cel), (29, (hoR t.Q).cel)]) 30

theorem rfreeH_c (V : Vw) (tv : Value) (t : Tb) (key lo hi : Int) (i : Nat) (x : Hold) (hi0 : t.H.findIdx? (justB key lo hi) = some i) (hx : t.H[i]? = some x) (w : World) (ht : t.Fit) (hV : V.le (vw w)) (h : TbIs V tv t) :
    Calls Try.prog 88 #[tv, I key, .agg #[I lo, I hi]] w (frMakes (t.free key lo hi) w) := by
  have h0 := h
  obtain ⟨a, n, c, a2, n2, c2, a3, n3, c3, rfl, h1, h2, h3⟩ := h
  have hss := ht.s
  have hh := ht.h
  have hq := ht.q
  have hres : t.free key lo hi = Tb.grant ⟨t.S, t.H.take i ++ t.H.drop (i + 1), t.Q⟩ := by rw [Tb.free, hi0]
  have hidx : idxOf (justB key lo hi) t.H = i := by rw [idxOf, hi0]
  have hlt := lt_of_at hx
  have hel : (t.H.take i ++ t.H.drop (i + 1)).length ≤ t.H.length := (erase_sub t.H i).length_le
  rw [hres]
  refine enter (E := E0) (O := []) (nl := 0) (V := vw w) [.a (.v (.agg #[.slice a n c, .slice a2 n2 c2, .slice a3 n3 c3])), .a (.v (I key)), .a (.v (.agg #[I lo, I hi]))] Try.func88 rfl rfl (mem0 E0 0 w) rfl rfl ?_
  refine c_seq ?_
  refine c_region ?_
  refine o_new tok rfl rfl rfl rfl ?_
  refine o_new tok rfl rfl rfl rfl ?_
  refine o_new tok rfl rfl rfl rfl ?_
  refine o_end [1, 3, 5, 6] rfl ?_
  refine x_then ?_
  refine c_seq ?_
  refine c_region ?_
  refine o_yield rfl rfl rfl (y_val tok rfl) ?_
  refine o_step rfl rfl rfl rfl rfl (s_makes (fun _ : Unit => True) (fun _ => .agg [.row 4, .row 6, .row 8]) (fun _ => [(4, (slR t.S).cel), (6, (hoR t.H).cel), (8, (hoR t.Q).cel)]) 9 rfl fnok85 (fun E w1 hm => rcopy_c V _ t w1 ht (hV.trans hm.leV) h0)) (fun _ _ => ?_)
  refine o_new tok rfl rfl rfl rfl ?_
  refine o_store tok rfl rfl rfl (by first | exact ⟨trivial, trivial⟩ | (repeat' first | exact trivial | exact rfl | apply And.intro); done | simp [onesP, oneP, lk, Value.oneCell']) ?_
  refine o_end [1, 5, 6, 7] rfl ?_
  refine x_then ?_
  refine c_seq ?_
  refine c_region ?_
  refine o_yield rfl rfl rfl (y_val tok rfl) ?_
  refine o_yield rfl rfl rfl (y_val tok rfl) ?_
  refine o_yield rfl rfl rfl (y_val tok rfl) ?_
  refine o_yield rfl rfl rfl (y_val tok rfl) ?_
  refine o_call (.a (.v _)) rfl rfl fnok87 rfl rfl rfl (fun hg E w1 hm => by exact rat_c (vw w1) (E.κ 9) t.H key lo hi _ (Vw.le.refl _) (hm.rowOf 9 rfl (fun _ => rfl)) (by omega)) ?_
  refine o_yield rfl rfl rfl (y_val tok rfl) ?_
  refine o_end [1, 5, 6, 7, 8] rfl ?_
  refine x_then ?_
  refine c_seq ?_
  refine c_seq ?_
  refine c_region ?_
  refine o_yield rfl rfl rfl (y_val tok rfl) ?_
  refine o_yield rfl rfl rfl (y_val tok rfl) ?_
  refine o_end [1, 5, 6, 7, 8, 17] rfl ?_
  refine x_then ?_
  refine c_cond rfl (fun h => ?_) (fun h => ?_)
  ·
    rw [hidx]
    clear h
    have hwi : IntKind.i64.wrap ((i : Int) + 1) = ((i + 1 : Nat) : Int) := wrapI (by omega) (by omega)
    refine c_seq ?_
    refine k_freeze 9 rfl (fun lv V1 hle1 hsl1 _ => ?_)
    have hL : SlOf V1 Hold.cells 4 lv t.H := ⟨hsl1, fun _ => rfl⟩
    have hL1 := hL.cut (lo := 0) (hi := i) (by omega) (by omega)
    have hL2 := hL.cut (lo := i + 1) (hi := t.H.length) (by omega) (Nat.le_refl _)
    simp only [List.drop_zero, Nat.sub_zero] at hL1
    rw [List.take_of_length_le (by rw [List.length_drop]; omega)] at hL2
    refine c_heldS [13] mixed rfl (by repeat (first | exact SubO.nil | refine SubO.cons rfl ?_)) (by first | rfl | simp [okCels, allOk_plain]) ?_
    refine t_takeD 1 rfl (by kernel_rfl) rfl rfl rfl (y_val tok rfl) rfl ?_
    refine t_takeD 2 rfl (by kernel_rfl) rfl rfl rfl (y_val tok rfl) rfl ?_
    refine t_takeD 3 rfl (by kernel_rfl) rfl rfl rfl (y_val tok rfl) rfl ?_
    refine t_takeD 4 rfl (by kernel_rfl) rfl rfl rfl (y_sl tok rfl (fun hg => hL.sl) (fun hg => ⟨by dsimp only [Option.getD]; omega, by dsimp only [Option.getD]; omega, by dsimp only [Option.getD]; omega⟩)) rfl ?_
    refine t_takeD 6 rfl (by kernel_rfl) rfl rfl rfl (y_val tok rfl) rfl ?_
    refine t_takeD 7 rfl (by kernel_rfl) rfl rfl rfl (y_val tok rfl) rfl ?_
    refine t_takeD 8 rfl (by kernel_rfl) rfl rfl rfl (y_val tok rfl) rfl ?_
    refine t_takeD 9 rfl (by kernel_rfl) rfl rfl rfl (y_val tok rfl) rfl ?_
    rw [hwi]
    refine t_takeD 10 rfl (by kernel_rfl) rfl rfl rfl (y_sl tok rfl (fun hg => hL.sl) (fun hg => ⟨by dsimp only [Option.getD]; omega, by dsimp only [Option.getD]; omega, by dsimp only [Option.getD]; omega⟩)) rfl ?_
    refine t_go ?_
    refine h_one 0 (by kernel_rfl) ?_
    refine h_to 0 rfl rfl rfl rfl rfl rfl (s_bs tok 4 rfl rfl rfl) (.inr fun _ _ => ⟨(by repeat (first | exact SubO.nil | refine SubO.cons rfl ?_)), rfl, (by first | exact Vw.le.refl _ | assumption)⟩) (fun _ _ => ?_)
    refine h_one 5 (by kernel_rfl) ?_
    refine h_to 5 rfl rfl rfl rfl rfl rfl (s_app (l := 13) (e := 43) (sz := 4) (by_ := 32) (m := 0) (k := (t.H.take i).length) (olds := []) tok ((t.H.take i).flatMap Hold.cells) rfl (fun E w1 hm => (hL1.sl).src hm.get) (fun _ _ _ => hold_ones _) (by rw [List.length_take]; omega)) (.inr fun _ _ => ⟨(by repeat (first | exact SubO.nil | refine SubO.cons rfl ?_)), rfl, (by first | exact Vw.le.refl _ | assumption)⟩) (fun _ _ => ?_)
    refine h_one 11 (by kernel_rfl) ?_
    refine h_to 11 rfl rfl rfl rfl rfl rfl (s_app (l := 14) (e := 43) (sz := 4) (by_ := 32) (m := 0 + (t.H.take i).length) (k := (t.H.drop (i + 1)).length) tok ((t.H.drop (i + 1)).flatMap Hold.cells) rfl (fun E w1 hm => (hL2.sl).src hm.get) (fun _ _ _ => hold_ones _) (by rw [List.length_take, List.length_drop]; omega)) (.inr fun _ _ => ⟨(by repeat (first | exact SubO.nil | refine SubO.cons rfl ?_)), rfl, (by first | exact Vw.le.refl _ | assumption)⟩) (fun _ _ => ?_)
    refine h_one 12 (by kernel_rfl) ?_
    refine h_yield 12 rfl rfl rfl rfl (y_val tok rfl) ?_
    refine h_one 13 (by kernel_rfl) ?_
    refine h_store 13 tok rfl rfl rfl rfl (by first | exact ⟨trivial, trivial⟩ | (repeat' first | exact trivial | exact rfl | apply And.intro); done | simp [onesP, oneP, lk, Value.oneCell']) (.inl rfl) ?_
    refine h_done [6, 7] (by kernel_rfl) rfl ?_
    refine x_then ?_
    refine c_seq ?_
    refine c_region ?_
    refine o_yield rfl rfl rfl (y_val tok rfl) ?_
    rw [Nat.zero_add (t.H.take i).length, List.nil_append, ← List.length_append, ← List.flatMap_append]
    refine o_step rfl rfl rfl rfl rfl (s_makes (fun _ : Unit => True) (fun _ => .agg [.row 7, .row 9, .row 13]) (fun _ => [(7, (slR t.S).cel), (9, (hoR (Tb.grant ⟨t.S, t.H.take i ++ t.H.drop (i + 1), t.Q⟩).H).cel), (13, (hoR (Tb.grant ⟨t.S, t.H.take i ++ t.H.drop (i + 1), t.Q⟩).Q).cel)]) 14 rfl fnok61 (fun E w1 hm => rgrantM_c (vw w1) _ ⟨t.S, t.H.take i ++ t.H.drop (i + 1), t.Q⟩ w1 ⟨hss, Nat.le_trans hel hh, hq⟩ (Vw.le.refl _) (TbIs.rows hm 7 15 11 rfl rfl rfl))) (fun _ _ => ?_)
    refine o_store tok rfl rfl rfl (by first | exact ⟨trivial, trivial⟩ | (repeat' first | exact trivial | exact rfl | apply And.intro); done | simp [onesP, oneP, lk, Value.oneCell']) ?_
    refine o_end [6] rfl ?_
    refine x_then ?_
    refine c_ret ?_
    refine x_then_ret ?_
    refine b_ret tok rfl ?_
    intro E' w' hm _
    exact ⟨(), E', rfl, trivial, rfl, (hm.below hle1).size, (hm.viewDown hle1).weak (by repeat (first | exact SubO.nil | refine SubO.cons rfl ?_)) rfl (Vw.le.refl _)⟩
  ·
    exfalso
    rw [hidx] at h; simp at h
theorem rfreeQ_c (V : Vw) (tv : Value) (t : Tb) (key lo hi : Int) (i : Nat) (x : Hold) (hno : t.H.findIdx? (justB key lo hi) = none) (hi0 : t.Q.findIdx? (justB key lo hi) = some i) (hx : t.Q[i]? = some x) (w : World) (ht : t.Fit) (hV : V.le (vw w)) (h : TbIs V tv t) :
    Calls Try.prog 88 #[tv, I key, .agg #[I lo, I hi]] w (frMakes (t.free key lo hi) w) := by
  have h0 := h
  obtain ⟨a, n, c, a2, n2, c2, a3, n3, c3, rfl, h1, h2, h3⟩ := h
  have hss := ht.s
  have hh := ht.h
  have hq := ht.q
  have hres : t.free key lo hi = Tb.grant ⟨t.S, t.H, t.Q.take i ++ t.Q.drop (i + 1)⟩ := by rw [Tb.free, hno]; dsimp only; rw [hi0]
  have hidxN : idxOf (justB key lo hi) t.H = -1 := by rw [idxOf, hno]
  have hidx : idxOf (justB key lo hi) t.Q = i := by rw [idxOf, hi0]
  have hlt := lt_of_at hx
  have hel : (t.Q.take i ++ t.Q.drop (i + 1)).length ≤ t.Q.length := (erase_sub t.Q i).length_le
  rw [hres]
  refine enter (E := E0) (O := []) (nl := 0) (V := vw w) [.a (.v (.agg #[.slice a n c, .slice a2 n2 c2, .slice a3 n3 c3])), .a (.v (I key)), .a (.v (.agg #[I lo, I hi]))] Try.func88 rfl rfl (mem0 E0 0 w) rfl rfl ?_
  refine c_seq ?_
  refine c_region ?_
  refine o_new tok rfl rfl rfl rfl ?_
  refine o_new tok rfl rfl rfl rfl ?_
  refine o_new tok rfl rfl rfl rfl ?_
  refine o_end [1, 3, 5, 6] rfl ?_
  refine x_then ?_
  refine c_seq ?_
  refine c_region ?_
  refine o_yield rfl rfl rfl (y_val tok rfl) ?_
  refine o_step rfl rfl rfl rfl rfl (s_makes (fun _ : Unit => True) (fun _ => .agg [.row 4, .row 6, .row 8]) (fun _ => [(4, (slR t.S).cel), (6, (hoR t.H).cel), (8, (hoR t.Q).cel)]) 9 rfl fnok85 (fun E w1 hm => rcopy_c V _ t w1 ht (hV.trans hm.leV) h0)) (fun _ _ => ?_)
  refine o_new tok rfl rfl rfl rfl ?_
  refine o_store tok rfl rfl rfl (by first | exact ⟨trivial, trivial⟩ | (repeat' first | exact trivial | exact rfl | apply And.intro); done | simp [onesP, oneP, lk, Value.oneCell']) ?_
  refine o_end [1, 5, 6, 7] rfl ?_
  refine x_then ?_
  refine c_seq ?_
  refine c_region ?_
  refine o_yield rfl rfl rfl (y_val tok rfl) ?_
  refine o_yield rfl rfl rfl (y_val tok rfl) ?_
  refine o_yield rfl rfl rfl (y_val tok rfl) ?_
  refine o_yield rfl rfl rfl (y_val tok rfl) ?_
  refine o_call (.a (.v _)) rfl rfl fnok87 rfl rfl rfl (fun hg E w1 hm => by exact rat_c (vw w1) (E.κ 9) t.H key lo hi _ (Vw.le.refl _) (hm.rowOf 9 rfl (fun _ => rfl)) (by omega)) ?_
  refine o_yield rfl rfl rfl (y_val tok rfl) ?_
  refine o_end [1, 5, 6, 7, 8] rfl ?_
  refine x_then ?_
  refine c_seq ?_
  refine c_seq ?_
  refine c_region ?_
  refine o_yield rfl rfl rfl (y_val tok rfl) ?_
  refine o_yield rfl rfl rfl (y_val tok rfl) ?_
  refine o_end [1, 5, 6, 7, 8, 17] rfl ?_
  refine x_then ?_
  refine c_cond rfl (fun h => ?_) (fun h => ?_)
  ·
    exfalso
    rw [hidxN] at h; simp at h
  ·
    clear h
    refine c_skip ?_
    refine x_then ?_
    refine c_seq ?_
    refine c_region ?_
    refine o_yield rfl rfl rfl (y_val tok rfl) ?_
    refine o_yield rfl rfl rfl (y_val tok rfl) ?_
    refine o_yield rfl rfl rfl (y_val tok rfl) ?_
    refine o_yield rfl rfl rfl (y_val tok rfl) ?_
    refine o_call (.a (.v _)) rfl rfl fnok87 rfl rfl rfl (fun hg E w1 hm => by exact rat_c (vw w1) (E.κ 11) t.Q key lo hi _ (Vw.le.refl _) (hm.rowOf 11 rfl (fun _ => rfl)) (by omega)) ?_
    refine o_yield rfl rfl rfl (y_val tok rfl) ?_
    refine o_end [6, 7, 8] rfl ?_
    refine x_then ?_
    refine c_seq ?_
    refine c_seq ?_
    refine c_region ?_
    refine o_yield rfl rfl rfl (y_val tok rfl) ?_
    refine o_yield rfl rfl rfl (y_val tok rfl) ?_
    refine o_end [6, 7, 8, 39] rfl ?_
    refine x_then ?_
    refine c_cond rfl (fun h => ?_) (fun h => ?_)
    ·
      rw [hidx]
      clear h
      have hwi : IntKind.i64.wrap ((i : Int) + 1) = ((i + 1 : Nat) : Int) := wrapI (by omega) (by omega)
      refine k_freeze 11 rfl (fun lv V1 hle1 hsl1 _ => ?_)
      have hL : SlOf V1 Hold.cells 4 lv t.Q := ⟨hsl1, fun _ => rfl⟩
      have hL1 := hL.cut (lo := 0) (hi := i) (by omega) (by omega)
      have hL2 := hL.cut (lo := i + 1) (hi := t.Q.length) (by omega) (Nat.le_refl _)
      simp only [List.drop_zero, Nat.sub_zero] at hL1
      rw [List.take_of_length_le (by rw [List.length_drop]; omega)] at hL2
      refine c_heldS [13] mixed rfl (by repeat (first | exact SubO.nil | refine SubO.cons rfl ?_)) (by first | rfl | simp [okCels, allOk_plain]) ?_
      refine t_takeD 1 rfl (by kernel_rfl) rfl rfl rfl (y_val tok rfl) rfl ?_
      refine t_takeD 2 rfl (by kernel_rfl) rfl rfl rfl (y_val tok rfl) rfl ?_
      refine t_takeD 3 rfl (by kernel_rfl) rfl rfl rfl (y_val tok rfl) rfl ?_
      refine t_takeD 4 rfl (by kernel_rfl) rfl rfl rfl (y_sl tok rfl (fun hg => hL.sl) (fun hg => ⟨by dsimp only [Option.getD]; omega, by dsimp only [Option.getD]; omega, by dsimp only [Option.getD]; omega⟩)) rfl ?_
      refine t_takeD 6 rfl (by kernel_rfl) rfl rfl rfl (y_val tok rfl) rfl ?_
      refine t_takeD 7 rfl (by kernel_rfl) rfl rfl rfl (y_val tok rfl) rfl ?_
      refine t_takeD 8 rfl (by kernel_rfl) rfl rfl rfl (y_val tok rfl) rfl ?_
      refine t_takeD 9 rfl (by kernel_rfl) rfl rfl rfl (y_val tok rfl) rfl ?_
      rw [hwi]
      refine t_takeD 10 rfl (by kernel_rfl) rfl rfl rfl (y_sl tok rfl (fun hg => hL.sl) (fun hg => ⟨by dsimp only [Option.getD]; omega, by dsimp only [Option.getD]; omega, by dsimp only [Option.getD]; omega⟩)) rfl ?_
      refine t_go ?_
      refine h_one 0 (by kernel_rfl) ?_
      refine h_to 0 rfl rfl rfl rfl rfl rfl (s_bs tok 4 rfl rfl rfl) (.inr fun _ _ => ⟨(by repeat (first | exact SubO.nil | refine SubO.cons rfl ?_)), rfl, (by first | exact Vw.le.refl _ | assumption)⟩) (fun _ _ => ?_)
      refine h_one 5 (by kernel_rfl) ?_
      refine h_to 5 rfl rfl rfl rfl rfl rfl (s_app (l := 13) (e := 43) (sz := 4) (by_ := 32) (m := 0) (k := (t.Q.take i).length) (olds := []) tok ((t.Q.take i).flatMap Hold.cells) rfl (fun E w1 hm => (hL1.sl).src hm.get) (fun _ _ _ => hold_ones _) (by rw [List.length_take]; omega)) (.inr fun _ _ => ⟨(by repeat (first | exact SubO.nil | refine SubO.cons rfl ?_)), rfl, (by first | exact Vw.le.refl _ | assumption)⟩) (fun _ _ => ?_)
      refine h_one 11 (by kernel_rfl) ?_
      refine h_to 11 rfl rfl rfl rfl rfl rfl (s_app (l := 14) (e := 43) (sz := 4) (by_ := 32) (m := 0 + (t.Q.take i).length) (k := (t.Q.drop (i + 1)).length) tok ((t.Q.drop (i + 1)).flatMap Hold.cells) rfl (fun E w1 hm => (hL2.sl).src hm.get) (fun _ _ _ => hold_ones _) (by rw [List.length_take, List.length_drop]; omega)) (.inr fun _ _ => ⟨(by repeat (first | exact SubO.nil | refine SubO.cons rfl ?_)), rfl, (by first | exact Vw.le.refl _ | assumption)⟩) (fun _ _ => ?_)
      refine h_one 12 (by kernel_rfl) ?_
      refine h_yield 12 rfl rfl rfl rfl (y_val tok rfl) ?_
      refine h_one 13 (by kernel_rfl) ?_
      refine h_store 13 tok rfl rfl rfl rfl (by first | exact ⟨trivial, trivial⟩ | (repeat' first | exact trivial | exact rfl | apply And.intro); done | simp [onesP, oneP, lk, Value.oneCell']) (.inl rfl) ?_
      refine h_done [6, 7] (by kernel_rfl) rfl ?_
      refine x_then ?_
      refine c_seq ?_
      refine c_region ?_
      refine o_yield rfl rfl rfl (y_val tok rfl) ?_
      rw [Nat.zero_add (t.Q.take i).length, List.nil_append, ← List.length_append, ← List.flatMap_append]
      refine o_step rfl rfl rfl rfl rfl (s_makes (fun _ : Unit => True) (fun _ => .agg [.row 7, .row 9, .row 13]) (fun _ => [(7, (slR t.S).cel), (9, (hoR (Tb.grant ⟨t.S, t.H, t.Q.take i ++ t.Q.drop (i + 1)⟩).H).cel), (13, (hoR (Tb.grant ⟨t.S, t.H, t.Q.take i ++ t.Q.drop (i + 1)⟩).Q).cel)]) 14 rfl fnok61 (fun E w1 hm => rgrantM_c (vw w1) _ ⟨t.S, t.H, t.Q.take i ++ t.Q.drop (i + 1)⟩ w1 ⟨hss, hh, Nat.le_trans hel hq⟩ (Vw.le.refl _) (TbIs.rows hm 7 9 15 rfl rfl rfl))) (fun _ _ => ?_)
      refine o_store tok rfl rfl rfl (by first | exact ⟨trivial, trivial⟩ | (repeat' first | exact trivial | exact rfl | apply And.intro); done | simp [onesP, oneP, lk, Value.oneCell']) ?_
      refine o_end [6] rfl ?_
      refine x_then ?_
      refine c_ret ?_
      refine b_ret tok rfl ?_
      intro E' w' hm _
      exact ⟨(), E', rfl, trivial, rfl, (hm.below hle1).size, (hm.viewDown hle1).weak (by repeat (first | exact SubO.nil | refine SubO.cons rfl ?_)) rfl (Vw.le.refl _)⟩
    ·
      exfalso
      rw [hidx] at h; simp at h

end Go.Proofs.Ytiapfhcimekdkaa

/- Tables, the document's: new, and what comes of commands. -/
set_option linter.unusedVariables false
set_option linter.unusedSimpArgs false
set_option maxRecDepth 100000
set_option linter.unusedSectionVars false
namespace Go.Proofs.Ytiapfhcimekdkaa
open Go Go.Eng Go.RowKit

theorem repl_snoc (i : Nat) : (List.replicate i (⟨0, 0⟩ : Slot)).flatMap Slot.cells ++ [I 0, I 0] = (List.replicate (i + 1) (⟨0, 0⟩ : Slot)).flatMap Slot.cells := by
  rw [List.replicate_succ', List.flatMap_append]; rfl

theorem rnew_c (V : Vw) (g : Geo) (w : World) (hV : V.le (vw w)) : Calls Try.prog 79 #[g.val] w (TbOut V (newT g.slots) w) := by
  have hk : min (max g.slots 0) 16 = ((newN g.slots : Nat) : Int) := by rw [newN]; omega
  have hk16 : newN g.slots ≤ 16 := by rw [newN]; omega
  refine enter (E := E0) (O := []) (nl := 0) (V := vw w) [.a (.v g.val)] Try.func79 rfl rfl (mem0 E0 0 w) rfl rfl ?_
  refine c_seq ?_
  refine c_region ?_
  refine o_new tok rfl rfl rfl rfl ?_
  refine o_new tok rfl rfl rfl rfl ?_
  refine o_end [1, 2] rfl ?_
  refine x_then ?_
  refine c_seq ?_
  refine c_region ?_
  refine o_new tok rfl rfl rfl rfl ?_
  refine o_end [1, 2, 3] rfl ?_
  refine x_then ?_
  refine c_seq ?_
  refine c_seq ?_
  refine k_nilO 2 0 48 2 rfl rfl ?_
  refine c_region ?_
  refine o_yield rfl rfl rfl (y_val tok rfl) ?_
  refine o_end [1, 2, 3, 4] rfl ?_
  refine x_then ?_
  refine c_block ?_
  refine c_loopK [1, 2, 3] [3] rfl rfl (σ := Nat) (fun i => [(4, .a (.v (I i)))]) (fun i => [(3, .row 48 2 i ((List.replicate i (⟨0, 0⟩ : Slot)).flatMap Slot.cells))]) (fun i => i ≤ newN g.slots) (fun i => newN g.slots - i) (0) (by omega) (by repeat (first | exact SubF.nil | refine SubF.cons rfl ?_)) (by repeat (first | exact SubO.nil | refine SubO.cons rfl ?_)) rfl ?_
  rintro i hi
  refine c_seq ?_
  refine c_seq ?_
  refine c_region ?_
  refine o_yield rfl rfl rfl (y_val tok rfl) ?_
  refine o_yield rfl rfl rfl (y_val tok rfl) ?_
  refine o_yield rfl rfl rfl (y_val tok rfl) ?_
  refine o_yield rfl rfl rfl (y_val tok rfl) ?_
  refine o_yield rfl rfl rfl (y_val tok rfl) ?_
  refine o_yield rfl rfl rfl (y_val tok rfl) ?_
  refine o_yield rfl rfl rfl (y_val tok rfl) ?_
  refine o_yield rfl rfl rfl (y_val tok rfl) ?_
  refine o_end [1, 2, 3, 4, 12] rfl ?_
  refine x_then ?_
  refine c_cond rfl (fun h => ?_) (fun h => ?_)
  ·
    simp only [Bool.and_eq_true, Bool.or_eq_true, Bool.not_eq_true', Bool.or_eq_false_iff, Bool.and_eq_false_iff, decide_eq_true_eq, decide_eq_false_iff_not, beq_iff_eq, bne_iff_ne, Bool.not_eq_false', beq_eq_false_iff_ne, bne_eq_false_iff_eq, ne_eq, Decidable.not_not, Int.not_lt, Int.not_le] at h
    refine c_skip ?_
    refine x_then ?_
    refine c_seq ?_
    refine c_block ?_
    refine c_region ?_
    refine o_yield rfl rfl rfl (y_val tok rfl) ?_
    refine o_yield rfl rfl rfl (y_val tok rfl) ?_
    refine o_yield rfl rfl rfl (y_val tok rfl) ?_
    have hwi : IntKind.i64.wrap ((i : Int) + 1) = ((i + 1 : Nat) : Int) := wrapI (by omega) (by omega)
    refine o_step rfl rfl rfl rfl rfl (s_bs tok 2 rfl rfl rfl) (fun _ _ => ?_)
    refine o_step rfl rfl rfl rfl rfl (s_app tok [I 0, I 0] rfl (fun E w hm => ownsRow_src (hm.row _ _ _ _ _ rfl)) (fun _ _ _ => by simpa using slot_ones [⟨0, 0⟩]) (by dsimp only; omega)) (fun _ _ => ?_)
    refine o_yield rfl rfl rfl (y_val tok rfl) ?_
    refine o_store tok rfl rfl rfl (by first | exact ⟨trivial, trivial⟩ | (repeat' first | exact trivial | exact rfl | apply And.intro); done | simp [onesP, oneP, lk, Value.oneCell']) ?_
    refine o_end [1, 2, 3, 4] rfl ?_
    refine x_block ?_
    refine x_then ?_
    refine c_region ?_
    refine o_yield rfl rfl rfl (y_val tok rfl) ?_
    refine o_yield rfl rfl rfl (y_val tok rfl) ?_
    refine o_yield rfl rfl rfl (y_val tok rfl) ?_
    refine o_end [1, 2, 3, 4] rfl ?_
    refine x_then ?_
    rw [repl_snoc, hwi]
    refine k_swap 3 5 rfl ?_
    refine x_round (i + 1) (by omega) (by first | omega | (dsimp only; omega)) (by repeat (first | exact SubF.nil | refine SubF.cons rfl ?_)) (by repeat (first | exact SubO.nil | refine SubO.cons rfl ?_)) rfl (Vw.le.refl _)
  ·
    simp only [Bool.and_eq_true, Bool.or_eq_true, Bool.not_eq_true', Bool.or_eq_false_iff, Bool.and_eq_false_iff, decide_eq_true_eq, decide_eq_false_iff_not, beq_iff_eq, bne_iff_ne, Bool.not_eq_false', beq_eq_false_iff_ne, bne_eq_false_iff_eq, ne_eq, Decidable.not_not, Int.not_lt, Int.not_le] at h
    refine c_exit ?_
    refine x_then_exit ?_
    refine x_then_exit ?_
    refine x_block_hit ?_
    refine x_then ?_
    refine c_seq ?_
    refine c_region ?_
    refine o_yield rfl rfl rfl (y_val tok rfl) ?_
    refine o_store tok rfl rfl rfl (by first | exact ⟨trivial, trivial⟩ | (repeat' first | exact trivial | exact rfl | apply And.intro); done | simp [onesP, oneP, lk, Value.oneCell']) ?_
    refine o_end [2] rfl ?_
    refine x_then ?_
    refine c_ret ?_
    refine b_ret tok rfl ?_
    have hil : i = newN g.slots := by omega
    subst hil
    intro E' w' hm _
    exact TbIs.out (t := newT g.slots) hV (hm.below (Vw.le.refl _)) (by show World.ownsRow _ _ _ _ _ (List.replicate (newN g.slots) (⟨0, 0⟩ : Slot)).length _; rw [List.length_replicate]; exact hm.rowFresh (Vw.le.refl _) (l := 3) rfl) (World.ownsRow_nil w' w.heap.size _ _) (World.ownsRow_nil w' w.heap.size _ _)

theorem touches_own (L : List Hold) (key lo hi : Int) : touches (L.filter fun h => h.key == key) key lo hi = touches L key lo hi := by
  rw [touches, touches, List.any_filter]
  congr 1
  funext h
  simp only [touchesAt]
  cases (h.key == key) <;> simp

/-- What a key has and waits for. -/
def allA (key : Int) (t : Tb) : List Hold := (t.H ++ t.Q).filter fun h => h.key == key

section
variable (V : Vw) (g : Geo) (tv : Value) (t : Tb) (c : Cmd) (w : World) (ht : t.Fit) (hq1 : t.Q.length + 1 ≤ 100000) (hV : V.le (vw w)) (h : TbIs V tv t)
include ht hq1 hV h

theorem rapply0_c (hk : c.kind = 0) : Calls Try.prog 35 #[g.val, tv, c.val] w (TbOut V (t.apply g.blocks c) w) := by
  have hT := h
  obtain ⟨a, n, c0, a2, n2, c2, a3, n3, c3, rfl, h1, h2, h3⟩ := id h
  clear h
  have hss := ht.s
  have hlim : lim = 4398046511104 := rfl
  have hS := h1.mono hV
  have hres : t.apply g.blocks c = t.mount c.by_ := by rw [Tb.apply, hk]; rfl
  rw [hres]
  have hd0 : decide ((0 : Int) ≤ -1) = false := rfl
  refine enter (E := E0) (O := []) (nl := 0) (V := vw w) [.a (.v g.val), .a (.v (.agg #[.slice a n c0, .slice a2 n2 c2, .slice a3 n3 c3])), .a (.v c.val)] Try.func35 rfl rfl (mem0 E0 0 w) rfl rfl ?_
  refine c_seq ?_
  refine c_region ?_
  refine o_new tok rfl rfl rfl rfl ?_
  refine o_new tok rfl rfl rfl rfl ?_
  refine o_new tok rfl rfl rfl rfl ?_
  refine o_new tok rfl rfl rfl rfl ?_
  refine o_end [3, 4, 5, 6] rfl ?_
  refine x_then ?_
  refine c_seq ?_
  refine c_region ?_
  refine o_yield rfl rfl rfl (y_val tok rfl) ?_
  refine o_yield rfl rfl rfl (y_val tok rfl) ?_
  refine o_yield rfl rfl rfl (y_val tok rfl) ?_
  refine o_call (.a (.v _)) rfl rfl fnok39 rfl rfl rfl (fun hg E w1 hm => by exact rSlot_c V a n c0 _ _ t.S c.by_ _ (hV.trans hm.leV) h1 (by omega)) ?_
  refine o_yield rfl rfl rfl (y_val tok rfl) ?_
  refine o_yield rfl rfl rfl (y_val tok rfl) ?_
  refine o_yield rfl rfl rfl (y_val tok rfl) ?_
  refine o_yield rfl rfl rfl (y_val tok rfl) ?_
  refine o_yield rfl rfl rfl (y_val tok rfl) ?_
  refine o_end [3, 4, 5, 6, 7, 8] rfl ?_
  refine x_then ?_
  refine c_seq ?_
  refine c_region ?_
  refine o_yield rfl rfl rfl (y_val tok rfl) ?_
  refine o_yield rfl rfl rfl (y_val tok rfl) ?_
  refine o_yield rfl rfl rfl (y_val tok rfl) ?_
  refine o_call (.a (.v _)) rfl rfl fnok39 rfl rfl rfl (fun hg E w1 hm => by exact rSlot_c V a n c0 _ _ t.S c.dead _ (hV.trans hm.leV) h1 (by omega)) ?_
  refine o_yield rfl rfl rfl (y_val tok rfl) ?_
  refine o_yield rfl rfl rfl (y_val tok rfl) ?_
  refine o_yield rfl rfl rfl (y_val tok rfl) ?_
  refine o_yield rfl rfl rfl (y_val tok rfl) ?_
  refine o_yield rfl rfl rfl (y_val tok rfl) ?_
  refine o_end [3, 4, 5, 6, 7, 8, 9, 10] rfl ?_
  refine x_then ?_
  refine c_seq ?_
  refine c_seq ?_
  refine c_region ?_
  refine o_yield rfl rfl rfl (y_val tok rfl) ?_
  refine o_yield rfl rfl rfl (y_val tok rfl) ?_
  refine o_end [3, 4, 5, 6, 7, 8, 9, 10, 32] rfl ?_
  refine x_then ?_
  refine c_block ?_
  refine c_seq ?_
  refine c_region ?_
  refine o_yield rfl rfl rfl (y_val tok rfl) ?_
  refine o_yield rfl rfl rfl (y_val tok rfl) ?_
  refine o_end [3, 4, 5, 6, 7, 8, 9, 10, 32, 33] rfl ?_
  refine x_then ?_
  refine c_cond rfl (fun h => ?_) (fun h => ?_)
  ·
    refine c_seq ?_
    refine c_region ?_
    refine o_yield rfl rfl rfl (y_val tok rfl) ?_
    refine o_end [4, 5, 6, 8, 11] rfl ?_
    refine x_then ?_
    refine c_block ?_
    clear h
    refine c_loopK [4, 5, 6, 8] [] rfl rfl (σ := Nat) (fun i => [(11, .a (.v (I i)))]) (fun i => []) (fun i => i ≤ t.S.length ∧ ∀ (j : Nat) (x : Slot), j < i → t.S[j]? = some x → (x.key == 0) = false) (fun i => t.S.length - i) (0) (⟨by omega, by simp⟩) (by repeat (first | exact SubF.nil | refine SubF.cons rfl ?_)) (by repeat (first | exact SubO.nil | refine SubO.cons rfl ?_)) rfl ?_
    rintro i ⟨hi, hall⟩
    refine c_seq ?_
    refine c_seq ?_
    refine c_region ?_
    refine o_yield rfl rfl rfl (y_val tok rfl) ?_
    refine o_yield rfl rfl rfl (y_val tok rfl) ?_
    refine o_yield rfl rfl rfl (y_val tok rfl) ?_
    refine o_yield rfl rfl rfl (y_len tok rfl (fun hg => hS.sl)) ?_
    refine o_yield rfl rfl rfl (y_val tok rfl) ?_
    refine o_yield rfl rfl rfl (y_val tok rfl) ?_
    refine o_yield rfl rfl rfl (y_val tok rfl) ?_
    refine o_yield rfl rfl rfl (y_val tok rfl) ?_
    refine o_yield rfl rfl rfl (y_val tok rfl) ?_
    refine o_end [4, 5, 6, 8, 11, 43] rfl ?_
    refine x_then ?_
    refine c_cond rfl (fun h => ?_) (fun h => ?_)
    ·
      simp only [Bool.and_eq_true, Bool.or_eq_true, Bool.not_eq_true', Bool.or_eq_false_iff, Bool.and_eq_false_iff, decide_eq_true_eq, decide_eq_false_iff_not, beq_iff_eq, bne_iff_ne, Bool.not_eq_false', beq_eq_false_iff_ne, bne_eq_false_iff_eq, ne_eq, Decidable.not_not, Int.not_lt, Int.not_le] at h
      refine c_skip ?_
      refine x_then ?_
      refine c_seq ?_
      refine c_block ?_
      refine c_seq ?_
      refine c_region ?_
      refine o_yield rfl rfl rfl (y_val tok rfl) ?_
      refine o_yield rfl rfl rfl (y_val tok rfl) ?_
      refine o_yield rfl rfl rfl (y_val tok rfl) ?_
      obtain ⟨hlt, hmem⟩ := h
      have hnone : t.slot c.by_ = none := by
        rcases slotI_slot t c.by_ with ⟨e1, e2⟩ | ⟨k, e1, e2, _⟩
        · exact e1
        · omega
      obtain ⟨x, h_x⟩ := hS.at (k := i) (by omega)
      have hlt_x := lt_of_at h_x
      refine o_yield rfl rfl rfl (y_idx tok rfl (fun hg => hS.sl) (fun hg => ⟨by omega, by omega⟩)) ?_
      refine o_yield rfl rfl rfl (y_fel tok rfl (fun hg => hS.sl) (fun hg => by omega)) ?_
      refine o_yield rfl rfl rfl (y_lel tok (i) 0 (x) rfl (fun hg => hS) (fun hg => h_x) rfl rfl) ?_
      refine o_yield rfl rfl rfl (y_val tok rfl) ?_
      refine o_end [4, 5, 6, 8, 11, 52] rfl ?_
      refine x_then ?_
      refine c_cond rfl (fun h => ?_) (fun h => ?_)
      ·
        refine c_seq ?_
        refine c_region ?_
        refine o_yield rfl rfl rfl (y_val tok rfl) ?_
        have hfind : t.S.findIdx? (fun x => x.key == 0) = some i := findIdx?_at h_x h hall
        have hm2 : t.mount c.by_ = ⟨t.S.set i ⟨c.by_, x.claim⟩, t.H, t.Q⟩ := by rw [Tb.mount, hnone]; dsimp only; rw [hfind]; dsimp only; rw [slotClaim_at h_x]
        rw [hm2]
        refine o_step rfl rfl rfl rfl rfl (s_makes (fun _ : Unit => True) (fun _ => .agg [.row 4, .row 6, .row 8]) (fun _ => [(4, (slR t.S).cel), (6, (hoR t.H).cel), (8, (hoR t.Q).cel)]) 9 rfl fnok85 (fun E w1 hm => rcopy_c V _ t w1 ht (hV.trans hm.leV) hT)) (fun _ _ => ?_)
        refine o_new tok rfl rfl rfl rfl ?_
        refine o_store tok rfl rfl rfl (by first | exact ⟨trivial, trivial⟩ | (repeat' first | exact trivial | exact rfl | apply And.intro); done | simp [onesP, oneP, lk, Value.oneCell']) ?_
        refine o_end [5, 6, 11, 12] rfl ?_
        refine x_then ?_
        refine c_seq ?_
        refine c_region ?_
        refine o_yield rfl rfl rfl (y_val tok rfl) ?_
        refine o_yield rfl rfl rfl (y_val tok rfl) ?_
        refine o_yield rfl rfl rfl (y_val tok rfl) ?_
        refine o_yield rfl rfl rfl (y_val tok rfl) ?_
        refine o_yield rfl rfl rfl (y_val tok rfl) ?_
        refine o_yield rfl rfl rfl (y_own (s := .a (.rel 8 (i * 2))) 8 rfl rfl (fun v V' hv => y_idxK tok (i * 2) rfl (by simp) (fun hg => hv) (fun hg => by first | omega | (dsimp only [slR]; omega)))) ?_
        refine o_yield rfl rfl rfl (y_own (s := .a (.rel 8 (i * 2))) 8 rfl rfl (fun v V' hv => y_fel tok rfl (fun hg => hv) (fun hg => by first | omega | (dsimp only [slR]; omega)))) ?_
        refine o_stepN rfl rfl rfl rfl (s_rst tok rfl rfl (by simp [Value.oneCell']) (by simp only [List.length_singleton]; first | omega | (dsimp only [slR]; omega)) (by first | omega | (dsimp only [slR]; omega))) (fun _ _ => ?_)
        refine o_end [6, 12] rfl ?_
        refine x_then ?_
        refine c_seq ?_
        refine c_region ?_
        refine o_yield rfl rfl rfl (y_val tok rfl) ?_
        refine o_store tok rfl rfl rfl (by first | exact ⟨trivial, trivial⟩ | (repeat' first | exact trivial | exact rfl | apply And.intro); done | simp [onesP, oneP, lk, Value.oneCell']) ?_
        refine o_end [6] rfl ?_
        refine x_then ?_
        refine c_ret ?_
        refine x_block_ret ?_
        refine x_then_ret ?_
        refine x_then_ret ?_
        refine x_block_ret ?_
        refine x_block_ret ?_
        refine x_then_ret ?_
        refine b_ret tok rfl ?_
        rw [show overL (i * 2) _ _ = _ from over_key h_x c.by_]
        intro E' w' hm _
        exact TbIs.out (t := ⟨t.S.set i ⟨c.by_, x.claim⟩, t.H, t.Q⟩) hV (hm.below (Vw.le.refl _)) (by dsimp only; rw [List.length_set]; exact hm.rowFresh (Vw.le.refl _) (l := 8) rfl) (hm.rowFresh (Vw.le.refl _) (l := 10) rfl) (hm.rowFresh (Vw.le.refl _) (l := 12) rfl)
      ·
        refine c_skip ?_
        refine x_block ?_
        refine x_then ?_
        refine c_region ?_
        refine o_yield rfl rfl rfl (y_val tok rfl) ?_
        refine o_yield rfl rfl rfl (y_val tok rfl) ?_
        refine o_yield rfl rfl rfl (y_val tok rfl) ?_
        refine o_end [4, 5, 6, 8, 11] rfl ?_
        refine x_then ?_
        rw [wrapI (by omega) (by omega)]
        refine x_round (i + 1) (⟨by omega, ahead_succ h_x hall h⟩) (by first | omega | (dsimp only; omega)) (by repeat (first | exact SubF.nil | refine SubF.cons rfl ?_)) (by repeat (first | exact SubO.nil | refine SubO.cons rfl ?_)) rfl (Vw.le.refl _)
    ·
      simp only [Bool.and_eq_true, Bool.or_eq_true, Bool.not_eq_true', Bool.or_eq_false_iff, Bool.and_eq_false_iff, decide_eq_true_eq, decide_eq_false_iff_not, beq_iff_eq, bne_iff_ne, Bool.not_eq_false', beq_eq_false_iff_ne, bne_eq_false_iff_eq, ne_eq, Decidable.not_not, Int.not_lt, Int.not_le] at h
      refine c_exit ?_
      refine x_then_exit ?_
      refine x_then_exit ?_
      refine x_block_hit ?_
      refine x_block ?_
      refine x_then ?_
      refine c_seq ?_
      refine c_region ?_
      refine o_yield rfl rfl rfl (y_val tok rfl) ?_
      refine o_store tok rfl rfl rfl (by first | exact ⟨trivial, trivial⟩ | (repeat' first | exact trivial | exact rfl | apply And.intro); done | simp [onesP, oneP, lk, Value.oneCell']) ?_
      refine o_end [6] rfl ?_
      refine x_then ?_
      refine c_ret ?_
      refine b_ret tok rfl ?_
      have hm2 : t.mount c.by_ = t := by
        rcases slotI_slot t c.by_ with ⟨e1, e2⟩ | ⟨k, e1, e2, _⟩
        · have hil : i = t.S.length := by omega
          have hfind : t.S.findIdx? (fun x => x.key == 0) = none := findIdx?_no (fun j y _ hy => hall j y (by rw [hil]; exact lt_of_at hy) hy)
          rw [Tb.mount, e1]; dsimp only; rw [hfind]
        · rw [Tb.mount, e1]
      rw [hm2]
      intro E' w' hm _
      exact TbIs.same hV (hm.below (Vw.le.refl _)) hT
  ·
    rw [hk] at h
    exact absurd h (by decide)

theorem rapply1_c (hk : c.kind = 1) : Calls Try.prog 35 #[g.val, tv, c.val] w (TbOut V (t.apply g.blocks c) w) := by
  have hT := h
  obtain ⟨a, n, c0, a2, n2, c2, a3, n3, c3, rfl, h1, h2, h3⟩ := id h
  clear h
  have hss := ht.s
  have hh := ht.h
  have hq := ht.q
  have hlim : lim = 4398046511104 := rfl
  have hS := h1.mono hV
  have hres : t.apply g.blocks c = t.leave c.by_ := by rw [Tb.apply, hk]; rfl
  rw [hres]
  refine enter (E := E0) (O := []) (nl := 0) (V := vw w) [.a (.v g.val), .a (.v (.agg #[.slice a n c0, .slice a2 n2 c2, .slice a3 n3 c3])), .a (.v c.val)] Try.func35 rfl rfl (mem0 E0 0 w) rfl rfl ?_
  refine c_seq ?_
  refine c_region ?_
  refine o_new tok rfl rfl rfl rfl ?_
  refine o_new tok rfl rfl rfl rfl ?_
  refine o_new tok rfl rfl rfl rfl ?_
  refine o_new tok rfl rfl rfl rfl ?_
  refine o_end [3, 4, 5, 6] rfl ?_
  refine x_then ?_
  refine c_seq ?_
  refine c_region ?_
  refine o_yield rfl rfl rfl (y_val tok rfl) ?_
  refine o_yield rfl rfl rfl (y_val tok rfl) ?_
  refine o_yield rfl rfl rfl (y_val tok rfl) ?_
  refine o_call (.a (.v _)) rfl rfl fnok39 rfl rfl rfl (fun hg E w1 hm => by exact rSlot_c V a n c0 _ _ t.S c.by_ _ (hV.trans hm.leV) h1 (by omega)) ?_
  refine o_yield rfl rfl rfl (y_val tok rfl) ?_
  refine o_yield rfl rfl rfl (y_val tok rfl) ?_
  refine o_yield rfl rfl rfl (y_val tok rfl) ?_
  refine o_yield rfl rfl rfl (y_val tok rfl) ?_
  refine o_yield rfl rfl rfl (y_val tok rfl) ?_
  refine o_end [3, 4, 5, 6, 7, 8] rfl ?_
  refine x_then ?_
  refine c_seq ?_
  refine c_region ?_
  refine o_yield rfl rfl rfl (y_val tok rfl) ?_
  refine o_yield rfl rfl rfl (y_val tok rfl) ?_
  refine o_yield rfl rfl rfl (y_val tok rfl) ?_
  refine o_call (.a (.v _)) rfl rfl fnok39 rfl rfl rfl (fun hg E w1 hm => by exact rSlot_c V a n c0 _ _ t.S c.dead _ (hV.trans hm.leV) h1 (by omega)) ?_
  refine o_yield rfl rfl rfl (y_val tok rfl) ?_
  refine o_yield rfl rfl rfl (y_val tok rfl) ?_
  refine o_yield rfl rfl rfl (y_val tok rfl) ?_
  refine o_yield rfl rfl rfl (y_val tok rfl) ?_
  refine o_yield rfl rfl rfl (y_val tok rfl) ?_
  refine o_end [3, 4, 5, 6, 7, 8, 9, 10] rfl ?_
  refine x_then ?_
  refine c_seq ?_
  refine c_seq ?_
  refine c_region ?_
  refine o_yield rfl rfl rfl (y_val tok rfl) ?_
  refine o_yield rfl rfl rfl (y_val tok rfl) ?_
  refine o_end [3, 4, 5, 6, 7, 8, 9, 10, 32] rfl ?_
  refine x_then ?_
  refine c_block ?_
  refine c_seq ?_
  refine c_region ?_
  refine o_yield rfl rfl rfl (y_val tok rfl) ?_
  refine o_yield rfl rfl rfl (y_val tok rfl) ?_
  refine o_end [3, 4, 5, 6, 7, 8, 9, 10, 32, 33] rfl ?_
  refine x_then ?_
  refine c_cond rfl (fun h => ?_) (fun h => ?_)
  ·
    rw [hk] at h
    exact absurd h (by decide)
  ·
    clear h
    refine c_seq ?_
    refine c_region ?_
    refine o_yield rfl rfl rfl (y_val tok rfl) ?_
    refine o_yield rfl rfl rfl (y_val tok rfl) ?_
    refine o_end [3, 4, 5, 6, 7, 8, 9, 10, 32, 63] rfl ?_
    refine x_then ?_
    refine c_cond rfl (fun h => ?_) (fun h => ?_)
    ·
      clear h
      refine c_seq ?_
      refine c_region ?_
      refine o_yield rfl rfl rfl (y_val tok rfl) ?_
      refine o_end [4, 6, 7, 65] rfl ?_
      refine x_then ?_
      refine c_cond rfl (fun h => ?_) (fun h => ?_)
      ·
        rcases slotI_slot t c.by_ with ⟨e1, e2⟩ | ⟨k, e1, e2, hkl⟩
        · rw [e2] at h; simp at h
        · obtain ⟨x, hx⟩ : ∃ x, t.S[k]? = some x := ⟨_, List.getElem?_eq_getElem hkl⟩
          rw [show t.leave c.by_ = t.clear k by rw [Tb.leave, e1]]
          rw [e2, show max (k : Int) 0 = k by omega]
          clear h
          refine c_seq ?_
          refine c_region ?_
          refine o_yield rfl rfl rfl (y_val tok rfl) ?_
          refine o_yield rfl rfl rfl (y_val tok rfl) ?_
          refine o_step rfl rfl rfl rfl rfl (s_makes (fun _ : Unit => True) (fun _ => .agg [.row 22, .row 24, .row 28]) (fun _ => [(22, (slR (t.clear k).S).cel), (24, (hoR (t.clear k).H).cel), (28, (hoR (t.clear k).Q).cel)]) 29 rfl fnok86 (fun E w1 hm => rleave_c V _ t k x hx w1 ht (hV.trans hm.leV) hT)) (fun _ _ => ?_)
          refine o_store tok rfl rfl rfl (by first | exact ⟨trivial, trivial⟩ | (repeat' first | exact trivial | exact rfl | apply And.intro); done | simp [onesP, oneP, lk, Value.oneCell']) ?_
          refine o_end [6] rfl ?_
          refine x_then ?_
          refine c_ret ?_
          refine x_block_ret ?_
          refine x_then_ret ?_
          refine b_ret tok rfl ?_
          intro E' w' hm _
          exact TbIs.out hV (hm.below (Vw.le.refl _)) (hm.rowFresh (Vw.le.refl _) (l := 26) rfl) (hm.rowFresh (Vw.le.refl _) (l := 28) rfl) (hm.rowFresh (Vw.le.refl _) (l := 32) rfl)
      ·
        refine c_skip ?_
        refine x_block ?_
        refine x_then ?_
        refine c_seq ?_
        refine c_region ?_
        refine o_yield rfl rfl rfl (y_val tok rfl) ?_
        refine o_store tok rfl rfl rfl (by first | exact ⟨trivial, trivial⟩ | (repeat' first | exact trivial | exact rfl | apply And.intro); done | simp [onesP, oneP, lk, Value.oneCell']) ?_
        refine o_end [6] rfl ?_
        refine x_then ?_
        refine c_ret ?_
        refine b_ret tok rfl ?_
        rcases slotI_slot t c.by_ with ⟨e1, e2⟩ | ⟨k, e1, e2, hkl⟩
        · rw [show t.leave c.by_ = t by rw [Tb.leave, e1]]
          intro E' w' hm _
          exact TbIs.same hV (hm.below (Vw.le.refl _)) hT
        · rw [e2] at h; simp at h
    ·
      rw [hk] at h
      exact absurd h (by decide)

theorem rapply2_c (hk : c.kind = 2) : Calls Try.prog 35 #[g.val, tv, c.val] w (TbOut V (t.apply g.blocks c) w) := by
  have hT := h
  obtain ⟨a, n, c0, a2, n2, c2, a3, n3, c3, rfl, h1, h2, h3⟩ := id h
  clear h
  have hss := ht.s
  have hh := ht.h
  have hq := ht.q
  have hlim : lim = 4398046511104 := rfl
  have hS := h1.mono hV
  have hres : t.apply g.blocks c = t.ask g.blocks (askH c) := by rw [Tb.apply, hk]; rfl
  rw [hres]
  have hlen : (allA c.by_ t).length ≤ t.H.length + t.Q.length := by rw [← List.length_append]; exact List.length_filter_le _ _
  have hasks : t.asks g.blocks (askH c) = (((decide (0 ≤ slotI t.S c.by_) && holdB g.blocks (askH c)) && !touches (allA c.by_ t) c.by_ c.lo c.hi) && decide (((allA c.by_ t).length : Int) < 64)) := by
    rw [Tb.asks, slot_isSome, allA, touches_own, show decide (ownN (t.H ++ t.Q) (askH c).key < 64) = decide ((((t.H ++ t.Q).filter fun h => h.key == c.by_).length : Int) < 64) by rw [decide_eq_decide]; show ((t.H ++ t.Q).filter fun h => h.key == c.by_).length < 64 ↔ (((t.H ++ t.Q).filter fun h => h.key == c.by_).length : Int) < 64; omega]
  have hall := fun w1 hw1 => rall_c V g.val _ c.by_ t w1 ht hw1 hT
  rw [show ((t.H ++ t.Q).filter fun h => h.key == c.by_) = allA c.by_ t from rfl] at hall
  generalize allA c.by_ t = L at hlen hasks hall
  refine enter (E := E0) (O := []) (nl := 0) (V := vw w) [.a (.v g.val), .a (.v (.agg #[.slice a n c0, .slice a2 n2 c2, .slice a3 n3 c3])), .a (.v c.val)] Try.func35 rfl rfl (mem0 E0 0 w) rfl rfl ?_
  refine c_seq ?_
  refine c_region ?_
  refine o_new tok rfl rfl rfl rfl ?_
  refine o_new tok rfl rfl rfl rfl ?_
  refine o_new tok rfl rfl rfl rfl ?_
  refine o_new tok rfl rfl rfl rfl ?_
  refine o_end [3, 4, 5, 6] rfl ?_
  refine x_then ?_
  refine c_seq ?_
  refine c_region ?_
  refine o_yield rfl rfl rfl (y_val tok rfl) ?_
  refine o_yield rfl rfl rfl (y_val tok rfl) ?_
  refine o_yield rfl rfl rfl (y_val tok rfl) ?_
  refine o_call (.a (.v _)) rfl rfl fnok39 rfl rfl rfl (fun hg E w1 hm => by exact rSlot_c V a n c0 _ _ t.S c.by_ _ (hV.trans hm.leV) h1 (by omega)) ?_
  refine o_yield rfl rfl rfl (y_val tok rfl) ?_
  refine o_yield rfl rfl rfl (y_val tok rfl) ?_
  refine o_yield rfl rfl rfl (y_val tok rfl) ?_
  refine o_yield rfl rfl rfl (y_val tok rfl) ?_
  refine o_yield rfl rfl rfl (y_val tok rfl) ?_
  refine o_end [3, 4, 5, 6, 7, 8] rfl ?_
  refine x_then ?_
  refine c_seq ?_
  refine c_region ?_
  refine o_yield rfl rfl rfl (y_val tok rfl) ?_
  refine o_yield rfl rfl rfl (y_val tok rfl) ?_
  refine o_yield rfl rfl rfl (y_val tok rfl) ?_
  refine o_call (.a (.v _)) rfl rfl fnok39 rfl rfl rfl (fun hg E w1 hm => by exact rSlot_c V a n c0 _ _ t.S c.dead _ (hV.trans hm.leV) h1 (by omega)) ?_
  refine o_yield rfl rfl rfl (y_val tok rfl) ?_
  refine o_yield rfl rfl rfl (y_val tok rfl) ?_
  refine o_yield rfl rfl rfl (y_val tok rfl) ?_
  refine o_yield rfl rfl rfl (y_val tok rfl) ?_
  refine o_yield rfl rfl rfl (y_val tok rfl) ?_
  refine o_end [3, 4, 5, 6, 7, 8, 9, 10] rfl ?_
  refine x_then ?_
  refine c_seq ?_
  refine c_seq ?_
  refine c_region ?_
  refine o_yield rfl rfl rfl (y_val tok rfl) ?_
  refine o_yield rfl rfl rfl (y_val tok rfl) ?_
  refine o_end [3, 4, 5, 6, 7, 8, 9, 10, 32] rfl ?_
  refine x_then ?_
  refine c_block ?_
  refine c_seq ?_
  refine c_region ?_
  refine o_yield rfl rfl rfl (y_val tok rfl) ?_
  refine o_yield rfl rfl rfl (y_val tok rfl) ?_
  refine o_end [3, 4, 5, 6, 7, 8, 9, 10, 32, 33] rfl ?_
  refine x_then ?_
  refine c_cond rfl (fun h => ?_) (fun h => ?_)
  ·
    rw [hk] at h
    exact absurd h (by decide)
  ·
    clear h
    refine c_seq ?_
    refine c_region ?_
    refine o_yield rfl rfl rfl (y_val tok rfl) ?_
    refine o_yield rfl rfl rfl (y_val tok rfl) ?_
    refine o_end [3, 4, 5, 6, 7, 8, 9, 10, 32, 63] rfl ?_
    refine x_then ?_
    refine c_cond rfl (fun h => ?_) (fun h => ?_)
    ·
      rw [hk] at h
      exact absurd h (by decide)
    ·
      clear h
      refine c_seq ?_
      refine c_region ?_
      refine o_yield rfl rfl rfl (y_val tok rfl) ?_
      refine o_yield rfl rfl rfl (y_val tok rfl) ?_
      refine o_end [3, 4, 5, 6, 8, 9, 10, 32, 69] rfl ?_
      refine x_then ?_
      refine c_cond rfl (fun h => ?_) (fun h => ?_)
      ·
        refine c_seq ?_
        refine c_region ?_
        refine o_yield rfl rfl rfl (y_val tok rfl) ?_
        refine o_yield rfl rfl rfl (y_val tok rfl) ?_
        refine o_yield rfl rfl rfl (y_val tok rfl) ?_
        refine o_yield rfl rfl rfl (y_val tok rfl) ?_
        refine o_yield rfl rfl rfl (y_val tok rfl) ?_
        refine o_yield rfl rfl rfl (y_val tok rfl) ?_
        refine o_yield rfl rfl rfl (y_val tok rfl) ?_
        refine o_new tok rfl rfl rfl rfl ?_
        refine o_store tok rfl rfl rfl (by first | exact ⟨trivial, trivial⟩ | (repeat' first | exact trivial | exact rfl | apply And.intro); done | simp [onesP, oneP, lk, Value.oneCell']) ?_
        refine o_end [3, 4, 5, 6, 8, 13] rfl ?_
        refine x_then ?_
        refine c_seq ?_
        refine c_region ?_
        refine o_yield rfl rfl rfl (y_val tok rfl) ?_
        refine o_yield rfl rfl rfl (y_val tok rfl) ?_
        refine o_yield rfl rfl rfl (y_val tok rfl) ?_
        clear h
        refine o_step rfl rfl rfl rfl rfl (s_callRow 43 4 L.length (L.flatMap Hold.cells) rfl fnok60 (fun E w1 hm => hall w1 (hV.trans hm.leV))) (fun _ _ => ?_)
        refine o_yield rfl rfl rfl (y_val tok rfl) ?_
        refine o_end [3, 4, 5, 6, 8, 13, 14] rfl ?_
        refine x_then ?_
        refine c_seq ?_
        refine c_region ?_
        refine o_yield rfl rfl rfl (y_val tok rfl) ?_
        refine o_yield rfl rfl rfl (y_val tok rfl) ?_
        refine o_yield rfl rfl rfl (y_val tok rfl) ?_
        refine o_yield rfl rfl rfl (y_val tok rfl) ?_
        refine o_call (.a (.v _)) rfl rfl fnok58 rfl rfl rfl (fun hg E w1 hm => by exact spRhold_c g (askH c) _) ?_
        refine o_yield rfl rfl rfl (y_val tok rfl) ?_
        refine o_yield rfl rfl rfl (y_val tok rfl) ?_
        refine o_yield rfl rfl rfl (y_val tok rfl) ?_
        refine o_yield rfl rfl rfl (y_val tok rfl) ?_
        refine o_yield rfl rfl rfl (y_val tok rfl) ?_
        refine o_yield rfl rfl rfl (y_val tok rfl) ?_
        refine o_yield rfl rfl rfl (y_val tok rfl) ?_
        refine o_call (.a (.v _)) rfl rfl fnok59 rfl rfl rfl (fun hg E w1 hm => by exact spRtouches_c (vw w1) (E.κ 5) L c.by_ c.lo c.hi _ (Vw.le.refl _) (hm.rowOf 5 rfl (fun _ => rfl)) (by omega)) ?_
        refine o_yield rfl rfl rfl (y_val tok rfl) ?_
        refine o_yield rfl rfl rfl (y_val tok rfl) ?_
        refine o_yield rfl rfl rfl (y_val tok rfl) ?_
        refine o_yield rfl rfl rfl (y_val tok rfl) ?_
        refine o_yield rfl rfl rfl (y_own (s := .a (.v (I L.length))) 5 rfl rfl (fun v V' hv => y_len tok rfl (fun hg => hv))) ?_
        refine o_yield rfl rfl rfl (y_val tok rfl) ?_
        refine o_yield rfl rfl rfl (y_val tok rfl) ?_
        refine o_end [4, 6, 13, 101] rfl ?_
        refine x_then ?_
        refine c_cond rfl (fun h => ?_) (fun h => ?_)
        ·
          rw [Tb.ask, hasks, if_pos h]
          clear h
          refine c_seq ?_
          refine c_region ?_
          refine o_yield rfl rfl rfl (y_val tok rfl) ?_
          refine o_step rfl rfl rfl rfl rfl (s_makes (fun _ : Unit => True) (fun _ => .agg [.row 4, .row 6, .row 8]) (fun _ => [(4, (slR t.S).cel), (6, (hoR t.H).cel), (8, (hoR t.Q).cel)]) 9 rfl fnok85 (fun E w1 hm => rcopy_c V _ t w1 ht (hV.trans hm.leV) hT)) (fun _ _ => ?_)
          refine o_new tok rfl rfl rfl rfl ?_
          refine o_store tok rfl rfl rfl (by first | exact ⟨trivial, trivial⟩ | (repeat' first | exact trivial | exact rfl | apply And.intro); done | simp [onesP, oneP, lk, Value.oneCell']) ?_
          refine o_end [6, 13, 15] rfl ?_
          refine x_then ?_
          refine c_seq ?_
          refine c_region ?_
          refine o_yield rfl rfl rfl (y_val tok rfl) ?_
          refine o_yield rfl rfl rfl (y_val tok rfl) ?_
          refine o_yield rfl rfl rfl (y_val tok rfl) ?_
          refine o_step rfl rfl rfl rfl rfl (s_bs tok 4 rfl rfl rfl) (fun _ _ => ?_)
          refine o_step rfl rfl rfl rfl rfl (s_app tok (askH c).cells rfl (fun E w hm => ownsRow_src (hm.row _ _ _ _ _ rfl)) (fun _ _ _ => by simpa using hold_ones [askH c]) (by first | omega | (dsimp only [hoR]; omega))) (fun _ _ => ?_)
          refine o_yield rfl rfl rfl (y_val tok rfl) ?_
          refine o_store tok rfl rfl rfl (by first | exact ⟨trivial, trivial⟩ | (repeat' first | exact trivial | exact rfl | apply And.intro); done | simp [onesP, oneP, lk, Value.oneCell']) ?_
          refine o_end [6, 15] rfl ?_
          refine x_then ?_
          refine c_seq ?_
          refine c_region ?_
          refine o_yield rfl rfl rfl (y_val tok rfl) ?_
          refine o_step rfl rfl rfl rfl rfl (s_makes (fun _ : Unit => True) (fun _ => .agg [.row 7, .row 9, .row 13]) (fun _ => [(7, (slR t.S).cel), (9, (hoR (Tb.grant ⟨t.S, t.H, t.Q ++ [askH c]⟩).H).cel), (13, (hoR (Tb.grant ⟨t.S, t.H, t.Q ++ [askH c]⟩).Q).cel)]) 14 rfl fnok61 (fun E w1 hm => rgrantM_c (vw w1) _ ⟨t.S, t.H, t.Q ++ [askH c]⟩ w1 ⟨hss, hh, by dsimp only; rw [List.length_append]; dsimp only [List.length]; omega⟩ (Vw.le.refl _) (TbIs.rows hm 10 12 17 rfl rfl (by dsimp only; rw [← hoR_snoc]; rfl)))) (fun _ _ => ?_)
          refine o_store tok rfl rfl rfl (by first | exact ⟨trivial, trivial⟩ | (repeat' first | exact trivial | exact rfl | apply And.intro); done | simp [onesP, oneP, lk, Value.oneCell']) ?_
          refine o_end [6] rfl ?_
          refine x_then ?_
          refine c_ret ?_
          refine x_block_ret ?_
          refine x_then_ret ?_
          refine b_ret tok rfl ?_
          intro E' w' hm _
          exact TbIs.out hV (hm.below (Vw.le.refl _)) (hm.rowFresh (Vw.le.refl _) (l := 25) rfl) (hm.rowFresh (Vw.le.refl _) (l := 27) rfl) (hm.rowFresh (Vw.le.refl _) (l := 31) rfl)
        ·
          refine c_skip ?_
          refine x_block ?_
          refine x_then ?_
          refine c_seq ?_
          refine c_region ?_
          refine o_yield rfl rfl rfl (y_val tok rfl) ?_
          refine o_store tok rfl rfl rfl (by first | exact ⟨trivial, trivial⟩ | (repeat' first | exact trivial | exact rfl | apply And.intro); done | simp [onesP, oneP, lk, Value.oneCell']) ?_
          refine o_end [6] rfl ?_
          refine x_then ?_
          refine c_ret ?_
          refine b_ret tok rfl ?_
          rw [Tb.ask, hasks, if_neg (by rw [h]; simp)]
          intro E' w' hm _
          exact TbIs.same hV (hm.below (Vw.le.refl _)) hT
      ·
        rw [hk] at h
        exact absurd h (by decide)

theorem rapply3_c (hk : c.kind = 3) : Calls Try.prog 35 #[g.val, tv, c.val] w (TbOut V (t.apply g.blocks c) w) := by
  have hT := h
  obtain ⟨a, n, c0, a2, n2, c2, a3, n3, c3, rfl, h1, h2, h3⟩ := id h
  clear h
  have hss := ht.s
  have hh := ht.h
  have hq := ht.q
  have hlim : lim = 4398046511104 := rfl
  have hS := h1.mono hV
  have hres : t.apply g.blocks c = t.free c.by_ c.lo c.hi := by rw [Tb.apply, hk]; rfl
  rw [hres]
  refine enter (E := E0) (O := []) (nl := 0) (V := vw w) [.a (.v g.val), .a (.v (.agg #[.slice a n c0, .slice a2 n2 c2, .slice a3 n3 c3])), .a (.v c.val)] Try.func35 rfl rfl (mem0 E0 0 w) rfl rfl ?_
  refine c_seq ?_
  refine c_region ?_
  refine o_new tok rfl rfl rfl rfl ?_
  refine o_new tok rfl rfl rfl rfl ?_
  refine o_new tok rfl rfl rfl rfl ?_
  refine o_new tok rfl rfl rfl rfl ?_
  refine o_end [3, 4, 5, 6] rfl ?_
  refine x_then ?_
  refine c_seq ?_
  refine c_region ?_
  refine o_yield rfl rfl rfl (y_val tok rfl) ?_
  refine o_yield rfl rfl rfl (y_val tok rfl) ?_
  refine o_yield rfl rfl rfl (y_val tok rfl) ?_
  refine o_call (.a (.v _)) rfl rfl fnok39 rfl rfl rfl (fun hg E w1 hm => by exact rSlot_c V a n c0 _ _ t.S c.by_ _ (hV.trans hm.leV) h1 (by omega)) ?_
  refine o_yield rfl rfl rfl (y_val tok rfl) ?_
  refine o_yield rfl rfl rfl (y_val tok rfl) ?_
  refine o_yield rfl rfl rfl (y_val tok rfl) ?_
  refine o_yield rfl rfl rfl (y_val tok rfl) ?_
  refine o_yield rfl rfl rfl (y_val tok rfl) ?_
  refine o_end [3, 4, 5, 6, 7, 8] rfl ?_
  refine x_then ?_
  refine c_seq ?_
  refine c_region ?_
  refine o_yield rfl rfl rfl (y_val tok rfl) ?_
  refine o_yield rfl rfl rfl (y_val tok rfl) ?_
  refine o_yield rfl rfl rfl (y_val tok rfl) ?_
  refine o_call (.a (.v _)) rfl rfl fnok39 rfl rfl rfl (fun hg E w1 hm => by exact rSlot_c V a n c0 _ _ t.S c.dead _ (hV.trans hm.leV) h1 (by omega)) ?_
  refine o_yield rfl rfl rfl (y_val tok rfl) ?_
  refine o_yield rfl rfl rfl (y_val tok rfl) ?_
  refine o_yield rfl rfl rfl (y_val tok rfl) ?_
  refine o_yield rfl rfl rfl (y_val tok rfl) ?_
  refine o_yield rfl rfl rfl (y_val tok rfl) ?_
  refine o_end [3, 4, 5, 6, 7, 8, 9, 10] rfl ?_
  refine x_then ?_
  refine c_seq ?_
  refine c_seq ?_
  refine c_region ?_
  refine o_yield rfl rfl rfl (y_val tok rfl) ?_
  refine o_yield rfl rfl rfl (y_val tok rfl) ?_
  refine o_end [3, 4, 5, 6, 7, 8, 9, 10, 32] rfl ?_
  refine x_then ?_
  refine c_block ?_
  refine c_seq ?_
  refine c_region ?_
  refine o_yield rfl rfl rfl (y_val tok rfl) ?_
  refine o_yield rfl rfl rfl (y_val tok rfl) ?_
  refine o_end [3, 4, 5, 6, 7, 8, 9, 10, 32, 33] rfl ?_
  refine x_then ?_
  refine c_cond rfl (fun h => ?_) (fun h => ?_)
  ·
    rw [hk] at h
    exact absurd h (by decide)
  ·
    clear h
    refine c_seq ?_
    refine c_region ?_
    refine o_yield rfl rfl rfl (y_val tok rfl) ?_
    refine o_yield rfl rfl rfl (y_val tok rfl) ?_
    refine o_end [3, 4, 5, 6, 7, 8, 9, 10, 32, 63] rfl ?_
    refine x_then ?_
    refine c_cond rfl (fun h => ?_) (fun h => ?_)
    ·
      rw [hk] at h
      exact absurd h (by decide)
    ·
      clear h
      refine c_seq ?_
      refine c_region ?_
      refine o_yield rfl rfl rfl (y_val tok rfl) ?_
      refine o_yield rfl rfl rfl (y_val tok rfl) ?_
      refine o_end [3, 4, 5, 6, 8, 9, 10, 32, 69] rfl ?_
      refine x_then ?_
      refine c_cond rfl (fun h => ?_) (fun h => ?_)
      ·
        rw [hk] at h
        exact absurd h (by decide)
      ·
        clear h
        refine c_seq ?_
        refine c_region ?_
        refine o_yield rfl rfl rfl (y_val tok rfl) ?_
        refine o_yield rfl rfl rfl (y_val tok rfl) ?_
        refine o_end [4, 5, 6, 9, 10, 32, 112] rfl ?_
        refine x_then ?_
        refine c_cond rfl (fun h => ?_) (fun h => ?_)
        ·
          refine c_seq ?_
          refine c_region ?_
          refine o_yield rfl rfl rfl (y_val tok rfl) ?_
          refine o_yield rfl rfl rfl (y_val tok rfl) ?_
          refine o_yield rfl rfl rfl (y_val tok rfl) ?_
          refine o_yield rfl rfl rfl (y_val tok rfl) ?_
          refine o_yield rfl rfl rfl (y_val tok rfl) ?_
          refine o_yield rfl rfl rfl (y_val tok rfl) ?_
          clear h
          refine o_call (.a (.v _)) rfl rfl fnok87 rfl rfl rfl (fun hg E w1 hm => by exact rat_c V _ t.H c.by_ c.lo c.hi _ (hV.trans hm.leV) h2 (by omega)) ?_
          refine o_yield rfl rfl rfl (y_val tok rfl) ?_
          refine o_yield rfl rfl rfl (y_val tok rfl) ?_
          refine o_yield rfl rfl rfl (y_val tok rfl) ?_
          refine o_yield rfl rfl rfl (y_val tok rfl) ?_
          refine o_yield rfl rfl rfl (y_val tok rfl) ?_
          refine o_yield rfl rfl rfl (y_val tok rfl) ?_
          refine o_yield rfl rfl rfl (y_val tok rfl) ?_
          refine o_yield rfl rfl rfl (y_val tok rfl) ?_
          refine o_call (.a (.v _)) rfl rfl fnok87 rfl rfl rfl (fun hg E w1 hm => by exact rat_c V _ t.Q c.by_ c.lo c.hi _ (hV.trans hm.leV) h3 (by omega)) ?_
          refine o_yield rfl rfl rfl (y_val tok rfl) ?_
          refine o_yield rfl rfl rfl (y_val tok rfl) ?_
          refine o_end [4, 5, 6, 131] rfl ?_
          refine x_then ?_
          refine c_cond rfl (fun h => ?_) (fun h => ?_)
          ·
            have hfr : ∀ w1, V.le (vw w1) → Calls Try.prog 88 #[.agg #[.slice a n c0, .slice a2 n2 c2, .slice a3 n3 c3], I c.by_, .agg #[I c.lo, I c.hi]] w1 (frMakes (t.free c.by_ c.lo c.hi) w1) := by
              intro w1 hw1
              rcases idxOf_find (justB c.by_ c.lo c.hi) t.H with ⟨e1, e2⟩ | ⟨i, x, e1, e2, hx, _⟩
              · rcases idxOf_find (justB c.by_ c.lo c.hi) t.Q with ⟨e3, e4⟩ | ⟨i, x, e3, e4, hx, _⟩
                · rw [e2, e4] at h; simp at h
                · exact rfreeQ_c V _ t _ _ _ i x e1 e3 hx w1 ht hw1 hT
              · exact rfreeH_c V _ t _ _ _ i x e1 hx w1 ht hw1 hT
            clear h
            refine c_seq ?_
            refine c_region ?_
            refine o_yield rfl rfl rfl (y_val tok rfl) ?_
            refine o_yield rfl rfl rfl (y_val tok rfl) ?_
            refine o_yield rfl rfl rfl (y_val tok rfl) ?_
            refine o_yield rfl rfl rfl (y_val tok rfl) ?_
            refine o_yield rfl rfl rfl (y_val tok rfl) ?_
            refine o_step rfl rfl rfl rfl rfl (s_makes (fun _ : Unit => True) (fun _ => .agg [.row 23, .row 25, .row 29]) (fun _ => [(23, (slR (t.free c.by_ c.lo c.hi).S).cel), (25, (hoR (t.free c.by_ c.lo c.hi).H).cel), (29, (hoR (t.free c.by_ c.lo c.hi).Q).cel)]) 30 rfl fnok88 (fun E w1 hm => hfr w1 (hV.trans hm.leV))) (fun _ _ => ?_)
            refine o_store tok rfl rfl rfl (by first | exact ⟨trivial, trivial⟩ | (repeat' first | exact trivial | exact rfl | apply And.intro); done | simp [onesP, oneP, lk, Value.oneCell']) ?_
            refine o_end [6] rfl ?_
            refine x_then ?_
            refine c_ret ?_
            refine x_block_ret ?_
            refine x_then_ret ?_
            refine b_ret tok rfl ?_
            intro E' w' hm _
            exact TbIs.out hV (hm.below (Vw.le.refl _)) (hm.rowFresh (Vw.le.refl _) (l := 27) rfl) (hm.rowFresh (Vw.le.refl _) (l := 29) rfl) (hm.rowFresh (Vw.le.refl _) (l := 33) rfl)
          ·
            refine c_skip ?_
            refine x_block ?_
            refine x_then ?_
            refine c_seq ?_
            refine c_region ?_
            refine o_yield rfl rfl rfl (y_val tok rfl) ?_
            refine o_store tok rfl rfl rfl (by first | exact ⟨trivial, trivial⟩ | (repeat' first | exact trivial | exact rfl | apply And.intro); done | simp [onesP, oneP, lk, Value.oneCell']) ?_
            refine o_end [6] rfl ?_
            refine x_then ?_
            refine c_ret ?_
            refine b_ret tok rfl ?_
            have hsm : t.free c.by_ c.lo c.hi = t := by
              rcases idxOf_find (justB c.by_ c.lo c.hi) t.H with ⟨e1, e2⟩ | ⟨i, x, e1, e2, hx, _⟩
              · rcases idxOf_find (justB c.by_ c.lo c.hi) t.Q with ⟨e3, e4⟩ | ⟨i, x, e3, e4, hx, _⟩
                · rw [Tb.free, e1]; dsimp only; rw [e3]
                · rw [e2, e4] at h; simp at h
              · rw [e2] at h; simp at h
            rw [hsm]
            intro E' w' hm _
            exact TbIs.same hV (hm.below (Vw.le.refl _)) hT
        ·
          rw [hk] at h
          exact absurd h (by decide)

theorem rapply4_c (hk : c.kind = 4) : Calls Try.prog 35 #[g.val, tv, c.val] w (TbOut V (t.apply g.blocks c) w) := by
  have hT := h
  obtain ⟨a, n, c0, a2, n2, c2, a3, n3, c3, rfl, h1, h2, h3⟩ := id h
  clear h
  have hss := ht.s
  have hh := ht.h
  have hq := ht.q
  have hlim : lim = 4398046511104 := rfl
  have hS := h1.mono hV
  have hres0 : t.apply g.blocks c = t.claim c.by_ c.dead c.was := by rw [Tb.apply, hk]; rfl
  rw [hres0]
  refine enter (E := E0) (O := []) (nl := 0) (V := vw w) [.a (.v g.val), .a (.v (.agg #[.slice a n c0, .slice a2 n2 c2, .slice a3 n3 c3])), .a (.v c.val)] Try.func35 rfl rfl (mem0 E0 0 w) rfl rfl ?_
  refine c_seq ?_
  refine c_region ?_
  refine o_new tok rfl rfl rfl rfl ?_
  refine o_new tok rfl rfl rfl rfl ?_
  refine o_new tok rfl rfl rfl rfl ?_
  refine o_new tok rfl rfl rfl rfl ?_
  refine o_end [3, 4, 5, 6] rfl ?_
  refine x_then ?_
  refine c_seq ?_
  refine c_region ?_
  refine o_yield rfl rfl rfl (y_val tok rfl) ?_
  refine o_yield rfl rfl rfl (y_val tok rfl) ?_
  refine o_yield rfl rfl rfl (y_val tok rfl) ?_
  refine o_call (.a (.v _)) rfl rfl fnok39 rfl rfl rfl (fun hg E w1 hm => by exact rSlot_c V a n c0 _ _ t.S c.by_ _ (hV.trans hm.leV) h1 (by omega)) ?_
  refine o_yield rfl rfl rfl (y_val tok rfl) ?_
  refine o_yield rfl rfl rfl (y_val tok rfl) ?_
  refine o_yield rfl rfl rfl (y_val tok rfl) ?_
  refine o_yield rfl rfl rfl (y_val tok rfl) ?_
  refine o_yield rfl rfl rfl (y_val tok rfl) ?_
  refine o_end [3, 4, 5, 6, 7, 8] rfl ?_
  refine x_then ?_
  refine c_seq ?_
  refine c_region ?_
  refine o_yield rfl rfl rfl (y_val tok rfl) ?_
  refine o_yield rfl rfl rfl (y_val tok rfl) ?_
  refine o_yield rfl rfl rfl (y_val tok rfl) ?_
  refine o_call (.a (.v _)) rfl rfl fnok39 rfl rfl rfl (fun hg E w1 hm => by exact rSlot_c V a n c0 _ _ t.S c.dead _ (hV.trans hm.leV) h1 (by omega)) ?_
  refine o_yield rfl rfl rfl (y_val tok rfl) ?_
  refine o_yield rfl rfl rfl (y_val tok rfl) ?_
  refine o_yield rfl rfl rfl (y_val tok rfl) ?_
  refine o_yield rfl rfl rfl (y_val tok rfl) ?_
  refine o_yield rfl rfl rfl (y_val tok rfl) ?_
  refine o_end [3, 4, 5, 6, 7, 8, 9, 10] rfl ?_
  refine x_then ?_
  refine c_seq ?_
  refine c_seq ?_
  refine c_region ?_
  refine o_yield rfl rfl rfl (y_val tok rfl) ?_
  refine o_yield rfl rfl rfl (y_val tok rfl) ?_
  refine o_end [3, 4, 5, 6, 7, 8, 9, 10, 32] rfl ?_
  refine x_then ?_
  refine c_block ?_
  refine c_seq ?_
  refine c_region ?_
  refine o_yield rfl rfl rfl (y_val tok rfl) ?_
  refine o_yield rfl rfl rfl (y_val tok rfl) ?_
  refine o_end [3, 4, 5, 6, 7, 8, 9, 10, 32, 33] rfl ?_
  refine x_then ?_
  refine c_cond rfl (fun h => ?_) (fun h => ?_)
  ·
    rw [hk] at h
    exact absurd h (by decide)
  ·
    clear h
    refine c_seq ?_
    refine c_region ?_
    refine o_yield rfl rfl rfl (y_val tok rfl) ?_
    refine o_yield rfl rfl rfl (y_val tok rfl) ?_
    refine o_end [3, 4, 5, 6, 7, 8, 9, 10, 32, 63] rfl ?_
    refine x_then ?_
    refine c_cond rfl (fun h => ?_) (fun h => ?_)
    ·
      rw [hk] at h
      exact absurd h (by decide)
    ·
      clear h
      refine c_seq ?_
      refine c_region ?_
      refine o_yield rfl rfl rfl (y_val tok rfl) ?_
      refine o_yield rfl rfl rfl (y_val tok rfl) ?_
      refine o_end [3, 4, 5, 6, 8, 9, 10, 32, 69] rfl ?_
      refine x_then ?_
      refine c_cond rfl (fun h => ?_) (fun h => ?_)
      ·
        rw [hk] at h
        exact absurd h (by decide)
      ·
        clear h
        refine c_seq ?_
        refine c_region ?_
        refine o_yield rfl rfl rfl (y_val tok rfl) ?_
        refine o_yield rfl rfl rfl (y_val tok rfl) ?_
        refine o_end [4, 5, 6, 9, 10, 32, 112] rfl ?_
        refine x_then ?_
        refine c_cond rfl (fun h => ?_) (fun h => ?_)
        ·
          rw [hk] at h
          exact absurd h (by decide)
        ·
          clear h
          refine c_seq ?_
          refine c_region ?_
          refine o_yield rfl rfl rfl (y_val tok rfl) ?_
          refine o_yield rfl rfl rfl (y_val tok rfl) ?_
          refine o_end [4, 5, 6, 9, 10, 32, 138] rfl ?_
          refine x_then ?_
          refine c_cond rfl (fun h => ?_) (fun h => ?_)
          ·
            clear h
            rcases slotI_slot t c.dead with ⟨e1, e2⟩ | ⟨k, e1, e2, hkl⟩
            · have hres : t.claim c.by_ c.dead c.was = t := by rw [Tb.claim, e1]
              rw [hres, e2, show decide ((0 : Int) ≤ -1) = false from rfl, show max (-1 : Int) 0 = ((0 : Nat) : Int) from rfl]
              refine c_seq ?_
              refine c_draw mixed (by kernel_rfl) ?_
              refine d_yield rfl rfl rfl (y_val tok rfl) rfl ?_
              refine d_yield rfl rfl rfl (y_val tok rfl) rfl ?_
              refine d_yield rfl rfl rfl (y_val tok rfl) rfl ?_
              refine d_yield rfl rfl rfl (y_val tok rfl) rfl ?_
              refine d_yield rfl rfl rfl (y_val tok rfl) rfl ?_
              refine d_yield rfl rfl rfl (y_idx tok rfl (fun hg => hS.sl) (fun hg => by cases hg)) rfl ?_
              refine d_yield rfl rfl rfl (y_fel tok rfl (fun hg => hS.sl) (fun hg => by cases hg)) rfl ?_
              refine d_yield rfl rfl rfl (y_lel tok 0 1 ⟨0, 0⟩ rfl (fun hg => hS) (fun hg => by cases hg) rfl rfl) rfl ?_
              refine d_yield rfl rfl rfl (y_val tok rfl) rfl ?_
              refine d_yield rfl rfl rfl (y_val tok rfl) rfl ?_
              refine d_yield rfl rfl rfl (y_val tok rfl) rfl ?_
              refine d_yield rfl rfl rfl (y_val tok rfl) rfl ?_
              refine d_yield rfl rfl rfl (y_val tok rfl) rfl ?_
              refine d_yield rfl rfl rfl (y_val tok rfl) rfl ?_
              refine d_yield rfl rfl rfl (y_val tok rfl) rfl ?_
              refine d_yield rfl rfl rfl (y_val tok rfl) rfl ?_
              refine d_yield rfl rfl rfl (y_val tok rfl) rfl ?_
              refine d_yield rfl rfl rfl (y_val tok rfl) rfl ?_
              refine d_yield rfl rfl rfl (y_val tok rfl) rfl ?_
              refine d_end [4, 5, 6, 9, 158] rfl ?_
              refine x_then ?_
              refine c_cond rfl (fun h => ?_) (fun h => ?_)
              ·
                cases h
              ·
                refine c_skip ?_
                refine x_block ?_
                refine x_then ?_
                refine c_seq ?_
                refine c_region ?_
                refine o_yield rfl rfl rfl (y_val tok rfl) ?_
                refine o_store tok rfl rfl rfl (by first | exact ⟨trivial, trivial⟩ | (repeat' first | exact trivial | exact rfl | apply And.intro); done | simp [onesP, oneP, lk, Value.oneCell']) ?_
                refine o_end [6] rfl ?_
                refine x_then ?_
                refine c_ret ?_
                refine b_ret tok rfl ?_
                intro E' w' hm _
                exact TbIs.same hV (hm.below (Vw.le.refl _)) hT
            · obtain ⟨x, hx⟩ : ∃ x, t.S[k]? = some x := ⟨_, List.getElem?_eq_getElem hkl⟩
              have hres : t.claim c.by_ c.dead c.was = if x.claim = c.was ∧ c.by_ ≠ c.dead then ⟨t.S.set k ⟨x.key, c.by_⟩, t.H, t.Q⟩ else t := by rw [Tb.claim, e1]; dsimp only; rw [slotClaim_at hx, slotKey_at hx]
              rw [hres, e2, show max (k : Int) 0 = k by omega, decide_eq_true (by omega : (0 : Int) ≤ k)]
              refine c_seq ?_
              refine c_draw mixed (by kernel_rfl) ?_
              refine d_yield rfl rfl rfl (y_val tok rfl) rfl ?_
              refine d_yield rfl rfl rfl (y_val tok rfl) rfl ?_
              refine d_yield rfl rfl rfl (y_val tok rfl) rfl ?_
              refine d_yield rfl rfl rfl (y_val tok rfl) rfl ?_
              refine d_yield rfl rfl rfl (y_val tok rfl) rfl ?_
              refine d_yield rfl rfl rfl (y_idx tok rfl (fun hg => hS.sl) (fun hg => ⟨by omega, by omega⟩)) rfl ?_
              refine d_yield rfl rfl rfl (y_fel tok rfl (fun hg => hS.sl) (fun hg => by omega)) rfl ?_
              refine d_yield rfl rfl rfl (y_lel tok k 1 x rfl (fun hg => hS) (fun hg => hx) rfl rfl) rfl ?_
              refine d_yield rfl rfl rfl (y_val tok rfl) rfl ?_
              refine d_yield rfl rfl rfl (y_val tok rfl) rfl ?_
              refine d_yield rfl rfl rfl (y_val tok rfl) rfl ?_
              refine d_yield rfl rfl rfl (y_val tok rfl) rfl ?_
              refine d_yield rfl rfl rfl (y_val tok rfl) rfl ?_
              refine d_yield rfl rfl rfl (y_val tok rfl) rfl ?_
              refine d_yield rfl rfl rfl (y_val tok rfl) rfl ?_
              refine d_yield rfl rfl rfl (y_val tok rfl) rfl ?_
              refine d_yield rfl rfl rfl (y_val tok rfl) rfl ?_
              refine d_yield rfl rfl rfl (y_val tok rfl) rfl ?_
              refine d_yield rfl rfl rfl (y_val tok rfl) rfl ?_
              refine d_end [4, 5, 6, 9, 158] rfl ?_
              refine x_then ?_
              refine c_cond rfl (fun h => ?_) (fun h => ?_)
              ·
                have hc : x.claim = c.was ∧ c.by_ ≠ c.dead := by simpa using h
                rw [if_pos hc]
                clear h
                refine c_seq ?_
                refine c_region ?_
                refine o_yield rfl rfl rfl (y_val tok rfl) ?_
                refine o_step rfl rfl rfl rfl rfl (s_makes (fun _ : Unit => True) (fun _ => .agg [.row 4, .row 6, .row 8]) (fun _ => [(4, (slR t.S).cel), (6, (hoR t.H).cel), (8, (hoR t.Q).cel)]) 9 rfl fnok85 (fun E w1 hm => rcopy_c V _ t w1 ht (hV.trans hm.leV) hT)) (fun _ _ => ?_)
                refine o_new tok rfl rfl rfl rfl ?_
                refine o_store tok rfl rfl rfl (by first | exact ⟨trivial, trivial⟩ | (repeat' first | exact trivial | exact rfl | apply And.intro); done | simp [onesP, oneP, lk, Value.oneCell']) ?_
                refine o_end [5, 6, 9, 16] rfl ?_
                refine x_then ?_
                refine c_seq ?_
                refine c_region ?_
                refine o_yield rfl rfl rfl (y_val tok rfl) ?_
                refine o_yield rfl rfl rfl (y_val tok rfl) ?_
                refine o_yield rfl rfl rfl (y_val tok rfl) ?_
                refine o_yield rfl rfl rfl (y_val tok rfl) ?_
                refine o_yield rfl rfl rfl (y_val tok rfl) ?_
                refine o_yield rfl rfl rfl (y_own (s := .a (.rel 8 (k * 2))) 8 rfl rfl (fun v V' hv => y_idxK tok (k * 2) rfl (by simp) (fun hg => hv) (fun hg => by first | omega | (dsimp only [slR]; omega)))) ?_
                refine o_yield rfl rfl rfl (y_own (s := .a (.rel 8 (k * 2 + 1))) 8 rfl rfl (fun v V' hv => y_fel tok rfl (fun hg => hv) (fun hg => by first | omega | (dsimp only [slR]; omega)))) ?_
                refine o_stepN rfl rfl rfl rfl (s_rst tok rfl rfl (by simp [Value.oneCell']) (by simp only [List.length_singleton]; first | omega | (dsimp only [slR]; omega)) (by first | omega | (dsimp only [slR]; omega))) (fun _ _ => ?_)
                refine o_end [6, 16] rfl ?_
                refine x_then ?_
                refine c_seq ?_
                refine c_region ?_
                refine o_yield rfl rfl rfl (y_val tok rfl) ?_
                refine o_store tok rfl rfl rfl (by first | exact ⟨trivial, trivial⟩ | (repeat' first | exact trivial | exact rfl | apply And.intro); done | simp [onesP, oneP, lk, Value.oneCell']) ?_
                refine o_end [6] rfl ?_
                refine x_then ?_
                refine c_ret ?_
                refine x_block_ret ?_
                refine x_then_ret ?_
                refine b_ret tok rfl ?_
                rw [show overL (k * 2 + 1) _ _ = _ from over_claim hx c.by_]
                intro E' w' hm _
                exact TbIs.out (t := ⟨t.S.set k ⟨x.key, c.by_⟩, t.H, t.Q⟩) hV (hm.below (Vw.le.refl _)) (by dsimp only; rw [List.length_set]; exact hm.rowFresh (Vw.le.refl _) (l := 8) rfl) (hm.rowFresh (Vw.le.refl _) (l := 10) rfl) (hm.rowFresh (Vw.le.refl _) (l := 12) rfl)
              ·
                refine c_skip ?_
                refine x_block ?_
                refine x_then ?_
                refine c_seq ?_
                refine c_region ?_
                refine o_yield rfl rfl rfl (y_val tok rfl) ?_
                refine o_store tok rfl rfl rfl (by first | exact ⟨trivial, trivial⟩ | (repeat' first | exact trivial | exact rfl | apply And.intro); done | simp [onesP, oneP, lk, Value.oneCell']) ?_
                refine o_end [6] rfl ?_
                refine x_then ?_
                refine c_ret ?_
                refine b_ret tok rfl ?_
                have hc : ¬ (x.claim = c.was ∧ c.by_ ≠ c.dead) := by
                  intro hc
                  simp [hc.1, hc.2] at h
                rw [if_neg hc]
                intro E' w' hm _
                exact TbIs.same hV (hm.below (Vw.le.refl _)) hT
          ·
            rw [hk] at h
            exact absurd h (by decide)

theorem rapply5_c (hk : c.kind = 5) : Calls Try.prog 35 #[g.val, tv, c.val] w (TbOut V (t.apply g.blocks c) w) := by
  have hT := h
  obtain ⟨a, n, c0, a2, n2, c2, a3, n3, c3, rfl, h1, h2, h3⟩ := id h
  clear h
  have hss := ht.s
  have hh := ht.h
  have hq := ht.q
  have hlim : lim = 4398046511104 := rfl
  have hS := h1.mono hV
  have hres0 : t.apply g.blocks c = t.purge c.by_ c.dead := by rw [Tb.apply, hk]; rfl
  rw [hres0]
  refine enter (E := E0) (O := []) (nl := 0) (V := vw w) [.a (.v g.val), .a (.v (.agg #[.slice a n c0, .slice a2 n2 c2, .slice a3 n3 c3])), .a (.v c.val)] Try.func35 rfl rfl (mem0 E0 0 w) rfl rfl ?_
  refine c_seq ?_
  refine c_region ?_
  refine o_new tok rfl rfl rfl rfl ?_
  refine o_new tok rfl rfl rfl rfl ?_
  refine o_new tok rfl rfl rfl rfl ?_
  refine o_new tok rfl rfl rfl rfl ?_
  refine o_end [3, 4, 5, 6] rfl ?_
  refine x_then ?_
  refine c_seq ?_
  refine c_region ?_
  refine o_yield rfl rfl rfl (y_val tok rfl) ?_
  refine o_yield rfl rfl rfl (y_val tok rfl) ?_
  refine o_yield rfl rfl rfl (y_val tok rfl) ?_
  refine o_call (.a (.v _)) rfl rfl fnok39 rfl rfl rfl (fun hg E w1 hm => by exact rSlot_c V a n c0 _ _ t.S c.by_ _ (hV.trans hm.leV) h1 (by omega)) ?_
  refine o_yield rfl rfl rfl (y_val tok rfl) ?_
  refine o_yield rfl rfl rfl (y_val tok rfl) ?_
  refine o_yield rfl rfl rfl (y_val tok rfl) ?_
  refine o_yield rfl rfl rfl (y_val tok rfl) ?_
  refine o_yield rfl rfl rfl (y_val tok rfl) ?_
  refine o_end [3, 4, 5, 6, 7, 8] rfl ?_
  refine x_then ?_
  refine c_seq ?_
  refine c_region ?_
  refine o_yield rfl rfl rfl (y_val tok rfl) ?_
  refine o_yield rfl rfl rfl (y_val tok rfl) ?_
  refine o_yield rfl rfl rfl (y_val tok rfl) ?_
  refine o_call (.a (.v _)) rfl rfl fnok39 rfl rfl rfl (fun hg E w1 hm => by exact rSlot_c V a n c0 _ _ t.S c.dead _ (hV.trans hm.leV) h1 (by omega)) ?_
  refine o_yield rfl rfl rfl (y_val tok rfl) ?_
  refine o_yield rfl rfl rfl (y_val tok rfl) ?_
  refine o_yield rfl rfl rfl (y_val tok rfl) ?_
  refine o_yield rfl rfl rfl (y_val tok rfl) ?_
  refine o_yield rfl rfl rfl (y_val tok rfl) ?_
  refine o_end [3, 4, 5, 6, 7, 8, 9, 10] rfl ?_
  refine x_then ?_
  refine c_seq ?_
  refine c_seq ?_
  refine c_region ?_
  refine o_yield rfl rfl rfl (y_val tok rfl) ?_
  refine o_yield rfl rfl rfl (y_val tok rfl) ?_
  refine o_end [3, 4, 5, 6, 7, 8, 9, 10, 32] rfl ?_
  refine x_then ?_
  refine c_block ?_
  refine c_seq ?_
  refine c_region ?_
  refine o_yield rfl rfl rfl (y_val tok rfl) ?_
  refine o_yield rfl rfl rfl (y_val tok rfl) ?_
  refine o_end [3, 4, 5, 6, 7, 8, 9, 10, 32, 33] rfl ?_
  refine x_then ?_
  refine c_cond rfl (fun h => ?_) (fun h => ?_)
  ·
    rw [hk] at h
    exact absurd h (by decide)
  ·
    clear h
    refine c_seq ?_
    refine c_region ?_
    refine o_yield rfl rfl rfl (y_val tok rfl) ?_
    refine o_yield rfl rfl rfl (y_val tok rfl) ?_
    refine o_end [3, 4, 5, 6, 7, 8, 9, 10, 32, 63] rfl ?_
    refine x_then ?_
    refine c_cond rfl (fun h => ?_) (fun h => ?_)
    ·
      rw [hk] at h
      exact absurd h (by decide)
    ·
      clear h
      refine c_seq ?_
      refine c_region ?_
      refine o_yield rfl rfl rfl (y_val tok rfl) ?_
      refine o_yield rfl rfl rfl (y_val tok rfl) ?_
      refine o_end [3, 4, 5, 6, 8, 9, 10, 32, 69] rfl ?_
      refine x_then ?_
      refine c_cond rfl (fun h => ?_) (fun h => ?_)
      ·
        rw [hk] at h
        exact absurd h (by decide)
      ·
        clear h
        refine c_seq ?_
        refine c_region ?_
        refine o_yield rfl rfl rfl (y_val tok rfl) ?_
        refine o_yield rfl rfl rfl (y_val tok rfl) ?_
        refine o_end [4, 5, 6, 9, 10, 32, 112] rfl ?_
        refine x_then ?_
        refine c_cond rfl (fun h => ?_) (fun h => ?_)
        ·
          rw [hk] at h
          exact absurd h (by decide)
        ·
          clear h
          refine c_seq ?_
          refine c_region ?_
          refine o_yield rfl rfl rfl (y_val tok rfl) ?_
          refine o_yield rfl rfl rfl (y_val tok rfl) ?_
          refine o_end [4, 5, 6, 9, 10, 32, 138] rfl ?_
          refine x_then ?_
          refine c_cond rfl (fun h => ?_) (fun h => ?_)
          ·
            rw [hk] at h
            exact absurd h (by decide)
          ·
            clear h
            refine c_seq ?_
            refine c_region ?_
            refine o_yield rfl rfl rfl (y_val tok rfl) ?_
            refine o_yield rfl rfl rfl (y_val tok rfl) ?_
            refine o_end [4, 5, 6, 9, 10, 169] rfl ?_
            refine x_then ?_
            refine c_cond rfl (fun h => ?_) (fun h => ?_)
            ·
              clear h
              rcases slotI_slot t c.dead with ⟨e1, e2⟩ | ⟨k, e1, e2, hkl⟩
              · have hres : t.purge c.by_ c.dead = t := by rw [Tb.purge, e1]
                rw [hres, e2, show decide ((0 : Int) ≤ -1) = false from rfl, show max (-1 : Int) 0 = ((0 : Nat) : Int) from rfl]
                refine c_seq ?_
                refine c_draw mixed (by kernel_rfl) ?_
                refine d_yield rfl rfl rfl (y_val tok rfl) rfl ?_
                refine d_yield rfl rfl rfl (y_val tok rfl) rfl ?_
                refine d_yield rfl rfl rfl (y_val tok rfl) rfl ?_
                refine d_yield rfl rfl rfl (y_val tok rfl) rfl ?_
                refine d_yield rfl rfl rfl (y_val tok rfl) rfl ?_
                refine d_yield rfl rfl rfl (y_val tok rfl) rfl ?_
                refine d_yield rfl rfl rfl (y_val tok rfl) rfl ?_
                refine d_yield rfl rfl rfl (y_val tok rfl) rfl ?_
                refine d_yield rfl rfl rfl (y_val tok rfl) rfl ?_
                refine d_yield rfl rfl rfl (y_val tok rfl) rfl ?_
                refine d_yield rfl rfl rfl (y_idx tok rfl (fun hg => hS.sl) (fun hg => by cases hg)) rfl ?_
                refine d_yield rfl rfl rfl (y_fel tok rfl (fun hg => hS.sl) (fun hg => by cases hg)) rfl ?_
                refine d_yield rfl rfl rfl (y_lel tok 0 1 ⟨0, 0⟩ rfl (fun hg => hS) (fun hg => by cases hg) rfl rfl) rfl ?_
                refine d_yield rfl rfl rfl (y_val tok rfl) rfl ?_
                refine d_yield rfl rfl rfl (y_val tok rfl) rfl ?_
                refine d_yield rfl rfl rfl (y_val tok rfl) rfl ?_
                refine d_yield rfl rfl rfl (y_val tok rfl) rfl ?_
                refine d_end [4, 6, 9, 187] rfl ?_
                refine x_then ?_
                refine c_cond rfl (fun h => ?_) (fun h => ?_)
                ·
                  cases h
                ·
                  refine c_skip ?_
                  refine x_block ?_
                  refine x_then ?_
                  refine c_seq ?_
                  refine c_region ?_
                  refine o_yield rfl rfl rfl (y_val tok rfl) ?_
                  refine o_store tok rfl rfl rfl (by first | exact ⟨trivial, trivial⟩ | (repeat' first | exact trivial | exact rfl | apply And.intro); done | simp [onesP, oneP, lk, Value.oneCell']) ?_
                  refine o_end [6] rfl ?_
                  refine x_then ?_
                  refine c_ret ?_
                  refine b_ret tok rfl ?_
                  intro E' w' hm _
                  exact TbIs.same hV (hm.below (Vw.le.refl _)) hT
              · obtain ⟨x, hx⟩ : ∃ x, t.S[k]? = some x := ⟨_, List.getElem?_eq_getElem hkl⟩
                have hres : t.purge c.by_ c.dead = if c.by_ ≠ 0 ∧ x.claim = c.by_ then t.clear k else t := by rw [Tb.purge, e1]; dsimp only; rw [slotClaim_at hx]
                rw [hres, e2, show max (k : Int) 0 = k by omega, decide_eq_true (by omega : (0 : Int) ≤ k)]
                refine c_seq ?_
                refine c_draw mixed (by kernel_rfl) ?_
                refine d_yield rfl rfl rfl (y_val tok rfl) rfl ?_
                refine d_yield rfl rfl rfl (y_val tok rfl) rfl ?_
                refine d_yield rfl rfl rfl (y_val tok rfl) rfl ?_
                refine d_yield rfl rfl rfl (y_val tok rfl) rfl ?_
                refine d_yield rfl rfl rfl (y_val tok rfl) rfl ?_
                refine d_yield rfl rfl rfl (y_val tok rfl) rfl ?_
                refine d_yield rfl rfl rfl (y_val tok rfl) rfl ?_
                refine d_yield rfl rfl rfl (y_val tok rfl) rfl ?_
                refine d_yield rfl rfl rfl (y_val tok rfl) rfl ?_
                refine d_yield rfl rfl rfl (y_val tok rfl) rfl ?_
                refine d_yield rfl rfl rfl (y_idx tok rfl (fun hg => hS.sl) (fun hg => ⟨by omega, by omega⟩)) rfl ?_
                refine d_yield rfl rfl rfl (y_fel tok rfl (fun hg => hS.sl) (fun hg => by omega)) rfl ?_
                refine d_yield rfl rfl rfl (y_lel tok k 1 x rfl (fun hg => hS) (fun hg => hx) rfl rfl) rfl ?_
                refine d_yield rfl rfl rfl (y_val tok rfl) rfl ?_
                refine d_yield rfl rfl rfl (y_val tok rfl) rfl ?_
                refine d_yield rfl rfl rfl (y_val tok rfl) rfl ?_
                refine d_yield rfl rfl rfl (y_val tok rfl) rfl ?_
                refine d_end [4, 6, 9, 187] rfl ?_
                refine x_then ?_
                refine c_cond rfl (fun h => ?_) (fun h => ?_)
                ·
                  have hc : c.by_ ≠ 0 ∧ x.claim = c.by_ := by simpa using h
                  rw [if_pos hc]
                  clear h
                  refine c_seq ?_
                  refine c_region ?_
                  refine o_yield rfl rfl rfl (y_val tok rfl) ?_
                  refine o_yield rfl rfl rfl (y_val tok rfl) ?_
                  refine o_step rfl rfl rfl rfl rfl (s_makes (fun _ : Unit => True) (fun _ => .agg [.row 22, .row 24, .row 28]) (fun _ => [(22, (slR (t.clear k).S).cel), (24, (hoR (t.clear k).H).cel), (28, (hoR (t.clear k).Q).cel)]) 29 rfl fnok86 (fun E w1 hm => rleave_c V _ t k x hx w1 ht (hV.trans hm.leV) hT)) (fun _ _ => ?_)
                  refine o_store tok rfl rfl rfl (by first | exact ⟨trivial, trivial⟩ | (repeat' first | exact trivial | exact rfl | apply And.intro); done | simp [onesP, oneP, lk, Value.oneCell']) ?_
                  refine o_end [6] rfl ?_
                  refine x_then ?_
                  refine c_ret ?_
                  refine x_block_ret ?_
                  refine x_then_ret ?_
                  refine b_ret tok rfl ?_
                  intro E' w' hm _
                  exact TbIs.out hV (hm.below (Vw.le.refl _)) (hm.rowFresh (Vw.le.refl _) (l := 26) rfl) (hm.rowFresh (Vw.le.refl _) (l := 28) rfl) (hm.rowFresh (Vw.le.refl _) (l := 32) rfl)
                ·
                  refine c_skip ?_
                  refine x_block ?_
                  refine x_then ?_
                  refine c_seq ?_
                  refine c_region ?_
                  refine o_yield rfl rfl rfl (y_val tok rfl) ?_
                  refine o_store tok rfl rfl rfl (by first | exact ⟨trivial, trivial⟩ | (repeat' first | exact trivial | exact rfl | apply And.intro); done | simp [onesP, oneP, lk, Value.oneCell']) ?_
                  refine o_end [6] rfl ?_
                  refine x_then ?_
                  refine c_ret ?_
                  refine b_ret tok rfl ?_
                  have hc : ¬ (c.by_ ≠ 0 ∧ x.claim = c.by_) := by
                    intro hc
                    rw [hc.2] at h
                    have h1 := hc.1
                    simp [h1] at h
                  rw [if_neg hc]
                  intro E' w' hm _
                  exact TbIs.same hV (hm.below (Vw.le.refl _)) hT
            ·
              rw [hk] at h
              exact absurd h (by decide)

theorem rapplyN_c (hk : c.kind < 0 ∨ 5 < c.kind) : Calls Try.prog 35 #[g.val, tv, c.val] w (TbOut V (t.apply g.blocks c) w) := by
  have hT := h
  obtain ⟨a, n, c0, a2, n2, c2, a3, n3, c3, rfl, h1, h2, h3⟩ := id h
  clear h
  have hss := ht.s
  have hh := ht.h
  have hq := ht.q
  have hlim : lim = 4398046511104 := rfl
  have hS := h1.mono hV
  have hres0 : t.apply g.blocks c = t := by rw [Tb.apply]; repeat rw [if_neg (by omega)]
  rw [hres0]
  refine enter (E := E0) (O := []) (nl := 0) (V := vw w) [.a (.v g.val), .a (.v (.agg #[.slice a n c0, .slice a2 n2 c2, .slice a3 n3 c3])), .a (.v c.val)] Try.func35 rfl rfl (mem0 E0 0 w) rfl rfl ?_
  refine c_seq ?_
  refine c_region ?_
  refine o_new tok rfl rfl rfl rfl ?_
  refine o_new tok rfl rfl rfl rfl ?_
  refine o_new tok rfl rfl rfl rfl ?_
  refine o_new tok rfl rfl rfl rfl ?_
  refine o_end [3, 4, 5, 6] rfl ?_
  refine x_then ?_
  refine c_seq ?_
  refine c_region ?_
  refine o_yield rfl rfl rfl (y_val tok rfl) ?_
  refine o_yield rfl rfl rfl (y_val tok rfl) ?_
  refine o_yield rfl rfl rfl (y_val tok rfl) ?_
  refine o_call (.a (.v _)) rfl rfl fnok39 rfl rfl rfl (fun hg E w1 hm => by exact rSlot_c V a n c0 _ _ t.S c.by_ _ (hV.trans hm.leV) h1 (by omega)) ?_
  refine o_yield rfl rfl rfl (y_val tok rfl) ?_
  refine o_yield rfl rfl rfl (y_val tok rfl) ?_
  refine o_yield rfl rfl rfl (y_val tok rfl) ?_
  refine o_yield rfl rfl rfl (y_val tok rfl) ?_
  refine o_yield rfl rfl rfl (y_val tok rfl) ?_
  refine o_end [3, 4, 5, 6, 7, 8] rfl ?_
  refine x_then ?_
  refine c_seq ?_
  refine c_region ?_
  refine o_yield rfl rfl rfl (y_val tok rfl) ?_
  refine o_yield rfl rfl rfl (y_val tok rfl) ?_
  refine o_yield rfl rfl rfl (y_val tok rfl) ?_
  refine o_call (.a (.v _)) rfl rfl fnok39 rfl rfl rfl (fun hg E w1 hm => by exact rSlot_c V a n c0 _ _ t.S c.dead _ (hV.trans hm.leV) h1 (by omega)) ?_
  refine o_yield rfl rfl rfl (y_val tok rfl) ?_
  refine o_yield rfl rfl rfl (y_val tok rfl) ?_
  refine o_yield rfl rfl rfl (y_val tok rfl) ?_
  refine o_yield rfl rfl rfl (y_val tok rfl) ?_
  refine o_yield rfl rfl rfl (y_val tok rfl) ?_
  refine o_end [3, 4, 5, 6, 7, 8, 9, 10] rfl ?_
  refine x_then ?_
  refine c_seq ?_
  refine c_seq ?_
  refine c_region ?_
  refine o_yield rfl rfl rfl (y_val tok rfl) ?_
  refine o_yield rfl rfl rfl (y_val tok rfl) ?_
  refine o_end [3, 4, 5, 6, 7, 8, 9, 10, 32] rfl ?_
  refine x_then ?_
  refine c_block ?_
  refine c_seq ?_
  refine c_region ?_
  refine o_yield rfl rfl rfl (y_val tok rfl) ?_
  refine o_yield rfl rfl rfl (y_val tok rfl) ?_
  refine o_end [3, 4, 5, 6, 7, 8, 9, 10, 32, 33] rfl ?_
  refine x_then ?_
  refine c_cond rfl (fun h => ?_) (fun h => ?_)
  ·
    simp only [beq_iff_eq] at h
    omega
  ·
    clear h
    refine c_seq ?_
    refine c_region ?_
    refine o_yield rfl rfl rfl (y_val tok rfl) ?_
    refine o_yield rfl rfl rfl (y_val tok rfl) ?_
    refine o_end [3, 4, 5, 6, 7, 8, 9, 10, 32, 63] rfl ?_
    refine x_then ?_
    refine c_cond rfl (fun h => ?_) (fun h => ?_)
    ·
      simp only [beq_iff_eq] at h
      omega
    ·
      clear h
      refine c_seq ?_
      refine c_region ?_
      refine o_yield rfl rfl rfl (y_val tok rfl) ?_
      refine o_yield rfl rfl rfl (y_val tok rfl) ?_
      refine o_end [3, 4, 5, 6, 8, 9, 10, 32, 69] rfl ?_
      refine x_then ?_
      refine c_cond rfl (fun h => ?_) (fun h => ?_)
      ·
        simp only [beq_iff_eq] at h
        omega
      ·
        clear h
        refine c_seq ?_
        refine c_region ?_
        refine o_yield rfl rfl rfl (y_val tok rfl) ?_
        refine o_yield rfl rfl rfl (y_val tok rfl) ?_
        refine o_end [4, 5, 6, 9, 10, 32, 112] rfl ?_
        refine x_then ?_
        refine c_cond rfl (fun h => ?_) (fun h => ?_)
        ·
          simp only [beq_iff_eq] at h
          omega
        ·
          clear h
          refine c_seq ?_
          refine c_region ?_
          refine o_yield rfl rfl rfl (y_val tok rfl) ?_
          refine o_yield rfl rfl rfl (y_val tok rfl) ?_
          refine o_end [4, 5, 6, 9, 10, 32, 138] rfl ?_
          refine x_then ?_
          refine c_cond rfl (fun h => ?_) (fun h => ?_)
          ·
            simp only [beq_iff_eq] at h
            omega
          ·
            clear h
            refine c_seq ?_
            refine c_region ?_
            refine o_yield rfl rfl rfl (y_val tok rfl) ?_
            refine o_yield rfl rfl rfl (y_val tok rfl) ?_
            refine o_end [4, 5, 6, 9, 10, 169] rfl ?_
            refine x_then ?_
            refine c_cond rfl (fun h => ?_) (fun h => ?_)
            ·
              simp only [beq_iff_eq] at h
              omega
            ·
              refine c_skip ?_
              refine x_block ?_
              refine x_then ?_
              refine c_seq ?_
              refine c_region ?_
              refine o_yield rfl rfl rfl (y_val tok rfl) ?_
              refine o_store tok rfl rfl rfl (by first | exact ⟨trivial, trivial⟩ | (repeat' first | exact trivial | exact rfl | apply And.intro); done | simp [onesP, oneP, lk, Value.oneCell']) ?_
              refine o_end [6] rfl ?_
              refine x_then ?_
              refine c_ret ?_
              refine b_ret tok rfl ?_
              intro E' w' hm _
              exact TbIs.same hV (hm.below (Vw.le.refl _)) hT

theorem rapply_c : Calls Try.prog 35 #[g.val, tv, c.val] w (TbOut V (t.apply g.blocks c) w) := by
  rcases (by omega : c.kind = 0 ∨ c.kind = 1 ∨ c.kind = 2 ∨ c.kind = 3 ∨ c.kind = 4 ∨ c.kind = 5 ∨ (c.kind < 0 ∨ 5 < c.kind)) with hk | hk | hk | hk | hk | hk | hk
  · exact rapply0_c V g tv t c w ht hq1 hV h hk
  · exact rapply1_c V g tv t c w ht hq1 hV h hk
  · exact rapply2_c V g tv t c w ht hq1 hV h hk
  · exact rapply3_c V g tv t c w ht hq1 hV h hk
  · exact rapply4_c V g tv t c w ht hq1 hV h hk
  · exact rapply5_c V g tv t c w ht hq1 hV h hk
  · exact rapplyN_c V g tv t c w ht hq1 hV h hk
end
end Go.Proofs.Ytiapfhcimekdkaa
