import Derived.Test.YtiapfhcimekdkaaMTAsk
import Derived.Test.YtiapfhcimekdkaaEng36
/- Tables, the document's: which may be. -/
set_option linter.unusedVariables false
set_option linter.unusedSimpArgs false
set_option maxRecDepth 100000
namespace Go.Proofs.Ytiapfhcimekdkaa
open Go Go.Eng Go.RowKit

/-- Whether something holds. -/
noncomputable def cdec (p : Prop) : Bool := @decide p (Classical.propDecidable p)
theorem cdec_true {p : Prop} (h : p) : cdec p = true := by simp [cdec, h]
theorem cdec_false {p : Prop} (h : ¬ p) : cdec p = false := by simp [cdec, h]
theorem cdec_iff {p : Prop} : cdec p = true ↔ p := by simp [cdec]

def slotGood (x : Slot) : Prop := 0 ≤ x.key ∧ 0 ≤ x.claim ∧ (x.key = 0 → x.claim = 0)

theorem slotsOk_iff (S : List Slot) : SlotsOk S ↔ ∀ (j : Nat) (x : Slot), S[j]? = some x → slotGood x ∧ ∀ (k : Nat) (y : Slot), k < j → S[k]? = some y → x.key ≠ 0 → y.key ≠ x.key := by
  constructor
  · intro h j x hx
    refine ⟨h.pos x (List.mem_of_getElem? hx), fun k y hk hy h0 e => ?_⟩
    have := h.two hy hx e (by rw [e]; exact h0)
    omega
  · intro h
    refine ⟨fun x hx => ?_, ?_⟩
    · obtain ⟨j, hj⟩ := List.mem_iff_getElem?.1 hx
      exact (h j x hj).1
    · rw [List.pairwise_iff_getElem]
      intro i j hi hj hij
      simp only [List.getElem_map]
      simp only [List.length_map] at hi hj
      intro h0 e
      exact (h j _ (List.getElem?_eq_getElem hj)).2 i _ hij (List.getElem?_eq_getElem hi) h0 e

theorem badSlot {x : Slot} (h : ((decide (x.key < 0) || decide (x.claim < 0)) || ((x.key == 0) && !(x.claim == 0))) = true) : ¬ slotGood x := by
  simp only [Bool.or_eq_true, Bool.and_eq_true, decide_eq_true_eq, beq_iff_eq, Bool.not_eq_true', beq_eq_false_iff_ne] at h
  rintro ⟨h1, h2, h3⟩
  rcases h with (h | h) | ⟨h, h'⟩
  · omega
  · omega
  · exact h' (h3 h)

theorem goodSlot {x : Slot} (h : ((decide (x.key < 0) || decide (x.claim < 0)) || ((x.key == 0) && !(x.claim == 0))) = false) : slotGood x := by
  simp only [Bool.or_eq_false_iff, Bool.and_eq_false_iff, decide_eq_false_iff_not, beq_eq_false_iff_ne, Bool.not_eq_false', beq_iff_eq] at h
  obtain ⟨⟨h1, h2⟩, h3⟩ := h
  refine ⟨by omega, by omega, fun e => ?_⟩
  rcases h3 with h3 | h3
  · exact absurd e h3
  · exact h3

theorem rslots_c (V : Vw) (a : Option Addr) (n c : Nat) (hv qv : Value) (S : List Slot) (w : World) (hV : V.le (vw w)) (hs0 : SlOf V Slot.cells 2 (.slice a n c) S) (hn : S.length ≤ 1000) :
    Calls Try.prog 57 #[.agg #[.slice a n c, hv, qv]] w fun e w' => e = .returned (.bool (cdec (SlotsOk S))) ∧ Below w.heap.size w w' := by
  have hs := hs0.mono hV
  refine enter (E := E0) (O := []) (nl := 0) (V := vw w) [.a (.v (.agg #[.slice a n c, hv, qv]))] Try.func57 rfl rfl (mem0 E0 0 w) rfl rfl ?_
  refine c_seq ?_
  refine c_region ?_
  refine o_new tok rfl rfl rfl rfl ?_
  refine o_yield rfl rfl rfl (y_val tok rfl) ?_
  refine o_end [1] rfl ?_
  refine x_then ?_
  refine c_seq ?_
  refine c_seq ?_
  refine c_region ?_
  refine o_yield rfl rfl rfl (y_val tok rfl) ?_
  refine o_end [1, 3] rfl ?_
  refine x_then ?_
  refine c_block ?_
  refine c_loopK [1] [] rfl rfl (σ := Nat) (fun i => [(3, .a (.v (I i)))]) (fun i => []) (fun i => i ≤ S.length ∧ ∀ (j : Nat) (x : Slot), j < i → S[j]? = some x → slotGood x ∧ ∀ (k : Nat) (y : Slot), k < j → S[k]? = some y → x.key ≠ 0 → y.key ≠ x.key) (fun i => S.length - i) (0) (⟨by omega, fun j x hj => by omega⟩) (by repeat (first | exact SubF.nil | refine SubF.cons rfl ?_)) (by repeat (first | exact SubO.nil | refine SubO.cons rfl ?_)) rfl ?_
  rintro i ⟨hi, hall⟩
  refine c_seq ?_
  refine c_seq ?_
  refine c_region ?_
  refine o_yield rfl rfl rfl (y_val tok rfl) ?_
  refine o_yield rfl rfl rfl (y_val tok rfl) ?_
  refine o_yield rfl rfl rfl (y_val tok rfl) ?_
  refine o_yield rfl rfl rfl (y_len tok rfl (fun hg => hs.sl)) ?_
  refine o_yield rfl rfl rfl (y_val tok rfl) ?_
  refine o_end [1, 3, 10] rfl ?_
  refine x_then ?_
  refine c_cond rfl (fun h => ?_) (fun h => ?_)
  ·
    simp only [Bool.and_eq_true, Bool.or_eq_true, Bool.not_eq_true', Bool.or_eq_false_iff, Bool.and_eq_false_iff, decide_eq_true_eq, decide_eq_false_iff_not, beq_iff_eq, bne_iff_ne, Bool.not_eq_false', beq_eq_false_iff_ne, bne_eq_false_iff_eq, ne_eq, Decidable.not_not, Int.not_lt, Int.not_le] at h
    refine c_skip ?_
    refine x_then ?_
    refine c_seq ?_
    refine c_block ?_
    refine c_seq ?_
    refine c_region ?_
    refine o_yield rfl rfl rfl (y_val tok rfl) ?_
    refine o_yield rfl rfl rfl (y_val tok rfl) ?_
    refine o_yield rfl rfl rfl (y_val tok rfl) ?_
    obtain ⟨x, h_x⟩ := hs.at (k := i) (by omega)
    have hlt_x := lt_of_at h_x
    refine o_yield rfl rfl rfl (y_idx tok rfl (fun hg => hs.sl) (fun hg => ⟨by omega, by omega⟩)) ?_
    refine o_yield rfl rfl rfl (y_lel tok (i) 0 (x) rfl (fun hg => hs) (fun hg => h_x) rfl rfl) ?_
    refine o_new tok rfl rfl rfl rfl ?_
    refine o_store tok rfl rfl rfl (by first | exact ⟨trivial, trivial⟩ | (repeat' first | exact trivial | exact rfl | apply And.intro); done | simp [onesP, oneP, lk, Value.oneCell']) ?_
    refine o_end [1, 3, 4] rfl ?_
    refine x_then ?_
    refine c_seq ?_
    refine c_seq ?_
    refine c_region ?_
    refine o_yield rfl rfl rfl (y_val tok rfl) ?_
    refine o_yield rfl rfl rfl (y_val tok rfl) ?_
    refine o_yield rfl rfl rfl (y_val tok rfl) ?_
    refine o_yield rfl rfl rfl (y_val tok rfl) ?_
    refine o_yield rfl rfl rfl (y_val tok rfl) ?_
    refine o_yield rfl rfl rfl (y_val tok rfl) ?_
    refine o_yield rfl rfl rfl (y_val tok rfl) ?_
    refine o_yield rfl rfl rfl (y_val tok rfl) ?_
    refine o_yield rfl rfl rfl (y_val tok rfl) ?_
    refine o_yield rfl rfl rfl (y_val tok rfl) ?_
    refine o_yield rfl rfl rfl (y_val tok rfl) ?_
    refine o_yield rfl rfl rfl (y_val tok rfl) ?_
    refine o_yield rfl rfl rfl (y_val tok rfl) ?_
    refine o_yield rfl rfl rfl (y_val tok rfl) ?_
    refine o_yield rfl rfl rfl (y_val tok rfl) ?_
    refine o_yield rfl rfl rfl (y_val tok rfl) ?_
    refine o_yield rfl rfl rfl (y_val tok rfl) ?_
    refine o_yield rfl rfl rfl (y_val tok rfl) ?_
    refine o_end [1, 3, 4, 35] rfl ?_
    refine x_then ?_
    refine c_cond rfl (fun h => ?_) (fun h => ?_)
    ·
      refine c_seq ?_
      refine c_region ?_
      refine o_yield rfl rfl rfl (y_val tok rfl) ?_
      refine o_end [2] rfl ?_
      refine x_then ?_
      refine c_ret ?_
      refine x_then_ret ?_
      refine x_block_ret ?_
      refine x_then_ret ?_
      refine x_then_ret ?_
      refine x_block_ret ?_
      refine x_then_ret ?_
      refine b_ret tok rfl ?_
      intro E w' hm _
      refine ⟨?_, hm.below (Vw.le.refl _)⟩
      rw [cdec_false]
      · rfl
      · intro hok
        exact badSlot h ((slotsOk_iff S).1 hok i x h_x).1
    ·
      have hg := goodSlot h
      clear h
      refine c_skip ?_
      refine x_then ?_
      refine c_seq ?_
      refine c_region ?_
      refine o_yield rfl rfl rfl (y_val tok rfl) ?_
      refine o_end [1, 3, 4, 5] rfl ?_
      refine x_then ?_
      refine c_block ?_
      refine c_loopK [1, 3, 4] [] rfl rfl (σ := Nat) (fun k => [(5, .a (.v (I k)))]) (fun k => []) (fun k => k ≤ i ∧ ∀ (j : Nat) (y : Slot), j < k → S[j]? = some y → x.key ≠ 0 → y.key ≠ x.key) (fun k => i - k) (0) (⟨by omega, fun j y hj => by omega⟩) (by repeat (first | exact SubF.nil | refine SubF.cons rfl ?_)) (by repeat (first | exact SubO.nil | refine SubO.cons rfl ?_)) rfl ?_
      rintro k ⟨hk, hahead⟩
      refine c_seq ?_
      refine c_seq ?_
      refine c_region ?_
      refine o_yield rfl rfl rfl (y_val tok rfl) ?_
      refine o_yield rfl rfl rfl (y_val tok rfl) ?_
      refine o_yield rfl rfl rfl (y_val tok rfl) ?_
      refine o_end [1, 3, 4, 5, 38] rfl ?_
      refine x_then ?_
      refine c_cond rfl (fun h => ?_) (fun h => ?_)
      ·
        simp only [Bool.and_eq_true, Bool.or_eq_true, Bool.not_eq_true', Bool.or_eq_false_iff, Bool.and_eq_false_iff, decide_eq_true_eq, decide_eq_false_iff_not, beq_iff_eq, bne_iff_ne, Bool.not_eq_false', beq_eq_false_iff_ne, bne_eq_false_iff_eq, ne_eq, Decidable.not_not, Int.not_lt, Int.not_le] at h
        obtain ⟨y, hy⟩ : ∃ y, S[k]? = some y := ⟨_, List.getElem?_eq_getElem (by omega)⟩
        refine c_skip ?_
        refine x_then ?_
        refine c_seq ?_
        refine c_block ?_
        refine c_seq ?_
        refine c_draw mixed (by kernel_rfl) ?_
        refine d_yield rfl rfl rfl (y_val tok rfl) rfl ?_
        refine d_yield rfl rfl rfl (y_val tok rfl) rfl ?_
        refine d_yield rfl rfl rfl (y_val tok rfl) rfl ?_
        refine d_yield rfl rfl rfl (y_val tok rfl) rfl ?_
        refine d_yield rfl rfl rfl (y_val tok rfl) rfl ?_
        refine d_yield rfl rfl rfl (y_val tok rfl) rfl ?_
        refine d_yield rfl rfl rfl (y_val tok rfl) rfl ?_
        refine d_yield rfl rfl rfl (y_idx tok rfl (fun hg => hs.sl) (fun hg => ⟨by omega, by omega⟩)) rfl ?_
        refine d_yield rfl rfl rfl (y_fel tok rfl (fun hg => hs.sl) (fun hg => by omega)) rfl ?_
        refine d_yield rfl rfl rfl (y_lel tok k 0 y rfl (fun hg => hs) (fun hg => hy) rfl rfl) rfl ?_
        refine d_yield rfl rfl rfl (y_val tok rfl) rfl ?_
        refine d_yield rfl rfl rfl (y_val tok rfl) rfl ?_
        refine d_yield rfl rfl rfl (y_val tok rfl) rfl ?_
        refine d_yield rfl rfl rfl (y_val tok rfl) rfl ?_
        refine d_end [1, 3, 4, 5, 54] rfl ?_
        refine x_then ?_
        refine c_cond rfl (fun h => ?_) (fun h => ?_)
        ·
          refine c_seq ?_
          refine c_region ?_
          refine o_yield rfl rfl rfl (y_val tok rfl) ?_
          refine o_end [2] rfl ?_
          refine x_then ?_
          refine c_ret ?_
          refine x_block_ret ?_
          refine x_then_ret ?_
          refine x_then_ret ?_
          refine x_block_ret ?_
          refine x_block_ret ?_
          refine x_then_ret ?_
          refine x_then_ret ?_
          refine x_block_ret ?_
          refine x_then_ret ?_
          refine b_ret tok rfl ?_
          have hbad : x.key ≠ 0 ∧ y.key = x.key := by simpa using h
          intro E w' hm _
          refine ⟨?_, hm.below (Vw.le.refl _)⟩
          rw [cdec_false]
          · rfl
          · intro hok
            exact ((slotsOk_iff S).1 hok i x h_x).2 k y (by omega) hy hbad.1 hbad.2
        ·
          refine c_skip ?_
          refine x_block ?_
          refine x_then ?_
          refine c_region ?_
          refine o_yield rfl rfl rfl (y_val tok rfl) ?_
          refine o_yield rfl rfl rfl (y_val tok rfl) ?_
          refine o_yield rfl rfl rfl (y_val tok rfl) ?_
          refine o_end [1, 3, 4, 5] rfl ?_
          refine x_then ?_
          have hgood : x.key ≠ 0 → y.key ≠ x.key := by
            intro h0 e
            simp [h0, e] at h
          have hah2 : ∀ (j : Nat) (z : Slot), j < k + 1 → S[j]? = some z → x.key ≠ 0 → z.key ≠ x.key := by
            intro j z hj hz
            rcases Nat.lt_or_ge j k with hlt | hge
            · exact hahead j z hlt hz
            · have e : j = k := by omega
              subst e
              rw [hy] at hz
              cases hz
              exact hgood
          rw [wrapI (by omega) (by omega)]
          refine x_round (k + 1) (⟨by omega, hah2⟩) (by first | omega | (dsimp only; omega)) (by repeat (first | exact SubF.nil | refine SubF.cons rfl ?_)) (by repeat (first | exact SubO.nil | refine SubO.cons rfl ?_)) rfl (Vw.le.refl _)
      ·
        simp only [Bool.and_eq_true, Bool.or_eq_true, Bool.not_eq_true', Bool.or_eq_false_iff, Bool.and_eq_false_iff, decide_eq_true_eq, decide_eq_false_iff_not, beq_iff_eq, bne_iff_ne, Bool.not_eq_false', beq_eq_false_iff_ne, bne_eq_false_iff_eq, ne_eq, Decidable.not_not, Int.not_lt, Int.not_le] at h
        refine c_exit ?_
        refine x_then_exit ?_
        refine x_then_exit ?_
        refine x_block_hit ?_
        refine x_block ?_
        refine x_then ?_
        refine c_region ?_
        refine o_yield rfl rfl rfl (y_val tok rfl) ?_
        refine o_yield rfl rfl rfl (y_val tok rfl) ?_
        refine o_yield rfl rfl rfl (y_val tok rfl) ?_
        refine o_end [1, 3] rfl ?_
        refine x_then ?_
        have hik : k = i := by omega
        subst hik
        have hall2 : ∀ (j : Nat) (z : Slot), j < k + 1 → S[j]? = some z → slotGood z ∧ ∀ (k : Nat) (y : Slot), k < j → S[k]? = some y → z.key ≠ 0 → y.key ≠ z.key := by
          intro j z hj hz
          rcases Nat.lt_or_ge j k with hlt | hge
          · exact hall j z hlt hz
          · have : j = k := by omega
            subst this
            rw [h_x] at hz
            cases hz
            exact ⟨hg, hahead⟩
        rw [wrapI (by omega) (by omega)]
        refine x_round (k + 1) (⟨by omega, hall2⟩) (by first | omega | (dsimp only; omega)) (by repeat (first | exact SubF.nil | refine SubF.cons rfl ?_)) (by repeat (first | exact SubO.nil | refine SubO.cons rfl ?_)) rfl (Vw.le.refl _)
  ·
    simp only [Bool.and_eq_true, Bool.or_eq_true, Bool.not_eq_true', Bool.or_eq_false_iff, Bool.and_eq_false_iff, decide_eq_true_eq, decide_eq_false_iff_not, beq_iff_eq, bne_iff_ne, Bool.not_eq_false', beq_eq_false_iff_ne, bne_eq_false_iff_eq, ne_eq, Decidable.not_not, Int.not_lt, Int.not_le] at h
    refine c_exit ?_
    refine x_then_exit ?_
    refine x_then_exit ?_
    refine x_block_hit ?_
    refine x_then ?_
    refine c_seq ?_
    refine c_region ?_
    refine o_yield rfl rfl rfl (y_val tok rfl) ?_
    refine o_end [2] rfl ?_
    refine x_then ?_
    refine c_ret ?_
    refine b_ret tok rfl ?_
    have hik : i = S.length := by omega
    intro E w' hm _
    refine ⟨?_, hm.below (Vw.le.refl _)⟩
    rw [cdec_true]
    · rfl
    · exact (slotsOk_iff S).2 fun j x hx => hall j x (by rw [hik]; exact lt_of_at hx) hx

theorem slotI_found {S : List Slot} {key : Int} {i : Nat} {x : Slot} (hk : 1 ≤ key) (hx : S[i]? = some x) (he : x.key = key) (hall : ∀ (j : Nat) (y : Slot), j < i → S[j]? = some y → (y.key == key) = false) : slotI S key = i := by
  rw [slotI, if_neg (by omega), idxOf, findIdx?_at hx (by simp [he]) hall]

theorem slotI_low {S : List Slot} {key : Int} (hk : ¬ 1 ≤ key) : slotI S key = -1 := by rw [slotI, if_pos (by omega)]

theorem slotI_no {S : List Slot} {key : Int} (hall : ∀ (j : Nat) (y : Slot), S[j]? = some y → (y.key == key) = false) : slotI S key = -1 := by
  rw [slotI]
  split
  · rfl
  · rw [idxOf, findIdx?_no (fun j y _ hy => hall j y hy)]

theorem rSlot_c (V : Vw) (a : Option Addr) (n c : Nat) (hv qv : Value) (S : List Slot) (key : Int) (w : World) (hV : V.le (vw w)) (hs0 : SlOf V Slot.cells 2 (.slice a n c) S) (hn : S.length ≤ lim) :
    Calls Try.prog 39 #[.agg #[.slice a n c, hv, qv], I key] w fun e w' => e = .returned (.tuple #[I (max (slotI S key) 0), .bool (decide (0 ≤ slotI S key))]) ∧ Below w.heap.size w w' := by
  unfold lim at hn
  have hs := hs0.mono hV
  refine enter (E := E0) (O := []) (nl := 0) (V := vw w) [.a (.v (.agg #[.slice a n c, hv, qv])), .a (.v (I key))] Try.func39 rfl rfl (mem0 E0 0 w) rfl rfl ?_
  refine c_seq ?_
  refine c_region ?_
  refine o_new tok rfl rfl rfl rfl ?_
  refine o_yield rfl rfl rfl (y_val tok rfl) ?_
  refine o_yield rfl rfl rfl (y_val tok rfl) ?_
  refine o_end [1, 2] rfl ?_
  refine x_then ?_
  refine c_seq ?_
  refine c_seq ?_
  refine c_region ?_
  refine o_yield rfl rfl rfl (y_val tok rfl) ?_
  refine o_end [1, 2, 6] rfl ?_
  refine x_then ?_
  refine c_block ?_
  refine c_loopK [1, 2] [] rfl rfl (σ := Nat) (fun i => [(6, .a (.v (I i)))]) (fun i => []) (fun i => i ≤ S.length ∧ (1 ≤ key → ∀ (j : Nat) (y : Slot), j < i → S[j]? = some y → (y.key == key) = false)) (fun i => S.length - i) (0) (⟨by omega, fun _ j x hj => by omega⟩) (by repeat (first | exact SubF.nil | refine SubF.cons rfl ?_)) (by repeat (first | exact SubO.nil | refine SubO.cons rfl ?_)) rfl ?_
  rintro i ⟨hi, hall⟩
  refine c_seq ?_
  refine c_seq ?_
  refine c_region ?_
  refine o_yield rfl rfl rfl (y_val tok rfl) ?_
  refine o_yield rfl rfl rfl (y_val tok rfl) ?_
  refine o_yield rfl rfl rfl (y_val tok rfl) ?_
  refine o_yield rfl rfl rfl (y_len tok rfl (fun hg => hs.sl)) ?_
  refine o_yield rfl rfl rfl (y_val tok rfl) ?_
  refine o_end [1, 2, 6, 11] rfl ?_
  refine x_then ?_
  refine c_cond rfl (fun h => ?_) (fun h => ?_)
  ·
    simp only [Bool.and_eq_true, Bool.or_eq_true, Bool.not_eq_true', Bool.or_eq_false_iff, Bool.and_eq_false_iff, decide_eq_true_eq, decide_eq_false_iff_not, beq_iff_eq, bne_iff_ne, Bool.not_eq_false', beq_eq_false_iff_ne, bne_eq_false_iff_eq, ne_eq, Decidable.not_not, Int.not_lt, Int.not_le] at h
    obtain ⟨x, hx⟩ : ∃ x, S[i]? = some x := ⟨_, List.getElem?_eq_getElem (by omega)⟩
    refine c_skip ?_
    refine x_then ?_
    refine c_seq ?_
    refine c_block ?_
    refine c_seq ?_
    refine c_region ?_
    refine o_yield rfl rfl rfl (y_val tok rfl) ?_
    refine o_yield rfl rfl rfl (y_val tok rfl) ?_
    refine o_yield rfl rfl rfl (y_val tok rfl) ?_
    refine o_yield rfl rfl rfl (y_val tok rfl) ?_
    refine o_yield rfl rfl rfl (y_val tok rfl) ?_
    refine o_yield rfl rfl rfl (y_val tok rfl) ?_
    refine o_yield rfl rfl rfl (y_idx tok rfl (fun hg => hs.sl) (fun hg => ⟨by omega, by omega⟩)) ?_
    refine o_yield rfl rfl rfl (y_fel tok rfl (fun hg => hs.sl) (fun hg => by omega)) ?_
    refine o_yield rfl rfl rfl (y_lel tok i 0 x rfl (fun hg => hs) (fun hg => hx) rfl rfl) ?_
    refine o_yield rfl rfl rfl (y_val tok rfl) ?_
    refine o_yield rfl rfl rfl (y_val tok rfl) ?_
    refine o_yield rfl rfl rfl (y_val tok rfl) ?_
    refine o_end [1, 2, 6, 25] rfl ?_
    refine x_then ?_
    refine c_cond rfl (fun h => ?_) (fun h => ?_)
    ·
      refine c_seq ?_
      refine c_region ?_
      refine o_yield rfl rfl rfl (y_val tok rfl) ?_
      refine o_yield rfl rfl rfl (y_val tok rfl) ?_
      refine o_yield rfl rfl rfl (y_val tok rfl) ?_
      refine o_end [4, 5] rfl ?_
      refine x_then ?_
      refine c_ret ?_
      refine x_block_ret ?_
      refine x_then_ret ?_
      refine x_then_ret ?_
      refine x_block_ret ?_
      refine x_then_ret ?_
      refine b_ret tok rfl ?_
      have h2 : 1 ≤ key ∧ x.key = key := by simpa using h
      have h3 := slotI_found h2.1 hx h2.2 (hall h2.1)
      intro E w' hm _
      refine ⟨?_, hm.below (Vw.le.refl _)⟩
      rw [h3, decide_eq_true (by omega), show max (i : Int) 0 = i by omega]; rfl
    ·
      refine c_skip ?_
      refine x_block ?_
      refine x_then ?_
      refine c_region ?_
      refine o_yield rfl rfl rfl (y_val tok rfl) ?_
      refine o_yield rfl rfl rfl (y_val tok rfl) ?_
      refine o_yield rfl rfl rfl (y_val tok rfl) ?_
      refine o_end [1, 2, 6] rfl ?_
      refine x_then ?_
      have h2 : 1 ≤ key → (x.key == key) = false := by
        intro hk
        have : decide (1 ≤ key) = true := by simpa using hk
        rw [this] at h
        simpa using h
      rw [wrapI (by omega) (by omega)]
      refine x_round (i + 1) (⟨by omega, fun hk => ahead_succ hx (hall hk) (h2 hk)⟩) (by first | omega | (dsimp only; omega)) (by repeat (first | exact SubF.nil | refine SubF.cons rfl ?_)) (by repeat (first | exact SubO.nil | refine SubO.cons rfl ?_)) rfl (Vw.le.refl _)
  ·
    simp only [Bool.and_eq_true, Bool.or_eq_true, Bool.not_eq_true', Bool.or_eq_false_iff, Bool.and_eq_false_iff, decide_eq_true_eq, decide_eq_false_iff_not, beq_iff_eq, bne_iff_ne, Bool.not_eq_false', beq_eq_false_iff_ne, bne_eq_false_iff_eq, ne_eq, Decidable.not_not, Int.not_lt, Int.not_le] at h
    refine c_exit ?_
    refine x_then_exit ?_
    refine x_then_exit ?_
    refine x_block_hit ?_
    refine x_then ?_
    refine c_seq ?_
    refine c_region ?_
    refine o_yield rfl rfl rfl (y_val tok rfl) ?_
    refine o_yield rfl rfl rfl (y_val tok rfl) ?_
    refine o_end [4, 5] rfl ?_
    refine x_then ?_
    refine c_ret ?_
    refine b_ret tok rfl ?_
    have hil : i = S.length := by omega
    have h3 : slotI S key = -1 := by
      by_cases hk : 1 ≤ key
      · exact slotI_no fun j y hy => hall hk j y (by rw [hil]; exact lt_of_at hy) hy
      · exact slotI_low hk
    intro E w' hm _
    refine ⟨?_, hm.below (Vw.le.refl _)⟩
    rw [h3]; rfl

/-- What answers holds in memory that nobody writes any more. -/
def HOut (V : Vw) (l : List Hold) (w : World) (e : Ending) (w' : World) : Prop := ∃ v V', e = .returned v ∧ Below w.heap.size w w' ∧ Vext w.heap.size V V' w' ∧ SlOf V' Hold.cells 4 v l

theorem HOut.out {V : Vw} {w w' : World} (hV : V.le (vw w)) (hb : Below w.heap.size w w') {v : Value} {l : List Hold} (h : w'.ownsRow w.heap.size 43 4 v l.length (l.flatMap Hold.cells)) : HOut V l w (.returned v) w' :=
  ⟨v, _, rfl, hb, Vext.grown hV hb, SlOf.grown (enc := Hold.cells) V h (fun _ => rfl)⟩

theorem rall_c (V : Vw) (g1 tv : Value) (key : Int) (t : Tb) (w : World) (ht : t.Fit) (hV : V.le (vw w)) (h : TbIs V tv t) :
    Calls Try.prog 60 #[tv, I key] w (HOut V ((t.H ++ t.Q).filter fun h => h.key == key) w) := by
  obtain ⟨a, n, c, a2, n2, c2, a3, n3, c3, rfl, h1, h2, h3⟩ := h
  have hh := ht.h
  have hq := ht.q
  have hH := h2.mono hV
  have hQ := h3.mono hV
  have hal : (t.H ++ t.Q).length ≤ 200000 := by rw [List.length_append]; omega
  refine enter (E := E0) (O := []) (nl := 0) (V := vw w) [.a (.v (.agg #[.slice a n c, .slice a2 n2 c2, .slice a3 n3 c3])), .a (.v (I key))] Try.func60 rfl rfl (mem0 E0 0 w) rfl rfl ?_
  refine c_seq ?_
  refine c_region ?_
  refine o_new tok rfl rfl rfl rfl ?_
  refine o_yield rfl rfl rfl (y_val tok rfl) ?_
  refine o_end [1, 2] rfl ?_
  refine x_then ?_
  refine c_seq ?_
  refine c_region ?_
  refine o_yield rfl rfl rfl (y_val tok rfl) ?_
  refine o_end [1, 2, 5] rfl ?_
  refine x_then ?_
  refine c_seq ?_
  refine c_heldR mixed rfl (by repeat (first | exact SubO.nil | refine SubO.cons rfl ?_)) (by first | rfl | simp [okCels, allOk_plain]) ?_
  refine t_take 1 rfl (by kernel_rfl) rfl rfl rfl (y_val tok rfl) rfl ?_
  refine t_take 2 rfl (by kernel_rfl) rfl rfl rfl (y_val tok rfl) rfl ?_
  refine t_take 4 rfl (by kernel_rfl) rfl rfl rfl (y_val tok rfl) rfl ?_
  refine t_take 5 rfl (by kernel_rfl) rfl rfl rfl (y_val tok rfl) rfl ?_
  refine t_go ?_
  refine h_one 0 (by kernel_rfl) ?_
  refine h_to 0 rfl rfl rfl rfl rfl rfl (s_bs tok 4 rfl rfl rfl) (.inr fun _ _ => ⟨(by repeat (first | exact SubO.nil | refine SubO.cons rfl ?_)), rfl, (by first | exact Vw.le.refl _ | assumption)⟩) (fun _ _ => ?_)
  refine h_one 3 (by kernel_rfl) ?_
  refine h_to 3 rfl rfl rfl rfl rfl rfl (s_app (l := 1) (e := 43) (sz := 4) (by_ := 32) (m := 0) (k := t.H.length) (olds := []) tok (t.H.flatMap Hold.cells) rfl (fun E w1 hm => hH.sl.src hm.get) (fun _ _ _ => hold_ones t.H) (by omega)) (.inr fun _ _ => ⟨(by repeat (first | exact SubO.nil | refine SubO.cons rfl ?_)), rfl, (by first | exact Vw.le.refl _ | assumption)⟩) (fun _ _ => ?_)
  refine h_one 6 (by kernel_rfl) ?_
  refine h_to 6 rfl rfl rfl rfl rfl rfl (s_app (l := 2) (e := 43) (sz := 4) (by_ := 32) (m := 0 + t.H.length) (k := t.Q.length) tok (t.Q.flatMap Hold.cells) rfl (fun E w1 hm => hQ.sl.src hm.get) (fun _ _ _ => hold_ones t.Q) (by omega)) (.inr fun _ _ => ⟨(by repeat (first | exact SubO.nil | refine SubO.cons rfl ?_)), rfl, (by first | exact Vw.le.refl _ | assumption)⟩) (fun _ _ => ?_)
  refine h_one 7 (by kernel_rfl) ?_
  refine h_yield 7 rfl rfl rfl rfl (y_val tok rfl) ?_
  refine h_done [1, 5, 6] (by kernel_rfl) rfl ?_
  refine x_then ?_
  refine c_seq ?_
  refine c_seq ?_
  refine c_region ?_
  refine o_yield rfl rfl rfl (y_val tok rfl) ?_
  refine o_end [1, 5, 6, 7] rfl ?_
  refine x_then ?_
  refine c_block ?_
  rw [Nat.zero_add t.H.length, List.nil_append, ← List.length_append, ← List.flatMap_append]
  obtain ⟨L, hL⟩ : ∃ L, L = t.H ++ t.Q := ⟨_, rfl⟩
  rw [← hL] at hal ⊢
  refine k_nil 5 43 4 rfl rfl ?_
  refine c_loopK [1, 6] [4] rfl rfl (σ := Nat) (fun k => [(5, .a (.row 4)), (7, .a (.v (I k)))]) (fun k => [(4, .row 43 4 ((L.take k).filter fun h => h.key == key).length (((L.take k).filter fun h => h.key == key).flatMap Hold.cells))]) (fun k => k ≤ L.length) (fun k => L.length - k) (0) (by omega) (by repeat (first | exact SubF.nil | refine SubF.cons rfl ?_)) (by repeat (first | exact SubO.nil | refine SubO.cons rfl ?_)) rfl ?_
  rintro k hk
  refine c_seq ?_
  refine c_seq ?_
  refine c_region ?_
  refine o_yield rfl rfl rfl (y_val tok rfl) ?_
  refine o_yield rfl rfl rfl (y_val tok rfl) ?_
  refine o_yield rfl rfl rfl (y_own (s := .a (.v (I L.length))) 3 rfl rfl (fun v V' hv => y_len tok rfl (fun hg => hv))) ?_
  refine o_yield rfl rfl rfl (y_val tok rfl) ?_
  refine o_end [1, 5, 6, 7, 18] rfl ?_
  refine x_then ?_
  refine c_cond rfl (fun h => ?_) (fun h => ?_)
  ·
    simp only [Bool.and_eq_true, Bool.or_eq_true, Bool.not_eq_true', Bool.or_eq_false_iff, Bool.and_eq_false_iff, decide_eq_true_eq, decide_eq_false_iff_not, beq_iff_eq, bne_iff_ne, Bool.not_eq_false', beq_eq_false_iff_ne, bne_eq_false_iff_eq, ne_eq, Decidable.not_not, Int.not_lt, Int.not_le] at h
    refine c_skip ?_
    refine x_then ?_
    refine c_seq ?_
    refine c_block ?_
    refine c_seq ?_
    refine c_region ?_
    refine o_yield rfl rfl rfl (y_val tok rfl) ?_
    refine o_yield rfl rfl rfl (y_val tok rfl) ?_
    obtain ⟨x, hx⟩ : ∃ x, L[k]? = some x := ⟨_, List.getElem?_eq_getElem (by omega)⟩
    have hwk : IntKind.i64.wrap ((k : Int) + 1) = ((k + 1 : Nat) : Int) := wrapI (by omega) (by omega)
    have hft : (L.take (k + 1)).filter (fun h => h.key == key) = (L.take k).filter (fun h => h.key == key) ++ (if (x.key == key) = true then [x] else []) := by
      rw [take_succ_at' hx, List.filter_append]
      cases hq : (x.key == key) <;> simp [hq]
    have hfl : ((L.take k).filter fun h => h.key == key).length ≤ k := Nat.le_trans (List.length_filter_le _ _) (by rw [List.length_take]; omega)
    refine o_yield rfl rfl rfl (y_own (s := .a (.rel 3 (k * 4))) 3 rfl rfl (fun v V' hv => y_idxK tok (k * 4) rfl (by simp) (fun hg => hv) (fun hg => by omega))) ?_
    refine o_yield rfl rfl rfl (y_own (s := .a (.rel 3 (k * 4))) 3 rfl rfl (fun v V' hv => y_fel tok rfl (fun hg => hv) (fun hg => by omega))) ?_
    refine o_yield rfl rfl rfl (y_own (s := .a (.v (I x.key))) 3 rfl rfl (fun v V' hv => y_lel (enc := Hold.cells) (l := L) tok k 0 x rfl (fun hg => ⟨hv, fun _ => rfl⟩) (fun hg => hx) rfl rfl)) ?_
    refine o_yield rfl rfl rfl (y_val tok rfl) ?_
    refine o_yield rfl rfl rfl (y_val tok rfl) ?_
    refine o_end [1, 5, 6, 7, 27] rfl ?_
    refine x_then ?_
    refine c_cond rfl (fun h => ?_) (fun h => ?_)
    ·
      refine c_region ?_
      refine o_yield rfl rfl rfl (y_val tok rfl) ?_
      refine o_yield rfl rfl rfl (y_val tok rfl) ?_
      refine o_yield rfl rfl rfl (y_val tok rfl) ?_
      rw [if_pos h] at hft
      clear h
      refine o_yield rfl rfl rfl (y_own (s := .a (.rel 3 (k * 4))) 3 rfl rfl (fun v V' hv => y_idxK tok (k * 4) rfl (by simp) (fun hg => hv) (fun hg => by omega))) ?_
      refine o_yield rfl rfl rfl (y_own (s := .agg (x.cells.map .v)) 3 rfl rfl (fun v V' hv => y_lel (enc := Hold.cells) (l := L) tok k 0 x rfl (fun hg => ⟨hv, fun _ => rfl⟩) (fun hg => hx) rfl rfl)) ?_
      refine o_step rfl rfl rfl rfl rfl (s_bs tok 4 rfl rfl rfl) (fun _ _ => ?_)
      refine o_step rfl rfl rfl rfl rfl (s_app tok x.cells rfl (fun E w hm => ownsRow_src (hm.row _ _ _ _ _ rfl)) (fun _ _ _ => by simpa using hold_ones [x]) (by dsimp only; omega)) (fun _ _ => ?_)
      refine o_yield rfl rfl rfl (y_val tok rfl) ?_
      refine o_end [1, 5, 6, 7] rfl ?_
      refine x_block ?_
      refine x_then ?_
      refine c_region ?_
      refine o_yield rfl rfl rfl (y_val tok rfl) ?_
      refine o_yield rfl rfl rfl (y_val tok rfl) ?_
      refine o_yield rfl rfl rfl (y_val tok rfl) ?_
      refine o_end [1, 5, 6, 7] rfl ?_
      refine x_then ?_
      rw [(hold_snoc _ x).1, (hold_snoc _ x).2, ← hft, hwk]
      refine k_swap 4 6 rfl ?_
      refine x_round (k + 1) (by omega) (by first | omega | (dsimp only; omega)) (by repeat (first | exact SubF.nil | refine SubF.cons rfl ?_)) (by repeat (first | exact SubO.nil | refine SubO.cons rfl ?_)) rfl (Vw.le.refl _)
    ·
      refine c_skip ?_
      refine x_block ?_
      refine x_then ?_
      refine c_region ?_
      refine o_yield rfl rfl rfl (y_val tok rfl) ?_
      refine o_yield rfl rfl rfl (y_val tok rfl) ?_
      refine o_yield rfl rfl rfl (y_val tok rfl) ?_
      refine o_end [1, 5, 6, 7] rfl ?_
      refine x_then ?_
      rw [if_neg (by rw [h]; simp), List.append_nil] at hft
      rw [← hft, hwk]
      refine x_round (k + 1) (by omega) (by first | omega | (dsimp only; omega)) (by repeat (first | exact SubF.nil | refine SubF.cons rfl ?_)) (by repeat (first | exact SubO.nil | refine SubO.cons rfl ?_)) rfl (Vw.le.refl _)
  ·
    simp only [Bool.and_eq_true, Bool.or_eq_true, Bool.not_eq_true', Bool.or_eq_false_iff, Bool.and_eq_false_iff, decide_eq_true_eq, decide_eq_false_iff_not, beq_iff_eq, bne_iff_ne, Bool.not_eq_false', beq_eq_false_iff_ne, bne_eq_false_iff_eq, ne_eq, Decidable.not_not, Int.not_lt, Int.not_le] at h
    have hkl : k = L.length := by omega
    subst hkl
    rw [List.take_length]
    clear h
    refine c_exit ?_
    refine x_then_exit ?_
    refine x_then_exit ?_
    refine x_block_hit ?_
    refine x_then ?_
    refine c_seq ?_
    refine c_region ?_
    refine o_yield rfl rfl rfl (y_val tok rfl) ?_
    refine o_yield rfl rfl rfl (y_val tok rfl) ?_
    refine o_end [4] rfl ?_
    refine x_then ?_
    refine c_ret ?_
    refine b_ret tok rfl ?_
    intro E' w' hm _
    exact HOut.out hV (hm.below (Vw.le.refl _)) (hm.rowFresh (Vw.le.refl _) (l := 4) rfl)

theorem rcopy_c (V : Vw) (tv : Value) (t : Tb) (w : World) (ht : t.Fit) (hV : V.le (vw w)) (h : TbIs V tv t) :
    Calls Try.prog 85 #[tv] w (Makes w (fun _ : Unit => True) (fun _ => .agg [.row 4, .row 6, .row 8]) (fun _ => [(4, (slR t.S).cel), (6, (hoR t.H).cel), (8, (hoR t.Q).cel)]) 9) := by
  obtain ⟨a, n, c, a2, n2, c2, a3, n3, c3, rfl, h1, h2, h3⟩ := h
  have hss := ht.s
  have hh := ht.h
  have hq := ht.q
  have hS := h1.mono hV
  have hH := h2.mono hV
  have hQ := h3.mono hV
  have hm1 := (mem0 E0 0 w).addSize
  refine enter [.a (.v (.agg #[.slice a n c, .slice a2 n2 c2, .slice a3 n3 c3]))] Try.func85 rfl rfl (hm1) rfl rfl ?_
  refine c_seq ?_
  refine c_region ?_
  refine o_new tok rfl rfl rfl rfl ?_
  refine o_new tok rfl rfl rfl rfl ?_
  refine o_end [1, 2] rfl ?_
  refine x_then ?_
  refine c_seq ?_
  refine c_heldMS [13] (σ := Unit) (fun _ => [(2, .a (.ptr 2 0))]) (fun _ => [(0, .size w.heap.size), (4, .row 48 2 (0 + t.S.length) ([] ++ t.S.flatMap Slot.cells)), (6, .row 43 4 (0 + t.H.length) ([] ++ t.H.flatMap Hold.cells)), (8, .row 43 4 (0 + t.Q.length) ([] ++ t.Q.flatMap Hold.cells)), (2, .lit [.row 4, .row 6, .row 8] 29)]) (9) (fun _ => vw w) (fun _ => True) mixed rfl (by repeat (first | exact SubO.nil | refine SubO.cons rfl ?_)) rfl ?_ ?_
  ·
    refine t_takeD 1 rfl (by kernel_rfl) rfl rfl rfl (y_val tok rfl) rfl ?_
    refine t_takeD 2 rfl (by kernel_rfl) rfl rfl rfl (y_val tok rfl) rfl ?_
    refine t_takeD 5 rfl (by kernel_rfl) rfl rfl rfl (y_val tok rfl) rfl ?_
    refine t_takeD 6 rfl (by kernel_rfl) rfl rfl rfl (y_val tok rfl) rfl ?_
    refine t_takeD 9 rfl (by kernel_rfl) rfl rfl rfl (y_val tok rfl) rfl ?_
    refine t_takeD 10 rfl (by kernel_rfl) rfl rfl rfl (y_val tok rfl) rfl ?_
    refine t_go ?_
    refine h_three 0 4 8 (by kernel_rfl) ?_ ?_ ?_
    ·
      refine h_to 0 rfl rfl rfl rfl rfl rfl (s_bs tok 2 rfl rfl rfl) (.inr fun _ _ => ⟨(by repeat (first | exact SubO.nil | refine SubO.cons rfl ?_)), rfl, (by first | exact Vw.le.refl _ | assumption)⟩) (fun _ _ => ?_)
      refine h_three 3 4 8 (by kernel_rfl) ?_ ?_ ?_
      ·
        refine h_to 3 rfl rfl rfl rfl rfl rfl (s_app (e := 48) (sz := 2) (by_ := 16) (m := 0) (k := t.S.length) (olds := []) tok (t.S.flatMap Slot.cells) rfl (fun E w1 hm => hS.sl.src hm.get) (fun _ _ _ => slot_ones t.S) (by omega)) (.inr fun _ _ => ⟨(by repeat (first | exact SubO.nil | refine SubO.cons rfl ?_)), rfl, (by first | exact Vw.le.refl _ | assumption)⟩) (fun _ _ => ?_)
        refine h_two 4 8 (by kernel_rfl) ?_ ?_
        ·
          refine h_to 4 rfl rfl rfl rfl rfl rfl (s_bs tok 4 rfl rfl rfl) (.inr fun _ _ => ⟨(by repeat (first | exact SubO.nil | refine SubO.cons rfl ?_)), rfl, (by first | exact Vw.le.refl _ | assumption)⟩) (fun _ _ => ?_)
          refine h_two 7 8 (by kernel_rfl) ?_ ?_
          ·
            refine h_to 7 rfl rfl rfl rfl rfl rfl (s_app (e := 43) (sz := 4) (by_ := 32) (m := 0) (k := t.H.length) (olds := []) tok (t.H.flatMap Hold.cells) rfl (fun E w1 hm => hH.sl.src hm.get) (fun _ _ _ => hold_ones t.H) (by omega)) (.inr fun _ _ => ⟨(by repeat (first | exact SubO.nil | refine SubO.cons rfl ?_)), rfl, (by first | exact Vw.le.refl _ | assumption)⟩) (fun _ _ => ?_)
            refine h_one 8 (by kernel_rfl) ?_
            refine h_to 8 rfl rfl rfl rfl rfl rfl (s_bs tok 4 rfl rfl rfl) (.inr fun _ _ => ⟨(by repeat (first | exact SubO.nil | refine SubO.cons rfl ?_)), rfl, (by first | exact Vw.le.refl _ | assumption)⟩) (fun _ _ => ?_)
            refine h_one 11 (by kernel_rfl) ?_
            refine h_to 11 rfl rfl rfl rfl rfl rfl (s_app (e := 43) (sz := 4) (by_ := 32) (m := 0) (k := t.Q.length) (olds := []) tok (t.Q.flatMap Hold.cells) rfl (fun E w1 hm => hQ.sl.src hm.get) (fun _ _ _ => hold_ones t.Q) (by omega)) (.inr fun _ _ => ⟨(by repeat (first | exact SubO.nil | refine SubO.cons rfl ?_)), rfl, (by first | exact Vw.le.refl _ | assumption)⟩) (fun _ _ => ?_)
            refine h_one 12 (by kernel_rfl) ?_
            refine h_yield 12 rfl rfl rfl rfl (y_val tok rfl) ?_
            refine h_one 13 (by kernel_rfl) ?_
            refine h_store 13 tok rfl rfl rfl rfl (by first | exact ⟨trivial, trivial⟩ | (repeat' first | exact trivial | exact rfl | apply And.intro); done | simp [onesP, oneP, lk, Value.oneCell']) (.inl rfl) ?_
            refine h_done [2] (by kernel_rfl) rfl ?_
            exact x_meet () trivial (by repeat (first | exact SubF.nil | refine SubF.cons rfl ?_)) (by repeat (first | exact SubO.nil | refine SubO.cons rfl ?_)) rfl (Vw.le.refl _)
          ·
            refine h_to 8 rfl rfl rfl rfl rfl rfl (s_bs tok 4 rfl rfl rfl) (.inr fun _ _ => ⟨(by repeat (first | exact SubO.nil | refine SubO.cons rfl ?_)), rfl, (by first | exact Vw.le.refl _ | assumption)⟩) (fun _ _ => ?_)
            refine h_one 7 (by kernel_rfl) ?_
            refine h_to 7 rfl rfl rfl rfl rfl rfl (s_app (e := 43) (sz := 4) (by_ := 32) (m := 0) (k := t.H.length) (olds := []) tok (t.H.flatMap Hold.cells) rfl (fun E w1 hm => hH.sl.src hm.get) (fun _ _ _ => hold_ones t.H) (by omega)) (.inr fun _ _ => ⟨(by repeat (first | exact SubO.nil | refine SubO.cons rfl ?_)), rfl, (by first | exact Vw.le.refl _ | assumption)⟩) (fun _ _ => ?_)
            refine h_one 11 (by kernel_rfl) ?_
            refine h_to 11 rfl rfl rfl rfl rfl rfl (s_app (e := 43) (sz := 4) (by_ := 32) (m := 0) (k := t.Q.length) (olds := []) tok (t.Q.flatMap Hold.cells) rfl (fun E w1 hm => hQ.sl.src hm.get) (fun _ _ _ => hold_ones t.Q) (by omega)) (.inr fun _ _ => ⟨(by repeat (first | exact SubO.nil | refine SubO.cons rfl ?_)), rfl, (by first | exact Vw.le.refl _ | assumption)⟩) (fun _ _ => ?_)
            refine h_one 12 (by kernel_rfl) ?_
            refine h_yield 12 rfl rfl rfl rfl (y_val tok rfl) ?_
            refine h_one 13 (by kernel_rfl) ?_
            refine h_store 13 tok rfl rfl rfl rfl (by first | exact ⟨trivial, trivial⟩ | (repeat' first | exact trivial | exact rfl | apply And.intro); done | simp [onesP, oneP, lk, Value.oneCell']) (.inl rfl) ?_
            refine h_done [2] (by kernel_rfl) rfl ?_
            refine k_swap 6 7 rfl ?_
            exact x_meet () trivial (by repeat (first | exact SubF.nil | refine SubF.cons rfl ?_)) (by repeat (first | exact SubO.nil | refine SubO.cons rfl ?_)) rfl (Vw.le.refl _)
        ·
          refine h_to 8 rfl rfl rfl rfl rfl rfl (s_bs tok 4 rfl rfl rfl) (.inr fun _ _ => ⟨(by repeat (first | exact SubO.nil | refine SubO.cons rfl ?_)), rfl, (by first | exact Vw.le.refl _ | assumption)⟩) (fun _ _ => ?_)
          refine h_one 4 (by kernel_rfl) ?_
          refine h_to 4 rfl rfl rfl rfl rfl rfl (s_bs tok 4 rfl rfl rfl) (.inr fun _ _ => ⟨(by repeat (first | exact SubO.nil | refine SubO.cons rfl ?_)), rfl, (by first | exact Vw.le.refl _ | assumption)⟩) (fun _ _ => ?_)
          refine h_one 7 (by kernel_rfl) ?_
          refine h_to 7 rfl rfl rfl rfl rfl rfl (s_app (e := 43) (sz := 4) (by_ := 32) (m := 0) (k := t.H.length) (olds := []) tok (t.H.flatMap Hold.cells) rfl (fun E w1 hm => hH.sl.src hm.get) (fun _ _ _ => hold_ones t.H) (by omega)) (.inr fun _ _ => ⟨(by repeat (first | exact SubO.nil | refine SubO.cons rfl ?_)), rfl, (by first | exact Vw.le.refl _ | assumption)⟩) (fun _ _ => ?_)
          refine h_one 11 (by kernel_rfl) ?_
          refine h_to 11 rfl rfl rfl rfl rfl rfl (s_app (e := 43) (sz := 4) (by_ := 32) (m := 0) (k := t.Q.length) (olds := []) tok (t.Q.flatMap Hold.cells) rfl (fun E w1 hm => hQ.sl.src hm.get) (fun _ _ _ => hold_ones t.Q) (by omega)) (.inr fun _ _ => ⟨(by repeat (first | exact SubO.nil | refine SubO.cons rfl ?_)), rfl, (by first | exact Vw.le.refl _ | assumption)⟩) (fun _ _ => ?_)
          refine h_one 12 (by kernel_rfl) ?_
          refine h_yield 12 rfl rfl rfl rfl (y_val tok rfl) ?_
          refine h_one 13 (by kernel_rfl) ?_
          refine h_store 13 tok rfl rfl rfl rfl (by first | exact ⟨trivial, trivial⟩ | (repeat' first | exact trivial | exact rfl | apply And.intro); done | simp [onesP, oneP, lk, Value.oneCell']) (.inl rfl) ?_
          refine h_done [2] (by kernel_rfl) rfl ?_
          refine k_swap 5 6 rfl ?_
          refine k_swap 6 7 rfl ?_
          exact x_meet () trivial (by repeat (first | exact SubF.nil | refine SubF.cons rfl ?_)) (by repeat (first | exact SubO.nil | refine SubO.cons rfl ?_)) rfl (Vw.le.refl _)
      ·
        refine h_to 4 rfl rfl rfl rfl rfl rfl (s_bs tok 4 rfl rfl rfl) (.inr fun _ _ => ⟨(by repeat (first | exact SubO.nil | refine SubO.cons rfl ?_)), rfl, (by first | exact Vw.le.refl _ | assumption)⟩) (fun _ _ => ?_)
        refine h_two 3 8 (by kernel_rfl) ?_ ?_
        ·
          refine h_to 3 rfl rfl rfl rfl rfl rfl (s_app (e := 48) (sz := 2) (by_ := 16) (m := 0) (k := t.S.length) (olds := []) tok (t.S.flatMap Slot.cells) rfl (fun E w1 hm => hS.sl.src hm.get) (fun _ _ _ => slot_ones t.S) (by omega)) (.inr fun _ _ => ⟨(by repeat (first | exact SubO.nil | refine SubO.cons rfl ?_)), rfl, (by first | exact Vw.le.refl _ | assumption)⟩) (fun _ _ => ?_)
          refine h_two 7 8 (by kernel_rfl) ?_ ?_
          ·
            refine h_to 7 rfl rfl rfl rfl rfl rfl (s_app (e := 43) (sz := 4) (by_ := 32) (m := 0) (k := t.H.length) (olds := []) tok (t.H.flatMap Hold.cells) rfl (fun E w1 hm => hH.sl.src hm.get) (fun _ _ _ => hold_ones t.H) (by omega)) (.inr fun _ _ => ⟨(by repeat (first | exact SubO.nil | refine SubO.cons rfl ?_)), rfl, (by first | exact Vw.le.refl _ | assumption)⟩) (fun _ _ => ?_)
            refine h_one 8 (by kernel_rfl) ?_
            refine h_to 8 rfl rfl rfl rfl rfl rfl (s_bs tok 4 rfl rfl rfl) (.inr fun _ _ => ⟨(by repeat (first | exact SubO.nil | refine SubO.cons rfl ?_)), rfl, (by first | exact Vw.le.refl _ | assumption)⟩) (fun _ _ => ?_)
            refine h_one 11 (by kernel_rfl) ?_
            refine h_to 11 rfl rfl rfl rfl rfl rfl (s_app (e := 43) (sz := 4) (by_ := 32) (m := 0) (k := t.Q.length) (olds := []) tok (t.Q.flatMap Hold.cells) rfl (fun E w1 hm => hQ.sl.src hm.get) (fun _ _ _ => hold_ones t.Q) (by omega)) (.inr fun _ _ => ⟨(by repeat (first | exact SubO.nil | refine SubO.cons rfl ?_)), rfl, (by first | exact Vw.le.refl _ | assumption)⟩) (fun _ _ => ?_)
            refine h_one 12 (by kernel_rfl) ?_
            refine h_yield 12 rfl rfl rfl rfl (y_val tok rfl) ?_
            refine h_one 13 (by kernel_rfl) ?_
            refine h_store 13 tok rfl rfl rfl rfl (by first | exact ⟨trivial, trivial⟩ | (repeat' first | exact trivial | exact rfl | apply And.intro); done | simp [onesP, oneP, lk, Value.oneCell']) (.inl rfl) ?_
            refine h_done [2] (by kernel_rfl) rfl ?_
            refine k_swap 4 5 rfl ?_
            exact x_meet () trivial (by repeat (first | exact SubF.nil | refine SubF.cons rfl ?_)) (by repeat (first | exact SubO.nil | refine SubO.cons rfl ?_)) rfl (Vw.le.refl _)
          ·
            refine h_to 8 rfl rfl rfl rfl rfl rfl (s_bs tok 4 rfl rfl rfl) (.inr fun _ _ => ⟨(by repeat (first | exact SubO.nil | refine SubO.cons rfl ?_)), rfl, (by first | exact Vw.le.refl _ | assumption)⟩) (fun _ _ => ?_)
            refine h_one 7 (by kernel_rfl) ?_
            refine h_to 7 rfl rfl rfl rfl rfl rfl (s_app (e := 43) (sz := 4) (by_ := 32) (m := 0) (k := t.H.length) (olds := []) tok (t.H.flatMap Hold.cells) rfl (fun E w1 hm => hH.sl.src hm.get) (fun _ _ _ => hold_ones t.H) (by omega)) (.inr fun _ _ => ⟨(by repeat (first | exact SubO.nil | refine SubO.cons rfl ?_)), rfl, (by first | exact Vw.le.refl _ | assumption)⟩) (fun _ _ => ?_)
            refine h_one 11 (by kernel_rfl) ?_
            refine h_to 11 rfl rfl rfl rfl rfl rfl (s_app (e := 43) (sz := 4) (by_ := 32) (m := 0) (k := t.Q.length) (olds := []) tok (t.Q.flatMap Hold.cells) rfl (fun E w1 hm => hQ.sl.src hm.get) (fun _ _ _ => hold_ones t.Q) (by omega)) (.inr fun _ _ => ⟨(by repeat (first | exact SubO.nil | refine SubO.cons rfl ?_)), rfl, (by first | exact Vw.le.refl _ | assumption)⟩) (fun _ _ => ?_)
            refine h_one 12 (by kernel_rfl) ?_
            refine h_yield 12 rfl rfl rfl rfl (y_val tok rfl) ?_
            refine h_one 13 (by kernel_rfl) ?_
            refine h_store 13 tok rfl rfl rfl rfl (by first | exact ⟨trivial, trivial⟩ | (repeat' first | exact trivial | exact rfl | apply And.intro); done | simp [onesP, oneP, lk, Value.oneCell']) (.inl rfl) ?_
            refine h_done [2] (by kernel_rfl) rfl ?_
            refine k_swap 4 5 rfl ?_
            refine k_swap 6 7 rfl ?_
            exact x_meet () trivial (by repeat (first | exact SubF.nil | refine SubF.cons rfl ?_)) (by repeat (first | exact SubO.nil | refine SubO.cons rfl ?_)) rfl (Vw.le.refl _)
        ·
          refine h_to 8 rfl rfl rfl rfl rfl rfl (s_bs tok 4 rfl rfl rfl) (.inr fun _ _ => ⟨(by repeat (first | exact SubO.nil | refine SubO.cons rfl ?_)), rfl, (by first | exact Vw.le.refl _ | assumption)⟩) (fun _ _ => ?_)
          refine h_one 3 (by kernel_rfl) ?_
          refine h_to 3 rfl rfl rfl rfl rfl rfl (s_app (e := 48) (sz := 2) (by_ := 16) (m := 0) (k := t.S.length) (olds := []) tok (t.S.flatMap Slot.cells) rfl (fun E w1 hm => hS.sl.src hm.get) (fun _ _ _ => slot_ones t.S) (by omega)) (.inr fun _ _ => ⟨(by repeat (first | exact SubO.nil | refine SubO.cons rfl ?_)), rfl, (by first | exact Vw.le.refl _ | assumption)⟩) (fun _ _ => ?_)
          refine h_one 7 (by kernel_rfl) ?_
          refine h_to 7 rfl rfl rfl rfl rfl rfl (s_app (e := 43) (sz := 4) (by_ := 32) (m := 0) (k := t.H.length) (olds := []) tok (t.H.flatMap Hold.cells) rfl (fun E w1 hm => hH.sl.src hm.get) (fun _ _ _ => hold_ones t.H) (by omega)) (.inr fun _ _ => ⟨(by repeat (first | exact SubO.nil | refine SubO.cons rfl ?_)), rfl, (by first | exact Vw.le.refl _ | assumption)⟩) (fun _ _ => ?_)
          refine h_one 11 (by kernel_rfl) ?_
          refine h_to 11 rfl rfl rfl rfl rfl rfl (s_app (e := 43) (sz := 4) (by_ := 32) (m := 0) (k := t.Q.length) (olds := []) tok (t.Q.flatMap Hold.cells) rfl (fun E w1 hm => hQ.sl.src hm.get) (fun _ _ _ => hold_ones t.Q) (by omega)) (.inr fun _ _ => ⟨(by repeat (first | exact SubO.nil | refine SubO.cons rfl ?_)), rfl, (by first | exact Vw.le.refl _ | assumption)⟩) (fun _ _ => ?_)
          refine h_one 12 (by kernel_rfl) ?_
          refine h_yield 12 rfl rfl rfl rfl (y_val tok rfl) ?_
          refine h_one 13 (by kernel_rfl) ?_
          refine h_store 13 tok rfl rfl rfl rfl (by first | exact ⟨trivial, trivial⟩ | (repeat' first | exact trivial | exact rfl | apply And.intro); done | simp [onesP, oneP, lk, Value.oneCell']) (.inl rfl) ?_
          refine h_done [2] (by kernel_rfl) rfl ?_
          refine k_swap 4 6 rfl ?_
          refine k_swap 5 6 rfl ?_
          refine k_swap 6 7 rfl ?_
          exact x_meet () trivial (by repeat (first | exact SubF.nil | refine SubF.cons rfl ?_)) (by repeat (first | exact SubO.nil | refine SubO.cons rfl ?_)) rfl (Vw.le.refl _)
      ·
        refine h_to 8 rfl rfl rfl rfl rfl rfl (s_bs tok 4 rfl rfl rfl) (.inr fun _ _ => ⟨(by repeat (first | exact SubO.nil | refine SubO.cons rfl ?_)), rfl, (by first | exact Vw.le.refl _ | assumption)⟩) (fun _ _ => ?_)
        refine h_two 3 4 (by kernel_rfl) ?_ ?_
        ·
          refine h_to 3 rfl rfl rfl rfl rfl rfl (s_app (e := 48) (sz := 2) (by_ := 16) (m := 0) (k := t.S.length) (olds := []) tok (t.S.flatMap Slot.cells) rfl (fun E w1 hm => hS.sl.src hm.get) (fun _ _ _ => slot_ones t.S) (by omega)) (.inr fun _ _ => ⟨(by repeat (first | exact SubO.nil | refine SubO.cons rfl ?_)), rfl, (by first | exact Vw.le.refl _ | assumption)⟩) (fun _ _ => ?_)
          refine h_one 4 (by kernel_rfl) ?_
          refine h_to 4 rfl rfl rfl rfl rfl rfl (s_bs tok 4 rfl rfl rfl) (.inr fun _ _ => ⟨(by repeat (first | exact SubO.nil | refine SubO.cons rfl ?_)), rfl, (by first | exact Vw.le.refl _ | assumption)⟩) (fun _ _ => ?_)
          refine h_one 7 (by kernel_rfl) ?_
          refine h_to 7 rfl rfl rfl rfl rfl rfl (s_app (e := 43) (sz := 4) (by_ := 32) (m := 0) (k := t.H.length) (olds := []) tok (t.H.flatMap Hold.cells) rfl (fun E w1 hm => hH.sl.src hm.get) (fun _ _ _ => hold_ones t.H) (by omega)) (.inr fun _ _ => ⟨(by repeat (first | exact SubO.nil | refine SubO.cons rfl ?_)), rfl, (by first | exact Vw.le.refl _ | assumption)⟩) (fun _ _ => ?_)
          refine h_one 11 (by kernel_rfl) ?_
          refine h_to 11 rfl rfl rfl rfl rfl rfl (s_app (e := 43) (sz := 4) (by_ := 32) (m := 0) (k := t.Q.length) (olds := []) tok (t.Q.flatMap Hold.cells) rfl (fun E w1 hm => hQ.sl.src hm.get) (fun _ _ _ => hold_ones t.Q) (by omega)) (.inr fun _ _ => ⟨(by repeat (first | exact SubO.nil | refine SubO.cons rfl ?_)), rfl, (by first | exact Vw.le.refl _ | assumption)⟩) (fun _ _ => ?_)
          refine h_one 12 (by kernel_rfl) ?_
          refine h_yield 12 rfl rfl rfl rfl (y_val tok rfl) ?_
          refine h_one 13 (by kernel_rfl) ?_
          refine h_store 13 tok rfl rfl rfl rfl (by first | exact ⟨trivial, trivial⟩ | (repeat' first | exact trivial | exact rfl | apply And.intro); done | simp [onesP, oneP, lk, Value.oneCell']) (.inl rfl) ?_
          refine h_done [2] (by kernel_rfl) rfl ?_
          refine k_swap 4 5 rfl ?_
          refine k_swap 5 6 rfl ?_
          refine k_swap 6 7 rfl ?_
          exact x_meet () trivial (by repeat (first | exact SubF.nil | refine SubF.cons rfl ?_)) (by repeat (first | exact SubO.nil | refine SubO.cons rfl ?_)) rfl (Vw.le.refl _)
        ·
          refine h_to 4 rfl rfl rfl rfl rfl rfl (s_bs tok 4 rfl rfl rfl) (.inr fun _ _ => ⟨(by repeat (first | exact SubO.nil | refine SubO.cons rfl ?_)), rfl, (by first | exact Vw.le.refl _ | assumption)⟩) (fun _ _ => ?_)
          refine h_one 3 (by kernel_rfl) ?_
          refine h_to 3 rfl rfl rfl rfl rfl rfl (s_app (e := 48) (sz := 2) (by_ := 16) (m := 0) (k := t.S.length) (olds := []) tok (t.S.flatMap Slot.cells) rfl (fun E w1 hm => hS.sl.src hm.get) (fun _ _ _ => slot_ones t.S) (by omega)) (.inr fun _ _ => ⟨(by repeat (first | exact SubO.nil | refine SubO.cons rfl ?_)), rfl, (by first | exact Vw.le.refl _ | assumption)⟩) (fun _ _ => ?_)
          refine h_one 7 (by kernel_rfl) ?_
          refine h_to 7 rfl rfl rfl rfl rfl rfl (s_app (e := 43) (sz := 4) (by_ := 32) (m := 0) (k := t.H.length) (olds := []) tok (t.H.flatMap Hold.cells) rfl (fun E w1 hm => hH.sl.src hm.get) (fun _ _ _ => hold_ones t.H) (by omega)) (.inr fun _ _ => ⟨(by repeat (first | exact SubO.nil | refine SubO.cons rfl ?_)), rfl, (by first | exact Vw.le.refl _ | assumption)⟩) (fun _ _ => ?_)
          refine h_one 11 (by kernel_rfl) ?_
          refine h_to 11 rfl rfl rfl rfl rfl rfl (s_app (e := 43) (sz := 4) (by_ := 32) (m := 0) (k := t.Q.length) (olds := []) tok (t.Q.flatMap Hold.cells) rfl (fun E w1 hm => hQ.sl.src hm.get) (fun _ _ _ => hold_ones t.Q) (by omega)) (.inr fun _ _ => ⟨(by repeat (first | exact SubO.nil | refine SubO.cons rfl ?_)), rfl, (by first | exact Vw.le.refl _ | assumption)⟩) (fun _ _ => ?_)
          refine h_one 12 (by kernel_rfl) ?_
          refine h_yield 12 rfl rfl rfl rfl (y_val tok rfl) ?_
          refine h_one 13 (by kernel_rfl) ?_
          refine h_store 13 tok rfl rfl rfl rfl (by first | exact ⟨trivial, trivial⟩ | (repeat' first | exact trivial | exact rfl | apply And.intro); done | simp [onesP, oneP, lk, Value.oneCell']) (.inl rfl) ?_
          refine h_done [2] (by kernel_rfl) rfl ?_
          refine k_swap 4 6 rfl ?_
          refine k_swap 6 7 rfl ?_
          exact x_meet () trivial (by repeat (first | exact SubF.nil | refine SubF.cons rfl ?_)) (by repeat (first | exact SubO.nil | refine SubO.cons rfl ?_)) rfl (Vw.le.refl _)
    ·
      refine h_to 4 rfl rfl rfl rfl rfl rfl (s_bs tok 4 rfl rfl rfl) (.inr fun _ _ => ⟨(by repeat (first | exact SubO.nil | refine SubO.cons rfl ?_)), rfl, (by first | exact Vw.le.refl _ | assumption)⟩) (fun _ _ => ?_)
      refine h_two 0 8 (by kernel_rfl) ?_ ?_
      ·
        refine h_to 0 rfl rfl rfl rfl rfl rfl (s_bs tok 2 rfl rfl rfl) (.inr fun _ _ => ⟨(by repeat (first | exact SubO.nil | refine SubO.cons rfl ?_)), rfl, (by first | exact Vw.le.refl _ | assumption)⟩) (fun _ _ => ?_)
        refine h_two 3 8 (by kernel_rfl) ?_ ?_
        ·
          refine h_to 3 rfl rfl rfl rfl rfl rfl (s_app (e := 48) (sz := 2) (by_ := 16) (m := 0) (k := t.S.length) (olds := []) tok (t.S.flatMap Slot.cells) rfl (fun E w1 hm => hS.sl.src hm.get) (fun _ _ _ => slot_ones t.S) (by omega)) (.inr fun _ _ => ⟨(by repeat (first | exact SubO.nil | refine SubO.cons rfl ?_)), rfl, (by first | exact Vw.le.refl _ | assumption)⟩) (fun _ _ => ?_)
          refine h_two 7 8 (by kernel_rfl) ?_ ?_
          ·
            refine h_to 7 rfl rfl rfl rfl rfl rfl (s_app (e := 43) (sz := 4) (by_ := 32) (m := 0) (k := t.H.length) (olds := []) tok (t.H.flatMap Hold.cells) rfl (fun E w1 hm => hH.sl.src hm.get) (fun _ _ _ => hold_ones t.H) (by omega)) (.inr fun _ _ => ⟨(by repeat (first | exact SubO.nil | refine SubO.cons rfl ?_)), rfl, (by first | exact Vw.le.refl _ | assumption)⟩) (fun _ _ => ?_)
            refine h_one 8 (by kernel_rfl) ?_
            refine h_to 8 rfl rfl rfl rfl rfl rfl (s_bs tok 4 rfl rfl rfl) (.inr fun _ _ => ⟨(by repeat (first | exact SubO.nil | refine SubO.cons rfl ?_)), rfl, (by first | exact Vw.le.refl _ | assumption)⟩) (fun _ _ => ?_)
            refine h_one 11 (by kernel_rfl) ?_
            refine h_to 11 rfl rfl rfl rfl rfl rfl (s_app (e := 43) (sz := 4) (by_ := 32) (m := 0) (k := t.Q.length) (olds := []) tok (t.Q.flatMap Hold.cells) rfl (fun E w1 hm => hQ.sl.src hm.get) (fun _ _ _ => hold_ones t.Q) (by omega)) (.inr fun _ _ => ⟨(by repeat (first | exact SubO.nil | refine SubO.cons rfl ?_)), rfl, (by first | exact Vw.le.refl _ | assumption)⟩) (fun _ _ => ?_)
            refine h_one 12 (by kernel_rfl) ?_
            refine h_yield 12 rfl rfl rfl rfl (y_val tok rfl) ?_
            refine h_one 13 (by kernel_rfl) ?_
            refine h_store 13 tok rfl rfl rfl rfl (by first | exact ⟨trivial, trivial⟩ | (repeat' first | exact trivial | exact rfl | apply And.intro); done | simp [onesP, oneP, lk, Value.oneCell']) (.inl rfl) ?_
            refine h_done [2] (by kernel_rfl) rfl ?_
            refine k_swap 3 4 rfl ?_
            refine k_swap 4 5 rfl ?_
            exact x_meet () trivial (by repeat (first | exact SubF.nil | refine SubF.cons rfl ?_)) (by repeat (first | exact SubO.nil | refine SubO.cons rfl ?_)) rfl (Vw.le.refl _)
          ·
            refine h_to 8 rfl rfl rfl rfl rfl rfl (s_bs tok 4 rfl rfl rfl) (.inr fun _ _ => ⟨(by repeat (first | exact SubO.nil | refine SubO.cons rfl ?_)), rfl, (by first | exact Vw.le.refl _ | assumption)⟩) (fun _ _ => ?_)
            refine h_one 7 (by kernel_rfl) ?_
            refine h_to 7 rfl rfl rfl rfl rfl rfl (s_app (e := 43) (sz := 4) (by_ := 32) (m := 0) (k := t.H.length) (olds := []) tok (t.H.flatMap Hold.cells) rfl (fun E w1 hm => hH.sl.src hm.get) (fun _ _ _ => hold_ones t.H) (by omega)) (.inr fun _ _ => ⟨(by repeat (first | exact SubO.nil | refine SubO.cons rfl ?_)), rfl, (by first | exact Vw.le.refl _ | assumption)⟩) (fun _ _ => ?_)
            refine h_one 11 (by kernel_rfl) ?_
            refine h_to 11 rfl rfl rfl rfl rfl rfl (s_app (e := 43) (sz := 4) (by_ := 32) (m := 0) (k := t.Q.length) (olds := []) tok (t.Q.flatMap Hold.cells) rfl (fun E w1 hm => hQ.sl.src hm.get) (fun _ _ _ => hold_ones t.Q) (by omega)) (.inr fun _ _ => ⟨(by repeat (first | exact SubO.nil | refine SubO.cons rfl ?_)), rfl, (by first | exact Vw.le.refl _ | assumption)⟩) (fun _ _ => ?_)
            refine h_one 12 (by kernel_rfl) ?_
            refine h_yield 12 rfl rfl rfl rfl (y_val tok rfl) ?_
            refine h_one 13 (by kernel_rfl) ?_
            refine h_store 13 tok rfl rfl rfl rfl (by first | exact ⟨trivial, trivial⟩ | (repeat' first | exact trivial | exact rfl | apply And.intro); done | simp [onesP, oneP, lk, Value.oneCell']) (.inl rfl) ?_
            refine h_done [2] (by kernel_rfl) rfl ?_
            refine k_swap 3 4 rfl ?_
            refine k_swap 4 5 rfl ?_
            refine k_swap 6 7 rfl ?_
            exact x_meet () trivial (by repeat (first | exact SubF.nil | refine SubF.cons rfl ?_)) (by repeat (first | exact SubO.nil | refine SubO.cons rfl ?_)) rfl (Vw.le.refl _)
        ·
          refine h_to 8 rfl rfl rfl rfl rfl rfl (s_bs tok 4 rfl rfl rfl) (.inr fun _ _ => ⟨(by repeat (first | exact SubO.nil | refine SubO.cons rfl ?_)), rfl, (by first | exact Vw.le.refl _ | assumption)⟩) (fun _ _ => ?_)
          refine h_one 3 (by kernel_rfl) ?_
          refine h_to 3 rfl rfl rfl rfl rfl rfl (s_app (e := 48) (sz := 2) (by_ := 16) (m := 0) (k := t.S.length) (olds := []) tok (t.S.flatMap Slot.cells) rfl (fun E w1 hm => hS.sl.src hm.get) (fun _ _ _ => slot_ones t.S) (by omega)) (.inr fun _ _ => ⟨(by repeat (first | exact SubO.nil | refine SubO.cons rfl ?_)), rfl, (by first | exact Vw.le.refl _ | assumption)⟩) (fun _ _ => ?_)
          refine h_one 7 (by kernel_rfl) ?_
          refine h_to 7 rfl rfl rfl rfl rfl rfl (s_app (e := 43) (sz := 4) (by_ := 32) (m := 0) (k := t.H.length) (olds := []) tok (t.H.flatMap Hold.cells) rfl (fun E w1 hm => hH.sl.src hm.get) (fun _ _ _ => hold_ones t.H) (by omega)) (.inr fun _ _ => ⟨(by repeat (first | exact SubO.nil | refine SubO.cons rfl ?_)), rfl, (by first | exact Vw.le.refl _ | assumption)⟩) (fun _ _ => ?_)
          refine h_one 11 (by kernel_rfl) ?_
          refine h_to 11 rfl rfl rfl rfl rfl rfl (s_app (e := 43) (sz := 4) (by_ := 32) (m := 0) (k := t.Q.length) (olds := []) tok (t.Q.flatMap Hold.cells) rfl (fun E w1 hm => hQ.sl.src hm.get) (fun _ _ _ => hold_ones t.Q) (by omega)) (.inr fun _ _ => ⟨(by repeat (first | exact SubO.nil | refine SubO.cons rfl ?_)), rfl, (by first | exact Vw.le.refl _ | assumption)⟩) (fun _ _ => ?_)
          refine h_one 12 (by kernel_rfl) ?_
          refine h_yield 12 rfl rfl rfl rfl (y_val tok rfl) ?_
          refine h_one 13 (by kernel_rfl) ?_
          refine h_store 13 tok rfl rfl rfl rfl (by first | exact ⟨trivial, trivial⟩ | (repeat' first | exact trivial | exact rfl | apply And.intro); done | simp [onesP, oneP, lk, Value.oneCell']) (.inl rfl) ?_
          refine h_done [2] (by kernel_rfl) rfl ?_
          refine k_swap 3 4 rfl ?_
          refine k_swap 4 6 rfl ?_
          refine k_swap 5 6 rfl ?_
          refine k_swap 6 7 rfl ?_
          exact x_meet () trivial (by repeat (first | exact SubF.nil | refine SubF.cons rfl ?_)) (by repeat (first | exact SubO.nil | refine SubO.cons rfl ?_)) rfl (Vw.le.refl _)
      ·
        refine h_to 8 rfl rfl rfl rfl rfl rfl (s_bs tok 4 rfl rfl rfl) (.inr fun _ _ => ⟨(by repeat (first | exact SubO.nil | refine SubO.cons rfl ?_)), rfl, (by first | exact Vw.le.refl _ | assumption)⟩) (fun _ _ => ?_)
        refine h_one 0 (by kernel_rfl) ?_
        refine h_to 0 rfl rfl rfl rfl rfl rfl (s_bs tok 2 rfl rfl rfl) (.inr fun _ _ => ⟨(by repeat (first | exact SubO.nil | refine SubO.cons rfl ?_)), rfl, (by first | exact Vw.le.refl _ | assumption)⟩) (fun _ _ => ?_)
        refine h_one 3 (by kernel_rfl) ?_
        refine h_to 3 rfl rfl rfl rfl rfl rfl (s_app (e := 48) (sz := 2) (by_ := 16) (m := 0) (k := t.S.length) (olds := []) tok (t.S.flatMap Slot.cells) rfl (fun E w1 hm => hS.sl.src hm.get) (fun _ _ _ => slot_ones t.S) (by omega)) (.inr fun _ _ => ⟨(by repeat (first | exact SubO.nil | refine SubO.cons rfl ?_)), rfl, (by first | exact Vw.le.refl _ | assumption)⟩) (fun _ _ => ?_)
        refine h_one 7 (by kernel_rfl) ?_
        refine h_to 7 rfl rfl rfl rfl rfl rfl (s_app (e := 43) (sz := 4) (by_ := 32) (m := 0) (k := t.H.length) (olds := []) tok (t.H.flatMap Hold.cells) rfl (fun E w1 hm => hH.sl.src hm.get) (fun _ _ _ => hold_ones t.H) (by omega)) (.inr fun _ _ => ⟨(by repeat (first | exact SubO.nil | refine SubO.cons rfl ?_)), rfl, (by first | exact Vw.le.refl _ | assumption)⟩) (fun _ _ => ?_)
        refine h_one 11 (by kernel_rfl) ?_
        refine h_to 11 rfl rfl rfl rfl rfl rfl (s_app (e := 43) (sz := 4) (by_ := 32) (m := 0) (k := t.Q.length) (olds := []) tok (t.Q.flatMap Hold.cells) rfl (fun E w1 hm => hQ.sl.src hm.get) (fun _ _ _ => hold_ones t.Q) (by omega)) (.inr fun _ _ => ⟨(by repeat (first | exact SubO.nil | refine SubO.cons rfl ?_)), rfl, (by first | exact Vw.le.refl _ | assumption)⟩) (fun _ _ => ?_)
        refine h_one 12 (by kernel_rfl) ?_
        refine h_yield 12 rfl rfl rfl rfl (y_val tok rfl) ?_
        refine h_one 13 (by kernel_rfl) ?_
        refine h_store 13 tok rfl rfl rfl rfl (by first | exact ⟨trivial, trivial⟩ | (repeat' first | exact trivial | exact rfl | apply And.intro); done | simp [onesP, oneP, lk, Value.oneCell']) (.inl rfl) ?_
        refine h_done [2] (by kernel_rfl) rfl ?_
        refine k_swap 3 5 rfl ?_
        refine k_swap 4 6 rfl ?_
        refine k_swap 6 7 rfl ?_
        exact x_meet () trivial (by repeat (first | exact SubF.nil | refine SubF.cons rfl ?_)) (by repeat (first | exact SubO.nil | refine SubO.cons rfl ?_)) rfl (Vw.le.refl _)
    ·
      refine h_to 8 rfl rfl rfl rfl rfl rfl (s_bs tok 4 rfl rfl rfl) (.inr fun _ _ => ⟨(by repeat (first | exact SubO.nil | refine SubO.cons rfl ?_)), rfl, (by first | exact Vw.le.refl _ | assumption)⟩) (fun _ _ => ?_)
      refine h_two 0 4 (by kernel_rfl) ?_ ?_
      ·
        refine h_to 0 rfl rfl rfl rfl rfl rfl (s_bs tok 2 rfl rfl rfl) (.inr fun _ _ => ⟨(by repeat (first | exact SubO.nil | refine SubO.cons rfl ?_)), rfl, (by first | exact Vw.le.refl _ | assumption)⟩) (fun _ _ => ?_)
        refine h_two 3 4 (by kernel_rfl) ?_ ?_
        ·
          refine h_to 3 rfl rfl rfl rfl rfl rfl (s_app (e := 48) (sz := 2) (by_ := 16) (m := 0) (k := t.S.length) (olds := []) tok (t.S.flatMap Slot.cells) rfl (fun E w1 hm => hS.sl.src hm.get) (fun _ _ _ => slot_ones t.S) (by omega)) (.inr fun _ _ => ⟨(by repeat (first | exact SubO.nil | refine SubO.cons rfl ?_)), rfl, (by first | exact Vw.le.refl _ | assumption)⟩) (fun _ _ => ?_)
          refine h_one 4 (by kernel_rfl) ?_
          refine h_to 4 rfl rfl rfl rfl rfl rfl (s_bs tok 4 rfl rfl rfl) (.inr fun _ _ => ⟨(by repeat (first | exact SubO.nil | refine SubO.cons rfl ?_)), rfl, (by first | exact Vw.le.refl _ | assumption)⟩) (fun _ _ => ?_)
          refine h_one 7 (by kernel_rfl) ?_
          refine h_to 7 rfl rfl rfl rfl rfl rfl (s_app (e := 43) (sz := 4) (by_ := 32) (m := 0) (k := t.H.length) (olds := []) tok (t.H.flatMap Hold.cells) rfl (fun E w1 hm => hH.sl.src hm.get) (fun _ _ _ => hold_ones t.H) (by omega)) (.inr fun _ _ => ⟨(by repeat (first | exact SubO.nil | refine SubO.cons rfl ?_)), rfl, (by first | exact Vw.le.refl _ | assumption)⟩) (fun _ _ => ?_)
          refine h_one 11 (by kernel_rfl) ?_
          refine h_to 11 rfl rfl rfl rfl rfl rfl (s_app (e := 43) (sz := 4) (by_ := 32) (m := 0) (k := t.Q.length) (olds := []) tok (t.Q.flatMap Hold.cells) rfl (fun E w1 hm => hQ.sl.src hm.get) (fun _ _ _ => hold_ones t.Q) (by omega)) (.inr fun _ _ => ⟨(by repeat (first | exact SubO.nil | refine SubO.cons rfl ?_)), rfl, (by first | exact Vw.le.refl _ | assumption)⟩) (fun _ _ => ?_)
          refine h_one 12 (by kernel_rfl) ?_
          refine h_yield 12 rfl rfl rfl rfl (y_val tok rfl) ?_
          refine h_one 13 (by kernel_rfl) ?_
          refine h_store 13 tok rfl rfl rfl rfl (by first | exact ⟨trivial, trivial⟩ | (repeat' first | exact trivial | exact rfl | apply And.intro); done | simp [onesP, oneP, lk, Value.oneCell']) (.inl rfl) ?_
          refine h_done [2] (by kernel_rfl) rfl ?_
          refine k_swap 3 4 rfl ?_
          refine k_swap 4 5 rfl ?_
          refine k_swap 5 6 rfl ?_
          refine k_swap 6 7 rfl ?_
          exact x_meet () trivial (by repeat (first | exact SubF.nil | refine SubF.cons rfl ?_)) (by repeat (first | exact SubO.nil | refine SubO.cons rfl ?_)) rfl (Vw.le.refl _)
        ·
          refine h_to 4 rfl rfl rfl rfl rfl rfl (s_bs tok 4 rfl rfl rfl) (.inr fun _ _ => ⟨(by repeat (first | exact SubO.nil | refine SubO.cons rfl ?_)), rfl, (by first | exact Vw.le.refl _ | assumption)⟩) (fun _ _ => ?_)
          refine h_one 3 (by kernel_rfl) ?_
          refine h_to 3 rfl rfl rfl rfl rfl rfl (s_app (e := 48) (sz := 2) (by_ := 16) (m := 0) (k := t.S.length) (olds := []) tok (t.S.flatMap Slot.cells) rfl (fun E w1 hm => hS.sl.src hm.get) (fun _ _ _ => slot_ones t.S) (by omega)) (.inr fun _ _ => ⟨(by repeat (first | exact SubO.nil | refine SubO.cons rfl ?_)), rfl, (by first | exact Vw.le.refl _ | assumption)⟩) (fun _ _ => ?_)
          refine h_one 7 (by kernel_rfl) ?_
          refine h_to 7 rfl rfl rfl rfl rfl rfl (s_app (e := 43) (sz := 4) (by_ := 32) (m := 0) (k := t.H.length) (olds := []) tok (t.H.flatMap Hold.cells) rfl (fun E w1 hm => hH.sl.src hm.get) (fun _ _ _ => hold_ones t.H) (by omega)) (.inr fun _ _ => ⟨(by repeat (first | exact SubO.nil | refine SubO.cons rfl ?_)), rfl, (by first | exact Vw.le.refl _ | assumption)⟩) (fun _ _ => ?_)
          refine h_one 11 (by kernel_rfl) ?_
          refine h_to 11 rfl rfl rfl rfl rfl rfl (s_app (e := 43) (sz := 4) (by_ := 32) (m := 0) (k := t.Q.length) (olds := []) tok (t.Q.flatMap Hold.cells) rfl (fun E w1 hm => hQ.sl.src hm.get) (fun _ _ _ => hold_ones t.Q) (by omega)) (.inr fun _ _ => ⟨(by repeat (first | exact SubO.nil | refine SubO.cons rfl ?_)), rfl, (by first | exact Vw.le.refl _ | assumption)⟩) (fun _ _ => ?_)
          refine h_one 12 (by kernel_rfl) ?_
          refine h_yield 12 rfl rfl rfl rfl (y_val tok rfl) ?_
          refine h_one 13 (by kernel_rfl) ?_
          refine h_store 13 tok rfl rfl rfl rfl (by first | exact ⟨trivial, trivial⟩ | (repeat' first | exact trivial | exact rfl | apply And.intro); done | simp [onesP, oneP, lk, Value.oneCell']) (.inl rfl) ?_
          refine h_done [2] (by kernel_rfl) rfl ?_
          refine k_swap 3 4 rfl ?_
          refine k_swap 4 6 rfl ?_
          refine k_swap 6 7 rfl ?_
          exact x_meet () trivial (by repeat (first | exact SubF.nil | refine SubF.cons rfl ?_)) (by repeat (first | exact SubO.nil | refine SubO.cons rfl ?_)) rfl (Vw.le.refl _)
      ·
        refine h_to 4 rfl rfl rfl rfl rfl rfl (s_bs tok 4 rfl rfl rfl) (.inr fun _ _ => ⟨(by repeat (first | exact SubO.nil | refine SubO.cons rfl ?_)), rfl, (by first | exact Vw.le.refl _ | assumption)⟩) (fun _ _ => ?_)
        refine h_one 0 (by kernel_rfl) ?_
        refine h_to 0 rfl rfl rfl rfl rfl rfl (s_bs tok 2 rfl rfl rfl) (.inr fun _ _ => ⟨(by repeat (first | exact SubO.nil | refine SubO.cons rfl ?_)), rfl, (by first | exact Vw.le.refl _ | assumption)⟩) (fun _ _ => ?_)
        refine h_one 3 (by kernel_rfl) ?_
        refine h_to 3 rfl rfl rfl rfl rfl rfl (s_app (e := 48) (sz := 2) (by_ := 16) (m := 0) (k := t.S.length) (olds := []) tok (t.S.flatMap Slot.cells) rfl (fun E w1 hm => hS.sl.src hm.get) (fun _ _ _ => slot_ones t.S) (by omega)) (.inr fun _ _ => ⟨(by repeat (first | exact SubO.nil | refine SubO.cons rfl ?_)), rfl, (by first | exact Vw.le.refl _ | assumption)⟩) (fun _ _ => ?_)
        refine h_one 7 (by kernel_rfl) ?_
        refine h_to 7 rfl rfl rfl rfl rfl rfl (s_app (e := 43) (sz := 4) (by_ := 32) (m := 0) (k := t.H.length) (olds := []) tok (t.H.flatMap Hold.cells) rfl (fun E w1 hm => hH.sl.src hm.get) (fun _ _ _ => hold_ones t.H) (by omega)) (.inr fun _ _ => ⟨(by repeat (first | exact SubO.nil | refine SubO.cons rfl ?_)), rfl, (by first | exact Vw.le.refl _ | assumption)⟩) (fun _ _ => ?_)
        refine h_one 11 (by kernel_rfl) ?_
        refine h_to 11 rfl rfl rfl rfl rfl rfl (s_app (e := 43) (sz := 4) (by_ := 32) (m := 0) (k := t.Q.length) (olds := []) tok (t.Q.flatMap Hold.cells) rfl (fun E w1 hm => hQ.sl.src hm.get) (fun _ _ _ => hold_ones t.Q) (by omega)) (.inr fun _ _ => ⟨(by repeat (first | exact SubO.nil | refine SubO.cons rfl ?_)), rfl, (by first | exact Vw.le.refl _ | assumption)⟩) (fun _ _ => ?_)
        refine h_one 12 (by kernel_rfl) ?_
        refine h_yield 12 rfl rfl rfl rfl (y_val tok rfl) ?_
        refine h_one 13 (by kernel_rfl) ?_
        refine h_store 13 tok rfl rfl rfl rfl (by first | exact ⟨trivial, trivial⟩ | (repeat' first | exact trivial | exact rfl | apply And.intro); done | simp [onesP, oneP, lk, Value.oneCell']) (.inl rfl) ?_
        refine h_done [2] (by kernel_rfl) rfl ?_
        refine k_swap 3 5 rfl ?_
        refine k_swap 4 6 rfl ?_
        refine k_swap 5 6 rfl ?_
        refine k_swap 6 7 rfl ?_
        exact x_meet () trivial (by repeat (first | exact SubF.nil | refine SubF.cons rfl ?_)) (by repeat (first | exact SubO.nil | refine SubO.cons rfl ?_)) rfl (Vw.le.refl _)
  rintro ⟨⟩ -
  refine x_then ?_
  refine c_ret ?_
  refine b_ret tok rfl ?_
  rw [Nat.zero_add t.S.length, Nat.zero_add t.H.length, Nat.zero_add t.Q.length, List.nil_append, List.nil_append, List.nil_append]
  intro E' w' hm _
  exact ⟨(), E', rfl, trivial, rfl, hm.big 0 _ rfl, hm.weak (by repeat (first | exact SubO.nil | refine SubO.cons rfl ?_)) rfl (Vw.le.refl _)⟩

theorem rgrant_c (V : Vw) (tv : Value) (t : Tb) (w : World) (ht : t.Fit) (hV : V.le (vw w)) (h : TbIs V tv t) :
    Calls Try.prog 61 #[tv] w (TbOut V t.grant w) := by
  have h0 := h
  obtain ⟨a, n, c, a2, n2, c2, a3, n3, c3, rfl, h1, h2, h3⟩ := h
  have hh := ht.h
  have hq := ht.q
  have hlim : lim = 4398046511104 := rfl
  have hQ := h3.mono hV
  refine enter (E := E0) (O := []) (nl := 0) (V := vw w) [.a (.v (.agg #[.slice a n c, .slice a2 n2 c2, .slice a3 n3 c3]))] Try.func61 rfl rfl (mem0 E0 0 w) rfl rfl ?_
  refine c_seq ?_
  refine c_region ?_
  refine o_new tok rfl rfl rfl rfl ?_
  refine o_new tok rfl rfl rfl rfl ?_
  refine o_end [1, 2] rfl ?_
  refine x_then ?_
  refine c_seq ?_
  refine c_region ?_
  refine o_yield rfl rfl rfl (y_val tok rfl) ?_
  refine o_step rfl rfl rfl rfl rfl (s_makes (fun _ : Unit => True) (fun _ => .agg [.row 4, .row 6, .row 8]) (fun _ => [(4, (slR t.S).cel), (6, (hoR t.H).cel), (8, (hoR t.Q).cel)]) 9 rfl fnok85 (fun E w1 hm => rcopy_c V _ t w1 ht (hV.trans hm.leV) h0)) (fun _ _ => ?_)
  refine o_new tok rfl rfl rfl rfl ?_
  refine o_store tok rfl rfl rfl (by first | exact ⟨trivial, trivial⟩ | (repeat' first | exact trivial | exact rfl | apply And.intro); done | simp [onesP, oneP, lk, Value.oneCell']) ?_
  refine o_end [1, 2, 3] rfl ?_
  refine x_then ?_
  refine c_seq ?_
  refine c_region ?_
  refine o_yield rfl rfl rfl (y_val tok rfl) ?_
  refine o_store tok rfl rfl rfl (by first | exact ⟨trivial, trivial⟩ | (repeat' first | exact trivial | exact rfl | apply And.intro); done | simp [onesP, oneP, lk, Value.oneCell']) ?_
  refine o_end [1, 2, 3] rfl ?_
  refine x_then ?_
  refine c_seq ?_
  refine c_seq ?_
  refine c_region ?_
  refine o_yield rfl rfl rfl (y_val tok rfl) ?_
  refine o_end [1, 2, 3, 4] rfl ?_
  refine x_then ?_
  refine c_block ?_
  refine k_nilO 11 2 43 4 rfl rfl ?_
  refine c_loopK [1, 2, 3] [8, 12] rfl rfl (σ := Nat × List Hold × List Hold) (fun (k, A, B) => [(4, .a (.v (I k)))]) (fun (k, A, B) => [(8, .row 43 4 A.length (A.flatMap Hold.cells)), (12, .row 43 4 B.length (B.flatMap Hold.cells))]) (fun (k, A, B) => k ≤ t.Q.length ∧ A.length + B.length = t.H.length + k ∧ grantGo (t.Q.drop k) A B = grantGo t.Q t.H []) (fun (k, A, B) => t.Q.length - k) ((0, t.H, [])) (⟨by omega, by simp, rfl⟩) (by repeat (first | exact SubF.nil | refine SubF.cons rfl ?_)) (by repeat (first | exact SubO.nil | refine SubO.cons rfl ?_)) rfl ?_
  rintro ⟨k, A, B⟩ ⟨hk, hl, hgo⟩
  dsimp only at hk hl hgo ⊢
  refine c_seq ?_
  refine c_seq ?_
  refine c_region ?_
  refine o_yield rfl rfl rfl (y_val tok rfl) ?_
  refine o_yield rfl rfl rfl (y_val tok rfl) ?_
  refine o_yield rfl rfl rfl (y_val tok rfl) ?_
  refine o_yield rfl rfl rfl (y_len tok rfl (fun hg => hQ.sl)) ?_
  refine o_yield rfl rfl rfl (y_val tok rfl) ?_
  refine o_end [1, 2, 3, 4, 13] rfl ?_
  refine x_then ?_
  refine c_cond rfl (fun h => ?_) (fun h => ?_)
  ·
    simp only [Bool.and_eq_true, Bool.or_eq_true, Bool.not_eq_true', Bool.or_eq_false_iff, Bool.and_eq_false_iff, decide_eq_true_eq, decide_eq_false_iff_not, beq_iff_eq, bne_iff_ne, Bool.not_eq_false', beq_eq_false_iff_ne, bne_eq_false_iff_eq, ne_eq, Decidable.not_not, Int.not_lt, Int.not_le] at h
    refine c_skip ?_
    refine x_then ?_
    refine c_seq ?_
    refine c_block ?_
    refine c_seq ?_
    refine c_region ?_
    refine o_yield rfl rfl rfl (y_val tok rfl) ?_
    refine o_yield rfl rfl rfl (y_val tok rfl) ?_
    refine o_yield rfl rfl rfl (y_val tok rfl) ?_
    obtain ⟨x, hx⟩ : ∃ x, t.Q[k]? = some x := ⟨_, List.getElem?_eq_getElem (by omega)⟩
    rw [grantGo_at hx] at hgo
    have hwk : IntKind.i64.wrap ((k : Int) + 1) = ((k + 1 : Nat) : Int) := wrapI (by omega) (by omega)
    have hlt_x := lt_of_at hx
    refine o_yield rfl rfl rfl (y_idx tok rfl (fun hg => hQ.sl) (fun hg => ⟨by omega, by omega⟩)) ?_
    refine o_yield rfl rfl rfl (y_lel tok (k) 0 (x) rfl (fun hg => hQ) (fun hg => hx) rfl rfl) ?_
    refine o_new tok rfl rfl rfl rfl ?_
    refine o_store tok rfl rfl rfl (by first | exact ⟨trivial, trivial⟩ | (repeat' first | exact trivial | exact rfl | apply And.intro); done | simp [onesP, oneP, lk, Value.oneCell']) ?_
    refine o_end [1, 2, 3, 4, 5] rfl ?_
    refine x_then ?_
    refine c_seq ?_
    refine c_region ?_
    refine o_yield rfl rfl rfl (y_val tok rfl) ?_
    refine o_yield rfl rfl rfl (y_val tok rfl) ?_
    refine o_yield rfl rfl rfl (y_val tok rfl) ?_
    refine o_call (.a (.v _)) rfl rfl fnok78 rfl rfl rfl (fun hg E w1 hm => by exact spRfits_c (vw w1) x (E.κ 8) A _ (Vw.le.refl _) (hm.rowOf 8 rfl (fun _ => rfl)) (by omega)) ?_
    refine o_yield rfl rfl rfl (y_val tok rfl) ?_
    refine o_yield rfl rfl rfl (y_val tok rfl) ?_
    refine o_yield rfl rfl rfl (y_val tok rfl) ?_
    refine o_yield rfl rfl rfl (y_val tok rfl) ?_
    refine o_call (.a (.v _)) rfl rfl fnok78 rfl rfl rfl (fun hg E w1 hm => by exact spRfits_c (vw w1) x (E.κ 12) B _ (Vw.le.refl _) (hm.rowOf 12 rfl (fun _ => rfl)) (by omega)) ?_
    refine o_yield rfl rfl rfl (y_val tok rfl) ?_
    refine o_end [1, 2, 3, 4, 5, 30] rfl ?_
    refine x_then ?_
    refine c_cond rfl (fun h => ?_) (fun h => ?_)
    ·
      refine c_region ?_
      refine o_yield rfl rfl rfl (y_val tok rfl) ?_
      refine o_yield rfl rfl rfl (y_val tok rfl) ?_
      refine o_yield rfl rfl rfl (y_val tok rfl) ?_
      rw [if_pos h] at hgo
      clear h
      refine o_step rfl rfl rfl rfl rfl (s_bs tok 4 rfl rfl rfl) (fun _ _ => ?_)
      refine o_step rfl rfl rfl rfl rfl (s_app tok x.cells rfl (fun E w hm => ownsRow_src (hm.row _ _ _ _ _ rfl)) (fun _ _ _ => by simpa using hold_ones [x]) (by dsimp only; omega)) (fun _ _ => ?_)
      refine o_yield rfl rfl rfl (y_val tok rfl) ?_
      refine o_store tok rfl rfl rfl (by first | exact ⟨trivial, trivial⟩ | (repeat' first | exact trivial | exact rfl | apply And.intro); done | simp [onesP, oneP, lk, Value.oneCell']) ?_
      refine o_end [1, 2, 3, 4] rfl ?_
      refine x_block ?_
      refine x_then ?_
      refine c_region ?_
      refine o_yield rfl rfl rfl (y_val tok rfl) ?_
      refine o_yield rfl rfl rfl (y_val tok rfl) ?_
      refine o_yield rfl rfl rfl (y_val tok rfl) ?_
      refine o_end [1, 2, 3, 4] rfl ?_
      refine x_then ?_
      rw [(hold_snoc A x).1, (hold_snoc A x).2, hwk]
      refine k_swap 8 15 rfl ?_
      refine x_round ((k + 1, A ++ [x], B)) (⟨by dsimp only; omega, by simp; omega, hgo⟩) (by first | omega | (dsimp only; omega)) (by repeat (first | exact SubF.nil | refine SubF.cons rfl ?_)) (by repeat (first | exact SubO.nil | refine SubO.cons rfl ?_)) rfl (Vw.le.refl _)
    ·
      refine c_region ?_
      refine o_yield rfl rfl rfl (y_val tok rfl) ?_
      refine o_yield rfl rfl rfl (y_val tok rfl) ?_
      refine o_yield rfl rfl rfl (y_val tok rfl) ?_
      rw [if_neg (by rw [h]; simp)] at hgo
      clear h
      refine o_step rfl rfl rfl rfl rfl (s_bs tok 4 rfl rfl rfl) (fun _ _ => ?_)
      refine o_step rfl rfl rfl rfl rfl (s_app tok x.cells rfl (fun E w hm => ownsRow_src (hm.row _ _ _ _ _ rfl)) (fun _ _ _ => by simpa using hold_ones [x]) (by dsimp only; omega)) (fun _ _ => ?_)
      refine o_yield rfl rfl rfl (y_val tok rfl) ?_
      refine o_store tok rfl rfl rfl (by first | exact ⟨trivial, trivial⟩ | (repeat' first | exact trivial | exact rfl | apply And.intro); done | simp [onesP, oneP, lk, Value.oneCell']) ?_
      refine o_end [1, 2, 3, 4] rfl ?_
      refine x_block ?_
      refine x_then ?_
      refine c_region ?_
      refine o_yield rfl rfl rfl (y_val tok rfl) ?_
      refine o_yield rfl rfl rfl (y_val tok rfl) ?_
      refine o_yield rfl rfl rfl (y_val tok rfl) ?_
      refine o_end [1, 2, 3, 4] rfl ?_
      refine x_then ?_
      rw [(hold_snoc B x).1, (hold_snoc B x).2, hwk]
      refine k_swap 12 15 rfl ?_
      refine x_round ((k + 1, A, B ++ [x])) (⟨by dsimp only; omega, by simp; omega, hgo⟩) (by first | omega | (dsimp only; omega)) (by repeat (first | exact SubF.nil | refine SubF.cons rfl ?_)) (by repeat (first | exact SubO.nil | refine SubO.cons rfl ?_)) rfl (Vw.le.refl _)
  ·
    simp only [Bool.and_eq_true, Bool.or_eq_true, Bool.not_eq_true', Bool.or_eq_false_iff, Bool.and_eq_false_iff, decide_eq_true_eq, decide_eq_false_iff_not, beq_iff_eq, bne_iff_ne, Bool.not_eq_false', beq_eq_false_iff_ne, bne_eq_false_iff_eq, ne_eq, Decidable.not_not, Int.not_lt, Int.not_le] at h
    have hkl : k = t.Q.length := by omega
    subst hkl
    rw [List.drop_length] at hgo
    have hA : t.grant = ⟨t.S, A, B⟩ := by rw [Tb.grant, ← hgo]; rfl
    rw [hA]
    clear h hA
    refine c_exit ?_
    refine x_then_exit ?_
    refine x_then_exit ?_
    refine x_block_hit ?_
    refine x_then ?_
    refine c_seq ?_
    refine c_region ?_
    refine o_yield rfl rfl rfl (y_val tok rfl) ?_
    refine o_store tok rfl rfl rfl (by first | exact ⟨trivial, trivial⟩ | (repeat' first | exact trivial | exact rfl | apply And.intro); done | simp [onesP, oneP, lk, Value.oneCell']) ?_
    refine o_end [2] rfl ?_
    refine x_then ?_
    refine c_ret ?_
    refine b_ret tok rfl ?_
    intro E' w' hm _
    exact TbIs.out hV (hm.below (Vw.le.refl _)) (hm.rowFresh (Vw.le.refl _) (l := 6) rfl) (hm.rowFresh (Vw.le.refl _) (l := 8) rfl) (hm.rowFresh (Vw.le.refl _) (l := 12) rfl)
end Go.Proofs.Ytiapfhcimekdkaa

/- Tables, the document's: whether one may be. -/
set_option linter.unusedVariables false
set_option linter.unusedSimpArgs false
set_option maxRecDepth 100000
namespace Go.Proofs.Ytiapfhcimekdkaa
open Go Go.Eng Go.RowKit

/-- What is asked of the i-th of holds and queue. -/
def goodAt (S : List Slot) (blocks : Int) (L : List Hold) (i : Nat) (x : Hold) : Prop :=
  (0 ≤ slotI S x.key ∧ holdB blocks x = true) ∧ touches (L.take i) x.key x.lo x.hi = false ∧ ownN L x.key ≤ 64

theorem slot_mem (t : Tb) (key : Int) : 0 ≤ slotI t.S key → ∃ x ∈ t.S, x.key = key := by
  intro h
  rcases slotI_slot t key with ⟨_, h2⟩ | ⟨k, h1, _, _⟩
  · rw [h2] at h; omega
  · obtain ⟨_, x, hx, he⟩ := slot_some h1
    exact ⟨x, List.mem_of_getElem? hx, he⟩

theorem mem_slot (t : Tb) {key : Int} (hk : 1 ≤ key) (h : ∃ x ∈ t.S, x.key = key) : 0 ≤ slotI t.S key := by
  rcases slotI_slot t key with ⟨h1, _⟩ | ⟨k, _, h2, _⟩
  · obtain ⟨x, hx, he⟩ := h
    exact absurd he (slot_none h1 hk x hx)
  · omega

theorem touches_apart {L : List Hold} : L.Pairwise apart ↔ ∀ (i : Nat) (x : Hold), L[i]? = some x → touches (L.take i) x.key x.lo x.hi = false := by
  rw [List.pairwise_iff_getElem]
  constructor
  · intro h i x hx
    obtain ⟨hi, rfl⟩ := List.getElem?_eq_some_iff.1 hx
    rw [touches, List.any_eq_false]
    intro y hy
    obtain ⟨j, hj⟩ := List.mem_iff_getElem?.1 hy
    rw [List.getElem?_take] at hj
    split at hj
    · rename_i hji
      obtain ⟨hjl, rfl⟩ := List.getElem?_eq_some_iff.1 hj
      have := h j i hjl hi hji
      intro hc
      simp only [touchesAt, Bool.and_eq_true, beq_iff_eq] at hc
      exact this hc
    · cases hj
  · intro h i j hi hj hij ⟨e1, e2⟩
    have := h j _ (List.getElem?_eq_getElem hj)
    rw [touches, List.any_eq_false] at this
    refine this L[i] (List.mem_iff_getElem?.2 ⟨i, ?_⟩) ?_
    · rw [List.getElem?_take, if_pos hij]; exact List.getElem?_eq_getElem hi
    · simp [touchesAt, e1, e2]

theorem pre_iff {n blocks : Int} {t : Tb} : TbPre n blocks t ↔ ((t.S.length : Int) = n ∧ SlotsOk t.S ∧ allB t.H = true) ∧ ∀ (i : Nat) (x : Hold), (t.H ++ t.Q)[i]? = some x → goodAt t.S blocks (t.H ++ t.Q) i x := by
  constructor
  · intro h
    refine ⟨⟨h.n, h.slots, h.all⟩, fun i x hx => ?_⟩
    obtain ⟨h1, h2⟩ := h.mem x (List.mem_of_getElem? hx)
    have := holdB_key h2
    exact ⟨⟨mem_slot t (by omega) h1, h2⟩, touches_apart.1 h.apart i x hx, h.few _⟩
  · rintro ⟨⟨h1, h2, h3⟩, h4⟩
    refine ⟨h1, h2, h3, fun x hx => ?_, touches_apart.2 fun i x hx => (h4 i x hx).2.1, fun key => ?_⟩
    · obtain ⟨i, hi⟩ := List.mem_iff_getElem?.1 hx
      exact ⟨slot_mem t _ (h4 i x hi).1.1, (h4 i x hi).1.2⟩
    · rcases Nat.eq_zero_or_pos (ownN (t.H ++ t.Q) key) with h0 | h0
      · omega
      · obtain ⟨x, hx⟩ := List.exists_mem_of_length_pos h0
        obtain ⟨hx1, hx2⟩ := List.mem_filter.1 hx
        have hk : x.key = key := by simpa using hx2
        obtain ⟨i, hi⟩ := List.mem_iff_getElem?.1 hx1
        have := (h4 i x hi).2.2
        rwa [hk] at this

theorem ok_iff {n blocks : Int} {t : Tb} : TbOk n blocks t ↔ TbPre n blocks t ∧ t.grant.Q.length = t.Q.length := ⟨fun h => ⟨h.toTbPre, h.still⟩, fun h => ⟨h.1, h.2⟩⟩

theorem rMay_c (V : Vw) (g : Geo) (tv : Value) (t : Tb) (w : World) (ht : t.Fit) (hV : V.le (vw w)) (h : TbIs V tv t) :
    Calls Try.prog 15 #[g.val, tv] w fun e w' => e = .returned (.bool (cdec (TbOk g.slots g.blocks t))) ∧ Below w.heap.size w w' := by
  have h0 := h
  obtain ⟨a, n, c, a2, n2, c2, a3, n3, c3, rfl, h1, h2, h3⟩ := h
  have hss := ht.s
  have hh := ht.h
  have hq := ht.q
  have hlim : lim = 4398046511104 := rfl
  have hS := h1.mono hV
  have hH := h2.mono hV
  have hQ := h3.mono hV
  have hal : (t.H ++ t.Q).length ≤ 200000 := by rw [List.length_append]; omega
  refine enter (E := E0) (O := []) (nl := 0) (V := vw w) [.a (.v g.val), .a (.v (.agg #[.slice a n c, .slice a2 n2 c2, .slice a3 n3 c3]))] Try.func15 rfl rfl (mem0 E0 0 w) rfl rfl ?_
  refine c_seq ?_
  refine c_region ?_
  refine o_new tok rfl rfl rfl rfl ?_
  refine o_new tok rfl rfl rfl rfl ?_
  refine o_yield rfl rfl rfl (y_val tok rfl) ?_
  refine o_end [2, 3] rfl ?_
  refine x_then ?_
  refine c_seq ?_
  refine c_seq ?_
  refine c_region ?_
  refine o_yield rfl rfl rfl (y_val tok rfl) ?_
  refine o_yield rfl rfl rfl (y_val tok rfl) ?_
  refine o_yield rfl rfl rfl (y_len tok rfl (fun hg => hS.sl)) ?_
  refine o_yield rfl rfl rfl (y_val tok rfl) ?_
  refine o_yield rfl rfl rfl (y_val tok rfl) ?_
  refine o_yield rfl rfl rfl (y_val tok rfl) ?_
  refine o_yield rfl rfl rfl (y_val tok rfl) ?_
  refine o_yield rfl rfl rfl (y_val tok rfl) ?_
  refine o_call (.a (.v _)) rfl rfl fnok57 rfl rfl rfl (fun hg E w1 hm => by exact rslots_c V a n c _ _ t.S _ (hV.trans hm.leV) h1 hss) ?_
  refine o_yield rfl rfl rfl (y_val tok rfl) ?_
  refine o_yield rfl rfl rfl (y_val tok rfl) ?_
  refine o_yield rfl rfl rfl (y_val tok rfl) ?_
  refine o_yield rfl rfl rfl (y_val tok rfl) ?_
  refine o_yield rfl rfl rfl (y_val tok rfl) ?_
  refine o_call (.a (.v _)) rfl rfl fnok16 rfl rfl rfl (fun hg E w1 hm => by exact spRall_c V _ t.H _ (hV.trans hm.leV) h2 (by omega)) ?_
  refine o_yield rfl rfl rfl (y_val tok rfl) ?_
  refine o_yield rfl rfl rfl (y_val tok rfl) ?_
  refine o_end [2, 3, 25] rfl ?_
  refine x_then ?_
  refine c_cond rfl (fun h => ?_) (fun h => ?_)
  ·
    refine c_seq ?_
    refine c_region ?_
    refine o_yield rfl rfl rfl (y_val tok rfl) ?_
    refine o_end [4] rfl ?_
    refine x_then ?_
    refine c_ret ?_
    refine x_then_ret ?_
    refine b_ret tok rfl ?_
    have hno : ¬ TbOk g.slots g.blocks t := by
      intro hok
      rw [cdec_true hok.slots, hok.all] at h
      have := hok.n
      simp [this] at h
    intro E w' hm _
    refine ⟨?_, hm.below (Vw.le.refl _)⟩
    rw [cdec_false hno]; rfl
  ·
    have hpre : (t.S.length : Int) = g.slots ∧ SlotsOk t.S ∧ allB t.H = true := by
      simp only [Bool.or_eq_false_iff, Bool.not_eq_false'] at h
      obtain ⟨⟨e1, e2⟩, e3⟩ := h
      exact ⟨by simpa using e1, cdec_iff.1 e2, e3⟩
    clear h
    refine c_skip ?_
    refine x_then ?_
    refine c_seq ?_
    refine c_heldR mixed rfl (by repeat (first | exact SubO.nil | refine SubO.cons rfl ?_)) (by first | rfl | simp [okCels, allOk_plain]) ?_
    refine t_take 1 rfl (by kernel_rfl) rfl rfl rfl (y_val tok rfl) rfl ?_
    refine t_take 2 rfl (by kernel_rfl) rfl rfl rfl (y_val tok rfl) rfl ?_
    refine t_take 4 rfl (by kernel_rfl) rfl rfl rfl (y_val tok rfl) rfl ?_
    refine t_take 5 rfl (by kernel_rfl) rfl rfl rfl (y_val tok rfl) rfl ?_
    refine t_go ?_
    refine h_one 0 (by kernel_rfl) ?_
    refine h_to 0 rfl rfl rfl rfl rfl rfl (s_bs tok 4 rfl rfl rfl) (.inr fun _ _ => ⟨(by repeat (first | exact SubO.nil | refine SubO.cons rfl ?_)), rfl, (by first | exact Vw.le.refl _ | assumption)⟩) (fun _ _ => ?_)
    refine h_one 3 (by kernel_rfl) ?_
    refine h_to 3 rfl rfl rfl rfl rfl rfl (s_app (l := 2) (e := 43) (sz := 4) (by_ := 32) (m := 0) (k := t.H.length) (olds := []) tok (t.H.flatMap Hold.cells) rfl (fun E w1 hm => hH.sl.src hm.get) (fun _ _ _ => hold_ones t.H) (by omega)) (.inr fun _ _ => ⟨(by repeat (first | exact SubO.nil | refine SubO.cons rfl ?_)), rfl, (by first | exact Vw.le.refl _ | assumption)⟩) (fun _ _ => ?_)
    refine h_one 6 (by kernel_rfl) ?_
    refine h_to 6 rfl rfl rfl rfl rfl rfl (s_app (l := 3) (e := 43) (sz := 4) (by_ := 32) (m := 0 + t.H.length) (k := t.Q.length) tok (t.Q.flatMap Hold.cells) rfl (fun E w1 hm => hQ.sl.src hm.get) (fun _ _ _ => hold_ones t.Q) (by omega)) (.inr fun _ _ => ⟨(by repeat (first | exact SubO.nil | refine SubO.cons rfl ?_)), rfl, (by first | exact Vw.le.refl _ | assumption)⟩) (fun _ _ => ?_)
    refine h_one 7 (by kernel_rfl) ?_
    refine h_yield 7 rfl rfl rfl rfl (y_val tok rfl) ?_
    refine h_done [2, 3, 5] (by kernel_rfl) rfl ?_
    refine x_then ?_
    refine c_seq ?_
    refine c_seq ?_
    rw [Nat.zero_add t.H.length, List.nil_append, ← List.length_append, ← List.flatMap_append]
    refine k_freeze 4 rfl (fun lv V1 hle1 hsl1 _ => ?_)
    have hL : SlOf V1 Hold.cells 4 lv (t.H ++ t.Q) := ⟨hsl1, fun _ => rfl⟩
    have hpi := @pre_iff g.slots g.blocks t
    have hall0 : ∀ V' w1, V.le V' → V'.le (vw w1) → ∀ key, Calls Try.prog 60 #[.agg #[.slice a n c, .slice a2 n2 c2, .slice a3 n3 c3], I key] w1 (HOut V' ((t.H ++ t.Q).filter fun h => h.key == key) w1) := fun V' w1 hle h key => rall_c V' g.val _ key t w1 ht h (h0.mono hle)
    obtain ⟨L, hLe⟩ : ∃ L, L = t.H ++ t.Q := ⟨_, rfl⟩
    rw [← hLe] at hal hL hpi hall0
    clear hsl1
    refine c_region ?_
    refine o_yield rfl rfl rfl (y_val tok rfl) ?_
    refine o_end [2, 3, 5, 6] rfl ?_
    refine x_then ?_
    refine c_block ?_
    refine c_loopV [2, 3, 5] [] rfl rfl (σ := Nat) (fun i => [(6, .a (.v (I i)))]) (fun i => []) (fun i => V1) (fun i => i ≤ L.length ∧ ∀ (j : Nat) (x : Hold), j < i → L[j]? = some x → goodAt t.S g.blocks L j x) (fun i => L.length - i) (0) (⟨by omega, fun j x hj => by omega⟩) (by repeat (first | exact SubF.nil | refine SubF.cons rfl ?_)) (by repeat (first | exact SubO.nil | refine SubO.cons rfl ?_)) rfl (Vw.le.refl _) ?_
    rintro i ⟨hi, hgood⟩
    refine c_seq ?_
    refine c_seq ?_
    refine c_region ?_
    refine o_yield rfl rfl rfl (y_val tok rfl) ?_
    refine o_yield rfl rfl rfl (y_val tok rfl) ?_
    refine o_yield rfl rfl rfl (y_len tok rfl (fun hg => hL.sl)) ?_
    refine o_yield rfl rfl rfl (y_val tok rfl) ?_
    refine o_end [2, 3, 5, 6, 36] rfl ?_
    refine x_then ?_
    refine c_cond rfl (fun h => ?_) (fun h => ?_)
    ·
      simp only [Bool.and_eq_true, Bool.or_eq_true, Bool.not_eq_true', Bool.or_eq_false_iff, Bool.and_eq_false_iff, decide_eq_true_eq, decide_eq_false_iff_not, beq_iff_eq, bne_iff_ne, Bool.not_eq_false', beq_eq_false_iff_ne, bne_eq_false_iff_eq, ne_eq, Decidable.not_not, Int.not_lt, Int.not_le] at h
      refine c_skip ?_
      refine x_then ?_
      refine c_seq ?_
      refine c_block ?_
      refine c_seq ?_
      refine c_draw mixed (by kernel_rfl) ?_
      refine d_yield rfl rfl rfl (y_val tok rfl) rfl ?_
      refine d_yield rfl rfl rfl (y_val tok rfl) rfl ?_
      refine d_yield rfl rfl rfl (y_val tok rfl) rfl ?_
      obtain ⟨x, h_x⟩ := hL.at (k := i) (by omega)
      have hlt_x := lt_of_at h_x
      refine d_yield rfl rfl rfl (y_idx tok rfl (fun hg => hL.sl) (fun hg => ⟨by omega, by omega⟩)) rfl ?_
      refine d_yield rfl rfl rfl (y_fel tok rfl (fun hg => hL.sl) (fun hg => by omega)) rfl ?_
      refine d_yield rfl rfl rfl (y_lel tok (i) 0 (x) rfl (fun hg => hL) (fun hg => h_x) rfl rfl) rfl ?_
      refine d_call (.a (.v _)) rfl rfl fnok39 rfl rfl rfl (fun hg E w1 hm => by exact rSlot_c V a n c _ _ t.S x.key _ (hV.trans (hle1.trans hm.leV)) h1 (by omega)) ?_
      refine d_yield rfl rfl rfl (y_val tok rfl) rfl ?_
      refine d_yield rfl rfl rfl (y_val tok rfl) rfl ?_
      refine d_yield rfl rfl rfl (y_val tok rfl) rfl ?_
      refine d_yield rfl rfl rfl (y_val tok rfl) rfl ?_
      refine d_yield rfl rfl rfl (y_val tok rfl) rfl ?_
      refine d_end [2, 3, 5, 6, 8] rfl ?_
      refine x_then ?_
      refine c_seq ?_
      refine c_heldR mixed rfl (by repeat (first | exact SubO.nil | refine SubO.cons rfl ?_)) (by first | rfl | simp [okCels, allOk_plain]) ?_
      refine t_take 0 rfl (by kernel_rfl) rfl rfl rfl (y_val tok rfl) rfl ?_
      refine t_take 1 rfl (by kernel_rfl) rfl rfl rfl (y_val tok rfl) rfl ?_
      refine t_take 2 rfl (by kernel_rfl) rfl rfl rfl (y_val tok rfl) rfl ?_
      refine t_take 3 rfl (by kernel_rfl) rfl rfl rfl (y_val tok rfl) rfl ?_
      refine t_take 4 rfl (by kernel_rfl) rfl rfl rfl (y_val tok rfl) rfl ?_
      refine t_take 5 rfl (by kernel_rfl) rfl rfl rfl (y_val tok rfl) rfl ?_
      have hlt_x := lt_of_at h_x
      refine t_take 6 rfl (by kernel_rfl) rfl rfl rfl (y_idx tok rfl (fun hg => hL.sl) (fun hg => ⟨by omega, by omega⟩)) rfl ?_
      refine t_take 7 rfl (by kernel_rfl) rfl rfl rfl (y_lel tok (i) 0 (x) rfl (fun hg => hL) (fun hg => h_x) rfl rfl) rfl ?_
      refine t_go ?_
      refine h_one 8 (by kernel_rfl) ?_
      refine h_call 8 (.a (.v _)) rfl rfl rfl fnok58 rfl rfl rfl (fun hg E w1 hm => by exact spRhold_c g x _) ?_
      refine h_one 9 (by kernel_rfl) ?_
      refine h_yield 9 rfl rfl rfl rfl (y_val tok rfl) ?_
      refine h_one 10 (by kernel_rfl) ?_
      refine h_yield 10 rfl rfl rfl rfl (y_val tok rfl) ?_
      refine h_one 11 (by kernel_rfl) ?_
      refine h_yield 11 rfl rfl rfl rfl (y_val tok rfl) ?_
      refine h_take 12 rfl (by kernel_rfl) rfl rfl rfl rfl (y_val tok rfl) rfl ?_
      refine h_take 13 rfl (by kernel_rfl) rfl rfl rfl rfl (y_val tok rfl) rfl ?_
      refine h_take 14 rfl (by kernel_rfl) rfl rfl rfl rfl (y_sl tok rfl (fun hg => hL.sl) (fun hg => ⟨by dsimp only [Option.getD]; omega, by dsimp only [Option.getD]; omega, by dsimp only [Option.getD]; omega⟩)) rfl ?_
      refine h_take 15 rfl (by kernel_rfl) rfl rfl rfl rfl (y_val tok rfl) rfl ?_
      refine h_take 16 rfl (by kernel_rfl) rfl rfl rfl rfl (y_val tok rfl) rfl ?_
      have hcut := hL.cut (lo := 0) (hi := i) (by omega) hi
      simp only [List.drop_zero, Nat.sub_zero] at hcut
      have hlt_x := lt_of_at h_x
      refine h_take 17 rfl (by kernel_rfl) rfl rfl rfl rfl (y_idx tok rfl (fun hg => hL.sl) (fun hg => ⟨by omega, by omega⟩)) rfl ?_
      refine h_take 18 rfl (by kernel_rfl) rfl rfl rfl rfl (y_fel tok rfl (fun hg => hL.sl) (fun hg => by omega)) rfl ?_
      refine h_take 19 rfl (by kernel_rfl) rfl rfl rfl rfl (y_lel tok (i) 0 (x) rfl (fun hg => hL) (fun hg => h_x) rfl rfl) rfl ?_
      refine h_take 20 rfl (by kernel_rfl) rfl rfl rfl rfl (y_val tok rfl) rfl ?_
      refine h_one 21 (by kernel_rfl) ?_
      refine h_yield 21 rfl rfl rfl rfl (y_val tok rfl) ?_
      refine h_one 22 (by kernel_rfl) ?_
      have hlt_x := lt_of_at h_x
      refine h_yield 22 rfl rfl rfl rfl (y_idx tok rfl (fun hg => hL.sl) (fun hg => ⟨by omega, by omega⟩)) ?_
      refine h_one 23 (by kernel_rfl) ?_
      refine h_yield 23 rfl rfl rfl rfl (y_fel tok rfl (fun hg => hL.sl) (fun hg => by omega)) ?_
      refine h_one 24 (by kernel_rfl) ?_
      refine h_yield 24 rfl rfl rfl rfl (y_lel tok (i) 1 (x) rfl (fun hg => hL) (fun hg => h_x) rfl rfl) ?_
      refine h_one 25 (by kernel_rfl) ?_
      refine h_call 25 (.a (.v _)) rfl rfl rfl fnok59 rfl rfl rfl (fun hg E w1 hm => by exact spRtouches_c (vw w1) _ (L.take i) x.key x.lo x.hi _ (Vw.le.refl _) (hcut.mono hm.leV) (by rw [List.length_take]; omega)) ?_
      refine h_one 26 (by kernel_rfl) ?_
      refine h_yield 26 rfl rfl rfl rfl (y_val tok rfl) ?_
      refine h_one 27 (by kernel_rfl) ?_
      refine h_yield 27 rfl rfl rfl rfl (y_val tok rfl) ?_
      refine h_take 28 rfl (by kernel_rfl) rfl rfl rfl rfl (y_val tok rfl) rfl ?_
      refine h_take 29 rfl (by kernel_rfl) rfl rfl rfl rfl (y_val tok rfl) rfl ?_
      refine h_one 30 (by kernel_rfl) ?_
      refine h_yield 30 rfl rfl rfl rfl (y_val tok rfl) ?_
      refine h_one 31 (by kernel_rfl) ?_
      have hlt_x := lt_of_at h_x
      refine h_yield 31 rfl rfl rfl rfl (y_idx tok rfl (fun hg => hL.sl) (fun hg => ⟨by omega, by omega⟩)) ?_
      refine h_one 32 (by kernel_rfl) ?_
      refine h_yield 32 rfl rfl rfl rfl (y_fel tok rfl (fun hg => hL.sl) (fun hg => by omega)) ?_
      refine h_one 33 (by kernel_rfl) ?_
      refine h_yield 33 rfl rfl rfl rfl (y_lel tok (i) 0 (x) rfl (fun hg => hL) (fun hg => h_x) rfl rfl) ?_
      refine h_one 34 (by kernel_rfl) ?_
      have hle01 := hV.trans hle1
      refine h_callV 34 (fun v V' => SlOf V' Hold.cells 4 v (L.filter fun h => h.key == x.key)) rfl rfl rfl fnok60 rfl rfl (fun hg E w1 hm => by exact hall0 V1 w1 hle01 hm.leV x.key) ?_
      rintro v2 V2 hle2 hv2
      refine h_one 35 (by kernel_rfl) ?_
      refine h_yield 35 rfl rfl rfl rfl (y_len tok rfl (fun hg => (hv2 hg).sl)) ?_
      refine h_one 36 (by kernel_rfl) ?_
      refine h_yield 36 rfl rfl rfl rfl (y_val tok rfl) ?_
      refine h_one 37 (by kernel_rfl) ?_
      refine h_yield 37 rfl rfl rfl rfl (y_val tok rfl) ?_
      refine h_done [2, 3, 5, 6, 86] (by kernel_rfl) rfl ?_
      refine x_then ?_
      refine c_cond rfl (fun h => ?_) (fun h => ?_)
      ·
        refine c_seq ?_
        refine c_region ?_
        refine o_yield rfl rfl rfl (y_val tok rfl) ?_
        refine o_end [4] rfl ?_
        refine x_then ?_
        refine c_ret ?_
        refine x_block_ret ?_
        refine x_then_ret ?_
        refine x_then_ret ?_
        refine x_block_ret ?_
        refine x_then_ret ?_
        refine b_ret tok rfl ?_
        have hno : ¬ TbOk g.slots g.blocks t := by
          intro hok
          obtain ⟨⟨e1, e2⟩, e3, e4⟩ := (hpi.1 hok.toTbPre).2 i x h_x
          have e4' : (L.filter fun h => h.key == x.key).length ≤ 64 := e4
          rw [e2, e3, decide_eq_true e1] at h
          simp at h
          omega
        intro E w' hm _
        refine ⟨?_, hm.below (by repeat (first | exact Vw.le.refl _ | assumption | (refine Vw.le.trans ?_ (by assumption))))⟩
        rw [cdec_false hno]; rfl
      ·
        refine c_skip ?_
        refine x_block ?_
        refine x_then ?_
        refine c_region ?_
        refine o_yield rfl rfl rfl (y_val tok rfl) ?_
        refine o_yield rfl rfl rfl (y_val tok rfl) ?_
        refine o_yield rfl rfl rfl (y_val tok rfl) ?_
        refine o_end [2, 3, 5, 6] rfl ?_
        refine x_then ?_
        have hg1 : goodAt t.S g.blocks L i x := by
          simp only [Bool.or_eq_false_iff, Bool.not_eq_false', decide_eq_true_eq, decide_eq_false_iff_not] at h
          obtain ⟨⟨⟨e1, e2⟩, e3⟩, e4⟩ := h
          exact ⟨⟨e1, e2⟩, e3, by show (L.filter fun h => h.key == x.key).length ≤ 64; omega⟩
        have hgood2 : ∀ (j : Nat) (y : Hold), j < i + 1 → L[j]? = some y → goodAt t.S g.blocks L j y := by
          intro j y hj hy
          rcases Nat.lt_or_ge j i with hlt | hge
          · exact hgood j y hlt hy
          · have e : j = i := by omega
            subst e
            rw [h_x] at hy
            cases hy
            exact hg1
        rw [wrapI (by omega) (by omega)]
        refine x_round (i + 1) (⟨by omega, hgood2⟩) (by first | omega | (dsimp only; omega)) (by repeat (first | exact SubF.nil | refine SubF.cons rfl ?_)) (by repeat (first | exact SubO.nil | refine SubO.cons rfl ?_)) rfl (hle2)
    ·
      simp only [Bool.and_eq_true, Bool.or_eq_true, Bool.not_eq_true', Bool.or_eq_false_iff, Bool.and_eq_false_iff, decide_eq_true_eq, decide_eq_false_iff_not, beq_iff_eq, bne_iff_ne, Bool.not_eq_false', beq_eq_false_iff_ne, bne_eq_false_iff_eq, ne_eq, Decidable.not_not, Int.not_lt, Int.not_le] at h
      have hil : i = L.length := by omega
      have hpre2 := hpi.2 ⟨hpre, fun j x hx => hgood j x (by rw [hil]; exact lt_of_at hx) hx⟩
      clear h
      have hgr : ∀ w1, V1.le (vw w1) → Calls Try.prog 61 #[.agg #[.slice a n c, .slice a2 n2 c2, .slice a3 n3 c3]] w1 (TbOut V1 t.grant w1) := fun w1 h => rgrant_c V1 _ t w1 ht h (h0.mono (hV.trans hle1))
      refine c_exit ?_
      refine x_then_exit ?_
      refine x_then_exit ?_
      refine x_block_hit ?_
      refine x_then ?_
      refine c_seq ?_
      refine c_heldR mixed rfl (by repeat (first | exact SubO.nil | refine SubO.cons rfl ?_)) (by first | rfl | simp [okCels, allOk_plain]) ?_
      refine t_take 0 rfl (by kernel_rfl) rfl rfl rfl (y_val tok rfl) rfl ?_
      refine t_take 4 rfl (by kernel_rfl) rfl rfl rfl (y_val tok rfl) rfl ?_
      refine t_take 5 rfl (by kernel_rfl) rfl rfl rfl (y_val tok rfl) rfl ?_
      refine t_take 6 rfl (by kernel_rfl) rfl rfl rfl (y_len tok rfl (fun hg => (hQ.mono hle1).sl)) rfl ?_
      refine t_go ?_
      refine h_one 1 (by kernel_rfl) ?_
      refine h_callV 1 (fun v V' => TbIs V' v t.grant) rfl rfl rfl fnok61 rfl rfl (fun hg E w1 hm => by exact hgr w1 hm.leV) ?_
      rintro v3 V3 hle3 hv3
      obtain ⟨b1, m1, d1, b2, m2, d2, b3, m3, d3, rfl, k1, k2, k3⟩ := hv3 rfl
      refine h_one 2 (by kernel_rfl) ?_
      refine h_yield 2 rfl rfl rfl rfl (y_val tok rfl) ?_
      refine h_one 3 (by kernel_rfl) ?_
      refine h_yield 3 rfl rfl rfl rfl (y_len tok rfl (fun hg => k3.sl)) ?_
      refine h_one 7 (by kernel_rfl) ?_
      refine h_yield 7 rfl rfl rfl rfl (y_val tok rfl) ?_
      refine h_one 8 (by kernel_rfl) ?_
      refine h_yield 8 rfl rfl rfl rfl (y_val tok rfl) ?_
      refine h_done [4] (by kernel_rfl) rfl ?_
      refine x_then ?_
      refine c_ret ?_
      refine b_ret tok rfl ?_
      intro E w' hm _
      refine ⟨?_, hm.below (by repeat (first | exact Vw.le.refl _ | assumption | (refine Vw.le.trans ?_ (by assumption))))⟩
      have hd : cdec (TbOk g.slots g.blocks t) = (((t.grant.Q.length : Nat) : Int) == ((t.Q.length : Nat) : Int)) := by
        rw [Bool.eq_iff_iff, cdec_iff, ok_iff, beq_iff_eq]
        constructor
        · intro h; omega
        · intro h; exact ⟨hpre2, by omega⟩
      rw [hd]; rfl
end Go.Proofs.Ytiapfhcimekdkaa
