import Derived.Test.YtikdaehmaaogdaaMRn1
/- A transaction's records: the document's. -/
set_option linter.unusedVariables false
set_option linter.unusedSimpArgs false
set_option maxRecDepth 100000
namespace Go.Proofs.Ytikdaehmaaogdaa
open Go Go.Eng Go.RowKit

theorem rest_list (t : ByteArray) : ∀ k, (restAt t k).data.toList = t.data.toList.drop (256 * k)
  | 0 => by simp [restAt]
  | k + 1 => by
    have hz := size_list (restAt t k)
    rw [restAt, tailOf, ByteArray.data_extract, Array.toList_extract, List.extract_eq_take_drop]
    rw [List.take_of_length_le (by rw [List.length_drop]; omega), ← hz]
    have hr := rest_list t k
    by_cases h : (restAt t k).data.toList.length ≤ 256
    · rw [Nat.min_eq_left h, List.drop_length]
      rw [hr, List.length_drop] at h
      rw [List.drop_of_length_le (by omega)]
    · rw [Nat.min_eq_right (by omega), hr, List.drop_drop]
      congr 1

theorem piece_list (t : ByteArray) (k : Nat) : (pieceAt t k).data.toList = (t.data.toList.drop (256 * k)).take 256 := by
  have hz := size_list (restAt t k)
  rw [pieceAt, headOf, ByteArray.data_extract, Array.toList_extract, List.extract_eq_take_drop, List.drop_zero, Nat.sub_zero, ← rest_list, ← hz]
  by_cases h : (restAt t k).data.toList.length ≤ 256
  · rw [Nat.min_eq_left h, List.take_of_length_le (Nat.le_refl _), List.take_of_length_le h]
  · rw [Nat.min_eq_right (by omega)]

theorem refPiece_c (t : ByteArray) (k : Nat) (hk : k ≤ 100) (ht : t.size ≤ maxLen) (w : World) : Calls Try.prog 62 #[S t, I k] w fun e w' => e = .returned (S (pieceAt t k)) ∧ Below w.heap.size w w' := by
  simp only [maxLen] at ht
  have hz := size_list t
  refine enter (E := E0) (O := []) (nl := 0) (V := vw w) [.a (.v (S t)), .a (.v (I k))] Try.func62 rfl rfl (mem0 E0 0 w) rfl rfl ?_
  refine c_seq ?_
  refine c_region ?_
  refine o_yield rfl rfl rfl (y_val tok rfl) ?_
  refine o_end [0, 1] rfl ?_
  refine x_then ?_
  refine c_seq ?_
  refine c_region ?_
  refine o_yield rfl rfl rfl (y_val tok rfl) ?_
  refine o_yield rfl rfl rfl (y_val tok rfl) ?_
  refine o_yield rfl rfl rfl (y_val tok rfl) ?_
  refine o_yield rfl rfl rfl (y_val tok rfl) ?_
  refine o_yield rfl rfl rfl (y_mm rfl) ?_
  refine o_yield rfl rfl rfl (y_val tok rfl) ?_
  refine o_yield rfl rfl rfl (y_val tok rfl) ?_
  refine o_yield rfl rfl rfl (y_val tok rfl) ?_
  refine o_yield rfl rfl rfl (y_val tok rfl) ?_
  refine o_yield rfl rfl rfl (y_val tok rfl) ?_
  refine o_yield rfl rfl rfl (y_mm rfl) ?_
  refine o_yield rfl rfl rfl (y_val tok rfl) ?_
  refine o_yield rfl rfl rfl (y_val tok rfl) ?_
  refine o_end [0, 5, 6] rfl ?_
  refine x_then ?_
  refine c_seq ?_
  refine c_region ?_
  refine o_yield rfl rfl rfl (y_val tok rfl) ?_
  refine o_yield rfl rfl rfl (y_val tok rfl) ?_
  refine o_yield rfl rfl rfl (y_val tok rfl) ?_
  rw [wrapI (n := (k : Int) * 256) (by omega) (by omega), wrapI (n := (k : Int) + 1) (by omega) (by omega), wrapI (n := ((k : Int) + 1) * 256) (by omega) (by omega)]
  refine o_yield rfl rfl rfl (y_ss tok rfl (fun hg => by simp only [Option.getD, cond_false]; omega)) ?_
  refine o_yield rfl rfl rfl (y_val tok rfl) ?_
  refine o_end [4] rfl ?_
  refine x_then ?_
  refine c_ret ?_
  refine b_ret tok rfl ?_
  intro E w' hm _
  refine ⟨?_, hm.below (Vw.le.refl _)⟩
  show Ending.returned (S (t.extract (min ((k : Int) * 256) (t.size : Int)).toNat (min (((k : Int) + 1) * 256) (t.size : Int)).toNat)) = _
  congr 2
  apply str_ext
  rw [piece_list, ByteArray.data_extract, Array.toList_extract, List.extract_eq_take_drop]
  by_cases h : t.size ≤ 256 * k
  · rw [List.drop_of_length_le (l := t.data.toList) (i := 256 * k) (by omega), List.drop_of_length_le (by omega)]
    simp
  · rw [show (min ((k : Int) * 256) (t.size : Int)).toNat = 256 * k by omega]
    by_cases h2 : t.size ≤ 256 * (k + 1)
    · rw [show (min (((k : Int) + 1) * 256) (t.size : Int)).toNat = t.size by omega, List.take_of_length_le (by rw [List.length_drop]; omega), List.take_of_length_le (by rw [List.length_drop]; omega)]
    · rw [show (min (((k : Int) + 1) * 256) (t.size : Int)).toNat = 256 * k + 256 by omega, Nat.add_sub_cancel_left]

theorem ahead_succ' {α : Type} {l : List α} {k : Nat} {R : Nat → α → Prop} {x : α} (hx : l[k]? = some x) (h : ∀ j y, j < k → l[j]? = some y → R j y) (hr : R k x) : ∀ j y, j < k + 1 → l[j]? = some y → R j y := by
  intro j y hj hy
  by_cases hjk : j = k
  · subst hjk; rw [hx] at hy; cases hy; exact hr
  · exact h j y (by omega) hy

theorem rOf_c (V : Vw) (g : Geo) (ok : g.Ok) (key lsn : Int) (sv : Value) (l : List Block) (w : World) (hV : V.le (vw w)) (hs0 : SlOf V Block.cells 2 sv l) (hn : l.length ≤ lim) :
    Calls Try.prog 21 #[g.val, I key, I lsn, sv] w (OfPost g key lsn l w) := by
  have hs := hs0.mono hV
  simp only [lim] at hn
  refine enter (E := E0) (O := []) (nl := 0) (V := vw w) [.a (.v g.val), .a (.v (I key)), .a (.v (I lsn)), .a (.v sv)] Try.func21 rfl rfl (mem0 E0 0 w) rfl rfl ?_
  refine c_seq ?_
  refine c_region ?_
  refine o_new tok rfl rfl rfl rfl ?_
  refine o_yield rfl rfl rfl (y_val tok rfl) ?_
  refine o_yield rfl rfl rfl (y_val tok rfl) ?_
  refine o_end [1, 2, 3, 4] rfl ?_
  refine x_then ?_
  refine c_seq ?_
  refine c_seq ?_
  refine c_region ?_
  refine o_yield rfl rfl rfl (y_val tok rfl) ?_
  refine o_call (.a (.v _)) rfl rfl fnok17 rfl rfl rfl (fun hg E w1 hm => by exact refMay_c g ok _) ?_
  refine o_yield rfl rfl rfl (y_val tok rfl) ?_
  refine o_yield rfl rfl rfl (y_val tok rfl) ?_
  refine o_yield rfl rfl rfl (y_val tok rfl) ?_
  refine o_yield rfl rfl rfl (y_len tok rfl (fun hg => hs.sl)) ?_
  refine o_yield rfl rfl rfl (y_val tok rfl) ?_
  refine o_yield rfl rfl rfl (y_val tok rfl) ?_
  refine o_yield rfl rfl rfl (y_val tok rfl) ?_
  refine o_yield rfl rfl rfl (y_val tok rfl) ?_
  refine o_yield rfl rfl rfl (y_len tok rfl (fun hg => hs.sl)) ?_
  refine o_yield rfl rfl rfl (y_val tok rfl) ?_
  refine o_yield rfl rfl rfl (y_val tok rfl) ?_
  refine o_yield rfl rfl rfl (y_val tok rfl) ?_
  refine o_yield rfl rfl rfl (y_val tok rfl) ?_
  refine o_yield rfl rfl rfl (y_val tok rfl) ?_
  refine o_yield rfl rfl rfl (y_val tok rfl) ?_
  refine o_yield rfl rfl rfl (y_val tok rfl) ?_
  refine o_yield rfl rfl rfl (y_val tok rfl) ?_
  refine o_yield rfl rfl rfl (y_val tok rfl) ?_
  refine o_yield rfl rfl rfl (y_val tok rfl) ?_
  refine o_yield rfl rfl rfl (y_val tok rfl) ?_
  refine o_yield rfl rfl rfl (y_val tok rfl) ?_
  refine o_end [1, 2, 3, 4, 36] rfl ?_
  refine x_then ?_
  refine c_cond rfl (fun h => ?_) (fun h => ?_)
  ·
    refine c_seq ?_
    refine c_region ?_
    refine o_yield rfl rfl rfl (y_val tok rfl) ?_
    refine o_yield rfl rfl rfl (y_val tok rfl) ?_
    refine o_end [8, 9] rfl ?_
    refine x_then ?_
    refine c_ret ?_
    refine x_then_ret ?_
    refine b_ret tok rfl ?_
    intro E w' hm _
    refine ⟨.inr ⟨fun hok => ?_, rfl⟩, hm.below (Vw.le.refl _)⟩
    have h1 := hok.geo
    have h2 := hok.some_
    have h3 := hok.few
    have h4 := hok.lsnB
    have h5 : l.length ≠ 0 := fun h => h2 (List.eq_nil_of_length_eq_zero h)
    simp only [belowB, Bool.and_eq_true, decide_eq_true_eq] at h4
    simp only [h1, Bool.not_true, Bool.false_or, Bool.or_eq_true, decide_eq_true_eq, beq_iff_eq] at h
    omega
  ·
    simp only [Bool.or_eq_false_iff, Bool.not_eq_false', decide_eq_false_iff_not, beq_eq_false_iff_ne] at h
    obtain ⟨⟨⟨⟨hgg, hne⟩, hfew⟩, hl0⟩, hl1⟩ := h
    have hf := geo_facts hgg
    obtain ⟨per, hper⟩ : ∃ per : Nat, g.per = per := ⟨g.per.toNat, by omega⟩
    have hpn : g.per.toNat = per := by omega
    have hlen : l.length ≤ 64 := by omega
    refine c_skip ?_
    refine x_then ?_
    refine c_seq ?_
    refine c_region ?_
    refine o_yield rfl rfl rfl (y_val tok rfl) ?_
    refine o_end [1, 2, 3, 4, 10] rfl ?_
    refine x_then ?_
    refine c_seq ?_
    refine c_seq ?_
    refine c_region ?_
    refine o_yield rfl rfl rfl (y_val tok rfl) ?_
    refine o_end [1, 2, 3, 4, 10, 11] rfl ?_
    refine x_then ?_
    refine c_block ?_
    refine k_nil 10 25 6 rfl rfl ?_
    have e0 : recs key lsn per l (0 * per) = [] := by simp [recs]
    refine c_loopK [1, 2, 3, 4] [1] rfl rfl (σ := Nat) (fun i => [(10, .a (.row 1)), (11, .a (.v (I i)))]) (fun i => [(1, .row 25 6 (recs key lsn per l (i * per)).length ((recs key lsn per l (i * per)).flatMap Record.cells))]) (fun i => i ≤ l.length ∧ (∀ i' b, i' < i → l[i']? = some b → BlkOk g l i' b) ∧ -1 ≤ lastN l i) (fun i => l.length - i) (0) (⟨by omega, by omega, by simp [lastN]⟩) (by repeat (first | exact SubF.nil | refine SubF.cons rfl ?_ | refine SubF.cons (by simp only [e0]; first | done | rfl) ?_)) (by repeat (first | exact SubO.nil | refine SubO.cons rfl ?_ | refine SubO.cons (by simp only [e0]; first | done | rfl) ?_)) rfl ?_
    rintro i ⟨hi, hblk, hlast⟩
    have hlc : (i = 0 ∧ lastN l i = -1) ∨ (0 < i ∧ lastN l i = (blkAt l (i - 1)).n) := by
      cases i with
      | zero => exact .inl ⟨rfl, rfl⟩
      | succ j => exact .inr ⟨by omega, rfl⟩
    have hip : i * per ≤ 512 := by
      have : i * per ≤ 64 * per := Nat.mul_le_mul_right _ (by omega)
      omega
    refine c_seq ?_
    refine c_seq ?_
    refine c_region ?_
    refine o_yield rfl rfl rfl (y_val tok rfl) ?_
    refine o_yield rfl rfl rfl (y_val tok rfl) ?_
    refine o_yield rfl rfl rfl (y_len tok rfl (fun hg => hs.sl)) ?_
    refine o_yield rfl rfl rfl (y_val tok rfl) ?_
    refine o_end [1, 2, 3, 4, 10, 11, 40] rfl ?_
    refine x_then ?_
    refine c_cond rfl (fun h => ?_) (fun h => ?_)
    ·
      simp only [Bool.and_eq_true, Bool.or_eq_true, Bool.not_eq_true', Bool.or_eq_false_iff, Bool.and_eq_false_iff, decide_eq_true_eq, decide_eq_false_iff_not, beq_iff_eq, bne_iff_ne, Bool.not_eq_false', beq_eq_false_iff_ne, bne_eq_false_iff_eq, ne_eq, Decidable.not_not, Int.not_lt, Int.not_le] at h
      refine c_skip ?_
      refine x_then ?_
      refine c_seq ?_
      refine c_block ?_
      refine c_seq ?_
      refine c_seq ?_
      refine c_draw mixed (by kernel_rfl) ?_
      refine d_yield rfl rfl rfl (y_val tok rfl) rfl ?_
      refine d_yield rfl rfl rfl (y_val tok rfl) rfl ?_
      obtain ⟨x, h_x⟩ := hs.at (k := i) (by omega)
      have hwp : IntKind.i64.wrap (g.per * 256) = g.per * 256 := wrapI (by omega) (by omega)
      have hlt_x := lt_of_at h_x
      refine d_yield rfl rfl rfl (y_idx tok rfl (fun hg => hs.sl) (fun hg => ⟨by omega, by omega⟩)) rfl ?_
      refine d_yield rfl rfl rfl (y_fel tok rfl (fun hg => hs.sl) (fun hg => by omega)) rfl ?_
      refine d_yield rfl rfl rfl (y_lel tok (i) 0 (x) rfl (fun hg => hs) (fun hg => h_x) rfl rfl) rfl ?_
      refine d_yield rfl rfl rfl (y_val tok rfl) rfl ?_
      refine d_yield rfl rfl rfl (y_val tok rfl) rfl ?_
      refine d_yield rfl rfl rfl (y_val tok rfl) rfl ?_
      refine d_yield rfl rfl rfl (y_val tok rfl) rfl ?_
      have hlt_x := lt_of_at h_x
      refine d_yield rfl rfl rfl (y_idx tok rfl (fun hg => hs.sl) (fun hg => ⟨by omega, by omega⟩)) rfl ?_
      refine d_yield rfl rfl rfl (y_fel tok rfl (fun hg => hs.sl) (fun hg => by omega)) rfl ?_
      refine d_yield rfl rfl rfl (y_lel tok (i) 0 (x) rfl (fun hg => hs) (fun hg => h_x) rfl rfl) rfl ?_
      refine d_yield rfl rfl rfl (y_val tok rfl) rfl ?_
      refine d_yield rfl rfl rfl (y_val tok rfl) rfl ?_
      refine d_yield rfl rfl rfl (y_val tok rfl) rfl ?_
      refine d_yield rfl rfl rfl (y_val tok rfl) rfl ?_
      refine d_yield rfl rfl rfl (y_val tok rfl) rfl ?_
      refine d_yield rfl rfl rfl (y_val tok rfl) rfl ?_
      refine d_yield rfl rfl rfl (y_val tok rfl) rfl ?_
      refine d_yield rfl rfl rfl (y_val tok rfl) rfl ?_
      refine d_yield rfl rfl rfl (y_val tok rfl) rfl ?_
      refine d_yield rfl rfl rfl (y_val tok rfl) rfl ?_
      have hlt_x := lt_of_at h_x
      refine d_yield rfl rfl rfl (y_idx tok rfl (fun hg => hs.sl) (fun hg => ⟨by omega, by omega⟩)) rfl ?_
      refine d_yield rfl rfl rfl (y_fel tok rfl (fun hg => hs.sl) (fun hg => by omega)) rfl ?_
      refine d_yield rfl rfl rfl (y_lel tok (i) 0 (x) rfl (fun hg => hs) (fun hg => h_x) rfl rfl) rfl ?_
      refine d_yield rfl rfl rfl (y_val tok rfl) rfl ?_
      refine d_yield rfl rfl rfl (y_val tok rfl) rfl ?_
      refine d_yield rfl rfl rfl (y_val tok rfl) rfl ?_
      refine d_yield rfl rfl rfl (y_idxK tok ((i - 1) * 2) rfl (by rw [wrapI (by omega) (by omega)]; dsimp only; omega) (fun hg => hs.sl) (fun hg => by simp at hg; rw [wrapI (by omega) (by omega)]; omega)) rfl ?_
      refine d_yield rfl rfl rfl (y_fel tok rfl (fun hg => hs.sl) (fun hg => by omega)) rfl ?_
      refine d_yield rfl rfl rfl (y_lel tok (i - 1) 0 (blkAt l (i - 1)) rfl (fun hg => hs) (fun hg => by rw [blkAt, List.getD, List.getElem?_eq_getElem (by omega)]; rfl) rfl rfl) rfl ?_
      refine d_yield rfl rfl rfl (y_val tok rfl) rfl ?_
      refine d_yield rfl rfl rfl (y_val tok rfl) rfl ?_
      refine d_yield rfl rfl rfl (y_val tok rfl) rfl ?_
      refine d_yield rfl rfl rfl (y_val tok rfl) rfl ?_
      refine d_yield rfl rfl rfl (y_val tok rfl) rfl ?_
      refine d_yield rfl rfl rfl (y_val tok rfl) rfl ?_
      have hlt_x := lt_of_at h_x
      refine d_yield rfl rfl rfl (y_idx tok rfl (fun hg => hs.sl) (fun hg => ⟨by omega, by omega⟩)) rfl ?_
      refine d_yield rfl rfl rfl (y_fel tok rfl (fun hg => hs.sl) (fun hg => by omega)) rfl ?_
      refine d_yield rfl rfl rfl (y_lel tok (i) 1 (x) rfl (fun hg => hs) (fun hg => h_x) rfl rfl) rfl ?_
      refine d_yield rfl rfl rfl (y_val tok rfl) rfl ?_
      refine d_yield rfl rfl rfl (y_val tok rfl) rfl ?_
      refine d_yield rfl rfl rfl (y_val tok rfl) rfl ?_
      refine d_yield rfl rfl rfl (y_val tok rfl) rfl ?_
      refine d_yield rfl rfl rfl (y_val tok rfl) rfl ?_
      refine d_yield rfl rfl rfl (y_val tok rfl) rfl ?_
      refine d_end [1, 2, 3, 4, 10, 11, 88] rfl ?_
      refine x_then ?_
      refine c_cond rfl (fun h => ?_) (fun h => ?_)
      ·
        simp only [Bool.and_eq_true, Bool.or_eq_true, Bool.not_eq_true', Bool.or_eq_false_iff, Bool.and_eq_false_iff, decide_eq_true_eq, decide_eq_false_iff_not, beq_iff_eq, bne_iff_ne, Bool.not_eq_false', beq_eq_false_iff_ne, bne_eq_false_iff_eq, ne_eq, Decidable.not_not, Int.not_lt, Int.not_le] at h
        refine c_seq ?_
        refine c_region ?_
        refine o_yield rfl rfl rfl (y_val tok rfl) ?_
        refine o_yield rfl rfl rfl (y_val tok rfl) ?_
        refine o_end [8, 9] rfl ?_
        refine x_then ?_
        refine c_ret ?_
        refine x_then_ret ?_
        refine x_block_ret ?_
        refine x_then_ret ?_
        refine x_then_ret ?_
        refine x_block_ret ?_
        refine x_then_ret ?_
        refine b_ret tok rfl ?_
        intro E w' hm _
        refine ⟨.inr ⟨fun hok => ?_, rfl⟩, hm.below (Vw.le.refl _)⟩
        obtain ⟨k1, k2, k3⟩ := hok.blks i x h_x
        omega
      ·
        simp only [Bool.and_eq_true, Bool.or_eq_true, Bool.not_eq_true', Bool.or_eq_false_iff, Bool.and_eq_false_iff, decide_eq_true_eq, decide_eq_false_iff_not, beq_iff_eq, bne_iff_ne, Bool.not_eq_false', beq_eq_false_iff_ne, bne_eq_false_iff_eq, ne_eq, Decidable.not_not, Int.not_lt, Int.not_le] at h
        have hbo : BlkOk g l i x := ⟨by omega, by omega, by omega⟩
        have hx0 : 0 ≤ x.n := by omega
        clear h
        refine c_skip ?_
        refine x_then ?_
        refine c_seq ?_
        refine c_region ?_
        refine o_yield rfl rfl rfl (y_val tok rfl) ?_
        refine o_end [1, 2, 3, 4, 10, 11, 12] rfl ?_
        refine x_then ?_
        refine c_block ?_
        rw [hper]
        refine c_loopK [1, 2, 3, 4, 11] [1] rfl rfl (σ := Nat) (fun k => [(10, .a (.row 1)), (12, .a (.v (I k)))]) (fun k => [(1, .row 25 6 (recs key lsn per l (i * per + k)).length ((recs key lsn per l (i * per + k)).flatMap Record.cells))]) (fun k => k ≤ per) (fun k => per - k) (0) (by omega) (by repeat (first | exact SubF.nil | refine SubF.cons rfl ?_)) (by repeat (first | exact SubO.nil | refine SubO.cons rfl ?_)) rfl ?_
        rintro k hk
        refine c_seq ?_
        refine c_seq ?_
        refine c_region ?_
        refine o_yield rfl rfl rfl (y_val tok rfl) ?_
        refine o_yield rfl rfl rfl (y_val tok rfl) ?_
        refine o_yield rfl rfl rfl (y_val tok rfl) ?_
        refine o_yield rfl rfl rfl (y_val tok rfl) ?_
        refine o_end [1, 2, 3, 4, 10, 11, 12, 92] rfl ?_
        refine x_then ?_
        refine c_cond rfl (fun h => ?_) (fun h => ?_)
        ·
          simp only [Bool.and_eq_true, Bool.or_eq_true, Bool.not_eq_true', Bool.or_eq_false_iff, Bool.and_eq_false_iff, decide_eq_true_eq, decide_eq_false_iff_not, beq_iff_eq, bne_iff_ne, Bool.not_eq_false', beq_eq_false_iff_ne, bne_eq_false_iff_eq, ne_eq, Decidable.not_not, Int.not_lt, Int.not_le] at h
          refine c_skip ?_
          refine x_then ?_
          refine c_seq ?_
          refine c_block ?_
          refine c_heldS [21] mixed rfl (by repeat (first | exact SubO.nil | refine SubO.cons rfl ?_)) (by first | rfl | simp [okCels, allOk_plain]) ?_
          refine t_takeD 0 rfl (by kernel_rfl) rfl rfl rfl (y_val tok rfl) rfl ?_
          refine t_takeD 1 rfl (by kernel_rfl) rfl rfl rfl (y_val tok rfl) rfl ?_
          refine t_takeD 2 rfl (by kernel_rfl) rfl rfl rfl (y_val tok rfl) rfl ?_
          refine t_takeD 3 rfl (by kernel_rfl) rfl rfl rfl (y_val tok rfl) rfl ?_
          have hklt : k < per := by omega
          have hrat := recAt_at key lsn per l h_x hklt
          have hwr : IntKind.i64.wrap (lsn + ((recs key lsn per l (i * per + k)).length : Int)) = lsn + (i * per + k : Nat) := by
            rw [recs_len, wrapI (by omega) (by omega)]
          have hl1 : (recs key lsn per l (i * per + k)).length + 1 = (recs key lsn per l (i * per + (k + 1))).length := by rw [recs_len, recs_len]; omega
          refine t_takeD 4 rfl (by kernel_rfl) rfl rfl rfl (y_val tok rfl) rfl ?_
          refine t_takeD 5 rfl (by kernel_rfl) rfl rfl rfl (y_val tok rfl) rfl ?_
          refine t_takeD 6 rfl (by kernel_rfl) rfl rfl rfl (y_val tok rfl) rfl ?_
          refine t_takeD 7 rfl (by kernel_rfl) rfl rfl rfl (y_val tok rfl) rfl ?_
          have hlt_x := lt_of_at h_x
          refine t_takeD 8 rfl (by kernel_rfl) rfl rfl rfl (y_idx tok rfl (fun hg => hs.sl) (fun hg => ⟨by omega, by omega⟩)) rfl ?_
          refine t_takeD 9 rfl (by kernel_rfl) rfl rfl rfl (y_fel tok rfl (fun hg => hs.sl) (fun hg => by omega)) rfl ?_
          refine t_takeD 10 rfl (by kernel_rfl) rfl rfl rfl (y_lel tok (i) 0 (x) rfl (fun hg => hs) (fun hg => h_x) rfl rfl) rfl ?_
          refine t_takeD 11 rfl (by kernel_rfl) rfl rfl rfl (y_val tok rfl) rfl ?_
          refine t_takeD 12 rfl (by kernel_rfl) rfl rfl rfl (y_val tok rfl) rfl ?_
          refine t_takeD 13 rfl (by kernel_rfl) rfl rfl rfl (y_val tok rfl) rfl ?_
          have hlt_x := lt_of_at h_x
          refine t_takeD 14 rfl (by kernel_rfl) rfl rfl rfl (y_idx tok rfl (fun hg => hs.sl) (fun hg => ⟨by omega, by omega⟩)) rfl ?_
          refine t_takeD 15 rfl (by kernel_rfl) rfl rfl rfl (y_fel tok rfl (fun hg => hs.sl) (fun hg => by omega)) rfl ?_
          refine t_takeD 16 rfl (by kernel_rfl) rfl rfl rfl (y_lel tok (i) 1 (x) rfl (fun hg => hs) (fun hg => h_x) rfl rfl) rfl ?_
          refine t_takeD 17 rfl (by kernel_rfl) rfl rfl rfl (y_val tok rfl) rfl ?_
          refine t_go ?_
          refine h_one 18 (by kernel_rfl) ?_
          have htx := hbo.size
          refine h_call 18 (.a (.v _)) rfl rfl rfl fnok62 rfl rfl rfl (fun hg E w1 hm => by exact refPiece_c x.text k (by omega) (by simp only [maxLen]; omega) _) ?_
          refine h_one 19 (by kernel_rfl) ?_
          refine h_yield 19 rfl rfl rfl rfl (y_val tok rfl) ?_
          refine h_one 20 (by kernel_rfl) ?_
          rw [hwr]
          refine h_to 20 rfl rfl rfl rfl rfl rfl (s_bs tok 6 rfl rfl rfl) (.inr fun _ _ => ⟨(by repeat (first | exact SubO.nil | refine SubO.cons rfl ?_)), rfl, (by first | exact Vw.le.refl _ | assumption)⟩) (fun _ _ => ?_)
          refine h_one 21 (by kernel_rfl) ?_
          refine h_to 21 rfl rfl rfl rfl rfl rfl (s_app tok (recAt key lsn per l (i * per + k)).cells rfl (fun E w hm => by rw [hrat]; exact ownsRow_src (hm.row _ _ _ _ _ rfl)) (fun _ _ _ => by simpa using rec_ones [recAt key lsn per l (i * per + k)]) (by dsimp only; rw [recs_len]; omega)) (.inl rfl) (fun _ _ => ?_)
          refine h_one 22 (by kernel_rfl) ?_
          refine h_yield 22 rfl rfl rfl rfl (y_val tok rfl) ?_
          refine h_done [1, 2, 3, 4, 10, 11, 12] (by kernel_rfl) rfl ?_
          refine x_block ?_
          refine x_then ?_
          refine c_region ?_
          refine o_yield rfl rfl rfl (y_val tok rfl) ?_
          refine o_yield rfl rfl rfl (y_val tok rfl) ?_
          refine o_yield rfl rfl rfl (y_val tok rfl) ?_
          refine o_end [1, 2, 3, 4, 10, 11, 12] rfl ?_
          refine x_then ?_
          rw [hl1, show (recs key lsn per l (i * per + k)).flatMap Record.cells ++ (recAt key lsn per l (i * per + k)).cells = (recs key lsn per l (i * per + (k + 1))).flatMap Record.cells by rw [← Nat.add_assoc, recs_succ]; simp]
          rw [wrapI (n := (k : Int) + 1) (by omega) (by omega)]
          refine k_swap 1 3 rfl ?_
          refine x_round (k + 1) (by omega) (by first | omega | (dsimp only; omega)) (by repeat (first | exact SubF.nil | refine SubF.cons rfl ?_)) (by repeat (first | exact SubO.nil | refine SubO.cons rfl ?_)) rfl (Vw.le.refl _)
        ·
          simp only [Bool.and_eq_true, Bool.or_eq_true, Bool.not_eq_true', Bool.or_eq_false_iff, Bool.and_eq_false_iff, decide_eq_true_eq, decide_eq_false_iff_not, beq_iff_eq, bne_iff_ne, Bool.not_eq_false', beq_eq_false_iff_ne, bne_eq_false_iff_eq, ne_eq, Decidable.not_not, Int.not_lt, Int.not_le] at h
          refine c_exit ?_
          refine x_then_exit ?_
          refine x_then_exit ?_
          refine x_block_hit ?_
          refine x_block ?_
          refine x_then ?_
          refine c_region ?_
          refine o_yield rfl rfl rfl (y_val tok rfl) ?_
          refine o_yield rfl rfl rfl (y_val tok rfl) ?_
          refine o_yield rfl rfl rfl (y_val tok rfl) ?_
          refine o_end [1, 2, 3, 4, 10, 11] rfl ?_
          refine x_then ?_
          have hkp : k = per := by omega
          subst hkp
          rw [wrapI (n := (i : Int) + 1) (by omega) (by omega), show i * k + k = (i + 1) * k by rw [Nat.add_mul, Nat.one_mul]]
          refine x_round (i + 1) (⟨by omega, ahead_succ' h_x hblk hbo, by rw [lastN_succ h_x]; omega⟩) (by first | omega | (dsimp only; omega)) (by repeat (first | exact SubF.nil | refine SubF.cons rfl ?_)) (by repeat (first | exact SubO.nil | refine SubO.cons rfl ?_)) rfl (Vw.le.refl _)
    ·
      simp only [Bool.and_eq_true, Bool.or_eq_true, Bool.not_eq_true', Bool.or_eq_false_iff, Bool.and_eq_false_iff, decide_eq_true_eq, decide_eq_false_iff_not, beq_iff_eq, bne_iff_ne, Bool.not_eq_false', beq_eq_false_iff_ne, bne_eq_false_iff_eq, ne_eq, Decidable.not_not, Int.not_lt, Int.not_le] at h
      have hil : i = l.length := by omega
      subst hil
      have hwr : IntKind.i64.wrap (lsn + ((recs key lsn per l (l.length * per)).length : Int)) = lsn + (l.length * per : Nat) := by
        rw [recs_len, wrapI (by omega) (by omega)]
      have hl1 : (recs key lsn per l (l.length * per)).length + 1 = (allRecs g key lsn l).length := by rw [recs_len, all_len, hpn]
      have hcm : commitOf key lsn (l.length * per) = ⟨key, lsn + (l.length * per : Nat), 0, 0, ByteArray.empty, ((recs key lsn per l (l.length * per)).length : Int)⟩ := by simp [commitOf, recs_len]
      have hall : (recs key lsn per l (l.length * per)).flatMap Record.cells ++ (commitOf key lsn (l.length * per)).cells = (allRecs g key lsn l).flatMap Record.cells := by
        rw [allRecs, hpn]; simp
      have hal := all_len g key lsn l
      rw [hpn] at hal
      refine c_exit ?_
      refine x_then_exit ?_
      refine x_then_exit ?_
      refine x_block_hit ?_
      refine x_then ?_
      refine c_seq ?_
      refine c_region ?_
      refine o_yield rfl rfl rfl (y_val tok rfl) ?_
      refine o_yield rfl rfl rfl (y_val tok rfl) ?_
      refine o_yield rfl rfl rfl (y_val tok rfl) ?_
      refine o_yield rfl rfl rfl (y_val tok rfl) ?_
      refine o_yield rfl rfl rfl (y_val tok rfl) ?_
      refine o_yield rfl rfl rfl (y_val tok rfl) ?_
      refine o_yield rfl rfl rfl (y_val tok rfl) ?_
      refine o_yield rfl rfl rfl (y_val tok rfl) ?_
      refine o_yield rfl rfl rfl (y_val tok rfl) ?_
      rw [hwr]
      refine o_step rfl rfl rfl rfl rfl (s_bs tok 6 rfl rfl rfl) (fun _ _ => ?_)
      refine o_step rfl rfl rfl rfl rfl (s_app tok (commitOf key lsn (l.length * per)).cells rfl (fun E w hm => by rw [hcm]; exact ownsRow_src (hm.row _ _ _ _ _ rfl)) (fun _ _ _ => by simpa using rec_ones [commitOf key lsn (l.length * per)]) (by dsimp only; rw [recs_len]; omega)) (fun _ _ => ?_)
      refine o_yield rfl rfl rfl (y_val tok rfl) ?_
      refine o_end [10] rfl ?_
      refine x_then ?_
      refine c_seq ?_
      refine c_seq ?_
      refine c_region ?_
      refine o_yield rfl rfl rfl (y_val tok rfl) ?_
      refine o_end [10, 13] rfl ?_
      refine x_then ?_
      refine c_block ?_
      rw [hl1, hall]
      refine c_loopK [10] [] rfl rfl (σ := Nat) (fun j => [(13, .a (.v (I j)))]) (fun j => []) (fun j => j ≤ (allRecs g key lsn l).length ∧ ∀ i r, i < j → (allRecs g key lsn l)[i]? = some r → recB r = true) (fun j => (allRecs g key lsn l).length - j) (0) (⟨by omega, by omega⟩) (by repeat (first | exact SubF.nil | refine SubF.cons rfl ?_)) (by repeat (first | exact SubO.nil | refine SubO.cons rfl ?_)) rfl ?_
      rintro j ⟨hj, hrec⟩
      refine c_seq ?_
      refine c_seq ?_
      refine c_region ?_
      refine o_yield rfl rfl rfl (y_val tok rfl) ?_
      refine o_yield rfl rfl rfl (y_val tok rfl) ?_
      refine o_yield rfl rfl rfl (y_val tok rfl) ?_
      refine o_yield rfl rfl rfl (y_val tok rfl) ?_
      refine o_end [10, 13, 131] rfl ?_
      refine x_then ?_
      refine c_cond rfl (fun h => ?_) (fun h => ?_)
      ·
        simp only [Bool.and_eq_true, Bool.or_eq_true, Bool.not_eq_true', Bool.or_eq_false_iff, Bool.and_eq_false_iff, decide_eq_true_eq, decide_eq_false_iff_not, beq_iff_eq, bne_iff_ne, Bool.not_eq_false', beq_eq_false_iff_ne, bne_eq_false_iff_eq, ne_eq, Decidable.not_not, Int.not_lt, Int.not_le] at h
        refine c_skip ?_
        refine x_then ?_
        refine c_seq ?_
        refine c_block ?_
        refine c_seq ?_
        refine c_region ?_
        refine o_yield rfl rfl rfl (y_val tok rfl) ?_
        refine o_yield rfl rfl rfl (y_val tok rfl) ?_
        obtain ⟨r, hr⟩ : ∃ r, (allRecs g key lsn l)[j]? = some r := ⟨(allRecs g key lsn l)[j]'(by omega), by simp⟩
        refine o_yield rfl rfl rfl (y_own (s := .a (.rel 3 (j * 6))) 3 rfl rfl (fun v V' hv => y_idxK tok (j * 6) rfl (by simp) (fun hg => hv) (fun hg => by omega))) ?_
        refine o_yield rfl rfl rfl (y_own (s := .agg (r.cells.map .v)) 3 rfl rfl (fun v V' hv => y_lel tok j 0 r rfl (fun hg => ⟨hv, fun _ => rfl⟩) (fun hg => hr) rfl rfl)) ?_
        refine o_call (.a (.v _)) rfl rfl fnok55 rfl rfl rfl (fun hg E w1 hm => by exact refRecMay_c r _) ?_
        refine o_yield rfl rfl rfl (y_val tok rfl) ?_
        refine o_end [10, 13, 139] rfl ?_
        refine x_then ?_
        refine c_cond rfl (fun h => ?_) (fun h => ?_)
        ·
          simp only [Bool.and_eq_true, Bool.or_eq_true, Bool.not_eq_true', Bool.or_eq_false_iff, Bool.and_eq_false_iff, decide_eq_true_eq, decide_eq_false_iff_not, beq_iff_eq, bne_iff_ne, Bool.not_eq_false', beq_eq_false_iff_ne, bne_eq_false_iff_eq, ne_eq, Decidable.not_not, Int.not_lt, Int.not_le] at h
          refine c_seq ?_
          refine c_region ?_
          refine o_yield rfl rfl rfl (y_val tok rfl) ?_
          refine o_yield rfl rfl rfl (y_val tok rfl) ?_
          refine o_end [8, 9] rfl ?_
          refine x_then ?_
          refine c_ret ?_
          refine x_block_ret ?_
          refine x_then_ret ?_
          refine x_then_ret ?_
          refine x_block_ret ?_
          refine x_then_ret ?_
          refine b_ret tok rfl ?_
          intro E w' hm _
          refine ⟨.inr ⟨fun hok => ?_, rfl⟩, hm.below (Vw.le.refl _)⟩
          have := all_recB hok hr
          rw [this] at h
          cases h
        ·
          simp only [Bool.and_eq_true, Bool.or_eq_true, Bool.not_eq_true', Bool.or_eq_false_iff, Bool.and_eq_false_iff, decide_eq_true_eq, decide_eq_false_iff_not, beq_iff_eq, bne_iff_ne, Bool.not_eq_false', beq_eq_false_iff_ne, bne_eq_false_iff_eq, ne_eq, Decidable.not_not, Int.not_lt, Int.not_le] at h
          refine c_skip ?_
          refine x_block ?_
          refine x_then ?_
          refine c_region ?_
          refine o_yield rfl rfl rfl (y_val tok rfl) ?_
          refine o_yield rfl rfl rfl (y_val tok rfl) ?_
          refine o_yield rfl rfl rfl (y_val tok rfl) ?_
          refine o_end [10, 13] rfl ?_
          refine x_then ?_
          rw [wrapI (n := (j : Int) + 1) (by omega) (by omega)]
          refine x_round (j + 1) (⟨by omega, ahead_succ' hr hrec h⟩) (by first | omega | (dsimp only; omega)) (by repeat (first | exact SubF.nil | refine SubF.cons rfl ?_)) (by repeat (first | exact SubO.nil | refine SubO.cons rfl ?_)) rfl (Vw.le.refl _)
      ·
        simp only [Bool.and_eq_true, Bool.or_eq_true, Bool.not_eq_true', Bool.or_eq_false_iff, Bool.and_eq_false_iff, decide_eq_true_eq, decide_eq_false_iff_not, beq_iff_eq, bne_iff_ne, Bool.not_eq_false', beq_eq_false_iff_ne, bne_eq_false_iff_eq, ne_eq, Decidable.not_not, Int.not_lt, Int.not_le] at h
        refine c_exit ?_
        refine x_then_exit ?_
        refine x_then_exit ?_
        refine x_block_hit ?_
        refine x_then ?_
        refine c_seq ?_
        refine c_region ?_
        refine o_yield rfl rfl rfl (y_val tok rfl) ?_
        refine o_yield rfl rfl rfl (y_val tok rfl) ?_
        refine o_yield rfl rfl rfl (y_val tok rfl) ?_
        refine o_end [8, 9] rfl ?_
        refine x_then ?_
        refine c_ret ?_
        refine b_ret tok rfl ?_
        have hjl : j = (allRecs g key lsn l).length := by omega
        subst hjl
        intro E w' hm _
        have hok : OfOk g key lsn l := by
          refine ⟨hgg, fun hc => hne (by rw [hc]; rfl), by omega, by simp only [belowB, Bool.and_eq_true, decide_eq_true_eq]; omega, fun i b hb => hblk i b (List.getElem?_eq_some_iff.1 hb).1 hb, fun j hj => ?_, ?_⟩
          · exact hrec j _ (by rw [hal, ← hpn]; omega) (all_at hj)
          · exact hrec (l.length * g.per.toNat) _ (by rw [hal, hpn]; omega) all_last
        exact ⟨.inl ⟨hok, E.κ 3, rfl, hm.rowFresh (Vw.le.refl _) (l := 3) rfl⟩, hm.below (Vw.le.refl _)⟩
end Go.Proofs.Ytikdaehmaaogdaa

/- What stands at a sector: the document's. -/
set_option linter.unusedVariables false
set_option linter.unusedSimpArgs false
set_option maxRecDepth 100000
namespace Go.Proofs.Ytikdaehmaaogdaa
open Go Go.Eng Go.RowKit

/-- Whether a sector is a header's, or a journal's. -/
def HeadAt (g : Geo) (q : Nat) (i : Nat) : Prop := (i : Int) < g.slots ∧ headV g (i : Int) = q
def JourAt (g : Geo) (q : Nat) (i j : Nat) : Prop := (i : Int) < g.slots ∧ (j : Int) < g.journal ∧ jourV g (i : Int) (j : Int) = q

theorem head_eq {g : Geo} (hg : geoB g = true) {i : Nat} (hi : (i : Int) < g.slots) : headV g (i : Int) = 1 + 2 * g.nodes + g.log + (i : Int) * (1 + g.journal) := by rw [headV, if_pos ⟨hg, by omega, hi⟩]

theorem jour_eq {g : Geo} (hg : geoB g = true) {i : Nat} (hi : (i : Int) < g.slots) {j : Int} (hj : 0 ≤ j) : jourV g (i : Int) j = 1 + 2 * g.nodes + g.log + (i : Int) * (1 + g.journal) + 1 + j % g.journal := by
  have h := (head_pos hg hi).1
  rw [jourV, if_neg (by omega), head_eq hg hi]

theorem slot_step {a i k : Int} (ha : 0 ≤ a) (h : i < k) : i * a + a ≤ k * a := by
  have := Int.mul_le_mul_of_nonneg_right (a := i + 1) (b := k) (c := a) (by omega) ha
  rw [Int.add_mul] at this
  omega

theorem head_jour {g : Geo} (hg : geoB g = true) {i k : Nat} (hi : (i : Int) < g.slots) (hk : (k : Int) < g.slots) {l : Int} (hl : 0 ≤ l) : headV g (i : Int) ≠ jourV g (k : Int) l := by
  intro h
  have hf := geo_facts hg
  rw [head_eq hg hi, jour_eq hg hk hl] at h
  have h3 := Int.emod_nonneg l (b := g.journal) (by omega)
  have h4 := Int.emod_lt_of_pos l (b := g.journal) (by omega)
  rcases Int.lt_trichotomy (i : Int) k with h5 | h5 | h5
  · have := slot_step (a := 1 + g.journal) (by omega) h5; omega
  · rw [h5] at h; omega
  · have := slot_step (a := 1 + g.journal) (by omega) h5; omega

structure WhatP (g : Geo) (q : Nat) (k a b : Int) : Prop where
  one : k = 1 ↔ q = 0
  head : k = 5 ↔ ∃ i, HeadAt g q i
  jour : k = 6 → ∃ i j : Nat, a = i ∧ b = j ∧ JourAt g q i j
  nojour : k ≠ 6 → ∀ i j, ¬ JourAt g q i j

end Go.Proofs.Ytikdaehmaaogdaa

/- Transactions behind one another are scanned as they are: what is plain. -/
set_option linter.unusedVariables false
set_option linter.unusedSimpArgs false
set_option maxRecDepth 100000
namespace Go.Proofs.Ytikdaehmaaogdaa
open Go Go.Eng Go.RowKit

theorem headS_small (n : Int) : (headS n).1.size ≤ 256 := by
  unfold headS
  split
  · simp only [strOf_size, sealL_len, leB, leTake_len]; decide
  · simp

theorem headR0 : ∃ hd : ByteArray, tailOk hd = some 0 ∧ hd.size ≤ 256 ∧ ∀ w, Calls Try.prog 12 #[I 0] w fun e w' => e = .returned (.tuple #[S hd, I 0]) ∧ Below w.heap.size w w' := by
  have h7 : fitsB 0 6 = true := by decide
  have e : headS 0 = (strOf (sealL 2 (leB 6 0)), 0) := by rw [headS, if_pos h7]
  have ht := tail_head h7
  rw [e] at ht
  refine ⟨strOf (sealL 2 (leB 6 0)), ht, ?_, fun w => ?_⟩
  · simp only [strOf_size, sealL_len]
    have : (leB 6 0).length = 6 := by simp [leB, leTake_len]
    omega
  · have := refHeadS_c 0 w
    rwa [e] at this

theorem emod_inj {t J : Int} {i j : Nat} (hi : (i : Int) < J) (hj : (j : Int) < J) (h : (t + i) % J = (t + j) % J) : i = j := by
  have h1 := (Int.emod_eq_emod_iff_emod_sub_eq_zero).1 h
  obtain ⟨c, hc⟩ := Int.dvd_of_emod_eq_zero h1
  have h2 : (i : Int) - j = J * c := by omega
  rcases Int.lt_trichotomy c 0 with h3 | h3 | h3
  · have := Int.mul_le_mul_of_nonneg_left (c := J) (show c ≤ -1 by omega) (by omega)
    rw [Int.mul_neg_one] at this
    omega
  · subst h3; omega
  · have := Int.mul_le_mul_of_nonneg_left (c := J) (show 1 ≤ c by omega) (by omega)
    rw [Int.mul_one] at this
    omega

theorem fold_none {n k : Int} : ∀ (l : List Record) (p : ByteArray), (∀ r ∈ l, isPc n k r = false) → l.foldl (fun p r => if isPc n k r = true then r.text else p) p = p
  | [], _, _ => rfl
  | r :: t, p, h => by
    rw [List.foldl_cons, h r (by simp), if_neg (by simp)]
    exact fold_none t p (fun x hx => h x (by simp [hx]))

theorem pieceF_none {l : List Record} {n k : Int} (h : ∀ r ∈ l, isPc n k r = false) : pieceF l n k = ByteArray.empty ∧ someF l n k = false :=
  ⟨fold_none l _ h, by rw [someF, List.any_eq_false]; exact fun r hr => by simp [h r hr]⟩

theorem pieceF_one {l : List Record} {n k : Int} {j : Nat} {r : Record} (hj : l[j]? = some r) (hr : isPc n k r = true) (hu : ∀ j' r', l[j']? = some r' → isPc n k r' = true → j' = j) : pieceF l n k = r.text ∧ someF l n k = true := by
  have hmem := List.mem_of_getElem? hj
  refine ⟨?_, by rw [someF, List.any_eq_true]; exact ⟨r, hmem, hr⟩⟩
  have hlt := lt_of_at hj
  have hsplit : l = l.take j ++ r :: l.drop (j + 1) := by rw [← drop_at hj, List.take_append_drop]
  rw [pieceF, hsplit, List.foldl_append, List.foldl_cons, hr, if_pos rfl]
  refine fold_none _ _ fun x hx => ?_
  obtain ⟨i, hi⟩ := List.mem_iff_getElem?.1 hx
  rw [List.getElem?_drop] at hi
  cases hq : isPc n k x with
  | false => rfl
  | true => have := hu _ _ hi hq; omega

theorem recs_at {key lsn : Int} {per : Nat} {l : List Block} {m j : Nat} {r : Record} (h : (recs key lsn per l m)[j]? = some r) : j < m ∧ r = recAt key lsn per l j := by
  have hlt := lt_of_at h
  rw [recs_len] at hlt
  have : (recs key lsn per l m)[j]? = some (recAt key lsn per l j) := by simp [recs, hlt]
  rw [this] at h
  exact ⟨hlt, (Option.some.inj h).symm⟩

theorem recs_get {key lsn : Int} {per : Nat} {l : List Block} {m j : Nat} (h : j < m) : (recs key lsn per l m)[j]? = some (recAt key lsn per l j) := by simp [recs, h]

theorem blk_asc {g : Geo} {l : List Block} (h : ∀ i b, l[i]? = some b → BlkOk g l i b) : ∀ (j : Nat) (b : Block), l[j]? = some b → 0 ≤ b.n ∧ ∀ (i : Nat) (a : Block), i < j → l[i]? = some a → a.n < b.n
  | 0, b, hb => by
    have := (h 0 b hb).last
    simp only [lastN] at this
    exact ⟨by omega, fun i a hi => by omega⟩
  | j + 1, b, hb => by
    have h1 := (h (j + 1) b hb).last
    obtain ⟨c, hc⟩ : ∃ c, l[j]? = some c := ⟨_, List.getElem?_eq_getElem (by have := lt_of_at hb; omega)⟩
    rw [lastN, blkAt_eq hc] at h1
    have ih := blk_asc h j c hc
    refine ⟨by omega, fun i a hi ha => ?_⟩
    by_cases he : i = j
    · subst he; rw [hc] at ha; cases ha; omega
    · have := ih.2 i a (by omega) ha
      omega

theorem blk_uniq {g : Geo} {l : List Block} (h : ∀ i b, l[i]? = some b → BlkOk g l i b) {i j : Nat} {a b : Block} (ha : l[i]? = some a) (hb : l[j]? = some b) (he : a.n = b.n) : i = j := by
  rcases Nat.lt_trichotomy i j with h1 | h1 | h1
  · have := (blk_asc h j b hb).2 i a h1 ha; omega
  · exact h1
  · have := (blk_asc h i a ha).2 j b h1 hb; omega

theorem isPc_at {key lsn : Int} {per : Nat} {l : List Block} {j : Nat} {n k : Int} : isPc n k (recAt key lsn per l j) = true ↔ (blkAt l (j / per)).n = n ∧ ((j % per : Nat) : Int) = k := by
  simp [isPc, recAt]

theorem text_in {g : Geo} {key lsn : Int} {l : List Block} (hok : OfOk g key lsn l) {i : Nat} {b : Block} (hb : l[i]? = some b) : textTo (recs key lsn g.per.toNat l (l.length * g.per.toNat)) b.n 8 = (b.text, true) := by
  have hf := geo_facts hok.geo
  obtain ⟨per, hper⟩ : ∃ p, g.per.toNat = p := ⟨_, rfl⟩
  have hp1 : 1 ≤ per ∧ per ≤ 8 := by omega
  have hsz := (hok.blks i b hb).size
  have hilt := lt_of_at hb
  rw [hper]
  have key' : ∀ k : Nat, k ≤ 8 → textTo (recs key lsn per l (l.length * per)) b.n k = (catTo b.text (min k per), decide (0 < k)) := by
    intro k
    induction k with
    | zero => intro _; simp [textTo, catTo]
    | succ k ih =>
      intro hk
      rw [textTo, ih (by omega)]
      by_cases hkp : k < per
      · have hjm : i * per + k < l.length * per := by
          have := Nat.mul_le_mul_right per (show i + 1 ≤ l.length by omega)
          rw [Nat.add_mul, Nat.one_mul] at this
          omega
        have hat := recAt_at key lsn per l hb hkp
        obtain ⟨h1, h2⟩ := pieceF_one (n := b.n) (k := k) (recs_get hjm) (by rw [hat]; simp [isPc]) (fun j' r' hj' hr' => by
          obtain ⟨hlt, rfl⟩ := recs_at hj'
          rw [isPc_at] at hr'
          have hq : j' / per < l.length := Nat.div_lt_of_lt_mul (by rw [Nat.mul_comm]; exact hlt)
          obtain ⟨c, hc⟩ : ∃ c, l[j' / per]? = some c := ⟨_, List.getElem?_eq_getElem hq⟩
          rw [blkAt_eq hc] at hr'
          have := blk_uniq hok.blks hc hb hr'.1
          have h3 := Nat.div_add_mod j' per
          rw [this, Nat.mul_comm] at h3
          have h4 : j' % per = k := by omega
          omega)
        rw [h1, h2, hat]
        rw [show min (k + 1) per = min k per + 1 by omega, catTo, show min k per = k by omega]
        simp
      · obtain ⟨h1, h2⟩ := pieceF_none (l := recs key lsn per l (l.length * per)) (n := b.n) (k := k) (fun r hr => by
          obtain ⟨j', hj'⟩ := List.mem_iff_getElem?.1 hr
          obtain ⟨hlt, rfl⟩ := recs_at hj'
          cases hq : isPc b.n k (recAt key lsn per l j') with
          | false => rfl
          | true =>
            rw [isPc_at] at hq
            have := Nat.mod_lt j' (show 0 < per by omega)
            omega)
        rw [h1, h2, show min (k + 1) per = min k per by omega]
        simp
        omega
  rw [key' 8 (by omega), show min 8 per = per by omega, cat_all (by omega)]
  rfl

theorem text_out {key lsn : Int} {per : Nat} {l : List Block} {n : Int} (hp : 0 < per) (h : ∀ b ∈ l, b.n ≠ n) : ∀ k, textTo (recs key lsn per l (l.length * per)) n k = (ByteArray.empty, false)
  | 0 => rfl
  | k + 1 => by
    rw [textTo, text_out hp h k]
    obtain ⟨h1, h2⟩ := pieceF_none (l := recs key lsn per l (l.length * per)) (n := n) (k := k) (fun r hr => by
      obtain ⟨j', hj'⟩ := List.mem_iff_getElem?.1 hr
      obtain ⟨hlt, rfl⟩ := recs_at hj'
      cases hq : isPc n k (recAt key lsn per l j') with
      | false => rfl
      | true =>
        rw [isPc_at] at hq
        have hq2 : j' / per < l.length := Nat.div_lt_of_lt_mul (by rw [Nat.mul_comm]; exact hlt)
        obtain ⟨c, hc⟩ : ∃ c, l[j' / per]? = some c := ⟨_, List.getElem?_eq_getElem hq2⟩
        rw [blkAt_eq hc] at hq
        exact absurd hq.1 (h c (List.mem_of_getElem? hc)))
    rw [h1, h2]; simp

/-! Rows that end at a transaction's end. -/

theorem lastG_data {n : Int} : ∀ (ds B cur : List Record) (acc : Option ByteArray), (∀ x ∈ ds, x.count = 0) → lastG n (ds ++ B) cur acc = lastG n B (cur ++ ds) acc
  | [], B, cur, acc, _ => by simp
  | x :: ds, B, cur, acc, h => by
    rw [List.cons_append, lastG, if_pos (h x (by simp)), lastG_data ds B _ acc (fun y hy => h y (by simp [hy]))]
    simp

def Ends (A : List Record) : Prop := ∀ n B acc, lastG n (A ++ B) [] acc = lastG n B [] (lastG n A [] acc)

theorem ends_nil : Ends [] := fun _ _ _ => rfl

theorem lastG_txn {n : Int} {ds : List Record} {c : Record} (hz : ∀ x ∈ ds, x.count = 0) (hc : c.count ≠ 0) (B : List Record) (acc : Option ByteArray) :
    lastG n ((ds ++ [c]) ++ B) [] acc = lastG n B [] (if (textTo ds n 8).2 = true then some (textTo ds n 8).1 else acc) := by
  rw [List.append_assoc, lastG_data ds _ _ _ hz, List.nil_append, List.singleton_append, lastG, if_neg hc]

theorem ends_txn {A t : List Record} (hA : Ends A) (ht : Txn t) : Ends (A ++ t) := by
  obtain ⟨ds, c, rfl, hz, hc, h1⟩ := ht
  intro n B acc
  have e1 := lastG_txn (n := n) hz (show c.count ≠ 0 by omega) B (lastG n A [] acc)
  have e2 := lastG_txn (n := n) hz (show c.count ≠ 0 by omega) [] (lastG n A [] acc)
  rw [List.append_nil] at e2
  rw [List.append_assoc, hA, hA, e1, e2]
  rfl

theorem fold_out {n : Int} : ∀ (l : List Block) (f : Int → Option ByteArray), (∀ b ∈ l, b.n ≠ n) → l.foldl updF f n = f n
  | [], _, _ => rfl
  | x :: r, f, h => by
    rw [List.foldl_cons, fold_out r _ (fun b hb => h b (by simp [hb])), updF, if_neg]
    exact fun e => h x (by simp) e.symm

theorem fold_in {b : Block} : ∀ (l : List Block) (f : Int → Option ByteArray) (i : Nat), l[i]? = some b → (∀ j a, i < j → l[j]? = some a → a.n ≠ b.n) → l.foldl updF f b.n = some b.text
  | [], _, _, h, _ => by simp at h
  | x :: r, f, 0, h, hu => by
    simp at h
    subst h
    rw [List.foldl_cons, fold_out r _ fun a ha => ?_]
    · rw [updF, if_pos rfl]
    · obtain ⟨j, hj⟩ := List.mem_iff_getElem?.1 ha
      exact hu (j + 1) a (by omega) (by simpa using hj)
  | x :: r, f, i + 1, h, hu => by
    rw [List.foldl_cons]
    exact fold_in r _ i (by simpa using h) (fun j a hj ha => hu (j + 1) a (by omega) (by simpa using ha))

theorem txn_recs {g : Geo} {key lsn : Int} {l : List Block} (hok : OfOk g key lsn l) : (∀ x ∈ recs key lsn g.per.toNat l (l.length * g.per.toNat), x.count = 0) ∧ (commitOf key lsn (l.length * g.per.toNat)).count ≠ 0 ∧ 1 ≤ l.length * g.per.toNat := by
  have hf := geo_facts hok.geo
  have hne : l.length ≠ 0 := fun h => hok.some_ (List.eq_nil_of_length_eq_zero h)
  have h1 : 1 ≤ l.length * g.per.toNat := Nat.mul_pos (by omega) (by omega)
  refine ⟨fun x hx => ?_, ?_, h1⟩
  · obtain ⟨j, hj⟩ := List.mem_iff_getElem?.1 hx
    obtain ⟨_, rfl⟩ := recs_at hj
    rfl
  · simp only [commitOf]; omega

/-- What is scanned behind one transaction more: the blocks put into those ahead. -/
theorem scan_more {g : Geo} {key lsn : Int} {l : List Block} {A : List Record} (hA : Ends A) (hok : OfOk g key lsn l) : insAll (scanB A) l = scanB (A ++ allRecs g key lsn l) := by
  have hf := geo_facts hok.geo
  obtain ⟨hz, hc, h1⟩ := txn_recs hok
  have hb : ∀ x ∈ l, 0 ≤ x.n ∧ x.n < (64 : Nat) := fun x hx => by
    obtain ⟨j, hj⟩ := List.mem_iff_getElem?.1 hx
    have := (hok.blks j x hj).blocks
    exact ⟨(blk_asc hok.blks j x hj).1, by omega⟩
  rw [scanB, insAllF l _ hb, scanB]
  refine mkF_congr 64 0 fun n h2 h3 => ?_
  rw [hA, allRecs]
  have e := lastG_txn (n := n) hz hc [] (lastG n A [] none)
  rw [List.append_nil] at e
  rw [e, lastG]
  by_cases hex : ∃ b ∈ l, b.n = n
  · obtain ⟨b, hbm, rfl⟩ := hex
    obtain ⟨i, hi⟩ := List.mem_iff_getElem?.1 hbm
    rw [text_in hok hi, if_pos rfl]
    exact fold_in l _ i hi fun j a hj ha he => by have := blk_uniq hok.blks ha hi he; omega
  · have hno : ∀ b ∈ l, b.n ≠ n := fun b hb he => hex ⟨b, hb, he⟩
    rw [text_out (by omega) hno 8, if_neg (by simp)]
    exact fold_out l _ hno

theorem scan_nil : scanB [] = [] := by
  rw [scanB]; exact mkF_none 64 0

theorem take_data {g : Geo} {key lsn : Int} {l : List Block} (hok : OfOk g key lsn l) {k : Nat} (hk : k < (allRecs g key lsn l).length) : ∀ x ∈ (allRecs g key lsn l).take k, x.count = 0 := by
  intro x hx
  obtain ⟨hz, _, _⟩ := txn_recs hok
  rw [all_len] at hk
  rw [allRecs, List.take_append_of_le_length (by rw [recs_len]; omega)] at hx
  exact hz x (List.mem_of_mem_take hx)

end Go.Proofs.Ytikdaehmaaogdaa

/- Rows of records and of blocks that are the same; blocks behind blocks: the document's. -/
set_option linter.unusedVariables false
set_option linter.unusedSimpArgs false
set_option maxRecDepth 100000
namespace Go.Proofs.Ytikdaehmaaogdaa
open Go Go.Eng Go.RowKit

def Block.eqB17 (a b : Block) : Bool := a.n == b.n && a.text.toList == b.text.toList

theorem blkEq17 {op : BinOp} {ox oy : Operand} (a b : Block) (w : World) (hop : op = .eql ∨ op = .neq) :
    (do eqGuard op 117 ox oy a.val b.val; binOp op 117 a.val b.val : Sem Value).run Try.prog w = .ok (.bool (if op = .eql then a.eqB17 b else !(a.eqB17 b))) w := by
  have hS : Try.prog.underlying 117 = some (.struct (Try.prog.fieldsOf 117)) := by kernel_rfl
  have hp : Try.prog.stoodInHeld 117 = false := by kernel_rfl
  have hg : Try.prog.eqGuardType Try.prog.depth 117 = false := by kernel_rfl
  have key : (Op.equalIn 10000 117 a.val b.val).run Try.prog w = .ok (a.eqB17 b) w := by
    have u3 := Try.underlying3
    have a3 := Try.isAgg3
    have z3 := Try.sizeOf3
    have u9 := Try.underlying9
    have a9 := Try.isAgg9
    have z9 := Try.sizeOf9
    rw [show (10000 : Nat) = 9999 + 1 from rfl, run_equalIn_agg w 9999 117 _ _ hS hp]
    simp only [Program.fieldsOf, Try.underlying117]
    go_simp
    unfold Block.eqB17
    by_cases h1 : a.n = b.n <;> by_cases h2 : a.text.toList = b.text.toList <;> simp [h1, h2]
  rw [Sem.run_bind, run_eqGuard_agg w _ _ _ _ _ _ hg]
  rcases hop with rfl | rfl
  · simp only [Result.andThen_ok, run_eql_struct, key]; rfl
  · simp only [Result.andThen_ok, run_neq_struct, key]; rfl

theorem Block.eqB17_refl (a : Block) : a.eqB17 a = true := by simp [Block.eqB17]

theorem sameB17_c (V : Vw) (v v' : Value) (L : List Block) (w : World) (hV : V.le (vw w)) (hs0 : SlOf V Block.cells 2 v L) (hs1 : SlOf V Block.cells 2 v' L) (hn : L.length ≤ 4398046511104) :
    Calls Try.prog 26 #[v, v'] w fun e w' => e = .returned (.bool true) ∧ Below w.heap.size w w' := by
  have hs := hs0.mono hV
  have hs' := hs1.mono hV
  refine enter (E := E0) (O := []) (nl := 0) (V := vw w) [.a (.v v), .a (.v v')] Try.func26 rfl rfl (mem0 E0 0 w) rfl rfl ?_
  refine c_seq ?_
  refine c_region ?_
  refine o_yield rfl rfl rfl (y_val tok rfl) ?_
  refine o_end [0, 1] rfl ?_
  refine x_then ?_
  refine c_seq ?_
  refine c_seq ?_
  refine c_region ?_
  refine o_yield rfl rfl rfl (y_val tok rfl) ?_
  refine o_yield rfl rfl rfl (y_len tok rfl (fun hg => hs.sl)) ?_
  refine o_yield rfl rfl rfl (y_val tok rfl) ?_
  refine o_yield rfl rfl rfl (y_len tok rfl (fun hg => hs'.sl)) ?_
  refine o_yield rfl rfl rfl (y_val tok rfl) ?_
  refine o_end [0, 1, 10] rfl ?_
  refine x_then ?_
  refine c_cond rfl (fun h => ?_) (fun h => ?_)
  ·
    simp only [Bool.and_eq_true, Bool.or_eq_true, Bool.not_eq_true', Bool.or_eq_false_iff, Bool.and_eq_false_iff, decide_eq_true_eq, decide_eq_false_iff_not, beq_iff_eq, bne_iff_ne, Bool.not_eq_false', beq_eq_false_iff_ne, bne_eq_false_iff_eq, ne_eq, Decidable.not_not, Int.not_lt, Int.not_le] at h
    refine c_seq ?_
    refine c_region ?_
    refine o_yield rfl rfl rfl (y_val tok rfl) ?_
    refine o_end [4] rfl ?_
    refine x_then ?_
    refine c_ret ?_
    refine x_then_ret ?_
    refine b_ret tok rfl ?_
    contradiction
  ·
    simp only [Bool.and_eq_true, Bool.or_eq_true, Bool.not_eq_true', Bool.or_eq_false_iff, Bool.and_eq_false_iff, decide_eq_true_eq, decide_eq_false_iff_not, beq_iff_eq, bne_iff_ne, Bool.not_eq_false', beq_eq_false_iff_ne, bne_eq_false_iff_eq, ne_eq, Decidable.not_not, Int.not_lt, Int.not_le] at h
    clear h
    refine c_skip ?_
    refine x_then ?_
    refine c_seq ?_
    refine c_seq ?_
    refine c_region ?_
    refine o_yield rfl rfl rfl (y_val tok rfl) ?_
    refine o_end [0, 1, 5] rfl ?_
    refine x_then ?_
    refine c_block ?_
    refine c_loopK [0, 1] [] rfl rfl (σ := Nat) (fun i => [(5, .a (.v (I i)))]) (fun i => []) (fun i => i ≤ L.length) (fun i => L.length - i) (0) (by omega) (by repeat (first | exact SubF.nil | refine SubF.cons rfl ?_)) (by repeat (first | exact SubO.nil | refine SubO.cons rfl ?_)) rfl ?_
    rintro i hi
    refine c_seq ?_
    refine c_seq ?_
    refine c_region ?_
    refine o_yield rfl rfl rfl (y_val tok rfl) ?_
    refine o_yield rfl rfl rfl (y_val tok rfl) ?_
    refine o_yield rfl rfl rfl (y_len tok rfl (fun hg => hs.sl)) ?_
    refine o_yield rfl rfl rfl (y_val tok rfl) ?_
    refine o_end [0, 1, 5, 14] rfl ?_
    refine x_then ?_
    refine c_cond rfl (fun h => ?_) (fun h => ?_)
    ·
      simp only [Bool.and_eq_true, Bool.or_eq_true, Bool.not_eq_true', Bool.or_eq_false_iff, Bool.and_eq_false_iff, decide_eq_true_eq, decide_eq_false_iff_not, beq_iff_eq, bne_iff_ne, Bool.not_eq_false', beq_eq_false_iff_ne, bne_eq_false_iff_eq, ne_eq, Decidable.not_not, Int.not_lt, Int.not_le] at h
      refine c_skip ?_
      refine x_then ?_
      refine c_seq ?_
      refine c_block ?_
      refine c_seq ?_
      refine c_draw mixed (by kernel_rfl) ?_
      refine d_yield rfl rfl rfl (y_val tok rfl) rfl ?_
      refine d_yield rfl rfl rfl (y_val tok rfl) rfl ?_
      obtain ⟨r, h_r⟩ := hs.at (k := i) (by omega)
      have hlt_r := lt_of_at h_r
      refine d_yield rfl rfl rfl (y_idx tok rfl (fun hg => hs.sl) (fun hg => ⟨by omega, by omega⟩)) rfl ?_
      refine d_yield rfl rfl rfl (y_lel tok (i) 0 (r) rfl (fun hg => hs) (fun hg => h_r) rfl rfl) rfl ?_
      refine d_yield rfl rfl rfl (y_val tok rfl) rfl ?_
      refine d_yield rfl rfl rfl (y_val tok rfl) rfl ?_
      have hlt_r := lt_of_at h_r
      refine d_yield rfl rfl rfl (y_idx tok rfl (fun hg => hs'.sl) (fun hg => ⟨by omega, by omega⟩)) rfl ?_
      refine d_yield rfl rfl rfl (y_lel tok (i) 0 (r) rfl (fun hg => hs') (fun hg => h_r) rfl rfl) rfl ?_
      refine d_yield rfl rfl rfl (y_seq (.bool (!(r.eqB17 r))) rfl (fun E w => blkEq17 r r w (.inr rfl))) rfl ?_
      refine d_end [0, 1, 5, 25] rfl ?_
      refine x_then ?_
      refine c_cond rfl (fun h => ?_) (fun h => ?_)
      ·
        refine c_seq ?_
        refine c_region ?_
        refine o_yield rfl rfl rfl (y_val tok rfl) ?_
        refine o_end [4] rfl ?_
        refine x_then ?_
        refine c_ret ?_
        refine x_block_ret ?_
        refine x_then_ret ?_
        refine x_then_ret ?_
        refine x_block_ret ?_
        refine x_then_ret ?_
        refine b_ret tok rfl ?_
        rw [Block.eqB17_refl] at h
        cases h
      ·
        refine c_skip ?_
        refine x_block ?_
        refine x_then ?_
        refine c_region ?_
        refine o_yield rfl rfl rfl (y_val tok rfl) ?_
        refine o_yield rfl rfl rfl (y_val tok rfl) ?_
        refine o_yield rfl rfl rfl (y_val tok rfl) ?_
        refine o_end [0, 1, 5] rfl ?_
        refine x_then ?_
        rw [wrapI (n := (i : Int) + 1) (by omega) (by omega)]
        refine x_round (i + 1) (by omega) (by first | omega | (dsimp only; omega)) (by repeat (first | exact SubF.nil | refine SubF.cons rfl ?_)) (by repeat (first | exact SubO.nil | refine SubO.cons rfl ?_)) rfl (Vw.le.refl _)
    ·
      simp only [Bool.and_eq_true, Bool.or_eq_true, Bool.not_eq_true', Bool.or_eq_false_iff, Bool.and_eq_false_iff, decide_eq_true_eq, decide_eq_false_iff_not, beq_iff_eq, bne_iff_ne, Bool.not_eq_false', beq_eq_false_iff_ne, bne_eq_false_iff_eq, ne_eq, Decidable.not_not, Int.not_lt, Int.not_le] at h
      refine c_exit ?_
      refine x_then_exit ?_
      refine x_then_exit ?_
      refine x_block_hit ?_
      refine x_then ?_
      refine c_seq ?_
      refine c_region ?_
      refine o_yield rfl rfl rfl (y_val tok rfl) ?_
      refine o_end [4] rfl ?_
      refine x_then ?_
      refine c_ret ?_
      refine b_ret tok rfl ?_
      intro E w' hm _
      refine ⟨?_, hm.below (Vw.le.refl _)⟩
      rfl

theorem same16_c (V : Vw) (v v' : Value) (L : List Record) (w : World) (hV : V.le (vw w)) (hs0 : SlOf V Record.cells 6 v L) (hs1 : SlOf V Record.cells 6 v' L) (hn : L.length ≤ 4398046511104) :
    Calls Try.prog 25 #[v, v'] w fun e w' => e = .returned (.bool true) ∧ Below w.heap.size w w' := by
  have hs := hs0.mono hV
  have hs' := hs1.mono hV
  refine enter (E := E0) (O := []) (nl := 0) (V := vw w) [.a (.v v), .a (.v v')] Try.func25 rfl rfl (mem0 E0 0 w) rfl rfl ?_
  refine c_seq ?_
  refine c_region ?_
  refine o_yield rfl rfl rfl (y_val tok rfl) ?_
  refine o_end [0, 1] rfl ?_
  refine x_then ?_
  refine c_seq ?_
  refine c_seq ?_
  refine c_region ?_
  refine o_yield rfl rfl rfl (y_val tok rfl) ?_
  refine o_yield rfl rfl rfl (y_len tok rfl (fun hg => hs.sl)) ?_
  refine o_yield rfl rfl rfl (y_val tok rfl) ?_
  refine o_yield rfl rfl rfl (y_len tok rfl (fun hg => hs'.sl)) ?_
  refine o_yield rfl rfl rfl (y_val tok rfl) ?_
  refine o_end [0, 1, 10] rfl ?_
  refine x_then ?_
  refine c_cond rfl (fun h => ?_) (fun h => ?_)
  ·
    simp only [Bool.and_eq_true, Bool.or_eq_true, Bool.not_eq_true', Bool.or_eq_false_iff, Bool.and_eq_false_iff, decide_eq_true_eq, decide_eq_false_iff_not, beq_iff_eq, bne_iff_ne, Bool.not_eq_false', beq_eq_false_iff_ne, bne_eq_false_iff_eq, ne_eq, Decidable.not_not, Int.not_lt, Int.not_le] at h
    refine c_seq ?_
    refine c_region ?_
    refine o_yield rfl rfl rfl (y_val tok rfl) ?_
    refine o_end [4] rfl ?_
    refine x_then ?_
    refine c_ret ?_
    refine x_then_ret ?_
    refine b_ret tok rfl ?_
    contradiction
  ·
    simp only [Bool.and_eq_true, Bool.or_eq_true, Bool.not_eq_true', Bool.or_eq_false_iff, Bool.and_eq_false_iff, decide_eq_true_eq, decide_eq_false_iff_not, beq_iff_eq, bne_iff_ne, Bool.not_eq_false', beq_eq_false_iff_ne, bne_eq_false_iff_eq, ne_eq, Decidable.not_not, Int.not_lt, Int.not_le] at h
    clear h
    refine c_skip ?_
    refine x_then ?_
    refine c_seq ?_
    refine c_seq ?_
    refine c_region ?_
    refine o_yield rfl rfl rfl (y_val tok rfl) ?_
    refine o_end [0, 1, 5] rfl ?_
    refine x_then ?_
    refine c_block ?_
    refine c_loopK [0, 1] [] rfl rfl (σ := Nat) (fun i => [(5, .a (.v (I i)))]) (fun i => []) (fun i => i ≤ L.length) (fun i => L.length - i) (0) (by omega) (by repeat (first | exact SubF.nil | refine SubF.cons rfl ?_)) (by repeat (first | exact SubO.nil | refine SubO.cons rfl ?_)) rfl ?_
    rintro i hi
    refine c_seq ?_
    refine c_seq ?_
    refine c_region ?_
    refine o_yield rfl rfl rfl (y_val tok rfl) ?_
    refine o_yield rfl rfl rfl (y_val tok rfl) ?_
    refine o_yield rfl rfl rfl (y_len tok rfl (fun hg => hs.sl)) ?_
    refine o_yield rfl rfl rfl (y_val tok rfl) ?_
    refine o_end [0, 1, 5, 14] rfl ?_
    refine x_then ?_
    refine c_cond rfl (fun h => ?_) (fun h => ?_)
    ·
      simp only [Bool.and_eq_true, Bool.or_eq_true, Bool.not_eq_true', Bool.or_eq_false_iff, Bool.and_eq_false_iff, decide_eq_true_eq, decide_eq_false_iff_not, beq_iff_eq, bne_iff_ne, Bool.not_eq_false', beq_eq_false_iff_ne, bne_eq_false_iff_eq, ne_eq, Decidable.not_not, Int.not_lt, Int.not_le] at h
      refine c_skip ?_
      refine x_then ?_
      refine c_seq ?_
      refine c_block ?_
      refine c_seq ?_
      refine c_draw mixed (by kernel_rfl) ?_
      refine d_yield rfl rfl rfl (y_val tok rfl) rfl ?_
      refine d_yield rfl rfl rfl (y_val tok rfl) rfl ?_
      obtain ⟨r, h_r⟩ := hs.at (k := i) (by omega)
      have hlt_r := lt_of_at h_r
      refine d_yield rfl rfl rfl (y_idx tok rfl (fun hg => hs.sl) (fun hg => ⟨by omega, by omega⟩)) rfl ?_
      refine d_yield rfl rfl rfl (y_lel tok (i) 0 (r) rfl (fun hg => hs) (fun hg => h_r) rfl rfl) rfl ?_
      refine d_yield rfl rfl rfl (y_val tok rfl) rfl ?_
      refine d_yield rfl rfl rfl (y_val tok rfl) rfl ?_
      have hlt_r := lt_of_at h_r
      refine d_yield rfl rfl rfl (y_idx tok rfl (fun hg => hs'.sl) (fun hg => ⟨by omega, by omega⟩)) rfl ?_
      refine d_yield rfl rfl rfl (y_lel tok (i) 0 (r) rfl (fun hg => hs') (fun hg => h_r) rfl rfl) rfl ?_
      refine d_yield rfl rfl rfl (y_seq (.bool (!(r.eqB r))) rfl (fun E w => recEq r r w (.inr rfl))) rfl ?_
      refine d_end [0, 1, 5, 25] rfl ?_
      refine x_then ?_
      refine c_cond rfl (fun h => ?_) (fun h => ?_)
      ·
        refine c_seq ?_
        refine c_region ?_
        refine o_yield rfl rfl rfl (y_val tok rfl) ?_
        refine o_end [4] rfl ?_
        refine x_then ?_
        refine c_ret ?_
        refine x_block_ret ?_
        refine x_then_ret ?_
        refine x_then_ret ?_
        refine x_block_ret ?_
        refine x_then_ret ?_
        refine b_ret tok rfl ?_
        simp [Record.eqB] at h
      ·
        refine c_skip ?_
        refine x_block ?_
        refine x_then ?_
        refine c_region ?_
        refine o_yield rfl rfl rfl (y_val tok rfl) ?_
        refine o_yield rfl rfl rfl (y_val tok rfl) ?_
        refine o_yield rfl rfl rfl (y_val tok rfl) ?_
        refine o_end [0, 1, 5] rfl ?_
        refine x_then ?_
        rw [wrapI (n := (i : Int) + 1) (by omega) (by omega)]
        refine x_round (i + 1) (by omega) (by first | omega | (dsimp only; omega)) (by repeat (first | exact SubF.nil | refine SubF.cons rfl ?_)) (by repeat (first | exact SubO.nil | refine SubO.cons rfl ?_)) rfl (Vw.le.refl _)
    ·
      simp only [Bool.and_eq_true, Bool.or_eq_true, Bool.not_eq_true', Bool.or_eq_false_iff, Bool.and_eq_false_iff, decide_eq_true_eq, decide_eq_false_iff_not, beq_iff_eq, bne_iff_ne, Bool.not_eq_false', beq_eq_false_iff_ne, bne_eq_false_iff_eq, ne_eq, Decidable.not_not, Int.not_lt, Int.not_le] at h
      refine c_exit ?_
      refine x_then_exit ?_
      refine x_then_exit ?_
      refine x_block_hit ?_
      refine x_then ?_
      refine c_seq ?_
      refine c_region ?_
      refine o_yield rfl rfl rfl (y_val tok rfl) ?_
      refine o_end [4] rfl ?_
      refine x_then ?_
      refine c_ret ?_
      refine b_ret tok rfl ?_
      intro E w' hm _
      refine ⟨?_, hm.below (Vw.le.refl _)⟩
      rfl


def behF (l : List Block) : Int → Option ByteArray := l.foldl updF (fun _ => none)

theorem behF_snoc (l : List Block) (b : Block) (n : Int) : behF (l ++ [b]) n = if n = b.n then some b.text else behF l n := by
  rw [behF, List.foldl_append]; rfl

def blkO (i : Int) (o : Option ByteArray) : Block := ⟨i, o.getD ByteArray.empty⟩

theorem behind_c (V : Vw) (sv mv : Value) (l more : List Block) (w : World) (hV : V.le (vw w)) (hs0 : SlOf V Block.cells 2 sv l) (hm0 : SlOf V Block.cells 2 mv more) (hn : l.length + more.length ≤ 1000) :
    Calls Try.prog 22 #[sv, mv] w (RowB (mkF (behF (l ++ more)) 0 64) w) := by
  have hs := hs0.mono hV
  have hmo := hm0.mono hV
  obtain ⟨X, hX⟩ : ∃ X, l ++ more = X := ⟨_, rfl⟩
  have hXl : l.length + more.length = X.length := by rw [← hX, List.length_append]
  have hXc : l.flatMap Block.cells ++ more.flatMap Block.cells = X.flatMap Block.cells := by rw [← hX, List.flatMap_append]
  rw [hX]
  refine enter (E := E0) (O := []) (nl := 0) (V := vw w) [.a (.v sv), .a (.v mv)] Try.func22 rfl rfl (mem0 E0 0 w) rfl rfl ?_
  refine c_seq ?_
  refine c_region ?_
  refine o_yield rfl rfl rfl (y_val tok rfl) ?_
  refine o_end [0, 1] rfl ?_
  refine x_then ?_
  refine c_seq ?_
  refine c_region ?_
  refine o_yield rfl rfl rfl (y_val tok rfl) ?_
  refine o_end [0, 1, 5] rfl ?_
  refine x_then ?_
  refine c_seq ?_
  refine c_seq ?_
  refine c_region ?_
  refine o_yield rfl rfl rfl (y_val tok rfl) ?_
  refine o_end [0, 1, 5, 6] rfl ?_
  refine x_then ?_
  refine c_block ?_
  refine k_nil 5 117 2 rfl rfl ?_
  refine c_loopK [0, 1] [0] rfl rfl (σ := Nat) (fun i => [(5, .a (.row 0)), (6, .a (.v (I i)))]) (fun i => [(0, .row 117 2 (mkF (behF X) 0 i).length ((mkF (behF X) 0 i).flatMap Block.cells))]) (fun i => i ≤ 64) (fun i => 64 - i) (0) (by omega) (by repeat (first | exact SubF.nil | refine SubF.cons rfl ?_)) (by repeat (first | exact SubO.nil | refine SubO.cons rfl ?_)) rfl ?_
  rintro i hi
  refine c_seq ?_
  refine c_seq ?_
  refine c_region ?_
  refine o_yield rfl rfl rfl (y_val tok rfl) ?_
  refine o_yield rfl rfl rfl (y_val tok rfl) ?_
  refine o_end [0, 1, 5, 6, 12] rfl ?_
  refine x_then ?_
  refine c_cond rfl (fun h => ?_) (fun h => ?_)
  ·
    simp only [Bool.and_eq_true, Bool.or_eq_true, Bool.not_eq_true', Bool.or_eq_false_iff, Bool.and_eq_false_iff, decide_eq_true_eq, decide_eq_false_iff_not, beq_iff_eq, bne_iff_ne, Bool.not_eq_false', beq_eq_false_iff_ne, bne_eq_false_iff_eq, ne_eq, Decidable.not_not, Int.not_lt, Int.not_le] at h
    refine c_skip ?_
    refine x_then ?_
    refine c_seq ?_
    refine c_block ?_
    refine c_seq ?_
    refine c_region ?_
    refine o_yield rfl rfl rfl (y_val tok rfl) ?_
    refine o_yield rfl rfl rfl (y_val tok rfl) ?_
    refine o_new tok rfl rfl rfl rfl ?_
    refine o_store tok rfl rfl rfl (by first | exact ⟨trivial, trivial⟩ | (repeat' first | exact trivial | exact rfl | apply And.intro); done | simp [onesP, oneP, lk, Value.oneCell']) ?_
    refine o_end [0, 1, 5, 6, 7] rfl ?_
    refine x_then ?_
    refine c_seq ?_
    refine c_region ?_
    refine o_yield rfl rfl rfl (y_val tok rfl) ?_
    refine o_end [0, 1, 5, 6, 7, 8] rfl ?_
    refine x_then ?_
    refine c_seq ?_
    refine c_region ?_
    have hwi : IntKind.i64.wrap ((i : Int) + 1) = ((i + 1 : Nat) : Int) := wrapI (by omega) (by omega)
    have hml := mkF_len (behF X) i 0
    have hsn := mkF_snoc (behF X) i 0
    rw [Int.zero_add] at hsn
    refine o_step rfl rfl rfl rfl rfl (s_bs tok 2 rfl rfl rfl) (fun _ _ => ?_)
    refine o_yield rfl rfl rfl (y_val tok rfl) ?_
    refine o_step rfl rfl rfl rfl rfl (s_app tok (l.flatMap Block.cells) rfl (fun E w hm => hs.sl.src hm.get) (fun _ _ _ => blk_ones _) (by dsimp only; omega)) (fun _ _ => ?_)
    refine o_yield rfl rfl rfl (y_val tok rfl) ?_
    rw [List.nil_append, Nat.zero_add l.length]
    refine o_step rfl rfl rfl rfl rfl (s_app tok (more.flatMap Block.cells) rfl (fun E w hm => hmo.sl.src hm.get) (fun _ _ _ => blk_ones _) (by dsimp only; omega)) (fun _ _ => ?_)
    refine o_yield rfl rfl rfl (y_val tok rfl) ?_
    refine o_end [0, 1, 5, 6, 7, 8, 9] rfl ?_
    refine x_then ?_
    refine c_seq ?_
    refine c_seq ?_
    refine c_region ?_
    refine o_yield rfl rfl rfl (y_val tok rfl) ?_
    refine o_end [0, 1, 5, 6, 7, 8, 9, 10] rfl ?_
    refine x_then ?_
    refine c_block ?_
    rw [hXl, hXc]
    refine c_loopK [0, 1, 5, 6] [0, 1, 4] rfl rfl (σ := Nat × Block × Bool) (fun (j, b, f) => [(7, .a (.ptr 1 0)), (8, .a (.v (.bool f))), (9, .a (.row 4)), (10, .a (.v (I j)))]) (fun (j, b, f) => [(0, .row 117 2 (mkF (behF X) 0 i).length ((mkF (behF X) 0 i).flatMap Block.cells)), (1, .lit (b.cells.map .v) 117), (4, .row 117 2 X.length (X.flatMap Block.cells))]) (fun (j, b, f) => j ≤ X.length ∧ b = blkO i (behF (X.take j) i) ∧ f = (behF (X.take j) i).isSome) (fun (j, b, f) => X.length - j) ((0, ⟨i, ByteArray.empty⟩, false)) (⟨by omega, rfl, rfl⟩) (by repeat (first | exact SubF.nil | refine SubF.cons rfl ?_)) (by repeat (first | exact SubO.nil | refine SubO.cons rfl ?_)) rfl ?_
    rintro ⟨j, b, f⟩ ⟨hj, hb, hf⟩
    refine c_seq ?_
    refine c_seq ?_
    refine c_region ?_
    refine o_yield rfl rfl rfl (y_val tok rfl) ?_
    refine o_yield rfl rfl rfl (y_val tok rfl) ?_
    refine o_yield rfl rfl rfl (y_own (s := .a (.v (I X.length))) 4 rfl rfl (fun v V' hv => y_len tok rfl (fun hg => hv))) ?_
    refine o_yield rfl rfl rfl (y_val tok rfl) ?_
    refine o_end [0, 1, 5, 6, 7, 8, 9, 10, 25] rfl ?_
    refine x_then ?_
    refine c_cond rfl (fun h => ?_) (fun h => ?_)
    ·
      simp only [Bool.and_eq_true, Bool.or_eq_true, Bool.not_eq_true', Bool.or_eq_false_iff, Bool.and_eq_false_iff, decide_eq_true_eq, decide_eq_false_iff_not, beq_iff_eq, bne_iff_ne, Bool.not_eq_false', beq_eq_false_iff_ne, bne_eq_false_iff_eq, ne_eq, Decidable.not_not, Int.not_lt, Int.not_le] at h
      have hlt : j < X.length := by omega
      clear h
      obtain ⟨x, h_x⟩ : ∃ x, X[j]? = some x := ⟨_, List.getElem?_eq_getElem hlt⟩
      have hwj : IntKind.i64.wrap ((j : Int) + 1) = ((j + 1 : Nat) : Int) := wrapI (by omega) (by omega)
      have hbs := behF_snoc (X.take j) x i
      rw [← take_succ_at' h_x] at hbs
      refine c_skip ?_
      refine x_then ?_
      refine c_seq ?_
      refine c_block ?_
      refine c_seq ?_
      refine c_region ?_
      refine o_yield rfl rfl rfl (y_val tok rfl) ?_
      refine o_yield rfl rfl rfl (y_val tok rfl) ?_
      refine o_yield rfl rfl rfl (y_own (s := .a (.rel 4 (j * 2))) 4 rfl rfl (fun v V' hv => y_idxK tok (j * 2) rfl (by simp) (fun hg => hv) (fun hg => by omega))) ?_
      refine o_yield rfl rfl rfl (y_own (s := .a (.rel 4 (j * 2))) 4 rfl rfl (fun v V' hv => y_fel tok rfl (fun hg => hv) (fun hg => by omega))) ?_
      refine o_yield rfl rfl rfl (y_own (s := .a (.v (I x.n))) 4 rfl rfl (fun v V' hv => y_lel (enc := Block.cells) (l := X) tok j 0 x rfl (fun hg => ⟨hv, fun _ => rfl⟩) (fun hg => h_x) (by simp) rfl)) ?_
      refine o_yield rfl rfl rfl (y_val tok rfl) ?_
      refine o_yield rfl rfl rfl (y_val tok rfl) ?_
      refine o_end [0, 1, 5, 6, 7, 8, 9, 10, 34] rfl ?_
      refine x_then ?_
      refine c_cond rfl (fun h => ?_) (fun h => ?_)
      ·
        simp only [Bool.and_eq_true, Bool.or_eq_true, Bool.not_eq_true', Bool.or_eq_false_iff, Bool.and_eq_false_iff, decide_eq_true_eq, decide_eq_false_iff_not, beq_iff_eq, bne_iff_ne, Bool.not_eq_false', beq_eq_false_iff_ne, bne_eq_false_iff_eq, ne_eq, Decidable.not_not, Int.not_lt, Int.not_le] at h
        rw [if_pos h.symm] at hbs
        refine c_seq ?_
        refine c_region ?_
        refine o_yield rfl rfl rfl (y_val tok rfl) ?_
        refine o_yield rfl rfl rfl (y_val tok rfl) ?_
        refine o_yield rfl rfl rfl (y_own (s := .a (.rel 4 (j * 2))) 4 rfl rfl (fun v V' hv => y_idxK tok (j * 2) rfl (by simp) (fun hg => hv) (fun hg => by omega))) ?_
        refine o_yield rfl rfl rfl (y_own (s := .agg (x.cells.map .v)) 4 rfl rfl (fun v V' hv => y_lel (enc := Block.cells) (l := X) tok j 0 x rfl (fun hg => ⟨hv, fun _ => rfl⟩) (fun hg => h_x) rfl rfl)) ?_
        refine o_store tok rfl rfl rfl (by first | exact ⟨trivial, trivial⟩ | (repeat' first | exact trivial | exact rfl | apply And.intro); done | simp [onesP, oneP, lk, Value.oneCell']) ?_
        refine o_end [0, 1, 5, 6, 7, 9, 10] rfl ?_
        refine x_then ?_
        refine c_region ?_
        refine o_yield rfl rfl rfl (y_val tok rfl) ?_
        refine o_end [0, 1, 5, 6, 7, 8, 9, 10] rfl ?_
        refine x_block ?_
        refine x_then ?_
        refine c_region ?_
        refine o_yield rfl rfl rfl (y_val tok rfl) ?_
        refine o_yield rfl rfl rfl (y_val tok rfl) ?_
        refine o_yield rfl rfl rfl (y_val tok rfl) ?_
        refine o_end [0, 1, 5, 6, 7, 8, 9, 10] rfl ?_
        refine x_then ?_
        rw [hwj]
        refine x_round ((j + 1, x, true)) (⟨by omega, by rw [hbs, ← h]; rfl, by rw [hbs]; rfl⟩) (by first | omega | (dsimp only; omega)) (by repeat (first | exact SubF.nil | refine SubF.cons rfl ?_)) (by repeat (first | exact SubO.nil | refine SubO.cons rfl ?_)) rfl (Vw.le.refl _)
      ·
        simp only [Bool.and_eq_true, Bool.or_eq_true, Bool.not_eq_true', Bool.or_eq_false_iff, Bool.and_eq_false_iff, decide_eq_true_eq, decide_eq_false_iff_not, beq_iff_eq, bne_iff_ne, Bool.not_eq_false', beq_eq_false_iff_ne, bne_eq_false_iff_eq, ne_eq, Decidable.not_not, Int.not_lt, Int.not_le] at h
        refine c_skip ?_
        refine x_block ?_
        refine x_then ?_
        refine c_region ?_
        refine o_yield rfl rfl rfl (y_val tok rfl) ?_
        refine o_yield rfl rfl rfl (y_val tok rfl) ?_
        refine o_yield rfl rfl rfl (y_val tok rfl) ?_
        refine o_end [0, 1, 5, 6, 7, 8, 9, 10] rfl ?_
        refine x_then ?_
        rw [if_neg (fun e => h e.symm)] at hbs
        rw [hwj]
        refine x_round ((j + 1, b, f)) (⟨by omega, by rw [hbs]; exact hb, by rw [hbs]; exact hf⟩) (by first | omega | (dsimp only; omega)) (by repeat (first | exact SubF.nil | refine SubF.cons rfl ?_)) (by repeat (first | exact SubO.nil | refine SubO.cons rfl ?_)) rfl (Vw.le.refl _)
    ·
      simp only [Bool.and_eq_true, Bool.or_eq_true, Bool.not_eq_true', Bool.or_eq_false_iff, Bool.and_eq_false_iff, decide_eq_true_eq, decide_eq_false_iff_not, beq_iff_eq, bne_iff_ne, Bool.not_eq_false', beq_eq_false_iff_ne, bne_eq_false_iff_eq, ne_eq, Decidable.not_not, Int.not_lt, Int.not_le] at h
      have hjl : j = X.length := by omega
      subst hjl
      clear h
      rw [List.take_length] at hb hf
      refine c_exit ?_
      refine x_then_exit ?_
      refine x_then_exit ?_
      refine x_block_hit ?_
      refine x_then ?_
      refine c_seq ?_
      refine c_region ?_
      refine o_yield rfl rfl rfl (y_val tok rfl) ?_
      refine o_end [0, 1, 5, 6, 7, 39] rfl ?_
      refine x_then ?_
      refine c_cond rfl (fun h => ?_) (fun h => ?_)
      ·
        refine c_region ?_
        refine o_yield rfl rfl rfl (y_val tok rfl) ?_
        refine o_yield rfl rfl rfl (y_val tok rfl) ?_
        have hq : (behF X i).isSome = true := by rw [← hf]; exact h
        obtain ⟨t, ht⟩ := Option.isSome_iff_exists.1 hq
        rw [ht] at hb hsn
        dsimp only at hsn
        have hx : (mkF (behF X) 0 i).length + 1 = (mkF (behF X) 0 (i + 1)).length ∧ (mkF (behF X) 0 i).flatMap Block.cells ++ b.cells = (mkF (behF X) 0 (i + 1)).flatMap Block.cells := by rw [hsn, hb]; simp [blkO]
        refine o_step rfl rfl rfl rfl rfl (s_bs tok 2 rfl rfl rfl) (fun _ _ => ?_)
        refine o_step rfl rfl rfl rfl rfl (s_app tok b.cells rfl (fun E w hm => ownsRow_src (hm.row _ _ _ _ _ rfl)) (fun _ _ _ => by simpa using blk_ones [b]) (by dsimp only; omega)) (fun _ _ => ?_)
        refine o_yield rfl rfl rfl (y_val tok rfl) ?_
        refine o_end [0, 1, 5, 6] rfl ?_
        refine x_block ?_
        refine x_then ?_
        refine c_region ?_
        refine o_yield rfl rfl rfl (y_val tok rfl) ?_
        refine o_yield rfl rfl rfl (y_val tok rfl) ?_
        refine o_yield rfl rfl rfl (y_val tok rfl) ?_
        refine o_end [0, 1, 5, 6] rfl ?_
        refine x_then ?_
        rw [hx.1, hx.2, hwi]
        refine k_swap 0 6 rfl ?_
        refine x_round (i + 1) (by omega) (by first | omega | (dsimp only; omega)) (by repeat (first | exact SubF.nil | refine SubF.cons rfl ?_)) (by repeat (first | exact SubO.nil | refine SubO.cons rfl ?_)) rfl (Vw.le.refl _)
      ·
        refine c_skip ?_
        refine x_block ?_
        refine x_then ?_
        refine c_region ?_
        refine o_yield rfl rfl rfl (y_val tok rfl) ?_
        refine o_yield rfl rfl rfl (y_val tok rfl) ?_
        refine o_yield rfl rfl rfl (y_val tok rfl) ?_
        refine o_end [0, 1, 5, 6] rfl ?_
        refine x_then ?_
        have hq : behF X i = none := by
          cases hc : behF X i with
          | none => rfl
          | some t => rw [hc] at hf; rw [hf] at h; simp at h
        rw [hq] at hsn
        dsimp only at hsn
        rw [List.append_nil] at hsn
        rw [← hsn, hwi]
        refine x_round (i + 1) (by omega) (by first | omega | (dsimp only; omega)) (by repeat (first | exact SubF.nil | refine SubF.cons rfl ?_)) (by repeat (first | exact SubO.nil | refine SubO.cons rfl ?_)) rfl (Vw.le.refl _)
  ·
    simp only [Bool.and_eq_true, Bool.or_eq_true, Bool.not_eq_true', Bool.or_eq_false_iff, Bool.and_eq_false_iff, decide_eq_true_eq, decide_eq_false_iff_not, beq_iff_eq, bne_iff_ne, Bool.not_eq_false', beq_eq_false_iff_ne, bne_eq_false_iff_eq, ne_eq, Decidable.not_not, Int.not_lt, Int.not_le] at h
    refine c_exit ?_
    refine x_then_exit ?_
    refine x_then_exit ?_
    refine x_block_hit ?_
    refine x_then ?_
    refine c_seq ?_
    refine c_region ?_
    refine o_yield rfl rfl rfl (y_val tok rfl) ?_
    refine o_yield rfl rfl rfl (y_val tok rfl) ?_
    refine o_end [4] rfl ?_
    refine x_then ?_
    refine c_ret ?_
    refine b_ret tok rfl ?_
    have hil : i = 64 := by omega
    subst hil
    intro E w' hm _
    exact ⟨⟨E.κ 0, rfl, hm.rowFresh (Vw.le.refl _) (l := 0) rfl⟩, hm.below (Vw.le.refl _)⟩
end Go.Proofs.Ytikdaehmaaogdaa

/- A slot's journal that transactions were put into: the plain law. -/
set_option linter.unusedVariables false
set_option linter.unusedSimpArgs false
set_option maxRecDepth 100000
namespace Go.Proofs.Ytikdaehmaaogdaa
open Go Go.Eng Go.RowKit

/-- What stands in a slot's journal from a tail on, and nothing behind it. -/
structure SJ (g : Geo) (slot key tail : Int) (D : List ByteArray) (A : List Record) : Prop where
  geo : geoB g = true
  len : (D.length : Int) = totV g
  hd : 0 ≤ headV g slot
  tl0 : 0 ≤ tail
  tl1 : tail ≤ 1073741824
  head : ∃ s, D[(headV g slot).toNat]? = some s ∧ tailOk s = some tail
  few : (A.length : Int) ≤ g.journal
  good : ∀ (j : Nat) r, A[j]? = some r → recB r = true ∧ r.key = key ∧ r.lsn = tail + j
  at_ : ∀ (j : Nat) r, A[j]? = some r → D[(jourV g slot (tail + j)).toNat]? = some (recBytes r)
  rest : ∀ j : Nat, A.length ≤ j → (j : Int) < g.journal → D[(jourV g slot (tail + j)).toNat]? = some ByteArray.empty
  sz : ∀ s ∈ D, s.size ≤ maxLen

theorem sj_slot {g : Geo} {slot : Int} (hh : 0 ≤ headV g slot) : 0 ≤ slot ∧ slot < g.slots := by
  unfold headV at hh
  split at hh
  · rename_i h; exact h.2
  · omega

theorem sj_pos {g : Geo} (hG : geoB g = true) {slot l : Int} (hh : 0 ≤ headV g slot) (hl : 0 ≤ l) : jourV g slot l = headV g slot + 1 + l % g.journal ∧ 0 ≤ l % g.journal ∧ l % g.journal < g.journal ∧ jourV g slot l < totV g ∧ 1 ≤ headV g slot := by
  have hf := geo_facts hG
  have h1 := rj_in hG hh hl
  have h2 := Int.emod_nonneg l (b := g.journal) (by omega)
  have h3 := Int.emod_lt_of_pos l (b := g.journal) (by omega)
  obtain ⟨hs0, hs1⟩ := sj_slot hh
  have hv : headV g slot = 1 + 2 * g.nodes + g.log + slot * (1 + g.journal) := by rw [headV, if_pos ⟨hG, hs0, hs1⟩]
  have h4 : 0 ≤ slot * (1 + g.journal) := Int.mul_nonneg hs0 (by omega)
  refine ⟨?_, h2, h3, h1.2, by omega⟩
  rw [jourV, if_neg (by omega)]

theorem sj_size {r : Record} (h : recB r = true) : (recBytes r).size ≤ maxLen := by
  have h1 := recBytes_size (recOk h)
  have h2 := (recOk h).text
  simp only [maxLen]
  omega

theorem SJ.start {g : Geo} (hG : geoB g = true) {slot : Int} (hh : 0 ≤ headV g slot) (key : Int) {hd : ByteArray} (hz : hd.size ≤ 256) {tail : Int} (h0 : 0 ≤ tail) (h1 : tail ≤ 1073741824) :
    SJ g slot key tail ((fmtTo g (gbV g) hd g.slots.toNat).set (headV g slot).toNat (headS tail).1) [] := by
  have hf := geo_facts hG
  have hl := fmtTo_len g (gbV g) hd g.slots.toNat
  have hn := rh_in hG hh
  obtain ⟨hs0, hs1⟩ := sj_slot hh
  obtain ⟨sn, rfl⟩ : ∃ sn : Nat, slot = sn := ⟨slot.toNat, by omega⟩
  refine ⟨hG, by rw [List.length_set, hl]; omega, hh, h0, h1, ⟨_, List.getElem?_set_self (by rw [hl]; omega), (headS_tail tail).2 ((headS_tail tail).1.2 ⟨h0, by omega⟩)⟩, by simp; omega, by simp, by simp, fun j _ hj => ?_, fun s hs => ?_⟩
  · have hp := sj_pos hG (l := tail + j) hh (by omega)
    rw [List.getElem?_set_ne (by omega)]
    refine fmt_other hG (gbV g) hd _ (by omega) _ (by omega) (by omega) fun k hk he => ?_
    have := head_jour hG (i := k) (k := sn) (l := tail + j) (by omega) (by omega) (by omega)
    omega
  · simp only [maxLen]
    rcases List.mem_or_eq_of_mem_set hs with hs | rfl
    · have := fmt_small (gbV_size g) hz _ s hs
      omega
    · have := headS_small tail
      omega

theorem SJ.step {g : Geo} {slot key tail : Int} {D : List ByteArray} {A : List Record} (h : SJ g slot key tail D A) (hlt : (A.length : Int) < g.journal) {r : Record} (hr : recB r = true) (hk : r.key = key) (hl : r.lsn = tail + A.length) :
    SJ g slot key tail (D.set (jourV g slot r.lsn).toNat (recBytes r)) (A ++ [r]) := by
  rw [hl]
  have h0 := h.tl0
  have hp := sj_pos h.geo h.hd (l := tail + A.length) (by omega)
  have hn := h.len
  refine ⟨h.geo, by rw [List.length_set, hn], h.hd, h.tl0, h.tl1, ?_, by simp; omega, fun j r' hj => ?_, fun j r' hj => ?_, fun j h1 h2 => ?_, fun s hs => ?_⟩
  · obtain ⟨s, hs1, hs2⟩ := h.head
    exact ⟨s, by rw [List.getElem?_set_ne (by omega)]; exact hs1, hs2⟩
  · by_cases hc : j < A.length
    · rw [List.getElem?_append_left hc] at hj
      exact h.good j r' hj
    · have hlt := lt_of_at hj
      rw [List.length_append, List.length_singleton] at hlt
      have : j = A.length := by omega
      subst this
      rw [List.getElem?_append_right (Nat.le_refl _), Nat.sub_self] at hj
      simp at hj
      subst hj
      exact ⟨hr, hk, hl⟩
  · have hpj := sj_pos h.geo h.hd (l := tail + j) (by omega)
    by_cases hc : j < A.length
    · rw [List.getElem?_append_left hc] at hj
      have hne : jourV g slot (tail + A.length) ≠ jourV g slot (tail + j) := fun he => by
        have := emod_inj (J := g.journal) (t := tail) (i := A.length) (j := j) (by omega) (by omega) (by omega)
        omega
      rw [List.getElem?_set_ne (by omega)]
      exact h.at_ j r' hj
    · have hlt2 := lt_of_at hj
      rw [List.length_append, List.length_singleton] at hlt2
      have : j = A.length := by omega
      subst this
      rw [List.getElem?_append_right (Nat.le_refl _), Nat.sub_self] at hj
      simp at hj
      subst hj
      exact List.getElem?_set_self (by omega)
  · rw [List.length_append, List.length_singleton] at h1
    have hpj := sj_pos h.geo h.hd (l := tail + j) (by omega)
    have hne : jourV g slot (tail + A.length) ≠ jourV g slot (tail + j) := fun he => by
      have := emod_inj (J := g.journal) (t := tail) (i := A.length) (j := j) (by omega) (by omega) (by omega)
      omega
    rw [List.getElem?_set_ne (by omega)]
    exact h.rest j (by omega) h2
  · rcases List.mem_or_eq_of_mem_set hs with hs | rfl
    · exact h.sz s hs
    · exact sj_size hr

theorem SJ.put {g : Geo} {slot key tail : Int} {D : List ByteArray} (h : SJ g slot key tail D []) {A : List Record} (hf : (A.length : Int) ≤ g.journal) (hA : ∀ (j : Nat) r, A[j]? = some r → recB r = true ∧ r.key = key ∧ r.lsn = tail + j) :
    SJ g slot key tail (putD g slot D A) A := by
  have hgo : ∀ n, n ≤ A.length → SJ g slot key tail (putD g slot D (A.take n)) (A.take n) := by
    intro n
    induction n with
    | zero => intro _; exact h
    | succ n ih =>
      intro hn
      obtain ⟨r, hr⟩ : ∃ r, A[n]? = some r := ⟨_, List.getElem?_eq_getElem (by omega)⟩
      obtain ⟨h1, h2, h3⟩ := hA n r hr
      have hl : (A.take n).length = n := by rw [List.length_take]; omega
      have := (ih (by omega)).step (r := r) (by omega) h1 h2 (by omega)
      rw [← putD_snoc, ← rp_take hr] at this
      exact this
  have := hgo A.length (Nat.le_refl _)
  rwa [List.take_length] at this

theorem SJ.rows {g : Geo} {slot key tail : Int} {D : List ByteArray} {A : List Record} (h : SJ g slot key tail D A) : RowsOf g slot key tail D A := by
  have h1 := h.tl1
  refine ⟨h.geo, h.len, h.hd, h.tl0, by omega, h.few, h.sz, fun j r hr => ?_, fun hlt => ⟨_, h.rest _ (Nat.le_refl _) hlt, rp_isB_empty _ _⟩⟩
  obtain ⟨hb, hk, hl⟩ := h.good j r hr
  have hi : isB (recBytes r) key (tail + j) = true := by rw [is_rec hb, hk, hl, decide_eq_true rfl, decide_eq_true rfl]; rfl
  exact ⟨_, h.at_ j r hr, hi, by rw [isV, if_pos hi]; exact (read_rec hb).2.1⟩

theorem SJ.headE {g : Geo} {slot key tail : Int} {D : List ByteArray} {A : List Record} (h : SJ g slot key tail D A) : ∃ s, D[(headV g slot).toNat]? = some s ∧ tailV s = tail ∧ tailE s = 0 := by
  obtain ⟨s, h1, h2⟩ := h.head
  exact ⟨s, h1, by rw [tailV, h2]; rfl, by rw [tailE, h2]; rfl⟩

/-- One record lost, or another key's. -/
theorem SJ.lose {g : Geo} {slot key tail : Int} {D : List ByteArray} {A : List Record} (h : SJ g slot key tail D A) {k : Nat} (hk : k < A.length) {s : ByteArray} (hz : s.size ≤ maxLen) (hs : isB s key (tail + k) = false) :
    RowsOf g slot key tail (D.set (jourV g slot (tail + k)).toNat s) (A.take k) ∧ ∃ t, (D.set (jourV g slot (tail + k)).toNat s)[(headV g slot).toNat]? = some t ∧ tailV t = tail ∧ tailE t = 0 := by
  have h0 := h.tl0
  have h1 := h.tl1
  have hn := h.len
  have hf := h.few
  have hp := sj_pos h.geo h.hd (l := tail + k) (by omega)
  have hl : (A.take k).length = k := by rw [List.length_take]; omega
  refine ⟨⟨h.geo, by rw [List.length_set, hn], h.hd, h0, by omega, by omega, fun t ht => ?_, fun j r hr => ?_, fun _ => ?_⟩, ?_⟩
  · rcases List.mem_or_eq_of_mem_set ht with ht | rfl
    · exact h.sz t ht
    · exact hz
  · have hj := lt_of_at hr
    rw [hl] at hj
    rw [List.getElem?_take_of_lt hj] at hr
    have hpj := sj_pos h.geo h.hd (l := tail + j) (by omega)
    have hne : jourV g slot (tail + k) ≠ jourV g slot (tail + j) := fun he => by
      have := emod_inj (J := g.journal) (t := tail) (i := k) (j := j) (by omega) (by omega) (by omega)
      omega
    rw [List.getElem?_set_ne (by omega)]
    exact h.rows.at_ j r hr
  · rw [hl]
    exact ⟨s, List.getElem?_set_self (by omega), hs⟩
  · obtain ⟨t, ht1, ht2⟩ := h.headE
    exact ⟨t, by rw [List.getElem?_set_ne (by omega)]; exact ht1, ht2⟩

def leftOf (E : List Int) (k : Nat) : Int := E.foldl (fun a e => if e ≤ (k : Int) then e else a) 0

theorem leftOf_snoc (E : List Int) (e : Int) (k : Nat) : leftOf (E ++ [e]) k = if e ≤ (k : Int) then e else leftOf E k := by
  rw [leftOf, List.foldl_append]; rfl

/-- Transactions one behind the other, and where they end. -/
structure TxI (g : Geo) (key tail : Int) (A : List Record) (E : List Int) : Prop where
  few : (A.length : Int) ≤ g.journal
  good : ∀ (j : Nat) r, A[j]? = some r → recB r = true ∧ r.key = key ∧ r.lsn = tail + j
  chain : Chain A
  ends : Ends A
  left : ∀ k, k < A.length → leftOf E k = (whole (A.take k) : Int)
  last : ∀ k, A.length ≤ k → leftOf E k = (A.length : Int)

theorem TxI.nil {g : Geo} (hG : geoB g = true) (key tail : Int) : TxI g key tail [] [0] := by
  have hf := geo_facts hG
  refine ⟨by simp; omega, by simp, chain_nil, ends_nil, by simp, fun k _ => ?_⟩
  simp [leftOf]

theorem TxI.step {g : Geo} {key tail : Int} {A : List Record} {E : List Int} (h : TxI g key tail A E) {l : List Block} (hok : OfOk g key (tail + A.length) l) (hf : ((A ++ allRecs g key (tail + A.length) l).length : Int) ≤ g.journal) :
    TxI g key tail (A ++ allRecs g key (tail + A.length) l) (E ++ [((A ++ allRecs g key (tail + A.length) l).length : Int)]) := by
  obtain ⟨hz, hc, h1⟩ := txn_recs hok
  have ht := txn_all (g := g) (key := key) (lsn := tail + A.length) (l := l) h1
  obtain ⟨T, hT⟩ : ∃ T, allRecs g key (tail + A.length) l = T := ⟨_, rfl⟩
  have hgood : ∀ (j : Nat) r, T[j]? = some r → recB r = true ∧ r.key = key ∧ r.lsn = tail + A.length + j := fun j r hr => by
    rw [← hT] at hr
    have := all_facts h1 hr
    exact ⟨all_recB hok hr, this.2.1, this.1⟩
  have hdat : ∀ k, k < T.length → ∀ x ∈ T.take k, x.count = 0 := fun k hk => by
    rw [← hT] at hk ⊢
    exact take_data hok hk
  rw [hT] at hf ht ⊢
  refine ⟨hf, fun j r hr => ?_, chain_app h.chain (chain_txn ht), ends_txn h.ends ht, fun k hk => ?_, fun k hk => ?_⟩
  · by_cases hc : j < A.length
    · rw [List.getElem?_append_left hc] at hr
      exact h.good j r hr
    · rw [List.getElem?_append_right (by omega)] at hr
      obtain ⟨a1, a2, a3⟩ := hgood _ r hr
      exact ⟨a1, a2, by omega⟩
  · rw [leftOf_snoc, if_neg (by omega)]
    rw [List.length_append] at hk
    by_cases hc : k < A.length
    · rw [List.take_append_of_le_length (by omega)]
      exact h.left k hc
    · rw [h.last k (by omega), List.take_append, List.take_of_length_le (by omega : A.length ≤ k), whole_data h.chain (hdat (k - A.length) (by omega))]
  · rw [leftOf_snoc, if_pos (by omega)]
end Go.Proofs.Ytikdaehmaaogdaa

/- What the document makes of a transaction, told over what is known of memory. -/
set_option linter.unusedVariables false
set_option linter.unusedSimpArgs false
set_option maxRecDepth 100000
namespace Go.Proofs.Ytikdaehmaaogdaa
open Go Go.Eng Go.RowKit

theorem rOf_any (V : Vw) (g : Geo) (ok : g.Ok) (key lsn : Int) (sv : Value) (l : List Block) (w : World) (hV : V.le (vw w)) (hs0 : SlOf V Block.cells 2 sv l) :
    Calls Try.prog 21 #[g.val, I key, I lsn, sv] w (OfPost g key lsn l w) := by
  by_cases hn : l.length ≤ lim
  · exact rOf_c V g ok key lsn sv l w hV hs0 hn
  · have hs := hs0.mono hV
    simp only [lim] at hn
    have hno : ¬ OfOk g key lsn l := fun h => by
      have := h.few
      have := geo_facts h.geo
      omega
    refine enter (E := E0) (O := []) (nl := 0) (V := vw w) [.a (.v g.val), .a (.v (I key)), .a (.v (I lsn)), .a (.v sv)] Try.func21 rfl rfl (mem0 E0 0 w) rfl rfl ?_
    refine c_seq ?_
    refine c_region ?_
    refine o_new tok rfl rfl rfl rfl ?_
    refine o_yield rfl rfl rfl (y_val tok rfl) ?_
    refine o_yield rfl rfl rfl (y_val tok rfl) ?_
    refine o_end [1, 2, 3, 4] rfl ?_
    refine x_then ?_
    refine c_seq ?_
    refine c_seq ?_
    refine c_region ?_
    refine o_yield rfl rfl rfl (y_val tok rfl) ?_
    refine o_call (.a (.v _)) rfl rfl fnok17 rfl rfl rfl (fun hg E w1 hm => by exact refMay_c g ok _) ?_
    refine o_yield rfl rfl rfl (y_val tok rfl) ?_
    refine o_yield rfl rfl rfl (y_val tok rfl) ?_
    refine o_yield rfl rfl rfl (y_val tok rfl) ?_
    refine o_yield rfl rfl rfl (y_len tok rfl (fun hg => hs.sl)) ?_
    refine o_yield rfl rfl rfl (y_val tok rfl) ?_
    refine o_yield rfl rfl rfl (y_val tok rfl) ?_
    refine o_yield rfl rfl rfl (y_val tok rfl) ?_
    refine o_yield rfl rfl rfl (y_val tok rfl) ?_
    refine o_yield rfl rfl rfl (y_len tok rfl (fun hg => hs.sl)) ?_
    refine o_yield rfl rfl rfl (y_val tok rfl) ?_
    refine o_yield rfl rfl rfl (y_val tok rfl) ?_
    refine o_yield rfl rfl rfl (y_val tok rfl) ?_
    refine o_yield rfl rfl rfl (y_val tok rfl) ?_
    refine o_yield rfl rfl rfl (y_val tok rfl) ?_
    refine o_yield rfl rfl rfl (y_val tok rfl) ?_
    refine o_yield rfl rfl rfl (y_val tok rfl) ?_
    refine o_yield rfl rfl rfl (y_val tok rfl) ?_
    refine o_yield rfl rfl rfl (y_val tok rfl) ?_
    refine o_yield rfl rfl rfl (y_val tok rfl) ?_
    refine o_yield rfl rfl rfl (y_val tok rfl) ?_
    refine o_yield rfl rfl rfl (y_val tok rfl) ?_
    refine o_end [1, 2, 3, 4, 36] rfl ?_
    refine x_then ?_
    refine c_cond rfl (fun h => ?_) (fun h => ?_)
    ·
      refine c_seq ?_
      refine c_region ?_
      refine o_yield rfl rfl rfl (y_val tok rfl) ?_
      refine o_yield rfl rfl rfl (y_val tok rfl) ?_
      refine o_end [8, 9] rfl ?_
      refine x_then ?_
      refine c_ret ?_
      refine x_then_ret ?_
      refine b_ret tok rfl ?_
      intro E w' hm _
      exact ⟨.inr ⟨hno, rfl⟩, hm.below (Vw.le.refl _)⟩
    ·
      exfalso
      cases hq : geoB g with
      | false => simp [hq] at h
      | true =>
        have := geo_facts hq
        simp [hq] at h
        omega

theorem rOf_cV (V : Vw) (g : Geo) (ok : g.Ok) (key lsn : Int) (sv : Value) (l : List Block) (w : World) (hV : V.le (vw w)) (hs0 : SlOf V Block.cells 2 sv l) :
    Calls Try.prog 21 #[g.val, I key, I lsn, sv] w fun e w' => ∃ v V', e = .returned v ∧ Below w.heap.size w w' ∧ Vext w.heap.size V V' w' ∧
      ∃ a n c K ec, v = .tuple #[.slice a n c, I ec] ∧ SlOf V' Record.cells 6 (.slice a n c) K ∧ ((OfOk g key lsn l ∧ K = allRecs g key lsn l ∧ ec = 0) ∨ (ec = 2 ∧ K = [])) := by
  refine (rOf_any V g ok key lsn sv l w hV hs0).mono ?_
  rintro e w' ⟨⟨hok, v, rfl, hrow⟩ | ⟨_, rfl⟩, hb⟩
  · obtain ⟨V', hx, hsl⟩ := ownsRow_vext hV hb hrow
    obtain ⟨a, n, c, rfl⟩ := sl_shape hsl
    exact ⟨_, V', rfl, hb, hx, a, n, c, _, 0, rfl, ⟨hsl, fun _ => rfl⟩, .inl ⟨hok, rfl, rfl⟩⟩
  · exact ⟨_, V.grown w w', rfl, hb, Vext.grown hV hb, none, 0, 0, [], 2, rfl, slNil _ _ _ _ (fun _ => rfl), .inr ⟨rfl, rfl⟩⟩

theorem updF_congr {n : Int} : ∀ (l : List Block) (f f' : Int → Option ByteArray), f n = f' n → l.foldl updF f n = l.foldl updF f' n
  | [], _, _, h => h
  | b :: l, f, f', h => by
    rw [List.foldl_cons, List.foldl_cons]
    refine updF_congr l _ _ ?_
    simp only [updF, h]

theorem behF_mk (f : Int → Option ByteArray) (n : Int) (hn : 0 ≤ n) : ∀ k : Nat, behF (mkF f 0 k) n = if n < k then f n else none
  | 0 => by rw [if_neg (by omega)]; rfl
  | k + 1 => by
    rw [mkF_snoc, Int.zero_add]
    cases hq : f k with
    | none =>
      dsimp only
      rw [List.append_nil, behF_mk f n hn k]
      by_cases h : n < k
      · rw [if_pos h, if_pos (by omega)]
      · rw [if_neg h]
        by_cases h2 : n = k
        · subst h2; rw [if_pos (by omega), hq]
        · rw [if_neg (by omega)]
    | some t =>
      dsimp only
      rw [behF_snoc, behF_mk f n hn k]
      by_cases h2 : n = k
      · subst h2; rw [if_pos rfl, if_pos (by omega), hq]
      · rw [if_neg h2]
        by_cases h : n < k
        · rw [if_pos h, if_pos (by omega)]
        · rw [if_neg h, if_neg (by omega)]

theorem behind_scan {g : Geo} {key lsn : Int} {l : List Block} {A : List Record} (hA : Ends A) (hok : OfOk g key lsn l) : mkF (behF (scanB A ++ l)) 0 64 = scanB (A ++ allRecs g key lsn l) := by
  have hf := geo_facts hok.geo
  rw [← scan_more hA hok]
  have hb : ∀ x ∈ l, 0 ≤ x.n ∧ x.n < (64 : Nat) := fun x hx => by
    obtain ⟨j, hj⟩ := List.mem_iff_getElem?.1 hx
    have := (hok.blks j x hj).blocks
    exact ⟨(blk_asc hok.blks j x hj).1, by omega⟩
  rw [scanB, insAllF l _ hb]
  refine mkF_congr 64 0 fun n h2 h3 => ?_
  rw [behF, List.foldl_append]
  refine updF_congr l _ _ ?_
  have := behF_mk (fun n => lastG n A [] none) n h2 64
  rw [behF] at this
  rw [this, if_pos (by omega)]

theorem behind_cV (V : Vw) (g : Geo) (key lsn : Int) (sv mv : Value) (A : List Record) (l : List Block) (hA : Ends A) (hok : OfOk g key lsn l) (w : World) (hV : V.le (vw w)) (hs0 : SlOf V Block.cells 2 sv (scanB A)) (hm0 : SlOf V Block.cells 2 mv l) :
    Calls Try.prog 22 #[sv, mv] w fun e w' => ∃ x V', e = .returned x ∧ Below w.heap.size w w' ∧ Vext w.heap.size V V' w' ∧ RowBV (scanB (A ++ allRecs g key lsn l)) x V' := by
  have hf := geo_facts hok.geo
  have h1 := hok.few
  have h2 := mkF_len (fun n => lastG n A [] none) 64 0
  rw [← behind_scan hA hok]
  exact rowB_V hV (behind_c V sv mv (scanB A) l w hV hs0 hm0 (by rw [scanB]; omega))
end Go.Proofs.Ytikdaehmaaogdaa

/- The law ScanBack. -/
set_option linter.unusedVariables false
set_option linter.unusedSimpArgs false
set_option maxRecDepth 100000
namespace Go.Proofs.Ytikdaehmaaogdaa
open Go Go.Eng Go.RowKit

theorem flat_set (s : ByteArray) : ∀ (L : List ByteArray) (q : Nat), (L.flatMap encS).set q (.string s) = (L.set q s).flatMap encS
  | [], _ => rfl
  | x :: L, 0 => rfl
  | x :: L, q + 1 => by
    rw [List.set_cons_succ, List.flatMap_cons, List.flatMap_cons, ← flat_set s L q]
    rfl

theorem sl_block {V : Vw} {b cap e : Nat} {cs : Array Value} {fz : Nat × Nat} {D : List ByteArray} (hb : V.get b = some (.cells cs e fz)) (hc : D.length ≤ cap) (hs : cs.size = cap) (ht : cs.toList.take D.length = D.flatMap encS) :
    SlOf V encS 1 (.slice (some ⟨b, 0, none⟩) D.length cap) D := by
  have hl := congrArg List.length ht
  rw [List.length_take, Array.length_toList (xs := cs)] at hl
  refine ⟨⟨by omega, .inr ⟨b, 0, cap, cs, e, fz, rfl, hb, by omega, ?_, hc⟩⟩, fun _ => rfl⟩
  rw [List.drop_zero, Nat.mul_one, ht]

theorem scanBack_law (w : World) {v0 v1 v2 v3 v4 v5 v6 : Value} (R0 : ∃ g : Geo, v0 = g.val ∧ g.Ok) (R1 : ∃ n : Int, v1 = I n ∧ R64 n) (R2 : ∃ n : Int, v2 = I n ∧ R64 n) (R3 : ∃ n : Int, v3 = I n ∧ R64 n)
    (R4 : ∃ l : List (Sl Block), SlOf (vw w) Sl.enc 1 v4 l ∧ l.length ≤ maxLen ∧ ∀ a ∈ l, SlGood (vw w) Block.cells 2 (fun a => a.Ok) a) (R5 : ∃ n : Int, v5 = I n ∧ R64 n) (R6 : ∃ n : Int, v6 = I n ∧ R64 n) :
    Calls Try.prog 5 #[v0, v1, v2, v3, v4, v5, v6] w fun e w' => e = .returned (.bool true) ∧ Below w.heap.size w w' := by
  obtain ⟨g, rfl, ok⟩ := R0
  obtain ⟨slot, rfl, _⟩ := R1
  obtain ⟨key, rfl, _⟩ := R2
  obtain ⟨tail, rfl, _⟩ := R3
  obtain ⟨rows, hr, hrmax, hrall⟩ := R4
  obtain ⟨lost, rfl, hlost⟩ := R5
  obtain ⟨other, rfl, _⟩ := R6
  obtain ⟨hd, hdt, hdz, hh2⟩ := headR0
  have hnil := fun w => rformat_c g ok hd hh2 w
  clear hh2
  obtain ⟨ra, rn, rc, rfl⟩ := sl_shape hr.sl
  refine enter (E := E0) (O := []) (nl := 0) (V := vw w) [.a (.v g.val), .a (.v (I slot)), .a (.v (I key)), .a (.v (I tail)), .a (.v (.slice ra rn rc)), .a (.v (I lost)), .a (.v (I other))] Try.func5 rfl rfl (mem0 E0 0 w) rfl rfl ?_
  refine c_seq ?_
  refine c_region ?_
  refine o_new tok rfl rfl rfl rfl ?_
  refine o_yield rfl rfl rfl (y_val tok rfl) ?_
  refine o_end [1, 2, 3, 4, 5, 6, 7] rfl ?_
  refine x_then ?_
  refine c_seq ?_
  refine c_seq ?_
  refine c_region ?_
  refine o_yield rfl rfl rfl (y_val tok rfl) ?_
  refine o_call (.a (.v _)) rfl rfl fnok17 rfl rfl rfl (fun hg E w1 hm => by exact refMay_c g ok _) ?_
  refine o_yield rfl rfl rfl (y_val tok rfl) ?_
  refine o_yield rfl rfl rfl (y_val tok rfl) ?_
  refine o_yield rfl rfl rfl (y_val tok rfl) ?_
  refine o_yield rfl rfl rfl (y_val tok rfl) ?_
  refine o_call (.a (.v _)) rfl rfl fnok18 rfl rfl rfl (fun hg E w1 hm => by exact refHead_c g ok slot _) ?_
  refine o_yield rfl rfl rfl (y_val tok rfl) ?_
  refine o_yield rfl rfl rfl (y_val tok rfl) ?_
  refine o_yield rfl rfl rfl (y_val tok rfl) ?_
  refine o_yield rfl rfl rfl (y_val tok rfl) ?_
  refine o_yield rfl rfl rfl (y_len tok rfl (fun hg => hr.sl)) ?_
  refine o_yield rfl rfl rfl (y_val tok rfl) ?_
  refine o_yield rfl rfl rfl (y_val tok rfl) ?_
  refine o_yield rfl rfl rfl (y_val tok rfl) ?_
  refine o_yield rfl rfl rfl (y_val tok rfl) ?_
  refine o_yield rfl rfl rfl (y_val tok rfl) ?_
  refine o_yield rfl rfl rfl (y_val tok rfl) ?_
  refine o_yield rfl rfl rfl (y_val tok rfl) ?_
  refine o_yield rfl rfl rfl (y_val tok rfl) ?_
  refine o_yield rfl rfl rfl (y_val tok rfl) ?_
  refine o_yield rfl rfl rfl (y_val tok rfl) ?_
  refine o_yield rfl rfl rfl (y_val tok rfl) ?_
  refine o_yield rfl rfl rfl (y_val tok rfl) ?_
  refine o_call (.a (.v _)) rfl rfl fnok19 rfl rfl rfl (fun hg E w1 hm => by exact refTotal_c g ok _) ?_
  refine o_yield rfl rfl rfl (y_val tok rfl) ?_
  refine o_yield rfl rfl rfl (y_val tok rfl) ?_
  refine o_end [1, 2, 3, 4, 5, 6, 7, 59] rfl ?_
  refine x_then ?_
  refine c_cond rfl (fun h => ?_) (fun h => ?_)
  ·
    simp only [Bool.and_eq_true, Bool.or_eq_true, Bool.not_eq_true', Bool.or_eq_false_iff, Bool.and_eq_false_iff, decide_eq_true_eq, decide_eq_false_iff_not, beq_iff_eq, bne_iff_ne, Bool.not_eq_false', beq_eq_false_iff_ne, bne_eq_false_iff_eq, ne_eq, Decidable.not_not, Int.not_lt, Int.not_le] at h
    refine c_seq ?_
    refine c_region ?_
    refine o_call (.a (.v _)) rfl rfl fnok15 rfl rfl rfl (fun hg E w1 hm => by exact wakes17_c _) ?_
    refine o_yield rfl rfl rfl (y_val tok rfl) ?_
    refine o_end [14] rfl ?_
    refine x_then ?_
    refine c_ret ?_
    refine x_then_ret ?_
    refine b_ret tok rfl ?_
    intro E w' hm _
    refine ⟨?_, hm.below (Vw.le.refl _)⟩
    rfl
  ·
    simp only [Bool.and_eq_true, Bool.or_eq_true, Bool.not_eq_true', Bool.or_eq_false_iff, Bool.and_eq_false_iff, decide_eq_true_eq, decide_eq_false_iff_not, beq_iff_eq, bne_iff_ne, Bool.not_eq_false', beq_eq_false_iff_ne, bne_eq_false_iff_eq, ne_eq, Decidable.not_not, Int.not_lt, Int.not_le] at h
    obtain ⟨hG, hh, hr6, h0, h1, htot⟩ : geoB g = true ∧ 0 ≤ headV g slot ∧ rows.length ≤ 6 ∧ 0 ≤ tail ∧ tail ≤ 1073741824 ∧ totV g ≤ 2000 := by
      cases hq : geoB g with
      | false => simp [hq] at h
      | true => simp [hq] at h; exact ⟨rfl, by omega, by omega, by omega, by omega, by omega⟩
    clear h
    have hf := geo_facts hG
    have hz := geo_sizes hG
    have hhn := rh_in hG hh
    obtain ⟨nt, hnt⟩ : ∃ n : Nat, totV g = n := ⟨(totV g).toNat, by omega⟩
    have hfl := fmtTo_len g (gbV g) hd g.slots.toNat
    have hJ0 := SJ.start hG hh key hdz h0 h1
    have hfm : ∀ w : World, Calls Try.prog 20 #[g.val] w fun e w' => ∃ v, e = .returned (.tuple #[v, I 0]) ∧ w'.ownsRow w.heap.size 9 1 v (totV g).toNat ((fmtTo g (gbV g) hd g.slots.toNat).flatMap encS) ∧ Below w.heap.size w w' := fun w => by
      refine (hnil w).mono ?_
      rintro e w' ⟨⟨_, v, he, ho⟩ | ⟨hn, _⟩, hb⟩
      · exact ⟨v, he, ho, hb⟩
      · rw [hG] at hn; cases hn
    clear hnil
    rw [show (totV g).toNat = nt by omega] at hfl hfm
    generalize fmtTo g (gbV g) hd g.slots.toNat = L0 at *
    obtain ⟨q0, hq0⟩ : ∃ q : Nat, headV g slot = q := ⟨(headV g slot).toNat, by omega⟩
    have hrh := fun w => refHead_c g ok slot w
    rw [hq0] at hrh hJ0
    rw [Int.toNat_natCast] at hJ0
    refine c_skip ?_
    refine x_then ?_
    refine c_seq ?_
    refine c_region ?_
    refine o_yield rfl rfl rfl (y_val tok rfl) ?_
    refine o_step rfl rfl rfl rfl rfl (s_callR (fun _ : Unit => True) (fun _ => .tup [.row 1, .v (I 0)]) 9 1 (fun _ => nt) (fun _ => L0.flatMap encS) rfl fnok20 (fun _ => rfl) (fun E w hm => (hfm w).mono (fun e w' ⟨v, he, ho, hb⟩ => ⟨(), v, he, ho, hb, trivial⟩))) (fun _ _ => ?_)
    refine o_yield rfl rfl rfl (y_val tok rfl) ?_
    refine o_yield rfl rfl rfl (y_val tok rfl) ?_
    refine o_yield rfl rfl rfl (y_val tok rfl) ?_
    refine o_yield rfl rfl rfl (y_val tok rfl) ?_
    refine o_yield rfl rfl rfl (y_val tok rfl) ?_
    refine o_end [1, 2, 3, 4, 5, 6, 7, 15] rfl ?_
    refine x_then ?_
    refine c_seq ?_
    refine c_region ?_
    refine o_yield rfl rfl rfl (y_val tok rfl) ?_
    refine o_yield rfl rfl rfl (y_val tok rfl) ?_
    refine o_yield rfl rfl rfl (y_val tok rfl) ?_
    refine o_call (.a (.v _)) rfl rfl fnok18 rfl rfl rfl (fun hg E w1 hm => by exact hrh _) ?_
    refine o_yield rfl rfl rfl (y_val tok rfl) ?_
    refine o_call (.a (.v _)) rfl rfl fnok12 rfl rfl rfl (fun hg E w1 hm => by exact refHeadS_c tail _) ?_
    refine o_yield rfl rfl rfl (y_val tok rfl) ?_
    refine o_yield rfl rfl rfl (y_val tok rfl) ?_
    refine o_yield rfl rfl rfl (y_val tok rfl) ?_
    refine o_yield rfl rfl rfl (y_own (s := .a (.rel 1 q0)) 1 rfl rfl (fun v V' hv => y_idxK tok q0 rfl (by simp) (fun hg => hv) (fun hg => by omega))) ?_
    refine o_stepN rfl rfl rfl rfl (s_rst tok rfl rfl (by intro u hu; simp only [List.mem_singleton] at hu; subst hu; rfl) (by simp only [List.length_singleton]; omega) (by omega)) (fun _ _ => ?_)
    refine o_end [1, 2, 3, 4, 5, 6, 7, 15] rfl ?_
    refine x_then ?_
    refine c_seq ?_
    refine c_region ?_
    refine o_yield rfl rfl rfl (y_val tok rfl) ?_
    refine o_end [1, 2, 3, 4, 5, 6, 7, 15, 17] rfl ?_
    refine x_then ?_
    refine c_seq ?_
    refine c_region ?_
    refine o_yield rfl rfl rfl (y_val tok rfl) ?_
    refine o_end [1, 2, 3, 4, 5, 6, 7, 15, 17, 18] rfl ?_
    refine x_then ?_
    refine c_seq ?_
    refine c_region ?_
    have hset := overL_set (enc := encS) (sz := 1) (fun _ => rfl) L0 q0 (headS tail).1 (by omega)
    rw [Nat.mul_one] at hset
    rw [show overL q0 _ _ = _ from hset]
    clear hset
    have hjl : (L0.set q0 (headS tail).1).length = nt := by rw [List.length_set, hfl]
    generalize L0.set q0 (headS tail).1 = D0 at *
    clear hfm hrh
    refine k_nil 17 25 6 rfl rfl ?_
    refine o_step rfl rfl rfl rfl rfl (s_bs tok 1 rfl rfl rfl) (fun _ _ => ?_)
    refine o_yield rfl rfl rfl (y_val tok rfl) ?_
    refine o_end [1, 2, 3, 4, 5, 6, 7, 15, 17, 18, 19] rfl ?_
    refine x_then ?_
    refine c_seq ?_
    refine c_seq ?_
    refine c_region ?_
    refine o_yield rfl rfl rfl (y_val tok rfl) ?_
    refine o_end [1, 2, 3, 4, 5, 6, 7, 15, 17, 18, 19, 20] rfl ?_
    refine x_then ?_
    refine c_block ?_
    refine k_freeze 1 rfl (fun va V1 hle1 hsl1 _ => ?_)
    have hs1 : SlOf V1 encS 1 va D0 := ⟨hjl.symm ▸ hsl1, fun _ => rfl⟩
    clear hsl1
    obtain ⟨sa, sn, sc, rfl⟩ := sl_shape hs1.sl
    refine c_loopV [1, 2, 3, 4, 5, 6, 7] [2, 3] rfl rfl (σ := Nat × List Record × List Int × Value × Vw) (fun (i, A, E, wv, W) => [(15, .a (.v (.slice sa sn sc))), (17, .a (.row 2)), (18, .a (.v wv)), (19, .a (.row 3)), (20, .a (.v (I i)))]) (fun (i, A, E, wv, W) => [(2, .row 25 6 A.length (A.flatMap Record.cells)), (3, .row 3 1 E.length (E.flatMap encI))]) (fun (i, A, E, wv, W) => W) (fun (i, A, E, wv, W) => i ≤ rows.length ∧ E.length = i + 1 ∧ V1.le W ∧ TxI g key tail A E ∧ SlOf W Block.cells 2 wv (scanB A)) (fun (i, A, E, wv, W) => rows.length - i) ((0, [], [0], .slice none 0 0, V1)) (⟨by omega, rfl, Vw.le.refl _, TxI.nil hG key tail, by rw [scan_nil]; exact slNil _ _ _ _ (fun _ => rfl)⟩) (by repeat (first | exact SubF.nil | refine SubF.cons rfl ?_)) (by repeat (first | exact SubO.nil | refine SubO.cons rfl ?_)) rfl (Vw.le.refl _) ?_
    rintro ⟨i, A, E, wv, W⟩ ⟨hi, hE, hleW, hI, hlast⟩
    dsimp only at hi hE hleW hI hlast ⊢
    have hfew := hI.few
    have hrW := hr.mono (hle1.trans hleW)
    refine c_seq ?_
    refine c_seq ?_
    refine c_region ?_
    refine o_yield rfl rfl rfl (y_val tok rfl) ?_
    refine o_yield rfl rfl rfl (y_val tok rfl) ?_
    refine o_yield rfl rfl rfl (y_len tok rfl (fun hg => hrW.sl)) ?_
    refine o_yield rfl rfl rfl (y_val tok rfl) ?_
    refine o_end [1, 2, 3, 4, 5, 6, 7, 15, 17, 18, 19, 20, 80] rfl ?_
    refine x_then ?_
    refine c_cond rfl (fun h => ?_) (fun h => ?_)
    ·
      simp only [Bool.and_eq_true, Bool.or_eq_true, Bool.not_eq_true', Bool.or_eq_false_iff, Bool.and_eq_false_iff, decide_eq_true_eq, decide_eq_false_iff_not, beq_iff_eq, bne_iff_ne, Bool.not_eq_false', beq_eq_false_iff_ne, bne_eq_false_iff_eq, ne_eq, Decidable.not_not, Int.not_lt, Int.not_le] at h
      have hlt : i < rows.length := by omega
      clear h
      obtain ⟨bx, h_x⟩ := hr.at (k := i) hlt
      have hxs := (hrall bx (List.mem_of_getElem? h_x)).sl.mono (hle1.trans hleW)
      obtain ⟨ba, bn, bc, hbv⟩ := sl_shape hxs.sl
      have hwl : IntKind.i64.wrap (tail + (A.length : Int)) = tail + A.length := wrapI (by omega) (by omega)
      have hwi : IntKind.i64.wrap ((i : Int) + 1) = ((i + 1 : Nat) : Int) := wrapI (by omega) (by omega)
      refine c_skip ?_
      refine x_then ?_
      refine c_seq ?_
      refine c_block ?_
      refine c_seq ?_
      refine c_heldR mixed rfl (by repeat (first | exact SubO.nil | refine SubO.cons rfl ?_)) (by first | rfl | simp [okCels, allOk_plain]) ?_
      refine t_take 0 rfl (by kernel_rfl) rfl rfl rfl (y_val tok rfl) rfl ?_
      refine t_take 1 rfl (by kernel_rfl) rfl rfl rfl (y_val tok rfl) rfl ?_
      refine t_take 2 rfl (by kernel_rfl) rfl rfl rfl (y_val tok rfl) rfl ?_
      refine t_take 3 rfl (by kernel_rfl) rfl rfl rfl (y_val tok rfl) rfl ?_
      refine t_take 4 rfl (by kernel_rfl) rfl rfl rfl (y_own (s := .a (.v (I A.length))) 2 rfl rfl (fun v V' hv => y_len tok rfl (fun hg => hv))) rfl ?_
      refine t_take 5 rfl (by kernel_rfl) rfl rfl rfl (y_val tok rfl) rfl ?_
      refine t_take 6 rfl (by kernel_rfl) rfl rfl rfl (y_val tok rfl) rfl ?_
      refine t_take 7 rfl (by kernel_rfl) rfl rfl rfl (y_val tok rfl) rfl ?_
      rw [hwl]
      have hlt_bx := lt_of_at h_x
      refine t_take 8 rfl (by kernel_rfl) rfl rfl rfl (y_idx tok rfl (fun hg => hrW.sl) (fun hg => ⟨by omega, by omega⟩)) rfl ?_
      refine t_take 9 rfl (by kernel_rfl) rfl rfl rfl (y_lel tok (i) 0 (bx) rfl (fun hg => hrW) (fun hg => h_x) rfl rfl) rfl ?_
      refine t_go ?_
      refine h_one 10 (by kernel_rfl) ?_
      refine h_callV 10 (fun z V' => ∃ a n c K ec, z = .tuple #[.slice a n c, I ec] ∧ SlOf V' Record.cells 6 (.slice a n c) K ∧ ((OfOk g key (tail + A.length) bx.l ∧ K = allRecs g key (tail + A.length) bx.l ∧ ec = 0) ∨ (ec = 2 ∧ K = []))) rfl rfl rfl fnok21 rfl rfl (fun hg E w1 hm => by exact rOf_cV W g ok key (tail + A.length) _ bx.l _ hm.leV hxs) ?_
      rintro z W1 hleW1 hz
      obtain ⟨ka, kn, kc, K, ec, rfl, hK, hcase⟩ := hz rfl
      clear hz
      refine h_one 11 (by kernel_rfl) ?_
      refine h_yield 11 rfl rfl rfl rfl (y_val tok rfl) ?_
      refine h_take 12 rfl (by kernel_rfl) rfl rfl rfl rfl (y_val tok rfl) rfl ?_
      refine h_take 13 rfl (by kernel_rfl) rfl rfl rfl rfl (y_val tok rfl) rfl ?_
      refine h_one 14 (by kernel_rfl) ?_
      refine h_yield 14 rfl rfl rfl rfl (y_val tok rfl) ?_
      refine h_one 15 (by kernel_rfl) ?_
      refine h_yield 15 rfl rfl rfl rfl (y_val tok rfl) ?_
      refine h_done [1, 2, 3, 4, 5, 6, 7, 15, 17, 18, 19, 20, 21, 22] (by kernel_rfl) rfl ?_
      refine x_then ?_
      refine c_seq ?_
      refine c_seq ?_
      refine c_region ?_
      refine o_yield rfl rfl rfl (y_val tok rfl) ?_
      refine o_yield rfl rfl rfl (y_val tok rfl) ?_
      refine o_yield rfl rfl rfl (y_val tok rfl) ?_
      refine o_yield rfl rfl rfl (y_val tok rfl) ?_
      refine o_yield rfl rfl rfl (y_own (s := .a (.v (I A.length))) 2 rfl rfl (fun v V' hv => y_len tok rfl (fun hg => hv))) ?_
      refine o_yield rfl rfl rfl (y_val tok rfl) ?_
      refine o_yield rfl rfl rfl (y_len tok rfl (fun hg => hK.sl)) ?_
      refine o_yield rfl rfl rfl (y_val tok rfl) ?_
      refine o_yield rfl rfl rfl (y_val tok rfl) ?_
      refine o_yield rfl rfl rfl (y_val tok rfl) ?_
      refine o_yield rfl rfl rfl (y_val tok rfl) ?_
      refine o_yield rfl rfl rfl (y_val tok rfl) ?_
      refine o_end [1, 2, 3, 4, 5, 6, 7, 15, 17, 18, 19, 20, 21, 108] rfl ?_
      refine x_then ?_
      refine c_cond rfl (fun h => ?_) (fun h => ?_)
      ·
        simp only [Bool.and_eq_true, Bool.or_eq_true, Bool.not_eq_true', Bool.or_eq_false_iff, Bool.and_eq_false_iff, decide_eq_true_eq, decide_eq_false_iff_not, beq_iff_eq, bne_iff_ne, Bool.not_eq_false', beq_eq_false_iff_ne, bne_eq_false_iff_eq, ne_eq, Decidable.not_not, Int.not_lt, Int.not_le] at h
        refine c_seq ?_
        refine c_region ?_
        refine o_call (.a (.v _)) rfl rfl fnok15 rfl rfl rfl (fun hg E w1 hm => by exact wakes17_c _) ?_
        refine o_yield rfl rfl rfl (y_val tok rfl) ?_
        refine o_end [14] rfl ?_
        refine x_then ?_
        refine c_ret ?_
        refine x_then_ret ?_
        refine x_block_ret ?_
        refine x_then_ret ?_
        refine x_then_ret ?_
        refine x_block_ret ?_
        refine x_then_ret ?_
        refine b_ret tok rfl ?_
        intro E w' hm _
        refine ⟨?_, hm.below ((hle1.trans (hleW.trans hleW1)))⟩
        rfl
      ·
        have hKl : K.length ≤ 1000 := by
          rcases hcase with ⟨hok, rfl, _⟩ | ⟨rfl, _⟩
          · rw [all_len]
            have h2 := hok.few
            have h3 : bx.l.length * g.per.toNat ≤ 64 * 8 := Nat.mul_le_mul (by omega) (by omega)
            omega
          · simp at h
        have hwk : IntKind.i64.wrap ((A.length : Int) + K.length) = ((A.length + K.length : Nat) : Int) := by rw [wrapI (by omega) (by omega)]; omega
        rw [hwk] at h
        obtain ⟨hok, hKK, hfit⟩ : OfOk g key (tail + A.length) bx.l ∧ K = allRecs g key (tail + A.length) bx.l ∧ ((A.length + K.length : Nat) : Int) ≤ g.journal := by
          rcases hcase with ⟨hok, hKK, _⟩ | ⟨rfl, _⟩
          · refine ⟨hok, hKK, ?_⟩
            simp at h
            omega
          · simp at h
        clear hcase h hwk
        have hI' := hI.step hok (by rw [← hKK, List.length_append]; exact hfit)
        have hbeh := fun w1 hV1 => behind_cV W1 g key (tail + A.length) wv bx.v A bx.l hI.ends hok w1 hV1 (hlast.mono hleW1) (hxs.mono hleW1)
        rw [← hKK] at hI' hbeh
        obtain ⟨A', hA'⟩ : ∃ A', A ++ K = A' := ⟨_, rfl⟩
        have hlA : A.length + K.length = A'.length := by rw [← hA', List.length_append]
        have hcA : A.flatMap Record.cells ++ K.flatMap Record.cells = A'.flatMap Record.cells := by rw [← hA', List.flatMap_append]
        rw [hA'] at hI' hbeh
        have hrW1 := hrW.mono hleW1
        refine c_skip ?_
        refine x_then ?_
        refine c_seq ?_
        refine c_region ?_
        refine o_yield rfl rfl rfl (y_val tok rfl) ?_
        refine o_yield rfl rfl rfl (y_val tok rfl) ?_
        refine o_step rfl rfl rfl rfl rfl (s_app tok (K.flatMap Record.cells) rfl (fun E w hm => hK.sl.src hm.get) (fun _ _ _ => rec_ones _) (by dsimp only; omega)) (fun _ _ => ?_)
        refine o_yield rfl rfl rfl (y_val tok rfl) ?_
        refine o_end [1, 2, 3, 4, 5, 6, 7, 15, 17, 18, 19, 20] rfl ?_
        refine x_then ?_
        refine c_seq ?_
        refine c_region ?_
        refine o_yield rfl rfl rfl (y_val tok rfl) ?_
        refine o_yield rfl rfl rfl (y_val tok rfl) ?_
        refine o_yield rfl rfl rfl (y_val tok rfl) ?_
        rw [hlA, hcA]
        have hlt_bx := lt_of_at h_x
        refine o_yield rfl rfl rfl (y_idx tok rfl (fun hg => hrW1.sl) (fun hg => ⟨by omega, by omega⟩)) ?_
        refine o_yield rfl rfl rfl (y_lel tok (i) 0 (bx) rfl (fun hg => hrW1) (fun hg => h_x) rfl rfl) ?_
        refine o_callV (RowBV (scanB A')) rfl rfl fnok22 rfl rfl (fun hg E w1 hm => by exact hbeh _ hm.leV) ?_
        rintro z W2 hleW2 hz
        obtain ⟨na, nn, nc, rfl, hlast'⟩ := hz rfl
        clear hz
        refine o_yield rfl rfl rfl (y_val tok rfl) ?_
        refine o_end [1, 2, 3, 4, 5, 6, 7, 15, 17, 18, 19, 20] rfl ?_
        refine x_then ?_
        refine c_region ?_
        refine o_yield rfl rfl rfl (y_val tok rfl) ?_
        refine o_yield rfl rfl rfl (y_val tok rfl) ?_
        refine o_yield rfl rfl rfl (y_own (s := .a (.v (I A'.length))) 4 rfl rfl (fun v V' hv => y_len tok rfl (fun hg => hv))) ?_
        refine o_step rfl rfl rfl rfl rfl (s_bs tok 1 rfl rfl rfl) (fun _ _ => ?_)
        refine o_step rfl rfl rfl rfl rfl (s_app tok [I A'.length] rfl (fun E w hm => ownsRow_src (hm.row _ _ _ _ _ rfl)) (fun _ _ _ => by intro u hu; simp only [List.mem_singleton] at hu; subst hu; rfl) (by dsimp only; omega)) (fun _ _ => ?_)
        refine o_yield rfl rfl rfl (y_val tok rfl) ?_
        refine o_end [1, 2, 3, 4, 5, 6, 7, 15, 17, 18, 19, 20] rfl ?_
        refine x_block ?_
        refine x_then ?_
        refine c_region ?_
        refine o_yield rfl rfl rfl (y_val tok rfl) ?_
        refine o_yield rfl rfl rfl (y_val tok rfl) ?_
        refine o_yield rfl rfl rfl (y_val tok rfl) ?_
        refine o_end [1, 2, 3, 4, 5, 6, 7, 15, 17, 18, 19, 20] rfl ?_
        refine x_then ?_
        rw [hwi]
        have hEl : E.length + 1 = (E ++ [(A'.length : Int)]).length := by simp
        have hEc : E.flatMap encI ++ [I A'.length] = (E ++ [(A'.length : Int)]).flatMap encI := by simp
        rw [hEl, hEc]
        refine k_swap 2 4 rfl ?_
        refine k_swap 3 6 rfl ?_
        refine x_round ((i + 1, A', E ++ [(A'.length : Int)], .slice na nn nc, W2)) (⟨by omega, by rw [← hEl, hE], hleW.trans (hleW1.trans hleW2), hI', hlast'⟩) (by first | omega | (dsimp only; omega)) (by repeat (first | exact SubF.nil | refine SubF.cons rfl ?_)) (by repeat (first | exact SubO.nil | refine SubO.cons rfl ?_)) rfl (by repeat (first | exact Vw.le.refl _ | assumption | (refine Vw.le.trans ?_ (by assumption))))
    ·
      simp only [Bool.and_eq_true, Bool.or_eq_true, Bool.not_eq_true', Bool.or_eq_false_iff, Bool.and_eq_false_iff, decide_eq_true_eq, decide_eq_false_iff_not, beq_iff_eq, bne_iff_ne, Bool.not_eq_false', beq_eq_false_iff_ne, bne_eq_false_iff_eq, ne_eq, Decidable.not_not, Int.not_lt, Int.not_le] at h
      clear h
      have hwh := whole_chain hI.chain
      have htk : A.take (whole A) = A := by rw [hwh, List.take_length]
      have hJ := hJ0.put hI.few hI.good
      have hDl := putD_len g slot A D0
      have hput : ∀ r ∈ A, recB r = true ∧ 0 ≤ jourV g slot r.lsn ∧ jourV g slot r.lsn < D0.length := fun r hr => by
        obtain ⟨j, hj⟩ := List.mem_iff_getElem?.1 hr
        obtain ⟨g1, g2, g3⟩ := hI.good j r hj
        have := rj_in hG hh (lsn := r.lsn) (by omega)
        exact ⟨g1, this.1, by omega⟩
      have hAz : ∀ r ∈ A, r.text.size ≤ 256 := fun r hr => (recOk (hput r hr).1).text
      obtain ⟨D1, hD1⟩ : ∃ D1, putD g slot D0 A = D1 := ⟨_, rfl⟩
      refine k_freeze 2 rfl (fun vA W1 hleW1 hslA _ => ?_)
      have hA1 : SlOf W1 Record.cells 6 vA A := ⟨hslA, fun _ => rfl⟩
      clear hslA
      obtain ⟨aa, an, ac, rfl⟩ := sl_shape hA1.sl
      have hpx := fun w1 hV1 => put17X_c W1 g ok slot D0 (by omega) (by omega) A (by omega) hput sa none none none sn sc 0 0 0 0 0 0 0 aa an ac w1 hV1 (hs1.mono (hleW.trans hleW1)) hA1
      rw [hD1] at hpx hJ hDl
      refine c_exit ?_
      refine x_then_exit ?_
      refine x_then_exit ?_
      refine x_block_hit ?_
      refine x_then ?_
      refine c_seq ?_
      refine c_region ?_
      refine o_yield rfl rfl rfl (y_val tok rfl) ?_
      refine o_yield rfl rfl rfl (y_val tok rfl) ?_
      refine o_yield rfl rfl rfl (y_val tok rfl) ?_
      refine o_yield rfl rfl rfl (y_val tok rfl) ?_
      refine o_yield rfl rfl rfl (y_val tok rfl) ?_
      refine o_callV (fun v V' => ∃ b cap cs, v = devG (some ⟨b, 0, none⟩) none none none D1.length cap 0 0 0 0 0 0 0 ∧ V'.get b = some (.cells cs 9 (0, 0)) ∧ W1.get b = none ∧ D1.length ≤ cap ∧ cs.size = cap ∧ cs.toList.take D1.length = D1.flatMap encS) rfl rfl fnok23 rfl rfl (fun hg E w1 hm => by exact hpx _ hm.leV) ?_
      rintro v W2 hleW2 hv
      obtain ⟨b, cap, cs, rfl, hb, hbn, hcap, hcsz, hctk⟩ := hv rfl
      clear hv
      have hs2 := sl_block hb hcap hcsz hctk
      have hA2 := hA1.mono hleW2
      refine o_new tok rfl rfl rfl rfl ?_
      refine o_store tok rfl rfl rfl (by first | exact ⟨trivial, trivial⟩ | (repeat' first | exact trivial | exact rfl | apply And.intro); done | simp [onesP, oneP, lk, Value.oneCell']) ?_
      refine o_end [1, 2, 3, 5, 6, 7, 17, 18, 19, 23] rfl ?_
      refine x_then ?_
      refine c_seq ?_
      refine c_region ?_
      refine o_yield rfl rfl rfl (y_val tok rfl) ?_
      refine o_yield rfl rfl rfl (y_val tok rfl) ?_
      refine o_yield rfl rfl rfl (y_val tok rfl) ?_
      refine o_yield rfl rfl rfl (y_val tok rfl) ?_
      refine o_callV (fun v V' => ∃ a n c, v = .tuple #[.slice a n c, I tail, I 0] ∧ SlOf V' Record.cells 6 (.slice a n c) (A.take (whole A))) rfl rfl fnok24 rfl rfl (fun hg E w1 hm => by exact sjournal_c W2 g ok slot key tail D1 A hJ.rows hJ.headE _ _ _ _ _ _ _ _ _ _ _ _ _ _ hm.leV hs2) ?_
      rintro v W3 hleW3 hv
      obtain ⟨ma, mn, mc, rfl, hm3⟩ := hv rfl
      clear hv
      rw [htk] at hm3
      have hA3 := hA2.mono hleW3
      have hbk := fun w1 hV1 => sblocks_c W3 ma mn mc A w1 hV1 hm3 (by omega) hAz
      rw [htk] at hbk
      have hla3 := ((hlast.mono hleW1).mono hleW2).mono hleW3
      have hec := fun w1 hV1 => sEnd_c W3 (.slice ma mn mc) A tail w1 hV1 hm3 (by omega)
      rw [hwh] at hec
      refine o_yield rfl rfl rfl (y_val tok rfl) ?_
      refine o_yield rfl rfl rfl (y_val tok rfl) ?_
      refine o_yield rfl rfl rfl (y_val tok rfl) ?_
      refine o_yield rfl rfl rfl (y_val tok rfl) ?_
      refine o_yield rfl rfl rfl (y_val tok rfl) ?_
      refine o_yield rfl rfl rfl (y_val tok rfl) ?_
      refine o_yield rfl rfl rfl (y_val tok rfl) ?_
      refine o_end [1, 2, 3, 5, 6, 7, 17, 18, 19, 23, 24, 25, 26] rfl ?_
      refine x_then ?_
      refine c_seq ?_
      refine c_seq ?_
      refine c_region ?_
      refine o_yield rfl rfl rfl (y_val tok rfl) ?_
      refine o_yield rfl rfl rfl (y_val tok rfl) ?_
      refine o_yield rfl rfl rfl (y_val tok rfl) ?_
      refine o_yield rfl rfl rfl (y_val tok rfl) ?_
      refine o_yield rfl rfl rfl (y_val tok rfl) ?_
      refine o_yield rfl rfl rfl (y_val tok rfl) ?_
      refine o_yield rfl rfl rfl (y_val tok rfl) ?_
      refine o_yield rfl rfl rfl (y_val tok rfl) ?_
      refine o_yield rfl rfl rfl (y_val tok rfl) ?_
      refine o_yield rfl rfl rfl (y_val tok rfl) ?_
      refine o_call (.a (.v _)) rfl rfl fnok25 rfl rfl rfl (fun hg E w1 hm => by exact same16_c W3 _ _ A _ hm.leV hm3 hA3 (by omega)) ?_
      refine o_yield rfl rfl rfl (y_val tok rfl) ?_
      refine o_yield rfl rfl rfl (y_val tok rfl) ?_
      refine o_yield rfl rfl rfl (y_val tok rfl) ?_
      refine o_yield rfl rfl rfl (y_val tok rfl) ?_
      refine o_callV (RowBV (scanB A)) rfl rfl fnok27 rfl rfl (fun hg E w1 hm => by exact rowB_V hm.leV (hbk _ hm.leV)) ?_
      rintro z W4 hleW4 hz
      obtain ⟨ba, bn, bc, rfl, hbl⟩ := hz (by simp)
      clear hz
      refine o_yield rfl rfl rfl (y_val tok rfl) ?_
      refine o_call (.a (.v _)) rfl rfl fnok26 rfl rfl rfl (fun hg E w1 hm => by exact sameB17_c W4 _ _ (scanB A) _ hm.leV hbl (hla3.mono hleW4) (by have := mkF_len (fun n => lastG n A [] none) 64 0; rw [scanB]; omega)) ?_
      refine o_yield rfl rfl rfl (y_val tok rfl) ?_
      refine o_yield rfl rfl rfl (y_val tok rfl) ?_
      refine o_yield rfl rfl rfl (y_val tok rfl) ?_
      refine o_yield rfl rfl rfl (y_val tok rfl) ?_
      refine o_yield rfl rfl rfl (y_val tok rfl) ?_
      refine o_call (.a (.v _)) rfl rfl fnok28 rfl rfl rfl (fun hg E w1 hm => by exact hec _ (hleW4.trans hm.leV)) ?_
      refine o_yield rfl rfl rfl (y_val tok rfl) ?_
      refine o_yield rfl rfl rfl (y_val tok rfl) ?_
      refine o_yield rfl rfl rfl (y_len tok rfl (fun hg => (hA3.mono hleW4).sl)) ?_
      refine o_yield rfl rfl rfl (y_val tok rfl) ?_
      refine o_yield rfl rfl rfl (y_val tok rfl) ?_
      refine o_yield rfl rfl rfl (y_val tok rfl) ?_
      refine o_end [1, 2, 3, 5, 6, 7, 17, 19, 23, 168] rfl ?_
      refine x_then ?_
      refine c_cond rfl (fun h => ?_) (fun h => ?_)
      ·
        simp only [Bool.and_eq_true, Bool.or_eq_true, Bool.not_eq_true', Bool.or_eq_false_iff, Bool.and_eq_false_iff, decide_eq_true_eq, decide_eq_false_iff_not, beq_iff_eq, bne_iff_ne, Bool.not_eq_false', beq_eq_false_iff_ne, bne_eq_false_iff_eq, ne_eq, Decidable.not_not, Int.not_lt, Int.not_le] at h
        exfalso
        simp at h
      ·
        simp only [Bool.and_eq_true, Bool.or_eq_true, Bool.not_eq_true', Bool.or_eq_false_iff, Bool.and_eq_false_iff, decide_eq_true_eq, decide_eq_false_iff_not, beq_iff_eq, bne_iff_ne, Bool.not_eq_false', beq_eq_false_iff_ne, bne_eq_false_iff_eq, ne_eq, Decidable.not_not, Int.not_lt, Int.not_le] at h
        clear h
        have hA4 := hA3.mono hleW4
        have hs4 := (hs2.mono hleW3).mono hleW4
        have hb4 := (hleW3.trans hleW4).get _ _ hb
        have hW14 := hleW2.trans (hleW3.trans hleW4)
        have hb01 := hle1.trans (hleW.trans hleW1)
        refine c_skip ?_
        refine x_then ?_
        refine c_seq ?_
        refine c_seq ?_
        refine c_region ?_
        refine o_yield rfl rfl rfl (y_val tok rfl) ?_
        refine o_yield rfl rfl rfl (y_len tok rfl (fun hg => hA4.sl)) ?_
        refine o_yield rfl rfl rfl (y_val tok rfl) ?_
        refine o_end [1, 2, 3, 5, 6, 7, 17, 19, 23, 171] rfl ?_
        refine x_then ?_
        refine c_cond rfl (fun h => ?_) (fun h => ?_)
        ·
          simp only [Bool.and_eq_true, Bool.or_eq_true, Bool.not_eq_true', Bool.or_eq_false_iff, Bool.and_eq_false_iff, decide_eq_true_eq, decide_eq_false_iff_not, beq_iff_eq, bne_iff_ne, Bool.not_eq_false', beq_eq_false_iff_ne, bne_eq_false_iff_eq, ne_eq, Decidable.not_not, Int.not_lt, Int.not_le] at h
          have hA0 : A.length = 0 := by omega
          refine c_seq ?_
          refine c_region ?_
          refine o_yield rfl rfl rfl (y_val tok rfl) ?_
          refine o_yield rfl rfl rfl (y_val tok rfl) ?_
          refine o_yield rfl rfl rfl (y_val tok rfl) ?_
          refine o_yield rfl rfl rfl (y_val tok rfl) ?_
          refine o_yield rfl rfl rfl (y_val tok rfl) ?_
          refine o_callV (fun v V' => ∃ a n c, v = .slice a n c ∧ SlOf V' Record.cells 6 (.slice a n c) A) rfl rfl fnok16 rfl rfl (fun hg E w1 hm => by exact srows_cV W4 g ok slot key tail D1 A hJ.rows _ _ _ _ _ _ _ _ _ _ _ _ _ _ hm.leV hs4) ?_
          rintro v W5 hleW5 hv
          obtain ⟨a5, n5, c5, rfl, hs5⟩ := hv rfl
          clear hv
          refine o_yield rfl rfl rfl (y_len tok rfl (fun hg => hs5.sl)) ?_
          refine o_yield rfl rfl rfl (y_val tok rfl) ?_
          refine o_yield rfl rfl rfl (y_val tok rfl) ?_
          refine o_call (.a (.v _)) rfl rfl fnok15 rfl rfl rfl (fun hg E w1 hm => by exact wakes17_c _) ?_
          refine o_yield rfl rfl rfl (y_val tok rfl) ?_
          refine o_yield rfl rfl rfl (y_val tok rfl) ?_
          refine o_end [14] rfl ?_
          refine x_then ?_
          refine c_ret ?_
          refine x_then_ret ?_
          refine b_ret tok rfl ?_
          intro E w' hm _
          refine ⟨?_, hm.below ((hb01.trans (hW14.trans hleW5)))⟩
          rw [hA0]
          rfl
        ·
          simp only [Bool.and_eq_true, Bool.or_eq_true, Bool.not_eq_true', Bool.or_eq_false_iff, Bool.and_eq_false_iff, decide_eq_true_eq, decide_eq_false_iff_not, beq_iff_eq, bne_iff_ne, Bool.not_eq_false', beq_eq_false_iff_ne, bne_eq_false_iff_eq, ne_eq, Decidable.not_not, Int.not_lt, Int.not_le] at h
          have hn : 0 < A.length := by omega
          clear h
          refine c_skip ?_
          refine x_then ?_
          refine c_seq ?_
          refine c_region ?_
          refine o_yield rfl rfl rfl (y_val tok rfl) ?_
          refine o_yield rfl rfl rfl (y_val tok rfl) ?_
          refine o_yield rfl rfl rfl (y_len tok rfl (fun hg => hA4.sl)) ?_
          refine o_yield rfl rfl rfl (y_rem rfl (fun hg => by omega)) ?_
          refine o_yield rfl rfl rfl (y_val tok rfl) ?_
          refine o_yield rfl rfl rfl (y_len tok rfl (fun hg => hA4.sl)) ?_
          refine o_yield rfl rfl rfl (y_val tok rfl) ?_
          refine o_yield rfl rfl rfl (y_val tok rfl) ?_
          have hb1 := Int.tmod_lt_of_pos lost (show (0 : Int) < (A.length : Int) by omega)
          have hb2 := Int.lt_tmod_of_pos lost (show (0 : Int) < (A.length : Int) by omega)
          rw [wrapI (n := lost.tmod (A.length : Int) + A.length) (by omega) (by omega)]
          refine o_yield rfl rfl rfl (y_len tok rfl (fun hg => hA4.sl)) ?_
          refine o_yield rfl rfl rfl (y_rem rfl (fun hg => by omega)) ?_
          refine o_yield rfl rfl rfl (y_val tok rfl) ?_
          refine o_end [1, 2, 3, 5, 6, 7, 17, 19, 23] rfl ?_
          refine x_then ?_
          refine c_seq ?_
          refine c_region ?_
          refine o_yield rfl rfl rfl (y_val tok rfl) ?_
          refine o_yield rfl rfl rfl (y_val tok rfl) ?_
          obtain ⟨k, hk1, hk2⟩ : ∃ k : Nat, (lost.tmod (A.length : Int) + A.length).tmod (A.length : Int) = k ∧ k < A.length := by
            have h1 := Int.tmod_nonneg (A.length : Int) (show 0 ≤ lost.tmod (A.length : Int) + A.length by omega)
            have h2 := Int.tmod_lt_of_pos (lost.tmod (A.length : Int) + A.length) (show (0 : Int) < (A.length : Int) by omega)
            exact ⟨((lost.tmod (A.length : Int) + A.length).tmod (A.length : Int)).toNat, by omega, by omega⟩
          rw [hk1]
          clear hb1 hb2 hk1
          obtain ⟨x, h_x⟩ := hA4.at (k := k) hk2
          obtain ⟨hx1, hx2, hx3⟩ := hI.good k x h_x
          have hjp := sj_pos hG hh (l := tail + k) (by omega)
          obtain ⟨q, hq⟩ : ∃ q : Nat, jourV g slot (tail + k) = q := ⟨(jourV g slot (tail + k)).toNat, by omega⟩
          have hql : q < D1.length := by omega
          obtain ⟨y, h_y⟩ : ∃ y, D1[q]? = some y := ⟨_, List.getElem?_eq_getElem hql⟩
          have hjc := fun w => refJour_c g ok slot x.lsn w
          have hjx : jourV g slot x.lsn = q := by rw [hx3, hq]
          rw [hjx] at hjc
          have hlose := fun s hz hs => hJ.lose hk2 (s := s) hz hs
          rw [hq, Int.toNat_natCast] at hlose
          have hlt_x := lt_of_at h_x
          refine o_yield rfl rfl rfl (y_idx tok rfl (fun hg => hA4.sl) (fun hg => ⟨by omega, by omega⟩)) ?_
          refine o_yield rfl rfl rfl (y_lel tok (k) 0 (x) rfl (fun hg => hA4) (fun hg => h_x) rfl rfl) ?_
          refine o_new tok rfl rfl rfl rfl ?_
          refine o_store tok rfl rfl rfl (by first | exact ⟨trivial, trivial⟩ | (repeat' first | exact trivial | exact rfl | apply And.intro); done | simp [onesP, oneP, lk, Value.oneCell']) ?_
          refine o_end [1, 2, 3, 5, 6, 7, 17, 19, 23, 27] rfl ?_
          refine x_then ?_
          refine c_cut (σ := Option Addr × Nat × Nat × List ByteArray × Vw) (fun (a, n, c, D2, W5) => [(1, .a (.v (I slot))), (2, .a (.v (I key))), (3, .a (.v (I tail))), (5, .a (.v (I k))), (7, .a (.ptr 0 0)), (17, .a (.v (.slice aa an ac))), (19, .a (.row 3)), (23, .a (.ptr 4 0))]) (fun (a, n, c, D2, W5) => [(0, .lit (g.cells.map .v) 23), (3, .row 3 1 E.length (E.flatMap encI)), (4, .lit [.v (.slice a n c), .v (.slice none 0 0), .v (.slice none 0 0), .v (I 0), .v (.slice none 0 0)] 48)]) (6) (fun (a, n, c, D2, W5) => W5) (fun (a, n, c, D2, W5) => (vw w).le W5 ∧ SlOf W5 Record.cells 6 (.slice aa an ac) A ∧ SlOf W5 encS 1 (.slice a n c) D2 ∧ RowsOf g slot key tail D2 (A.take k) ∧ ∃ s, D2[(headV g slot).toNat]? = some s ∧ tailV s = tail ∧ tailE s = 0) ?_ ?_
          ·
            refine c_seq ?_
            refine c_region ?_
            refine o_yield rfl rfl rfl (y_val tok rfl) ?_
            refine o_yield rfl rfl rfl (y_val tok rfl) ?_
            refine o_yield rfl rfl rfl (y_val tok rfl) ?_
            refine o_yield rfl rfl rfl (y_val tok rfl) ?_
            refine o_yield rfl rfl rfl (y_val tok rfl) ?_
            refine o_yield rfl rfl rfl (y_val tok rfl) ?_
            refine o_yield rfl rfl rfl (y_val tok rfl) ?_
            refine o_yield rfl rfl rfl (y_val tok rfl) ?_
            refine o_yield rfl rfl rfl (y_val tok rfl) ?_
            refine o_yield rfl rfl rfl (y_val tok rfl) ?_
            refine o_yield rfl rfl rfl (y_val tok rfl) ?_
            refine o_end [1, 2, 3, 5, 6, 7, 17, 19, 23, 27, 207] rfl ?_
            refine x_then ?_
            refine c_cond rfl (fun h => ?_) (fun h => ?_)
            ·
              simp only [Bool.and_eq_true, Bool.or_eq_true, Bool.not_eq_true', Bool.or_eq_false_iff, Bool.and_eq_false_iff, decide_eq_true_eq, decide_eq_false_iff_not, beq_iff_eq, bne_iff_ne, Bool.not_eq_false', beq_eq_false_iff_ne, bne_eq_false_iff_eq, ne_eq, Decidable.not_not, Int.not_lt, Int.not_le] at h
              refine c_heldS [8] mixed rfl (by repeat (first | exact SubO.nil | refine SubO.cons rfl ?_)) (by first | rfl | simp [okCels, allOk_plain]) ?_
              refine t_takeD 0 rfl (by kernel_rfl) rfl rfl rfl (y_val tok rfl) rfl ?_
              refine t_takeD 1 rfl (by kernel_rfl) rfl rfl rfl (y_val tok rfl) rfl ?_
              refine t_takeD 2 rfl (by kernel_rfl) rfl rfl rfl (y_val tok rfl) rfl ?_
              refine t_takeD 3 rfl (by kernel_rfl) rfl rfl rfl (y_val tok rfl) rfl ?_
              refine t_takeD 4 rfl (by kernel_rfl) rfl rfl rfl (y_val tok rfl) rfl ?_
              refine t_takeD 5 rfl (by kernel_rfl) rfl rfl rfl (y_val tok rfl) rfl ?_
              refine t_go ?_
              refine h_one 6 (by kernel_rfl) ?_
              refine h_call 6 (.a (.v _)) rfl rfl rfl fnok29 rfl rfl rfl (fun hg E w1 hm => by exact hjc _) ?_
              refine h_one 7 (by kernel_rfl) ?_
              refine h_yield 7 rfl rfl rfl rfl (y_idxK tok q rfl (by simp) (fun hg => hs4.sl) (fun hg => by omega)) ?_
              refine h_one 8 (by kernel_rfl) ?_
              refine h_toN 8 rfl rfl rfl rfl rfl (s_vst tok (b := b) (off := 0) rfl hb4 (by omega) (.inl (Nat.zero_le _)) rfl) (.inl rfl) (fun _ _ => ?_)
              refine h_done [1, 2, 3, 5, 7, 17, 19, 23] (by kernel_rfl) rfl ?_
              refine x_then ?_
              obtain ⟨hl1, hl2⟩ := hlose ByteArray.empty (by decide) (rp_isB_empty _ _)
              have hW5 : W1.le (W4.put b (.cells (cs.setIfInBounds (0 + q) (.string ⟨#[]⟩)) 9 (0, 0))) := Vw.put_le hW14 hbn
              have hsE : SlOf (W4.put b (.cells (cs.setIfInBounds (0 + q) (.string ⟨#[]⟩)) 9 (0, 0))) encS 1 (.slice (some ⟨b, 0, none⟩) D1.length cap) (D1.set q ByteArray.empty) := by
                have := sl_block (V := W4.put b (.cells (cs.setIfInBounds (0 + q) (.string ⟨#[]⟩)) 9 (0, 0))) (b := b) (e := 9) (fz := (0, 0)) (cap := cap) (cs := cs.setIfInBounds (0 + q) (.string ⟨#[]⟩)) (D := D1.set q ByteArray.empty) (if_pos rfl) (by rw [List.length_set]; exact hcap) (by rw [Array.size_setIfInBounds]; exact hcsz) (by
                  rw [List.length_set, Array.toList_setIfInBounds, List.take_set, hctk, Nat.zero_add]
                  exact flat_set ByteArray.empty D1 q)
                rwa [List.length_set] at this
              exact x_meet ((some ⟨b, 0, none⟩, D1.length, cap, D1.set q ByteArray.empty, W4.put b (.cells (cs.setIfInBounds (0 + q) (.string ⟨#[]⟩)) 9 (0, 0)))) (⟨hb01.trans hW5, hA1.mono hW5, hsE, hl1, hl2⟩) (by repeat (first | exact SubF.nil | refine SubF.cons rfl ?_)) (by repeat (first | exact SubO.nil | refine SubO.cons rfl ?_)) rfl (by repeat (first | exact Vw.le.refl _ | assumption | (refine Vw.le.trans ?_ (by assumption))))
            ·
              simp only [Bool.and_eq_true, Bool.or_eq_true, Bool.not_eq_true', Bool.or_eq_false_iff, Bool.and_eq_false_iff, decide_eq_true_eq, decide_eq_false_iff_not, beq_iff_eq, bne_iff_ne, Bool.not_eq_false', beq_eq_false_iff_ne, bne_eq_false_iff_eq, ne_eq, Decidable.not_not, Int.not_lt, Int.not_le] at h
              refine c_seq ?_
              refine c_region ?_
              refine o_yield rfl rfl rfl (y_val tok rfl) ?_
              refine o_yield rfl rfl rfl (y_val tok rfl) ?_
              refine o_store tok rfl rfl rfl (by first | exact ⟨trivial, trivial⟩ | (repeat' first | exact trivial | exact rfl | apply And.intro); done | simp [onesP, oneP, lk, Value.oneCell']) ?_
              refine o_end [1, 2, 3, 5, 7, 17, 19, 23, 27] rfl ?_
              refine x_then ?_
              refine c_region ?_
              refine o_yield rfl rfl rfl (y_val tok rfl) ?_
              refine o_yield rfl rfl rfl (y_val tok rfl) ?_
              refine o_yield rfl rfl rfl (y_val tok rfl) ?_
              refine o_yield rfl rfl rfl (y_val tok rfl) ?_
              have hkb : keyB other = true := by simp only [keyB, Bool.and_eq_true, decide_eq_true_eq]; omega
              obtain ⟨x', hx'⟩ : ∃ x' : Record, x' = ⟨other, x.lsn, x.block, x.k, x.text, x.count⟩ := ⟨_, rfl⟩
              have hrx : recB x' = true := by
                subst hx'
                have := hx1
                simp only [recB, Bool.and_eq_true] at this ⊢
                exact ⟨⟨⟨hkb, this.1.1.2⟩, this.1.2⟩, this.2⟩
              refine o_bs tok rfl rfl rfl rfl (fun b1 W5 hlw1 hb1 => ?_)
              have hsx : SlOf W5 Record.cells 6 (.slice (some ⟨b1, 0, none⟩) 1 1) [x'] := SlOf.ofBlock (enc := Record.cells) (sz := 6) (l := [x']) (hb1 rfl) (by subst hx'; rfl) (fun _ => rfl) (Nat.le_refl _)
              refine o_callV (fun v V' => ∃ a n c, v = devG a none none none n c 0 0 0 0 0 0 0 ∧ SlOf V' encS 1 (.slice a n c) (putD g slot D1 [x'])) rfl rfl fnok23 rfl rfl (fun hg E w1 hm => by exact put17_c W5 g ok slot D1 (by omega) (by omega) [x'] (by simp) (fun r hr => by rw [List.mem_singleton.1 hr]; exact ⟨hrx, by subst hx'; dsimp only; omega, by subst hx'; dsimp only; omega⟩) _ _ _ _ _ _ _ _ _ _ _ _ _ _ _ _ _ hm.leV (hs4.mono hlw1) hsx) ?_
              rintro v W6 hleW6 hv
              obtain ⟨a6, n6, c6, rfl, hs6⟩ := hv rfl
              clear hv
              have hpe : putD g slot D1 [x'] = D1.set q (recBytes x') := by
                show D1.set (jourV g slot x'.lsn).toNat (recBytes x') = _
                rw [hx', hx3, hq, Int.toNat_natCast]
              rw [hpe] at hs6
              have hii : isB (recBytes x') key (tail + k) = false := by
                rw [is_rec hrx, hx', decide_eq_false (by dsimp only; exact h.1.1)]
                rfl
              obtain ⟨hl1, hl2⟩ := hlose _ (sj_size hrx) hii
              have hW16 := hW14.trans (hlw1.trans hleW6)
              refine o_store tok rfl rfl rfl (by first | exact ⟨trivial, trivial⟩ | (repeat' first | exact trivial | exact rfl | apply And.intro); done | simp [onesP, oneP, lk, Value.oneCell']) ?_
              refine o_end [1, 2, 3, 5, 7, 17, 19, 23] rfl ?_
              refine x_then ?_
              exact x_meet ((a6, n6, c6, D1.set q (recBytes x'), W6)) (⟨hb01.trans hW16, hA1.mono hW16, hs6, hl1, hl2⟩) (by repeat (first | exact SubF.nil | refine SubF.cons rfl ?_)) (by repeat (first | exact SubO.nil | refine SubO.cons rfl ?_)) rfl (by repeat (first | exact Vw.le.refl _ | assumption | (refine Vw.le.trans ?_ (by assumption))))
          · rintro ⟨a, n, c, D2, W5⟩ ⟨hleW5, hA5, hs5, hR5, hhd5⟩
            dsimp only at hleW5 hA5 hs5 hR5 hhd5 ⊢
            refine c_seq ?_
            refine c_region ?_
            refine o_yield rfl rfl rfl (y_val tok rfl) ?_
            refine o_end [1, 2, 3, 5, 7, 17, 19, 23, 28] rfl ?_
            refine x_then ?_
            refine c_seq ?_
            refine c_seq ?_
            refine c_region ?_
            refine o_yield rfl rfl rfl (y_val tok rfl) ?_
            refine o_end [1, 2, 3, 5, 7, 17, 19, 23, 28, 29] rfl ?_
            refine x_then ?_
            refine c_block ?_
            refine c_loopK [1, 2, 3, 5, 7, 17, 19, 23] [] rfl rfl (σ := Nat) (fun j => [(28, .a (.v (I (leftOf (E.take j) k)))), (29, .a (.v (I j)))]) (fun j => []) (fun j => j ≤ E.length) (fun j => E.length - j) (0) (by omega) (by repeat (first | exact SubF.nil | refine SubF.cons rfl ?_)) (by repeat (first | exact SubO.nil | refine SubO.cons rfl ?_)) rfl ?_
            rintro j hj
            refine c_seq ?_
            refine c_seq ?_
            refine c_region ?_
            refine o_yield rfl rfl rfl (y_val tok rfl) ?_
            refine o_yield rfl rfl rfl (y_val tok rfl) ?_
            refine o_yield rfl rfl rfl (y_own (s := .a (.v (I E.length))) 3 rfl rfl (fun v V' hv => y_len tok rfl (fun hg => hv))) ?_
            refine o_yield rfl rfl rfl (y_val tok rfl) ?_
            refine o_end [1, 2, 3, 5, 7, 17, 19, 23, 28, 29, 227] rfl ?_
            refine x_then ?_
            refine c_cond rfl (fun h => ?_) (fun h => ?_)
            ·
              simp only [Bool.and_eq_true, Bool.or_eq_true, Bool.not_eq_true', Bool.or_eq_false_iff, Bool.and_eq_false_iff, decide_eq_true_eq, decide_eq_false_iff_not, beq_iff_eq, bne_iff_ne, Bool.not_eq_false', beq_eq_false_iff_ne, bne_eq_false_iff_eq, ne_eq, Decidable.not_not, Int.not_lt, Int.not_le] at h
              have hltE : j < E.length := by omega
              clear h
              obtain ⟨e, h_e⟩ : ∃ e, E[j]? = some e := ⟨_, List.getElem?_eq_getElem hltE⟩
              have hwj : IntKind.i64.wrap ((j : Int) + 1) = ((j + 1 : Nat) : Int) := wrapI (by omega) (by omega)
              have hls := leftOf_snoc (E.take j) e k
              rw [← rp_take h_e] at hls
              refine c_skip ?_
              refine x_then ?_
              refine c_seq ?_
              refine c_block ?_
              refine c_seq ?_
              refine c_region ?_
              refine o_yield rfl rfl rfl (y_val tok rfl) ?_
              refine o_yield rfl rfl rfl (y_val tok rfl) ?_
              refine o_yield rfl rfl rfl (y_own (s := .a (.rel 3 j)) 3 rfl rfl (fun v V' hv => y_idxK tok j rfl (by simp) (fun hg => hv) (fun hg => by omega))) ?_
              refine o_yield rfl rfl rfl (y_own (s := .a (.v (I e))) 3 rfl rfl (fun v V' hv => y_lel (enc := encI) (l := E) tok j 0 e rfl (fun hg => ⟨hv, fun _ => rfl⟩) (fun hg => h_e) (by simp) rfl)) ?_
              refine o_yield rfl rfl rfl (y_val tok rfl) ?_
              refine o_yield rfl rfl rfl (y_val tok rfl) ?_
              refine o_end [1, 2, 3, 5, 7, 17, 19, 23, 28, 29, 235] rfl ?_
              refine x_then ?_
              refine c_cond rfl (fun h => ?_) (fun h => ?_)
              ·
                simp only [Bool.and_eq_true, Bool.or_eq_true, Bool.not_eq_true', Bool.or_eq_false_iff, Bool.and_eq_false_iff, decide_eq_true_eq, decide_eq_false_iff_not, beq_iff_eq, bne_iff_ne, Bool.not_eq_false', beq_eq_false_iff_ne, bne_eq_false_iff_eq, ne_eq, Decidable.not_not, Int.not_lt, Int.not_le] at h
                rw [if_pos h] at hls
                refine c_region ?_
                refine o_yield rfl rfl rfl (y_val tok rfl) ?_
                refine o_yield rfl rfl rfl (y_val tok rfl) ?_
                refine o_yield rfl rfl rfl (y_own (s := .a (.rel 3 j)) 3 rfl rfl (fun v V' hv => y_idxK tok j rfl (by simp) (fun hg => hv) (fun hg => by omega))) ?_
                refine o_yield rfl rfl rfl (y_own (s := .a (.v (I e))) 3 rfl rfl (fun v V' hv => y_lel (enc := encI) (l := E) tok j 0 e rfl (fun hg => ⟨hv, fun _ => rfl⟩) (fun hg => h_e) (by simp) rfl)) ?_
                refine o_yield rfl rfl rfl (y_val tok rfl) ?_
                refine o_end [1, 2, 3, 5, 7, 17, 19, 23, 28, 29] rfl ?_
                refine x_block ?_
                refine x_then ?_
                refine c_region ?_
                refine o_yield rfl rfl rfl (y_val tok rfl) ?_
                refine o_yield rfl rfl rfl (y_val tok rfl) ?_
                refine o_yield rfl rfl rfl (y_val tok rfl) ?_
                refine o_end [1, 2, 3, 5, 7, 17, 19, 23, 28, 29] rfl ?_
                refine x_then ?_
                rw [hwj, ← hls]
                refine x_round (j + 1) (by omega) (by first | omega | (dsimp only; omega)) (by repeat (first | exact SubF.nil | refine SubF.cons rfl ?_)) (by repeat (first | exact SubO.nil | refine SubO.cons rfl ?_)) rfl (Vw.le.refl _)
              ·
                simp only [Bool.and_eq_true, Bool.or_eq_true, Bool.not_eq_true', Bool.or_eq_false_iff, Bool.and_eq_false_iff, decide_eq_true_eq, decide_eq_false_iff_not, beq_iff_eq, bne_iff_ne, Bool.not_eq_false', beq_eq_false_iff_ne, bne_eq_false_iff_eq, ne_eq, Decidable.not_not, Int.not_lt, Int.not_le] at h
                refine c_skip ?_
                refine x_block ?_
                refine x_then ?_
                refine c_region ?_
                refine o_yield rfl rfl rfl (y_val tok rfl) ?_
                refine o_yield rfl rfl rfl (y_val tok rfl) ?_
                refine o_yield rfl rfl rfl (y_val tok rfl) ?_
                refine o_end [1, 2, 3, 5, 7, 17, 19, 23, 28, 29] rfl ?_
                refine x_then ?_
                rw [if_neg (by omega)] at hls
                rw [hwj, ← hls]
                refine x_round (j + 1) (by omega) (by first | omega | (dsimp only; omega)) (by repeat (first | exact SubF.nil | refine SubF.cons rfl ?_)) (by repeat (first | exact SubO.nil | refine SubO.cons rfl ?_)) rfl (Vw.le.refl _)
            ·
              simp only [Bool.and_eq_true, Bool.or_eq_true, Bool.not_eq_true', Bool.or_eq_false_iff, Bool.and_eq_false_iff, decide_eq_true_eq, decide_eq_false_iff_not, beq_iff_eq, bne_iff_ne, Bool.not_eq_false', beq_eq_false_iff_ne, bne_eq_false_iff_eq, ne_eq, Decidable.not_not, Int.not_lt, Int.not_le] at h
              have hjl : j = E.length := by omega
              clear h
              have hleft : leftOf (E.take j) k = (whole (A.take k) : Int) := by rw [hjl, List.take_length]; exact hI.left k hk2
              rw [hleft]
              have hlk : (A.take k).length = k := by rw [List.length_take]; omega
              have hwk := whole_le (A.take k)
              obtain ⟨wl, hwl⟩ : ∃ wl, whole (A.take k) = wl := ⟨_, rfl⟩
              have htt : (A.take k).take wl = A.take wl := by rw [List.take_take, Nat.min_eq_left (by omega)]
              have hjq := fun w1 hV1 => sjournal_c W5 g ok slot key tail D2 (A.take k) hR5 hhd5 a none none none n c 0 0 0 0 0 0 0 w1 hV1 hs5
              rw [hwl, htt] at hjq
              rw [hwl] at hwk ⊢
              refine c_exit ?_
              refine x_then_exit ?_
              refine x_then_exit ?_
              refine x_block_hit ?_
              refine x_then ?_
              refine c_seq ?_
              refine c_region ?_
              refine o_yield rfl rfl rfl (y_val tok rfl) ?_
              refine o_yield rfl rfl rfl (y_val tok rfl) ?_
              refine o_yield rfl rfl rfl (y_val tok rfl) ?_
              refine o_yield rfl rfl rfl (y_val tok rfl) ?_
              refine o_callV (fun v V' => ∃ a n c, v = .tuple #[.slice a n c, I tail, I 0] ∧ SlOf V' Record.cells 6 (.slice a n c) (A.take wl)) rfl rfl fnok24 rfl rfl (fun hg E w1 hm => by exact hjq _ hm.leV) ?_
              rintro v W6 hleW6 hv
              obtain ⟨a6, n6, c6, rfl, hm6⟩ := hv rfl
              clear hv
              have hA6 := hA5.mono hleW6
              have hcut : SlOf W6 Record.cells 6 (sliceV (.slice aa an ac) 0 wl 6) (A.take wl) := by
                have := hA6.cut (lo := 0) (hi := wl) (by omega) (by omega)
                simpa using this
              refine o_yield rfl rfl rfl (y_val tok rfl) ?_
              refine o_yield rfl rfl rfl (y_val tok rfl) ?_
              refine o_yield rfl rfl rfl (y_val tok rfl) ?_
              refine o_yield rfl rfl rfl (y_val tok rfl) ?_
              refine o_yield rfl rfl rfl (y_val tok rfl) ?_
              refine o_yield rfl rfl rfl (y_val tok rfl) ?_
              refine o_yield rfl rfl rfl (y_val tok rfl) ?_
              refine o_end [1, 2, 3, 5, 7, 17, 23, 28, 30, 32] rfl ?_
              refine x_then ?_
              refine c_seq ?_
              refine c_region ?_
              refine o_yield rfl rfl rfl (y_val tok rfl) ?_
              refine o_yield rfl rfl rfl (y_val tok rfl) ?_
              refine o_yield rfl rfl rfl (y_val tok rfl) ?_
              refine o_yield rfl rfl rfl (y_val tok rfl) ?_
              refine o_yield rfl rfl rfl (y_val tok rfl) ?_
              refine o_yield rfl rfl rfl (y_val tok rfl) ?_
              refine o_yield rfl rfl rfl (y_sl tok rfl (fun hg => hA6.sl) (fun hg => by dsimp only [Option.getD]; omega)) ?_
              rw [show ((some ((wl : Nat) : Int)).getD (A.length : Int)).toNat = wl by simp [Option.getD]]
              refine o_call (.a (.v _)) rfl rfl fnok25 rfl rfl rfl (fun hg E w1 hm => by exact same16_c W6 _ _ (A.take wl) _ hm.leV hm6 hcut (by rw [List.length_take]; omega)) ?_
              refine o_yield rfl rfl rfl (y_val tok rfl) ?_
              refine o_yield rfl rfl rfl (y_val tok rfl) ?_
              refine o_yield rfl rfl rfl (y_val tok rfl) ?_
              refine o_yield rfl rfl rfl (y_val tok rfl) ?_
              refine o_yield rfl rfl rfl (y_val tok rfl) ?_
              refine o_yield rfl rfl rfl (y_val tok rfl) ?_
              refine o_yield rfl rfl rfl (y_val tok rfl) ?_
              refine o_callV (fun v V' => ∃ a n c, v = .slice a n c ∧ SlOf V' Record.cells 6 (.slice a n c) (A.take k)) rfl rfl fnok16 rfl rfl (fun hg E w1 hm => by exact srows_cV W6 g ok slot key tail D2 (A.take k) hR5 _ _ _ _ _ _ _ _ _ _ _ _ _ _ hm.leV (hs5.mono hleW6)) ?_
              rintro v W7 hleW7 hv
              obtain ⟨a7, n7, c7, rfl, hs7⟩ := hv rfl
              clear hv
              refine o_yield rfl rfl rfl (y_len tok rfl (fun hg => hs7.sl)) ?_
              refine o_yield rfl rfl rfl (y_val tok rfl) ?_
              refine o_yield rfl rfl rfl (y_val tok rfl) ?_
              refine o_yield rfl rfl rfl (y_val tok rfl) ?_
              refine o_yield rfl rfl rfl (y_val tok rfl) ?_
              refine o_call (.a (.v _)) rfl rfl fnok15 rfl rfl rfl (fun hg E w1 hm => by exact wakes17_c _) ?_
              refine o_yield rfl rfl rfl (y_val tok rfl) ?_
              refine o_yield rfl rfl rfl (y_val tok rfl) ?_
              refine o_end [14] rfl ?_
              refine x_then ?_
              refine c_ret ?_
              refine b_ret tok rfl ?_
              intro E w' hm _
              refine ⟨?_, hm.below ((hleW5.trans (hleW6.trans hleW7)))⟩
              rw [hlk]
              simp
              rfl
end Go.Proofs.Ytikdaehmaaogdaa
