import Derived.Test.YtflimioplnbopaaMSup
import Derived.Test.YtflimioplnbopaaEng33
/- Going over the places of headers. -/
set_option linter.unusedVariables false
set_option linter.unusedSimpArgs false
set_option maxRecDepth 100000
namespace Go.Proofs.Ytflimioplnbopaa
open Go Go.Eng Go.RowKit

theorem heads_c (V : Vw) (bd : Nat) (w : World) (hV : V.le (vw w)) : Calls Try.prog 130 #[Ptr bd] w fun e w' => ∃ v V', e = .returned v ∧ Below w.heap.size w w' ∧ Vext w.heap.size V V' w' ∧
    ∃ b, v = .func (.func 205) #[] #[Ptr b] ∧ V'.get b = some (.cells [Ptr bd].toArray 180 (0, 0)) := by
  refine enter (E := E0) (O := []) (nl := 0) (V := vw w) [.a (.v (Ptr bd))] Try.func130 rfl rfl (mem0 E0 0 w) rfl rfl ?_
  refine c_seq ?_
  refine c_region ?_
  refine o_new tok rfl rfl rfl rfl ?_
  refine o_yield rfl rfl rfl (y_val tok rfl) ?_
  refine o_end [1] rfl ?_
  refine x_then ?_
  refine c_seq ?_
  refine c_region ?_
  refine o_yield rfl rfl rfl (y_val tok rfl) ?_
  refine o_yield rfl rfl rfl (y_val tok rfl) ?_
  refine o_end [2] rfl ?_
  refine x_then ?_
  refine c_ret ?_
  refine b_ret tok rfl ?_
  intro E w' hm _
  obtain ⟨h1, h2⟩ := lit_vext hV hm (l := 0) rfl
  exact ⟨_, _, rfl, hm.below (Vw.le.refl _), h1, _, rfl, h2⟩

theorem heads_seq (g : Geo) (ok : g.Ok) (sl : Nat) (hsl : g.slots = sl) (hsb : sl ≤ 4611686018427387904) (V : Vw) (b bd : Nat) (sv : Value) (m : Nat) (hb : V.get b = some (.cells [Ptr bd].toArray 180 (0, 0)))
    (hd : V.get bd = some (.cells (g.cells ++ [sv]).toArray 184 (0, 0))) (w0 : World) (hV : V.le (vw w0)) :
    SeqStopsK (Rd none) m Try.prog 205 #[Ptr b] (fun x : Fin sl => #[I (headV g ((x : Nat) : Int))]) (KpV V) (fun xs => xs = List.finRange sl) (fun pre => ∃ i, i ≤ sl ∧ pre = (List.finRange sl).take i) sl w0 := by
  intro l J Jx W hW hJ hJx hY h0
  have hVW : V.le (vw W) := hV.trans ⟨fun k o hk => by
    have := hW.block k (Array.getElem?_eq_some_iff.1 hk).1
    show W.heap[k]? = some o
    rw [this]; exact hk, hW.os, hW.tape, hW.output⟩
  show CallsIn _ _ _ _ #[.func (.yield l) #[] #[], Ptr b] _ _
  have hlen : (List.finRange sl).length = sl := by simp
  refine enterR _ [.a (.v (.func (.yield l) #[] #[])), .a (.v (Ptr b))] Try.func205 rfl rfl (mem0 E0 0 W) rfl rfl ?_
  refine r_seq ?_
  refine r_region (by intro _ _ w1 h1; first | exact h1 | (obtain ⟨h2, _⟩ := h1; cases h2; done) | (obtain ⟨⟨_, h2⟩, _⟩ := h1; cases h2; done) | (obtain ⟨_, h2, _⟩ := h1; cases h2; done) | (obtain ⟨_, _, h2, _⟩ := h1; cases h2; done) | (obtain ⟨_, _, _, h2, _⟩ := h1; cases h2; done) | (rcases h1 with ⟨⟨_, _, h2, _⟩ | ⟨_, h2⟩, _⟩ <;> cases h2; done) | (exact nor _ h1)) rfl ?_
  refine o_yield rfl rfl rfl (y_ldp tok rfl (fun hg => hVW.get _ _ hb) rfl) ?_
  refine o_yield rfl rfl rfl (y_val tok rfl) ?_
  refine o_yield rfl rfl rfl (y_val tok rfl) ?_
  refine o_yield rfl rfl rfl (y_val tok rfl) ?_
  refine o_yield rfl rfl rfl (y_val tok rfl) ?_
  refine o_yield rfl rfl rfl (y_ldp tok rfl (fun hg => hVW.get _ _ hd) rfl) ?_
  refine o_yield rfl rfl rfl (y_val tok rfl) ?_
  refine o_end [0, 1, 9, 10] rfl ?_
  refine rq ?_
  refine x_then ?_
  refine r_block ?_
  rw [hsl]
  refine r_loopV [0, 1, 9] [] rfl rfl (σ := Nat × World) (fun y => [(10, .a (.v (I y.1)))]) (fun y => []) (fun y => vw y.2) (fun y => (y.1 ≤ sl ∧ J ((List.finRange sl).take y.1) y.2 ∧ V.le (vw y.2))) (fun y => sl - y.1) ((0, W)) (⟨by omega, h0, hVW⟩) (by repeat (first | exact SubF.nil | refine SubF.cons rfl ?_)) (by repeat (first | exact SubO.nil | refine SubO.cons rfl ?_)) rfl (Vw.le.refl _) ?_
  rintro ⟨i, W1⟩ ⟨hi, hJ1, hV1⟩
  dsimp only at hi hJ1 hV1 ⊢
  refine r_seq ?_
  refine r_region (by intro _ _ w1 h1; first | exact h1 | (obtain ⟨h2, _⟩ := h1; cases h2; done) | (obtain ⟨⟨_, h2⟩, _⟩ := h1; cases h2; done) | (obtain ⟨_, h2, _⟩ := h1; cases h2; done) | (obtain ⟨_, _, h2, _⟩ := h1; cases h2; done) | (obtain ⟨_, _, _, h2, _⟩ := h1; cases h2; done) | (rcases h1 with ⟨⟨_, _, h2, _⟩ | ⟨_, h2⟩, _⟩ <;> cases h2; done) | (exact nor _ h1)) rfl ?_
  refine o_yield rfl rfl rfl (y_val tok rfl) ?_
  refine o_end [0, 1, 9, 10, 11] rfl ?_
  refine rq ?_
  refine x_then ?_
  refine r_seq ?_
  refine r_cond rfl (fun h => ?_) (fun h => ?_)
  ·
    simp only [Bool.and_eq_true, Bool.or_eq_true, Bool.not_eq_true', Bool.or_eq_false_iff, Bool.and_eq_false_iff, decide_eq_true_eq, decide_eq_false_iff_not, beq_iff_eq, bne_iff_ne, Bool.not_eq_false', beq_eq_false_iff_ne, bne_eq_false_iff_eq, ne_eq, Decidable.not_not, Int.not_lt, Int.not_le] at h
    refine r_skip ?_
    refine x_then ?_
    refine r_seq ?_
    refine r_block ?_
    refine r_seq ?_
    refine r_region (by intro _ _ w1 h1; first | exact h1 | (obtain ⟨h2, _⟩ := h1; cases h2; done) | (obtain ⟨⟨_, h2⟩, _⟩ := h1; cases h2; done) | (obtain ⟨_, h2, _⟩ := h1; cases h2; done) | (obtain ⟨_, _, h2, _⟩ := h1; cases h2; done) | (obtain ⟨_, _, _, h2, _⟩ := h1; cases h2; done) | (rcases h1 with ⟨⟨_, _, h2, _⟩ | ⟨_, h2⟩, _⟩ <;> cases h2; done) | (exact nor _ h1)) rfl ?_
    refine o_yield rfl rfl rfl (y_val tok rfl) ?_
    refine o_yield rfl rfl rfl (y_val tok rfl) ?_
    refine o_end [0, 1, 3, 9, 10] rfl ?_
    refine rq ?_
    refine x_then ?_
    refine r_seq ?_
    refine r_regionY 8 (by intro _ _ w1 h1; first | exact h1 | (obtain ⟨h2, _⟩ := h1; cases h2; done) | (obtain ⟨⟨_, h2⟩, _⟩ := h1; cases h2; done) | (obtain ⟨_, h2, _⟩ := h1; cases h2; done) | (obtain ⟨_, _, h2, _⟩ := h1; cases h2; done) | (obtain ⟨_, _, _, h2, _⟩ := h1; cases h2; done) | (rcases h1 with ⟨⟨_, _, h2, _⟩ | ⟨_, h2⟩, _⟩ <;> cases h2; done) | (exact nor _ h1)) rfl rfl ?_
    refine o_yield rfl rfl rfl (y_val tok rfl) ?_
    refine o_yield rfl rfl rfl (y_ldp tok rfl (fun hg => hV1.get _ _ hb) rfl) ?_
    refine o_yield rfl rfl rfl (y_val tok rfl) ?_
    refine o_yield rfl rfl rfl (y_val tok rfl) ?_
    refine o_yield rfl rfl rfl (y_val tok rfl) ?_
    refine o_yield rfl rfl rfl (y_ldp tok rfl (fun hg => hV1.get _ _ hd) rfl) ?_
    refine o_yield rfl rfl rfl (y_val tok rfl) ?_
    refine o_call (.a (.v _)) rfl rfl fnok186 rfl rfl rfl (fun hg E w1 hm => by exact head_c g ok i _) ?_
    refine o_end [0, 1, 3, 9, 10, 13, 14, 15, 16, 17, 18, 19, 20] rfl ?_
    refine ry _ ?_
    have htk : (List.finRange sl).take (i + 1) = (List.finRange sl).take i ++ [⟨i, by omega⟩] := by
      rw [List.take_add_one, List.getElem?_eq_getElem (by simp; omega)]
      simp
    have hround : ∀ w, (vw W1).le (vw w) → YieldAt (Rd none) (m - 1) Try.prog l #[I (headV g (i : Int))] w fun e w' => ∃ b V', e = .returned (.bool b) ∧ V'.le (vw w') ∧ ∃ W', V' = vw W' ∧ (b = true → J ((List.finRange sl).take (i + 1)) W' ∧ V.le (vw W')) ∧ (b = false → Jx ((List.finRange sl).take (i + 1)) W') := by
      intro w hle
      refine yield_mono (hY _ ⟨i, by omega⟩ w (abides_le hJ hJ1 hle) (by simp; omega)) ?_
      intro e w' hq
      rw [htk]
      rcases hq with ⟨rfl, hj, hk⟩ | ⟨rfl, hj⟩
      · exact ⟨true, vw w', rfl, Vw.le.refl _, w', rfl, fun _ => ⟨hj, hk (hV1.trans hle)⟩, fun hf => (by cases hf)⟩
      · exact ⟨false, vw w', rfl, Vw.le.refl _, w', rfl, fun hf => (by cases hf), fun _ => hj⟩
    refine r_yield (fun b V' => ∃ W', V' = vw W' ∧ (b = true → J ((List.finRange sl).take (i + 1)) W' ∧ V.le (vw W')) ∧ (b = false → Jx ((List.finRange sl).take (i + 1)) W')) rfl rfl rfl rfl (fun E w hle => hround w hle) ?_
    rintro q V' ⟨W', rfl, hq1, hq2⟩
    refine r_rest (by intro _ _ w1 h1; first | exact h1 | (obtain ⟨h2, _⟩ := h1; cases h2; done) | (obtain ⟨⟨_, h2⟩, _⟩ := h1; cases h2; done) | (obtain ⟨_, h2, _⟩ := h1; cases h2; done) | (obtain ⟨_, _, h2, _⟩ := h1; cases h2; done) | (obtain ⟨_, _, _, h2, _⟩ := h1; cases h2; done) | (rcases h1 with ⟨⟨_, _, h2, _⟩ | ⟨_, h2⟩, _⟩ <;> cases h2; done) | (exact nor _ h1)) rfl ?_
    refine o_yield rfl rfl rfl (y_val tok rfl) ?_
    refine o_end [0, 1, 9, 10, 22] rfl ?_
    refine rq ?_
    refine x_then ?_
    refine r_cond rfl (fun h => ?_) (fun h => ?_)
    ·
      refine r_ret ?_
      refine x_block_ret ?_
      refine x_then_ret ?_
      refine x_then_ret ?_
      refine x_block_ret ?_
      refine rb_ret tok rfl ?_
      cases q with
      | true => exact absurd h (by simp)
      | false =>
        intro E w' hm _
        exact ⟨⟨_, rfl⟩, .inr ⟨_, ⟨i + 1, by omega, rfl⟩, abides_le hJx (hq2 rfl) hm.leV⟩⟩
    ·
      refine r_skip ?_
      refine x_block ?_
      refine x_then ?_
      refine r_region (by intro _ _ w1 h1; first | exact h1 | (obtain ⟨h2, _⟩ := h1; cases h2; done) | (obtain ⟨⟨_, h2⟩, _⟩ := h1; cases h2; done) | (obtain ⟨_, h2, _⟩ := h1; cases h2; done) | (obtain ⟨_, _, h2, _⟩ := h1; cases h2; done) | (obtain ⟨_, _, _, h2, _⟩ := h1; cases h2; done) | (rcases h1 with ⟨⟨_, _, h2, _⟩ | ⟨_, h2⟩, _⟩ <;> cases h2; done) | (exact nor _ h1)) rfl ?_
      refine o_yield rfl rfl rfl (y_val tok rfl) ?_
      refine o_yield rfl rfl rfl (y_val tok rfl) ?_
      refine o_end [0, 1, 9, 10] rfl ?_
      refine rq ?_
      refine x_then ?_
      cases q with
      | false => exact absurd h (by simp)
      | true =>
        obtain ⟨hj, hv⟩ := hq1 rfl
        rw [wrapI (n := (i : Int) + 1) (by omega) (by omega)]
        refine rx_round ((i + 1, W')) (⟨by dsimp only; omega, hj, hv⟩) (by first | omega | (dsimp only; omega)) (by repeat (first | exact SubF.nil | refine SubF.cons rfl ?_)) (by repeat (first | exact SubO.nil | refine SubO.cons rfl ?_)) rfl (Vw.le.refl _)
  ·
    simp only [Bool.and_eq_true, Bool.or_eq_true, Bool.not_eq_true', Bool.or_eq_false_iff, Bool.and_eq_false_iff, decide_eq_true_eq, decide_eq_false_iff_not, beq_iff_eq, bne_iff_ne, Bool.not_eq_false', beq_eq_false_iff_ne, bne_eq_false_iff_eq, ne_eq, Decidable.not_not, Int.not_lt, Int.not_le] at h
    refine r_exit ?_
    refine x_then_exit ?_
    refine x_then_exit ?_
    refine x_block_hit ?_
    refine rb_end tok rfl ?_
    have his : i = sl := by omega
    subst his
    intro E w' hm _
    refine ⟨⟨_, rfl⟩, .inl ⟨_, rfl, abides_le hJ ?_ hm.leV⟩⟩
    rw [List.take_of_length_le (by simp)] at hJ1
    exact hJ1
end Go.Proofs.Ytflimioplnbopaa

/- What stands on a device at first: the program's. -/
set_option linter.unusedVariables false
set_option linter.unusedSimpArgs false
set_option maxRecDepth 100000
namespace Go.Proofs.Ytflimioplnbopaa
open Go Go.Eng Go.RowKit

/-- Headers put at these slots. -/
def fmtAt (g : Geo) (top hd : ByteArray) {sl : Nat} : List (Fin sl) → List ByteArray
  | [] => fmtTo g top hd 0
  | x :: r => (fmtAt g top hd r).set (headV g ((x : Nat) : Int)).toNat hd

theorem fmtAt_take (g : Geo) (top hd : ByteArray) (sl : Nat) : ∀ i, i ≤ sl → fmtAt g top hd ((List.finRange sl).take i).reverse = fmtTo g top hd i
  | 0, _ => rfl
  | i + 1, h => by
    have htk : (List.finRange sl).take (i + 1) = (List.finRange sl).take i ++ [⟨i, by omega⟩] := by
      rw [List.take_add_one, List.getElem?_eq_getElem (by simp; omega)]
      simp
    rw [htk, List.reverse_append]
    simp only [List.reverse_cons, List.reverse_nil, List.nil_append, List.singleton_append, fmtAt, fmtTo]
    rw [fmtAt_take g top hd sl i (by omega)]

theorem fmtAt_all (g : Geo) (top hd : ByteArray) (sl : Nat) : fmtAt g top hd (List.finRange sl).reverse = fmtTo g top hd sl := by
  have := fmtAt_take g top hd sl sl (Nat.le_refl _)
  rwa [List.take_of_length_le (by simp)] at this

theorem fmtAt_len (g : Geo) (top hd : ByteArray) {sl : Nat} : ∀ l : List (Fin sl), (fmtAt g top hd l).length = (totV g).toNat
  | [] => fmtTo_len g top hd 0
  | x :: r => by rw [fmtAt, List.length_set, fmtAt_len g top hd r]

theorem sformat_c (g : Geo) (ok : g.Ok) (hd : ByteArray) (hh : ∀ w : World, Calls Try.prog 53 #[I 0] w fun e w' => e = .returned (.tuple #[S hd, I 0]) ∧ Below w.heap.size w w') (w : World) :
    Calls Try.prog 46 #[g.val] w fun e w' => ((geoB g = true ∧ ∃ v, e = .returned (.tuple #[v, I 0]) ∧ w'.ownsRow w.heap.size 9 1 v (totV g).toNat ((fmtTo g (gbV g) hd g.slots.toNat).flatMap encS)) ∨
      (geoB g = false ∧ e = .returned (.tuple #[.slice none 0 0, I 40]))) ∧ Below w.heap.size w w' := by
  refine callsR (enterR 9 (E := E0) (O := []) (nl := 0) (V := vw w) [.a (.v g.val)] Try.func46 rfl rfl (mem0 E0 0 w) rfl rfl ?_)
  refine r_seq ?_
  refine r_region (by intro _ _ w1 h1; first | exact h1 | (obtain ⟨h2, _⟩ := h1; cases h2; done) | (obtain ⟨⟨_, h2⟩, _⟩ := h1; cases h2; done) | (obtain ⟨_, h2, _⟩ := h1; cases h2; done) | (obtain ⟨_, _, h2, _⟩ := h1; cases h2; done) | (obtain ⟨_, _, _, h2, _⟩ := h1; cases h2; done) | (rcases h1 with ⟨⟨_, _, h2, _⟩ | ⟨_, h2⟩, _⟩ <;> cases h2; done) | (exact nor _ h1)) rfl ?_
  refine o_new tok rfl rfl rfl rfl ?_
  refine o_yield rfl rfl rfl (y_val tok rfl) ?_
  refine o_yield rfl rfl rfl (y_val tok rfl) ?_
  refine o_end [1] rfl ?_
  refine rq ?_
  refine x_then ?_
  refine r_seq ?_
  refine r_region (by intro _ _ w1 h1; first | exact h1 | (obtain ⟨h2, _⟩ := h1; cases h2; done) | (obtain ⟨⟨_, h2⟩, _⟩ := h1; cases h2; done) | (obtain ⟨_, h2, _⟩ := h1; cases h2; done) | (obtain ⟨_, _, h2, _⟩ := h1; cases h2; done) | (obtain ⟨_, _, _, h2, _⟩ := h1; cases h2; done) | (rcases h1 with ⟨⟨_, _, h2, _⟩ | ⟨_, h2⟩, _⟩ <;> cases h2; done) | (exact nor _ h1)) rfl ?_
  refine o_yield rfl rfl rfl (y_val tok rfl) ?_
  refine o_call (.a (.v _)) rfl rfl fnok51 rfl rfl rfl (fun hg E w1 hm => by exact sbytes_c g ok _) ?_
  refine o_yield rfl rfl rfl (y_val tok rfl) ?_
  refine o_yield rfl rfl rfl (y_val tok rfl) ?_
  refine o_yield rfl rfl rfl (y_val tok rfl) ?_
  refine o_yield rfl rfl rfl (y_val tok rfl) ?_
  refine o_yield rfl rfl rfl (y_val tok rfl) ?_
  refine o_end [1, 4, 5] rfl ?_
  refine rq ?_
  refine x_then ?_
  refine r_seq ?_
  refine r_seq ?_
  refine r_region (by intro _ _ w1 h1; first | exact h1 | (obtain ⟨h2, _⟩ := h1; cases h2; done) | (obtain ⟨⟨_, h2⟩, _⟩ := h1; cases h2; done) | (obtain ⟨_, h2, _⟩ := h1; cases h2; done) | (obtain ⟨_, _, h2, _⟩ := h1; cases h2; done) | (obtain ⟨_, _, _, h2, _⟩ := h1; cases h2; done) | (rcases h1 with ⟨⟨_, _, h2, _⟩ | ⟨_, h2⟩, _⟩ <;> cases h2; done) | (exact nor _ h1)) rfl ?_
  refine o_yield rfl rfl rfl (y_val tok rfl) ?_
  refine o_yield rfl rfl rfl (y_val tok rfl) ?_
  refine o_end [1, 4, 5, 14] rfl ?_
  refine rq ?_
  refine x_then ?_
  refine r_cond rfl (fun h => ?_) (fun h => ?_)
  ·
    simp only [Bool.and_eq_true, Bool.or_eq_true, Bool.not_eq_true', Bool.or_eq_false_iff, Bool.and_eq_false_iff, decide_eq_true_eq, decide_eq_false_iff_not, beq_iff_eq, bne_iff_ne, Bool.not_eq_false', beq_eq_false_iff_ne, bne_eq_false_iff_eq, ne_eq, Decidable.not_not, Int.not_lt, Int.not_le] at h
    refine r_seq ?_
    refine r_region (by intro _ _ w1 h1; first | exact h1 | (obtain ⟨h2, _⟩ := h1; cases h2; done) | (obtain ⟨⟨_, h2⟩, _⟩ := h1; cases h2; done) | (obtain ⟨_, h2, _⟩ := h1; cases h2; done) | (obtain ⟨_, _, h2, _⟩ := h1; cases h2; done) | (obtain ⟨_, _, _, h2, _⟩ := h1; cases h2; done) | (rcases h1 with ⟨⟨_, _, h2, _⟩ | ⟨_, h2⟩, _⟩ <;> cases h2; done) | (exact nor _ h1)) rfl ?_
    refine o_yield rfl rfl rfl (y_val tok rfl) ?_
    refine o_yield rfl rfl rfl (y_val tok rfl) ?_
    refine o_yield rfl rfl rfl (y_val tok rfl) ?_
    refine o_end [2, 3] rfl ?_
    refine rq ?_
    refine x_then ?_
    refine r_ret ?_
    refine x_then_ret ?_
    refine rb_ret tok rfl ?_
    intro E w' hm _
    have hg : geoB g = false := by
      cases hq : geoB g with
      | false => rfl
      | true => rw [gbE, if_pos hq] at h; exact absurd rfl h
    refine ⟨.inr ⟨hg, ?_⟩, hm.below (Vw.le.refl _)⟩
    rw [gbE, hg]
    rfl
  ·
    simp only [Bool.and_eq_true, Bool.or_eq_true, Bool.not_eq_true', Bool.or_eq_false_iff, Bool.and_eq_false_iff, decide_eq_true_eq, decide_eq_false_iff_not, beq_iff_eq, bne_iff_ne, Bool.not_eq_false', beq_eq_false_iff_ne, bne_eq_false_iff_eq, ne_eq, Decidable.not_not, Int.not_lt, Int.not_le] at h
    have hg : geoB g = true := by
      cases hq : geoB g with
      | true => rfl
      | false => rw [gbE, hq] at h; simp at h
    clear h
    have hf := geo_facts hg
    have hs := geo_sizes hg
    have htt : totV g = dataAt g + g.blocks * g.per := by rw [totV, if_pos hg]
    obtain ⟨tot, htot⟩ : ∃ t : Nat, totV g = (t : Int) := ⟨(totV g).toNat, by omega⟩
    have htn : (totV g).toNat = tot := by omega
    have hpos : 0 < tot := by omega
    have htb : tot ≤ 4000 := by omega
    obtain ⟨sl, hsl⟩ : ∃ sl : Nat, g.slots = sl := ⟨g.slots.toNat, by omega⟩
    have hsn : g.slots.toNat = sl := by omega
    refine r_skip ?_
    refine x_then ?_
    refine r_seq ?_
    refine r_heldM rfl (σ := Unit) (fun _ => [(4, .a (.v (S (gbV g)))), (6, .a (.ptr 3 0))]) (fun _ => [(1, .row 9 1 tot (repZ tot [.string ByteArray.empty])), (2, .lit (g.cells.map .v ++ [.row 1]) 184), (3, .lit [.ptr 2 0] 180)]) (4) (fun _ => vw w) (fun _ => True) mixed ?_ ?_
    ·
      refine t_take 0 rfl (by kernel_rfl) rfl rfl rfl (y_val tok rfl) rfl ?_
      refine t_take 1 rfl (by kernel_rfl) rfl rfl rfl (y_val tok rfl) rfl ?_
      refine t_take 2 rfl (by kernel_rfl) rfl rfl rfl (y_val tok rfl) rfl ?_
      refine t_go ?_
      refine h_two 3 7 (by kernel_rfl) ?_ ?_
      ·
        refine h_call 3 (.a (.v (I tot))) rfl rfl rfl fnok128 rfl rfl rfl (fun hg E w1 hm => by exact (htot ▸ total_c g ok w1)) ?_
        refine h_two 4 7 (by kernel_rfl) ?_ ?_
        ·
          refine h_to 4 rfl rfl rfl rfl rfl rfl (s_mk tok tot tot rfl rfl rfl (Nat.le_refl _) (by dsimp only; omega) (by simp only [maxLen]; omega)) (.inr fun _ _ => ⟨(by repeat (first | exact SubO.nil | refine SubO.cons rfl ?_)), rfl, (by first | exact Vw.le.refl _ | assumption)⟩) (fun _ _ => ?_)
          refine h_two 5 7 (by kernel_rfl) ?_ ?_
          ·
            refine h_yield 5 rfl rfl rfl rfl (y_val tok rfl) ?_
            refine h_two 6 7 (by kernel_rfl) ?_ ?_
            ·
              refine h_new 6 tok rfl rfl rfl rfl rfl rfl ?_
              refine h_one 7 (by kernel_rfl) ?_
              refine h_new 7 tok rfl rfl rfl rfl rfl rfl ?_
              refine h_one 8 (by kernel_rfl) ?_
              refine h_store 8 tok rfl rfl rfl rfl (by first | exact ⟨trivial, trivial⟩ | (repeat' first | exact trivial | exact rfl | apply And.intro); done | simp [onesP, oneP, lk, Value.oneCell']) (.inr ⟨(by repeat (first | exact SubO.nil | refine SubO.cons rfl ?_)), rfl, Vw.le.refl _⟩) ?_
              refine h_done [4, 6] (by kernel_rfl) rfl ?_
              exact x_meet () trivial (by repeat (first | exact SubF.nil | refine SubF.cons rfl ?_)) (by repeat (first | exact SubO.nil | refine SubO.cons rfl ?_)) rfl (Vw.le.refl _)
            ·
              refine h_new 7 tok rfl rfl rfl rfl rfl rfl ?_
              refine h_one 6 (by kernel_rfl) ?_
              refine h_new 6 tok rfl rfl rfl rfl rfl rfl ?_
              refine h_one 8 (by kernel_rfl) ?_
              refine h_store 8 tok rfl rfl rfl rfl (by first | exact ⟨trivial, trivial⟩ | (repeat' first | exact trivial | exact rfl | apply And.intro); done | simp [onesP, oneP, lk, Value.oneCell']) (.inr ⟨(by repeat (first | exact SubO.nil | refine SubO.cons rfl ?_)), rfl, Vw.le.refl _⟩) ?_
              refine h_done [4, 6] (by kernel_rfl) rfl ?_
              refine k_swap 2 3 rfl ?_
              exact x_meet () trivial (by repeat (first | exact SubF.nil | refine SubF.cons rfl ?_)) (by repeat (first | exact SubO.nil | refine SubO.cons rfl ?_)) rfl (Vw.le.refl _)
          ·
            refine h_new 7 tok rfl rfl rfl rfl rfl rfl ?_
            refine h_one 5 (by kernel_rfl) ?_
            refine h_yield 5 rfl rfl rfl rfl (y_val tok rfl) ?_
            refine h_one 6 (by kernel_rfl) ?_
            refine h_new 6 tok rfl rfl rfl rfl rfl rfl ?_
            refine h_one 8 (by kernel_rfl) ?_
            refine h_store 8 tok rfl rfl rfl rfl (by first | exact ⟨trivial, trivial⟩ | (repeat' first | exact trivial | exact rfl | apply And.intro); done | simp [onesP, oneP, lk, Value.oneCell']) (.inr ⟨(by repeat (first | exact SubO.nil | refine SubO.cons rfl ?_)), rfl, Vw.le.refl _⟩) ?_
            refine h_done [4, 6] (by kernel_rfl) rfl ?_
            refine k_swap 2 3 rfl ?_
            exact x_meet () trivial (by repeat (first | exact SubF.nil | refine SubF.cons rfl ?_)) (by repeat (first | exact SubO.nil | refine SubO.cons rfl ?_)) rfl (Vw.le.refl _)
        ·
          refine h_new 7 tok rfl rfl rfl rfl rfl rfl ?_
          refine h_one 4 (by kernel_rfl) ?_
          refine h_to 4 rfl rfl rfl rfl rfl rfl (s_mk tok tot tot rfl rfl rfl (Nat.le_refl _) (by dsimp only; omega) (by simp only [maxLen]; omega)) (.inr fun _ _ => ⟨(by repeat (first | exact SubO.nil | refine SubO.cons rfl ?_)), rfl, (by first | exact Vw.le.refl _ | assumption)⟩) (fun _ _ => ?_)
          refine h_one 5 (by kernel_rfl) ?_
          refine h_yield 5 rfl rfl rfl rfl (y_val tok rfl) ?_
          refine h_one 6 (by kernel_rfl) ?_
          refine h_new 6 tok rfl rfl rfl rfl rfl rfl ?_
          refine h_one 8 (by kernel_rfl) ?_
          refine h_store 8 tok rfl rfl rfl rfl (by first | exact ⟨trivial, trivial⟩ | (repeat' first | exact trivial | exact rfl | apply And.intro); done | simp [onesP, oneP, lk, Value.oneCell']) (.inr ⟨(by repeat (first | exact SubO.nil | refine SubO.cons rfl ?_)), rfl, Vw.le.refl _⟩) ?_
          refine h_done [4, 6] (by kernel_rfl) rfl ?_
          refine k_swap 1 2 rfl ?_
          refine k_swap 2 3 rfl ?_
          exact x_meet () trivial (by repeat (first | exact SubF.nil | refine SubF.cons rfl ?_)) (by repeat (first | exact SubO.nil | refine SubO.cons rfl ?_)) rfl (Vw.le.refl _)
      ·
        refine h_new 7 tok rfl rfl rfl rfl rfl rfl ?_
        refine h_one 3 (by kernel_rfl) ?_
        refine h_call 3 (.a (.v (I tot))) rfl rfl rfl fnok128 rfl rfl rfl (fun hg E w1 hm => by exact (htot ▸ total_c g ok w1)) ?_
        refine h_one 4 (by kernel_rfl) ?_
        refine h_to 4 rfl rfl rfl rfl rfl rfl (s_mk tok tot tot rfl rfl rfl (Nat.le_refl _) (by dsimp only; omega) (by simp only [maxLen]; omega)) (.inr fun _ _ => ⟨(by repeat (first | exact SubO.nil | refine SubO.cons rfl ?_)), rfl, (by first | exact Vw.le.refl _ | assumption)⟩) (fun _ _ => ?_)
        refine h_one 5 (by kernel_rfl) ?_
        refine h_yield 5 rfl rfl rfl rfl (y_val tok rfl) ?_
        refine h_one 6 (by kernel_rfl) ?_
        refine h_new 6 tok rfl rfl rfl rfl rfl rfl ?_
        refine h_one 8 (by kernel_rfl) ?_
        refine h_store 8 tok rfl rfl rfl rfl (by first | exact ⟨trivial, trivial⟩ | (repeat' first | exact trivial | exact rfl | apply And.intro); done | simp [onesP, oneP, lk, Value.oneCell']) (.inr ⟨(by repeat (first | exact SubO.nil | refine SubO.cons rfl ?_)), rfl, Vw.le.refl _⟩) ?_
        refine h_done [4, 6] (by kernel_rfl) rfl ?_
        refine k_swap 1 2 rfl ?_
        refine k_swap 2 3 rfl ?_
        exact x_meet () trivial (by repeat (first | exact SubF.nil | refine SubF.cons rfl ?_)) (by repeat (first | exact SubO.nil | refine SubO.cons rfl ?_)) rfl (Vw.le.refl _)
    rintro ⟨⟩ -
    refine x_then ?_
    refine r_seq ?_
    refine r_region (by intro _ _ w1 h1; first | exact h1 | (obtain ⟨h2, _⟩ := h1; cases h2; done) | (obtain ⟨⟨_, h2⟩, _⟩ := h1; cases h2; done) | (obtain ⟨_, h2, _⟩ := h1; cases h2; done) | (obtain ⟨_, _, h2, _⟩ := h1; cases h2; done) | (obtain ⟨_, _, _, h2, _⟩ := h1; cases h2; done) | (rcases h1 with ⟨⟨_, _, h2, _⟩ | ⟨_, h2⟩, _⟩ <;> cases h2; done) | (exact nor _ h1)) rfl ?_
    refine o_yield rfl rfl rfl (y_val tok rfl) ?_
    refine o_yield rfl rfl rfl (y_val tok rfl) ?_
    refine o_yield rfl rfl rfl (y_val tok rfl) ?_
    refine o_yield rfl rfl rfl (y_val tok rfl) ?_
    refine o_yield rfl rfl rfl (y_val tok rfl) ?_
    rw [show (repZ tot _ : List Value) = _ from repZ_flat (enc := encS) ByteArray.empty tot]
    refine o_yield rfl rfl rfl (y_own (s := .a (.rel 1 0)) 1 rfl rfl (fun v V' hv => y_idxK tok 0 rfl (by simp) (fun hg => hv) (fun hg => by omega))) ?_
    refine o_stepN rfl rfl rfl rfl (s_rst tok rfl rfl (by intro u hu; simp only [List.mem_singleton] at hu; subst hu; rfl) (by simp only [List.length_singleton]; omega) (by omega)) (fun _ _ => ?_)
    refine o_end [6] rfl ?_
    refine rq ?_
    refine x_then ?_
    refine r_seq ?_
    refine r_seq ?_
    refine r_region (by intro _ _ w1 h1; first | exact h1 | (obtain ⟨h2, _⟩ := h1; cases h2; done) | (obtain ⟨⟨_, h2⟩, _⟩ := h1; cases h2; done) | (obtain ⟨_, h2, _⟩ := h1; cases h2; done) | (obtain ⟨_, _, h2, _⟩ := h1; cases h2; done) | (obtain ⟨_, _, _, h2, _⟩ := h1; cases h2; done) | (rcases h1 with ⟨⟨_, _, h2, _⟩ | ⟨_, h2⟩, _⟩ <;> cases h2; done) | (exact nor _ h1)) rfl ?_
    refine o_yield rfl rfl rfl (y_val tok rfl) ?_
    have hset := overL_set (enc := encS) (sz := 1) (fun _ => rfl) (List.replicate tot ByteArray.empty) 0 (gbV g) (by simpa using hpos)
    have hf0 : (List.replicate tot ByteArray.empty).set 0 (gbV g) = fmtTo g (gbV g) hd 0 := by rw [fmtTo, htn]
    rw [Nat.zero_mul] at hset
    rw [show overL 0 [Value.string _] _ = _ from hset, hf0]
    refine k_plain [6, 29] [1] rfl (by repeat (first | exact SubF.nil | refine SubF.cons rfl ?_)) rfl rfl (fun Ea V1 hle1 hlit => ?_)
    have hd2 := hlit 2 _ _ rfl
    have hd3 := hlit 3 _ _ rfl
    clear hlit
    refine o_callV (fun v V2 => ∃ b, v = .func (.func 205) #[] #[Ptr b] ∧ V2.get b = some (.cells [Ptr (Ea.ρ 2)].toArray 180 (0, 0))) rfl rfl fnok130 rfl rfl (fun hg E w1 hm => by exact heads_c V1 (Ea.ρ 2) _ hm.leV) ?_
    rintro v V2 hle2 hx
    obtain ⟨b, rfl, hb⟩ := hx rfl
    clear hx
    refine o_end [6, 30] rfl ?_
    refine rq ?_
    refine x_then ?_
    refine r_block ?_
    refine r_range (α := Fin sl) (σ := List ByteArray) (τ := Unit) (by omega) rfl fnok205 (fun x => I (headV g ((x : Nat) : Int))) (fun xs => xs = List.finRange sl) (fun pre => ∃ i, i ≤ sl ∧ pre = (List.finRange sl).take i) sl [(6, .a (.v (Ptr (Ea.ρ 3))))] (fun s => [(4, .keep 1 (Ea.ρ 1) (Ea.κ 1)), (1, .row 9 1 tot (s.flatMap encS))]) (fun pre s => s = fmtAt g (gbV g) hd pre.reverse) (fun _ => []) (fun _ _ => False) .ret _ (by repeat (first | exact SubF.nil | refine SubF.cons rfl ?_)) rfl rfl (by repeat (first | exact SubO.nil | refine SubO.cons rfl ?_)) (fun _ => rfl) (fun _ => rfl) rfl (fun w hV => heads_seq g ok sl hsl (by omega) V2 b (Ea.ρ 2) (Ea.κ 1) _ hb (hle2.get _ _ hd2) w hV) ?_ ?_ ?_
    · intro l pre x s Vf sz hI hlen hVf
      have hd2' := hVf.get _ _ (hle2.get _ _ hd2)
      have hd3' := hVf.get _ _ (hle2.get _ _ hd3)
      obtain ⟨q, hq, hqt⟩ := head_in hg (i := x) (by omega)
      rw [hq]
      refine r_block ?_
      refine r_held (by intro _ _ w1 h1; first | exact h1 | (obtain ⟨h2, _⟩ := h1; cases h2; done) | (obtain ⟨⟨_, h2⟩, _⟩ := h1; cases h2; done) | (obtain ⟨_, h2, _⟩ := h1; cases h2; done) | (obtain ⟨_, _, h2, _⟩ := h1; cases h2; done) | (obtain ⟨_, _, _, h2, _⟩ := h1; cases h2; done) | (rcases h1 with ⟨⟨_, _, h2, _⟩ | ⟨_, h2⟩, _⟩ <;> cases h2; done) | (exact nor _ h1)) rfl [] ([(5, .size sz), (4, .keep 1 (Ea.ρ 1) (Ea.κ 1))]) mixed (by repeat (first | exact SubO.nil | refine SubO.cons rfl ?_)) (by first | rfl | simp [okCels, allOk_plain]) ?_
      refine t_take 0 rfl (by kernel_rfl) rfl rfl rfl (y_ldp tok rfl (fun hg => hd3') rfl) rfl ?_
      refine t_take 1 rfl (by kernel_rfl) rfl rfl rfl (y_val tok rfl) rfl ?_
      refine t_take 2 rfl (by kernel_rfl) rfl rfl rfl (y_val tok rfl) rfl ?_
      refine t_take 3 rfl (by kernel_rfl) rfl rfl rfl (y_ldp tok rfl (fun hg => hd2') rfl) rfl ?_
      refine t_take 4 rfl (by kernel_rfl) rfl rfl rfl (y_val tok rfl) rfl ?_
      refine t_go ?_
      refine h_one 5 (by kernel_rfl) ?_
      refine h_call 5 (.a (.v _)) rfl rfl rfl fnok53 rfl rfl rfl (fun hg E w1 hm => by exact hh _) ?_
      refine h_one 6 (by kernel_rfl) ?_
      refine h_yield 6 rfl rfl rfl rfl (y_val tok rfl) ?_
      refine h_take 7 rfl (by kernel_rfl) rfl rfl rfl rfl (y_val tok rfl) rfl ?_
      refine h_take 8 rfl (by kernel_rfl) rfl rfl rfl rfl (y_val tok rfl) rfl ?_
      refine h_one 9 (by kernel_rfl) ?_
      have hfl : s.length = tot := by rw [hI, fmtAt_len]; exact htn
      refine h_yield 9 rfl rfl rfl rfl (y_ownK 1 4 _ q rfl rfl (fun V' hv => y_idxK tok q rfl (by simp) (fun hg => hv) (fun hg => by omega))) ?_
      refine h_one 10 (by kernel_rfl) ?_
      refine h_toN 10 rfl rfl rfl rfl rfl (s_rst tok rfl rfl (by intro u hu; simp only [List.mem_singleton] at hu; subst hu; rfl) (by simp only [List.length_singleton]; omega) (by omega)) (.inr fun _ _ => ⟨(by repeat (first | exact SubO.nil | refine SubO.cons rfl ?_)), rfl, (by first | exact Vw.le.refl _ | assumption)⟩) (fun _ _ => ?_)
      refine h_done [] (by kernel_rfl) rfl ?_
      refine rq ?_
      refine x_block ?_
      have hset := overL_set (enc := encS) (sz := 1) (fun _ => rfl) s q hd (by rw [hfl]; omega)
      rw [Nat.mul_one] at hset
      rw [show overL q [Value.string _] _ = _ from hset]
      refine rb_next (s.set q hd) (by rw [hI, List.reverse_append]; simp [fmtAt, hq]) (by repeat (first | exact SubO.nil | refine SubO.cons rfl ?_)) rfl (by repeat (first | exact Vw.le.refl _ | assumption | (refine Vw.le.trans ?_ (by assumption)))) (by repeat (first | exact Vw.le.refl _ | assumption | (refine Vw.le.trans ?_ (by assumption))))
    · intro D V3 s xs hS hI hle3 hD hle4
      have hd2' := hle3.get _ _ (hle2.get _ _ hd2)
      have hd3' := hle3.get _ _ (hle2.get _ _ hd3)
      refine x_block ?_
      refine x_then ?_
      refine r_seq ?_
      refine r_region (by intro _ _ w1 h1; first | exact h1 | (obtain ⟨h2, _⟩ := h1; cases h2; done) | (obtain ⟨⟨_, h2⟩, _⟩ := h1; cases h2; done) | (obtain ⟨_, h2, _⟩ := h1; cases h2; done) | (obtain ⟨_, _, h2, _⟩ := h1; cases h2; done) | (obtain ⟨_, _, _, h2, _⟩ := h1; cases h2; done) | (rcases h1 with ⟨⟨_, _, h2, _⟩ | ⟨_, h2⟩, _⟩ <;> cases h2; done) | (exact nor _ h1)) rfl ?_
      refine o_yield rfl rfl rfl (y_ldp tok rfl (fun hg => hd3') rfl) ?_
      refine o_yield rfl rfl rfl (y_val tok rfl) ?_
      refine o_yield rfl rfl rfl (y_val tok rfl) ?_
      refine o_yield rfl rfl rfl (y_ldp tok rfl (fun hg => hd2') rfl) ?_
      refine o_yield rfl rfl rfl (y_val tok rfl) ?_
      refine o_yield rfl rfl rfl (y_val tok rfl) ?_
      refine o_end [2, 3] rfl ?_
      refine rq ?_
      refine x_then ?_
      refine r_ret ?_
      refine rb_retD tok rfl hD ?_
      intro E w' hm _
      have hvle : (vw w).le (V3.del D) := hle1.trans (hle2.trans hle4)
      obtain ⟨_, hk, _⟩ := hm.kp 4 1 _ _ rfl
      refine ⟨.inl ⟨hg, Ea.κ 1, rfl, ?_⟩, hm.below hvle⟩
      have hfr := hm.rowFresh hvle (l := 1) rfl
      rw [hk, hI, hS, fmtAt_all] at hfr
      rw [htn, hsn]
      exact hfr
    · intro D V3 y pre _ hf
      exact hf.elim
end Go.Proofs.Ytflimioplnbopaa

/- Whether sectors are a device's: the program's. -/
set_option linter.unusedVariables false
set_option linter.unusedSimpArgs false
set_option maxRecDepth 100000
namespace Go.Proofs.Ytflimioplnbopaa
open Go Go.Eng Go.RowKit

theorem long_c (n : Int) (x : ByteArray) (b : Nat) (V : Vw) (hb : V.get b = some (.cells [I n].toArray 3 (0, 0))) (w : World) (hV : V.le (vw w)) :
    Calls Try.prog 207 #[S x, Ptr b] w fun e w' => e = .returned (.bool (decide (n < x.size))) ∧ Below w.heap.size w w' := by
  refine enter (E := E0) (O := []) (nl := 0) (V := vw w) [.a (.v (S x)), .a (.v (Ptr b))] Try.func207 rfl rfl (mem0 E0 0 w) rfl rfl ?_
  refine c_seq ?_
  refine c_region ?_
  refine o_yield rfl rfl rfl (y_val tok rfl) ?_
  refine o_end [0, 1] rfl ?_
  refine x_then ?_
  refine c_seq ?_
  refine c_region ?_
  refine o_yield rfl rfl rfl (y_val tok rfl) ?_
  refine o_yield rfl rfl rfl (y_val tok rfl) ?_
  refine o_yield rfl rfl rfl (y_ldp tok rfl (fun hg => hV.get _ _ hb) rfl) ?_
  refine o_yield rfl rfl rfl (y_val tok rfl) ?_
  refine o_yield rfl rfl rfl (y_val tok rfl) ?_
  refine o_end [3] rfl ?_
  refine x_then ?_
  refine c_ret ?_
  refine b_ret tok rfl ?_
  intro E w' hm _
  refine ⟨?_, hm.below (Vw.le.refl _)⟩
  rfl

theorem mkLong_c (V : Vw) (n : Int) (w : World) (hV : V.le (vw w)) : Calls Try.prog 206 #[I n] w fun e w' => ∃ v V', e = .returned v ∧ Below w.heap.size w w' ∧ Vext w.heap.size V V' w' ∧
    ∃ b, v = .func (.func 207) #[] #[Ptr b] ∧ V'.get b = some (.cells [I n].toArray 3 (0, 0)) := by
  refine enter (E := E0) (O := []) (nl := 0) (V := vw w) [.a (.v (I n))] Try.func206 rfl rfl (mem0 E0 0 w) rfl rfl ?_
  refine c_seq ?_
  refine c_region ?_
  refine o_new tok rfl rfl rfl rfl ?_
  refine o_yield rfl rfl rfl (y_val tok rfl) ?_
  refine o_end [1] rfl ?_
  refine x_then ?_
  refine c_seq ?_
  refine c_region ?_
  refine o_yield rfl rfl rfl (y_val tok rfl) ?_
  refine o_yield rfl rfl rfl (y_val tok rfl) ?_
  refine o_end [2] rfl ?_
  refine x_then ?_
  refine c_ret ?_
  refine b_ret tok rfl ?_
  intro E w' hm _
  obtain ⟨h1, h2⟩ := lit_vext hV hm (l := 0) rfl
  exact ⟨_, _, rfl, hm.below (Vw.le.refl _), h1, _, rfl, h2⟩

def fitB (d : Nat) (l : List ByteArray) : Bool := !((l.take d).any fun x => decide ((512 : Int) < x.size)) && !((l.drop d).any fun x => decide ((256 : Int) < x.size))

theorem long_tells (n : Int) (b : Nat) (V : Vw) (hb : V.get b = some (.cells [I n].toArray 3 (0, 0))) : TellsS V (.func (.func 207) #[] #[Ptr b]) (fun x => decide (n < x.size)) := by
  intro x w hV
  exact ⟨207, _, rfl, fnok207, long_c n x b V hb w hV⟩

theorem fit_c (V : Vw) (g : Geo) (ok : g.Ok) (bd : Nat) (sv : Value) (l : List ByteArray) (w : World) (hV : V.le (vw w)) (hd : V.get bd = some (.cells (g.cells ++ [sv]).toArray 184 (0, 0))) (hs0 : SlOf V encS 1 sv l)
    (hn : l.length ≤ 4398046511104) (d : Nat) (hdd : dataV g 0 0 = d) (hdl : d ≤ l.length) :
    Calls Try.prog 131 #[Ptr bd] w fun e w' => e = .returned (.bool (fitB d l)) ∧ Below w.heap.size w w' := by
  obtain ⟨sa, sn, sc, rfl⟩ := sl_shape hs0.sl
  have hs := hs0.mono hV
  have hd' := hV.get _ _ hd
  refine enter (E := E0) (O := []) (nl := 0) (V := vw w) [.a (.v (Ptr bd))] Try.func131 rfl rfl (mem0 E0 0 w) rfl rfl ?_
  refine c_seq ?_
  refine c_region ?_
  refine o_yield rfl rfl rfl (y_val tok rfl) ?_
  refine o_end [0] rfl ?_
  refine x_then ?_
  refine c_seq ?_
  refine c_region ?_
  refine o_yield rfl rfl rfl (y_val tok rfl) ?_
  refine o_yield rfl rfl rfl (y_val tok rfl) ?_
  refine o_yield rfl rfl rfl (y_val tok rfl) ?_
  refine o_yield rfl rfl rfl (y_val tok rfl) ?_
  refine o_yield rfl rfl rfl (y_ldp tok rfl (fun hg => hd') rfl) ?_
  refine o_call (.a (.v _)) rfl rfl fnok122 rfl rfl rfl (fun hg E w1 hm => by exact data_c g ok 0 0 _) ?_
  refine o_yield rfl rfl rfl (y_val tok rfl) ?_
  refine o_end [0, 3] rfl ?_
  refine x_then ?_
  refine c_seq ?_
  refine c_region ?_
  refine o_yield rfl rfl rfl (y_val tok rfl) ?_
  refine o_end [0, 3, 4] rfl ?_
  refine x_then ?_
  refine c_seq ?_
  refine c_heldR mixed rfl (by repeat (first | exact SubO.nil | refine SubO.cons rfl ?_)) (by first | rfl | simp [okCels, allOk_plain]) ?_
  refine t_take 0 rfl (by kernel_rfl) rfl rfl rfl (y_val tok rfl) rfl ?_
  refine t_take 1 rfl (by kernel_rfl) rfl rfl rfl (y_val tok rfl) rfl ?_
  refine t_take 2 rfl (by kernel_rfl) rfl rfl rfl (y_val tok rfl) rfl ?_
  rw [hdd]
  refine t_take 3 rfl (by kernel_rfl) rfl rfl rfl (y_ldp tok rfl (fun hg => hd') rfl) rfl ?_
  refine t_take 4 rfl (by kernel_rfl) rfl rfl rfl (y_val tok rfl) rfl ?_
  refine t_take 5 rfl (by kernel_rfl) rfl rfl rfl (y_sl tok rfl (fun hg => hs.sl) (fun hg => by dsimp only [Option.getD]; omega)) rfl ?_
  refine t_take 6 rfl (by kernel_rfl) rfl rfl rfl (y_val tok rfl) rfl ?_
  refine t_go ?_
  refine h_one 7 (by kernel_rfl) ?_
  rw [show ((some (d : Int)).getD (l.length : Int)).toNat = d by simp]
  have hc1 : SlOf (vw w) encS 1 (sliceV (.slice sa sn sc) 0 d 1) (l.take d) := by
    have := hs.cut (lo := 0) (hi := d) (by omega) (by omega)
    simpa using this
  have hc2 : SlOf (vw w) encS 1 (sliceV (.slice sa sn sc) d l.length 1) (l.drop d) := by
    have := hs.cut (lo := d) (hi := l.length) (by omega) (by omega)
    rwa [List.take_of_length_le (by simp)] at this
  refine h_callV 7 (fun v V2 => ∃ b, v = .func (.func 207) #[] #[Ptr b] ∧ V2.get b = some (.cells [I 512].toArray 3 (0, 0))) rfl rfl rfl fnok206 rfl rfl (fun hg E w1 hm => by exact mkLong_c (vw w) 512 _ hm.leV) ?_
  rintro v V2 hle2 hx
  obtain ⟨b, rfl, hb⟩ := hx rfl
  clear hx
  refine h_one 8 (by kernel_rfl) ?_
  refine h_call 8 (.a (.v _)) rfl rfl rfl fnok208 rfl rfl rfl (fun hg E w1 hm => by exact contS_c V2 _ _ _ _ _ hm.leV (hc1.mono hle2) (by simp; omega) (long_tells 512 b V2 hb)) ?_
  refine h_one 9 (by kernel_rfl) ?_
  refine h_yield 9 rfl rfl rfl rfl (y_val tok rfl) ?_
  refine h_one 10 (by kernel_rfl) ?_
  refine h_yield 10 rfl rfl rfl rfl (y_val tok rfl) ?_
  refine h_take 11 rfl (by kernel_rfl) rfl rfl rfl rfl (y_val tok rfl) rfl ?_
  refine h_take 12 rfl (by kernel_rfl) rfl rfl rfl rfl (y_val tok rfl) rfl ?_
  refine h_take 13 rfl (by kernel_rfl) rfl rfl rfl rfl (y_val tok rfl) rfl ?_
  refine h_take 14 rfl (by kernel_rfl) rfl rfl rfl rfl (y_ldp tok rfl (fun hg => hd') rfl) rfl ?_
  refine h_take 15 rfl (by kernel_rfl) rfl rfl rfl rfl (y_val tok rfl) rfl ?_
  refine h_take 16 rfl (by kernel_rfl) rfl rfl rfl rfl (y_sl tok rfl (fun hg => hs.sl) (fun hg => by dsimp only [Option.getD]; omega)) rfl ?_
  refine h_one 17 (by kernel_rfl) ?_
  refine h_yield 17 rfl rfl rfl rfl (y_val tok rfl) ?_
  refine h_one 18 (by kernel_rfl) ?_
  rw [show ((some (d : Int)).getD 0).toNat = d by simp, show (Option.getD (none : Option Int) (l.length : Int)).toNat = l.length by simp]
  refine h_callV 18 (fun v V3 => ∃ b, v = .func (.func 207) #[] #[Ptr b] ∧ V3.get b = some (.cells [I 256].toArray 3 (0, 0))) rfl rfl rfl fnok206 rfl rfl (fun hg E w1 hm => by exact mkLong_c V2 256 _ hm.leV) ?_
  rintro v V3 hle3 hx
  have hx' : (!((l.take d).any fun x => decide ((512 : Int) < x.size))) = true → TellsS V3 v (fun x => decide ((256 : Int) < x.size)) := fun hg => by
    obtain ⟨b, rfl, hb⟩ := hx hg
    exact long_tells 256 b V3 hb
  clear hx
  refine h_one 19 (by kernel_rfl) ?_
  refine h_call 19 (.a (.v _)) rfl rfl rfl fnok208 rfl rfl rfl (fun hg E w1 hm => by exact contS_c V3 _ _ _ _ _ hm.leV (hc2.mono (hle2.trans hle3)) (by simp; omega) (hx' hg)) ?_
  refine h_one 20 (by kernel_rfl) ?_
  refine h_yield 20 rfl rfl rfl rfl (y_val tok rfl) ?_
  refine h_one 21 (by kernel_rfl) ?_
  refine h_yield 21 rfl rfl rfl rfl (y_val tok rfl) ?_
  refine h_one 22 (by kernel_rfl) ?_
  refine h_yield 22 rfl rfl rfl rfl (y_val tok rfl) ?_
  refine h_done [2] (by kernel_rfl) rfl ?_
  refine x_then ?_
  refine c_ret ?_
  refine b_ret tok rfl ?_
  intro E w' hm _
  refine ⟨?_, hm.below ((hle2.trans hle3))⟩
  rfl
end Go.Proofs.Ytflimioplnbopaa

/- Whether sectors are a device's: the program's, whole. -/
set_option linter.unusedVariables false
set_option linter.unusedSimpArgs false
set_option maxRecDepth 100000
namespace Go.Proofs.Ytflimioplnbopaa
open Go Go.Eng Go.RowKit

def headsOk (g : Geo) (l : List ByteArray) : Bool := (List.range g.slots.toNat).all fun i => decide (tailE (l.getD (headV g (i : Int)).toNat ByteArray.empty) = 0)

/-- What sectors are told to be. -/
def chkG (l : List ByteArray) : Option Geo := match l with
  | [] => none
  | s :: r => match srOk s with
    | none => none
    | some g => if (((s :: r).length : Int) = totV g ∧ fitB (dataV g 0 0).toNat (s :: r) = true) ∧ headsOk g (s :: r) = true then some g else none
def chkV (l : List ByteArray) : Geo := (chkG l).getD geo0
def chkE (l : List ByteArray) : Int := if (chkG l).isSome then 0 else 50

theorem srOk_geo {s : ByteArray} {g : Geo} (h : srOk s = some g) : geoB g = true := by
  unfold srOk at h
  split at h
  · split at h
    · rename_i hq; cases h; exact hq.2
    · cases h
  · cases h

theorem srOk_ok {s : ByteArray} {g : Geo} (h : srOk s = some g) : g.Ok := by
  unfold srOk at h
  split at h
  · rename_i l r hf
    split at h
    · cases h; exact geoOf_ok (by rw [fields_len hf]; rfl) (fieldsR_64 hf)
    · cases h
  · cases h

theorem srV_ok (s : ByteArray) : (srV s).Ok := by
  unfold srV
  cases h : srOk s with
  | none => exact geo0_ok
  | some g => exact srOk_ok h

theorem chkG_none {l r : List ByteArray} {s : ByteArray} (hl : l = s :: r) (h : srE s = 0 → (l.length : Int) = totV (srV s) → fitB (dataV (srV s) 0 0).toNat l = true → False) : chkG l = none := by
  subst hl
  unfold chkG
  simp only
  cases hq : srOk s with
  | none => rfl
  | some g =>
    simp only
    rw [if_neg]
    rintro ⟨⟨h1, h2⟩, h3⟩
    have hv : srV s = g := by rw [srV, hq]; rfl
    have he : srE s = 0 := by rw [srE, hq]; rfl
    exact h he (by rw [hv]; exact h1) (by rw [hv]; exact h2)

theorem chkG_heads {l r : List ByteArray} {s : ByteArray} (hl : l = s :: r) (h1 : srOk s = some (srV s)) (h2 : (l.length : Int) = totV (srV s)) (h3 : fitB (dataV (srV s) 0 0).toNat l = true) :
    chkG l = if headsOk (srV s) l = true then some (srV s) else none := by
  subst hl
  unfold chkG
  simp only
  rw [h1]
  simp only
  by_cases hh : headsOk (srV s) (s :: r) = true
  · rw [if_pos ⟨⟨h2, h3⟩, hh⟩, if_pos hh]
  · rw [if_neg (fun h => hh h.2), if_neg hh]

theorem headsOk_all {g : Geo} {sl : Nat} (hsl : g.slots = sl) (l : List ByteArray) : headsOk g l = true ↔ ∀ x ∈ List.finRange sl, tailE (l.getD (headV g ((x : Nat) : Int)).toNat ByteArray.empty) = 0 := by
  unfold headsOk
  rw [hsl]
  simp only [Int.toNat_natCast, List.all_eq_true, List.mem_range, decide_eq_true_eq]
  constructor
  · intro h x _
    exact h x x.isLt
  · intro h i hi
    exact h ⟨i, hi⟩ (List.mem_finRange _)

theorem schk_c (V : Vw) (sv : Value) (l : List ByteArray) (w : World) (hV : V.le (vw w)) (hs0 : SlOf V encS 1 sv l) (hn : l.length ≤ 4398046511104) (hsz : ∀ x ∈ l, x.size ≤ maxLen) :
    Calls Try.prog 47 #[sv] w fun e w' => e = .returned (.tuple #[(chkV l).val, I (chkE l)]) ∧ Below w.heap.size w w' := by
  obtain ⟨sa, sn, sc, rfl⟩ := sl_shape hs0.sl
  have hs := hs0.mono hV
  refine callsR (enterR 9 (E := E0) (O := []) (nl := 0) (V := vw w) [.a (.v (.slice sa sn sc))] Try.func47 rfl rfl (mem0 E0 0 w) rfl rfl ?_)
  refine r_seq ?_
  refine r_region (by intro _ _ w1 h1; first | exact h1 | (obtain ⟨h2, _⟩ := h1; cases h2; done) | (obtain ⟨⟨_, h2⟩, _⟩ := h1; cases h2; done) | (obtain ⟨_, h2, _⟩ := h1; cases h2; done) | (obtain ⟨_, _, h2, _⟩ := h1; cases h2; done) | (obtain ⟨_, _, _, h2, _⟩ := h1; cases h2; done) | (rcases h1 with ⟨⟨_, _, h2, _⟩ | ⟨_, h2⟩, _⟩ <;> cases h2; done) | (exact nor _ h1)) rfl ?_
  refine o_new tok rfl rfl rfl rfl ?_
  refine o_new tok rfl rfl rfl rfl ?_
  refine o_new tok rfl rfl rfl rfl ?_
  refine o_end [1, 2, 3] rfl ?_
  refine rq ?_
  refine x_then ?_
  refine r_seq ?_
  refine r_seq ?_
  refine r_region (by intro _ _ w1 h1; first | exact h1 | (obtain ⟨h2, _⟩ := h1; cases h2; done) | (obtain ⟨⟨_, h2⟩, _⟩ := h1; cases h2; done) | (obtain ⟨_, h2, _⟩ := h1; cases h2; done) | (obtain ⟨_, _, h2, _⟩ := h1; cases h2; done) | (obtain ⟨_, _, _, h2, _⟩ := h1; cases h2; done) | (rcases h1 with ⟨⟨_, _, h2, _⟩ | ⟨_, h2⟩, _⟩ <;> cases h2; done) | (exact nor _ h1)) rfl ?_
  refine o_yield rfl rfl rfl (y_val tok rfl) ?_
  refine o_yield rfl rfl rfl (y_len tok rfl (fun hg => hs.sl)) ?_
  refine o_yield rfl rfl rfl (y_val tok rfl) ?_
  refine o_end [1, 2, 3, 12] rfl ?_
  refine rq ?_
  refine x_then ?_
  refine r_cond rfl (fun h => ?_) (fun h => ?_)
  ·
    simp only [Bool.and_eq_true, Bool.or_eq_true, Bool.not_eq_true', Bool.or_eq_false_iff, Bool.and_eq_false_iff, decide_eq_true_eq, decide_eq_false_iff_not, beq_iff_eq, bne_iff_ne, Bool.not_eq_false', beq_eq_false_iff_ne, bne_eq_false_iff_eq, ne_eq, Decidable.not_not, Int.not_lt, Int.not_le] at h
    refine r_seq ?_
    refine r_region (by intro _ _ w1 h1; first | exact h1 | (obtain ⟨h2, _⟩ := h1; cases h2; done) | (obtain ⟨⟨_, h2⟩, _⟩ := h1; cases h2; done) | (obtain ⟨_, h2, _⟩ := h1; cases h2; done) | (obtain ⟨_, _, h2, _⟩ := h1; cases h2; done) | (obtain ⟨_, _, _, h2, _⟩ := h1; cases h2; done) | (rcases h1 with ⟨⟨_, _, h2, _⟩ | ⟨_, h2⟩, _⟩ <;> cases h2; done) | (exact nor _ h1)) rfl ?_
    refine o_yield rfl rfl rfl (y_val tok rfl) ?_
    refine o_store tok rfl rfl rfl (by first | exact ⟨trivial, trivial⟩ | (repeat' first | exact trivial | exact rfl | apply And.intro); done | simp [onesP, oneP, lk, Value.oneCell']) ?_
    refine o_store tok rfl rfl rfl (by first | exact ⟨trivial, trivial⟩ | (repeat' first | exact trivial | exact rfl | apply And.intro); done | simp [onesP, oneP, lk, Value.oneCell']) ?_
    refine o_end [2, 3] rfl ?_
    refine rq ?_
    refine x_then ?_
    refine r_ret ?_
    refine x_then_ret ?_
    refine rb_ret tok rfl ?_
    have hl : l = [] := List.length_eq_zero_iff.1 (by omega)
    intro E w' hm _
    refine ⟨?_, hm.below (Vw.le.refl _)⟩
    subst hl
    rfl
  ·
    simp only [Bool.and_eq_true, Bool.or_eq_true, Bool.not_eq_true', Bool.or_eq_false_iff, Bool.and_eq_false_iff, decide_eq_true_eq, decide_eq_false_iff_not, beq_iff_eq, bne_iff_ne, Bool.not_eq_false', beq_eq_false_iff_ne, bne_eq_false_iff_eq, ne_eq, Decidable.not_not, Int.not_lt, Int.not_le] at h
    obtain ⟨s, r, hl⟩ : ∃ s r, l = s :: r := by
      cases l with
      | nil => simp at h
      | cons s r => exact ⟨s, r, rfl⟩
    clear h
    have h0 : l[0]? = some s := by rw [hl]; rfl
    have hlen : 0 < l.length := by rw [hl]; simp
    have hss : s.size ≤ maxLen := hsz s (by rw [hl]; simp)
    refine r_skip ?_
    refine x_then ?_
    refine r_seq ?_
    refine r_region (by intro _ _ w1 h1; first | exact h1 | (obtain ⟨h2, _⟩ := h1; cases h2; done) | (obtain ⟨⟨_, h2⟩, _⟩ := h1; cases h2; done) | (obtain ⟨_, h2, _⟩ := h1; cases h2; done) | (obtain ⟨_, _, h2, _⟩ := h1; cases h2; done) | (obtain ⟨_, _, _, h2, _⟩ := h1; cases h2; done) | (rcases h1 with ⟨⟨_, _, h2, _⟩ | ⟨_, h2⟩, _⟩ <;> cases h2; done) | (exact nor _ h1)) rfl ?_
    refine o_yield rfl rfl rfl (y_val tok rfl) ?_
    have hlt_s := lt_of_at h0
    refine o_yield rfl rfl rfl (y_idx tok rfl (fun hg => hs.sl) (fun hg => ⟨by omega, by omega⟩)) ?_
    refine o_yield rfl rfl rfl (y_lel tok (0) 0 (s) rfl (fun hg => hs) (fun hg => h0) rfl rfl) ?_
    refine o_call (.a (.v _)) rfl rfl fnok50 rfl rfl rfl (fun hg E w1 hm => by exact sread_c s hss _) ?_
    refine o_yield rfl rfl rfl (y_val tok rfl) ?_
    refine o_yield rfl rfl rfl (y_val tok rfl) ?_
    refine o_yield rfl rfl rfl (y_val tok rfl) ?_
    refine o_new tok rfl rfl rfl rfl ?_
    refine o_store tok rfl rfl rfl (by first | exact ⟨trivial, trivial⟩ | (repeat' first | exact trivial | exact rfl | apply And.intro); done | simp [onesP, oneP, lk, Value.oneCell']) ?_
    refine o_yield rfl rfl rfl (y_val tok rfl) ?_
    refine o_end [1, 2, 3, 4, 5] rfl ?_
    refine rq ?_
    refine x_then ?_
    refine r_seq ?_
    refine r_region (by intro _ _ w1 h1; first | exact h1 | (obtain ⟨h2, _⟩ := h1; cases h2; done) | (obtain ⟨⟨_, h2⟩, _⟩ := h1; cases h2; done) | (obtain ⟨_, h2, _⟩ := h1; cases h2; done) | (obtain ⟨_, _, h2, _⟩ := h1; cases h2; done) | (obtain ⟨_, _, _, h2, _⟩ := h1; cases h2; done) | (rcases h1 with ⟨⟨_, _, h2, _⟩ | ⟨_, h2⟩, _⟩ <;> cases h2; done) | (exact nor _ h1)) rfl ?_
    refine o_yield rfl rfl rfl (y_val tok rfl) ?_
    refine o_yield rfl rfl rfl (y_val tok rfl) ?_
    refine o_yield rfl rfl rfl (y_val tok rfl) ?_
    refine o_yield rfl rfl rfl (y_val tok rfl) ?_
    refine o_new tok rfl rfl rfl rfl ?_
    refine o_yield rfl rfl rfl (y_val tok rfl) ?_
    refine o_end [1, 2, 3, 4, 5, 6] rfl ?_
    refine rq ?_
    refine x_then ?_
    refine r_seq ?_
    refine r_seq ?_
    refine k_plainS [1, 2, 3, 4, 5, 6] [1, 2] rfl (by repeat (first | exact SubF.nil | refine SubF.cons rfl ?_)) rfl rfl (fun Ea V1 hle1 hlit => ?_)
    have hb0 := hlit 0 _ _ rfl rfl
    have hb3 := hlit 3 _ _ rfl rfl
    have hb4 := hlit 4 _ _ rfl rfl
    clear hlit
    have hs1 := hs.mono hle1
    refine r_heldS (by intro _ _ w1 h1; first | exact h1 | (obtain ⟨h2, _⟩ := h1; cases h2; done) | (obtain ⟨⟨_, h2⟩, _⟩ := h1; cases h2; done) | (obtain ⟨_, h2, _⟩ := h1; cases h2; done) | (obtain ⟨_, _, h2, _⟩ := h1; cases h2; done) | (obtain ⟨_, _, _, h2, _⟩ := h1; cases h2; done) | (rcases h1 with ⟨⟨_, _, h2, _⟩ | ⟨_, h2⟩, _⟩ <;> cases h2; done) | (exact nor _ h1)) rfl [] mixed rfl (by repeat (first | exact SubO.nil | refine SubO.cons rfl ?_)) (by first | rfl | simp [okCels, allOk_plain]) ?_
    refine t_take 0 rfl (by kernel_rfl) rfl rfl rfl (y_val tok rfl) rfl ?_
    refine t_take 1 rfl (by kernel_rfl) rfl rfl rfl (y_val tok rfl) rfl ?_
    refine t_take 2 rfl (by kernel_rfl) rfl rfl rfl (y_val tok rfl) rfl ?_
    refine t_take 3 rfl (by kernel_rfl) rfl rfl rfl (y_ldp tok rfl (fun hg => hb0) rfl) rfl ?_
    refine t_take 4 rfl (by kernel_rfl) rfl rfl rfl (y_len tok rfl (fun hg => hs1.sl)) rfl ?_
    refine t_take 5 rfl (by kernel_rfl) rfl rfl rfl (y_ldp tok rfl (fun hg => hb3) rfl) rfl ?_
    refine t_go ?_
    refine h_one 6 (by kernel_rfl) ?_
    refine h_call 6 (.a (.v _)) rfl rfl rfl fnok128 rfl rfl rfl (fun hg E w1 hm => by exact total_c _ (srV_ok s) _) ?_
    refine h_one 7 (by kernel_rfl) ?_
    refine h_yield 7 rfl rfl rfl rfl (y_val tok rfl) ?_
    refine h_one 8 (by kernel_rfl) ?_
    refine h_yield 8 rfl rfl rfl rfl (y_val tok rfl) ?_
    refine h_one 9 (by kernel_rfl) ?_
    refine h_yield 9 rfl rfl rfl rfl (y_val tok rfl) ?_
    refine h_one 10 (by kernel_rfl) ?_
    refine h_yield 10 rfl rfl rfl rfl (y_val tok rfl) ?_
    refine h_one 11 (by kernel_rfl) ?_
    have hG : (!(srE s != 0 || (l.length : Int) != totV (srV s))) = true → srOk s = some (srV s) ∧ (l.length : Int) = totV (srV s) ∧ geoB (srV s) = true ∧ ∃ d : Nat, dataV (srV s) 0 0 = d ∧ d ≤ l.length := fun hg => by
      simp only [Bool.not_eq_true', Bool.or_eq_false_iff, bne_eq_false_iff_eq] at hg
      obtain ⟨h1, h2⟩ := hg
      have h3 : srOk s = some (srV s) := by
        unfold srE at h1
        unfold srV
        cases hq : srOk s with
        | none => rw [hq] at h1; simp at h1
        | some g => rfl
      have h4 := srOk_geo h3
      have hf := geo_facts h4
      have hz := geo_sizes h4
      have h5 : dataV (srV s) 0 0 = dataAt (srV s) + 0 * (srV s).per + 0 := by rw [dataV, if_pos ⟨h4, by omega, by omega, by omega, by omega⟩]
      have h6 : totV (srV s) = dataAt (srV s) + (srV s).blocks * (srV s).per := by rw [totV, if_pos h4]
      exact ⟨h3, h2, h4, (dataAt (srV s)).toNat, by rw [h5]; omega, by omega⟩
    have hfitc : ∀ w1 : World, V1.le (vw w1) → (!(srE s != 0 || (l.length : Int) != totV (srV s))) = true → Calls Try.prog 131 #[Ptr (Ea.ρ 4)] w1 fun e w' => e = .returned (.bool (fitB (dataV (srV s) 0 0).toNat l)) ∧ Below w1.heap.size w1 w' := fun w1 hV1 hg => by
      obtain ⟨_, _, _, d, hd, hdl⟩ := hG hg
      rw [show (dataV (srV s) 0 0).toNat = d by rw [hd]; rfl]
      exact fit_c V1 (srV s) (srV_ok s) (Ea.ρ 4) (.slice sa sn sc) l w1 hV1 hb4 hs1 hn d hd hdl
    refine h_call 11 (.a (.v _)) rfl rfl rfl fnok131 rfl rfl rfl (fun hg E w1 hm => by exact hfitc _ hm.leV hg) ?_
    refine h_one 12 (by kernel_rfl) ?_
    refine h_yield 12 rfl rfl rfl rfl (y_val tok rfl) ?_
    refine h_one 13 (by kernel_rfl) ?_
    refine h_yield 13 rfl rfl rfl rfl (y_val tok rfl) ?_
    refine h_done [1, 2, 3, 4, 6, 39] (by kernel_rfl) rfl ?_
    refine rq ?_
    refine x_then ?_
    refine r_cond rfl (fun h => ?_) (fun h => ?_)
    ·
      refine k_unptrK 2 6 1 (Ea.ρ 1) 0 rfl rfl rfl ?_
      refine k_unptrK 3 5 2 (Ea.ρ 2) 0 rfl rfl rfl ?_
      refine r_seq ?_
      refine r_region (by intro _ _ w1 h1; first | exact h1 | (obtain ⟨h2, _⟩ := h1; cases h2; done) | (obtain ⟨⟨_, h2⟩, _⟩ := h1; cases h2; done) | (obtain ⟨_, h2, _⟩ := h1; cases h2; done) | (obtain ⟨_, _, h2, _⟩ := h1; cases h2; done) | (obtain ⟨_, _, _, h2, _⟩ := h1; cases h2; done) | (rcases h1 with ⟨⟨_, _, h2, _⟩ | ⟨_, h2⟩, _⟩ <;> cases h2; done) | (exact nor _ h1)) rfl ?_
      refine o_yield rfl rfl rfl (y_val tok rfl) ?_
      refine o_store tok rfl rfl rfl (by first | exact ⟨trivial, trivial⟩ | (repeat' first | exact trivial | exact rfl | apply And.intro); done | simp [onesP, oneP, lk, Value.oneCell']) ?_
      refine o_store tok rfl rfl rfl (by first | exact ⟨trivial, trivial⟩ | (repeat' first | exact trivial | exact rfl | apply And.intro); done | simp [onesP, oneP, lk, Value.oneCell']) ?_
      refine o_end [2, 3] rfl ?_
      refine rq ?_
      refine x_then ?_
      refine r_ret ?_
      refine x_then_ret ?_
      refine rb_ret tok rfl ?_
      intro E w' hm _
      refine ⟨?_, hm.below (hle1)⟩
      have hno : chkG l = none := by
        rw [chkG_none hl]
        intro hG1 hG2 hG3
        rw [hG1] at h
        simp [hG2, hG3] at h
      rw [chkV, chkE, hno]; rfl
    ·
      have hne : (!(srE s != 0 || (l.length : Int) != totV (srV s))) = true ∧ fitB (dataV (srV s) 0 0).toNat l = true := by
        simpa using h
      obtain ⟨hG1, hG2, hG3, d, hd, hdl⟩ := hG hne.1
      have hfit := hne.2
      clear hfitc hne h
      obtain ⟨sl, hsl⟩ : ∃ sl : Nat, (srV s).slots = sl := ⟨(srV s).slots.toNat, by have := geo_facts hG3; omega⟩
      have hslb : sl ≤ 16 := by have := geo_facts hG3; omega
      have hheads := chkG_heads hl hG1 hG2 hfit
      refine r_skip ?_
      refine x_then ?_
      refine r_seq ?_
      refine r_seq ?_
      refine r_region (by intro _ _ w1 h1; first | exact h1 | (obtain ⟨h2, _⟩ := h1; cases h2; done) | (obtain ⟨⟨_, h2⟩, _⟩ := h1; cases h2; done) | (obtain ⟨_, h2, _⟩ := h1; cases h2; done) | (obtain ⟨_, _, h2, _⟩ := h1; cases h2; done) | (obtain ⟨_, _, _, h2, _⟩ := h1; cases h2; done) | (rcases h1 with ⟨⟨_, _, h2, _⟩ | ⟨_, h2⟩, _⟩ <;> cases h2; done) | (exact nor _ h1)) rfl ?_
      refine o_yield rfl rfl rfl (y_val tok rfl) ?_
      refine o_callV (fun v V2 => ∃ b, v = .func (.func 205) #[] #[Ptr b] ∧ V2.get b = some (.cells [Ptr (Ea.ρ 4)].toArray 180 (0, 0))) rfl rfl fnok130 rfl rfl (fun hg E w1 hm => by exact heads_c V1 (Ea.ρ 4) _ hm.leV) ?_
      rintro v V2 hle2 hx
      obtain ⟨b, rfl, hb⟩ := hx rfl
      clear hx
      refine o_end [1, 2, 3, 4, 42] rfl ?_
      refine rq ?_
      refine x_then ?_
      refine r_block ?_
      refine r_range (α := Fin sl) (σ := Unit) (τ := Unit) (by omega) rfl fnok205 (fun x => I (headV (srV s) ((x : Nat) : Int))) (fun xs => xs = List.finRange sl) (fun pre => ∃ i, i ≤ sl ∧ pre = (List.finRange sl).take i) sl [(1, .a (.v (Ptr (Ea.ρ 0)))), (2, .a (.v (Ptr (Ea.ρ 1)))), (3, .a (.v (Ptr (Ea.ρ 2)))), (4, .a (.v (Ptr (Ea.ρ 3))))] (fun _ => [(6, .keep 1 (Ea.ρ 1) (Ea.κ 1)), (5, .keep 2 (Ea.ρ 2) (Ea.κ 2)), (2, .lit [.v (I 0)] 31), (1, .lit (geo0.cells.map .v) 23)]) (fun pre _ => ∀ x ∈ pre, tailE (l.getD (headV (srV s) ((x : Nat) : Int)).toNat ByteArray.empty) = 0) (fun _ => [(6, .keep 1 (Ea.ρ 1) (Ea.κ 1)), (5, .keep 2 (Ea.ρ 2) (Ea.κ 2)), (2, .lit [.v (I 50)] 31), (1, .lit (geo0.cells.map .v) 23)]) (fun pre _ => ∃ x ∈ pre, tailE (l.getD (headV (srV s) ((x : Nat) : Int)).toNat ByteArray.empty) ≠ 0) .ret () (by repeat (first | exact SubF.nil | refine SubF.cons rfl ?_)) rfl (by simp) (by repeat (first | exact SubO.nil | refine SubO.cons rfl ?_)) (fun _ => rfl) (fun _ => rfl) rfl (fun w hV => heads_seq (srV s) (srV_ok s) sl hsl (by omega) V2 b (Ea.ρ 4) (.slice sa sn sc) _ hb (hle2.get _ _ hb4) w hV) ?_ ?_ ?_
      · intro l1 pre x s1 Vf sz hI hlen1 hVf
        have hf0 := hVf.get _ _ (hle2.get _ _ hb0)
        have hsf := hs1.mono (hle2.trans hVf)
        obtain ⟨q, hq, hqt⟩ := head_in hG3 (i := x) (by omega)
        have hql : q < l.length := by omega
        obtain ⟨t, ht⟩ : ∃ t, l[q]? = some t := ⟨_, List.getElem?_eq_getElem hql⟩
        have htl : l.getD (headV (srV s) ((x : Nat) : Int)).toNat ByteArray.empty = t := by rw [hq]; simp [List.getD, ht]
        rw [hq]
        refine r_block ?_
        refine r_seq ?_
        refine r_region (by intro _ _ w1 h1; first | exact h1 | (obtain ⟨h2, _⟩ := h1; cases h2; done) | (obtain ⟨⟨_, h2⟩, _⟩ := h1; cases h2; done) | (obtain ⟨_, h2, _⟩ := h1; cases h2; done) | (obtain ⟨_, _, h2, _⟩ := h1; cases h2; done) | (obtain ⟨_, _, _, h2, _⟩ := h1; cases h2; done) | (rcases h1 with ⟨⟨_, _, h2, _⟩ | ⟨_, h2⟩, _⟩ <;> cases h2; done) | (exact nor _ h1)) rfl ?_
        refine o_yield rfl rfl rfl (y_ldp tok rfl (fun hg => hf0) rfl) ?_
        refine o_yield rfl rfl rfl (y_val tok rfl) ?_
        have hlt_t := lt_of_at ht
        refine o_yield rfl rfl rfl (y_idx tok rfl (fun hg => hsf.sl) (fun hg => ⟨by omega, by omega⟩)) ?_
        refine o_yield rfl rfl rfl (y_lel tok (q) 0 (t) rfl (fun hg => hsf) (fun hg => ht) rfl rfl) ?_
        refine o_call (.a (.v _)) rfl rfl fnok52 rfl rfl rfl (fun hg E w1 hm => by exact stail_c t (hsz t (List.mem_of_getElem? ht)) _) ?_
        refine o_yield rfl rfl rfl (y_val tok rfl) ?_
        refine o_yield rfl rfl rfl (y_val tok rfl) ?_
        refine o_yield rfl rfl rfl (y_val tok rfl) ?_
        refine o_yield rfl rfl rfl (y_val tok rfl) ?_
        refine o_yield rfl rfl rfl (y_val tok rfl) ?_
        refine o_end [2, 3, 9] rfl ?_
        refine rq ?_
        refine x_then ?_
        refine r_seq ?_
        refine r_region (by intro _ _ w1 h1; first | exact h1 | (obtain ⟨h2, _⟩ := h1; cases h2; done) | (obtain ⟨⟨_, h2⟩, _⟩ := h1; cases h2; done) | (obtain ⟨_, h2, _⟩ := h1; cases h2; done) | (obtain ⟨_, _, h2, _⟩ := h1; cases h2; done) | (obtain ⟨_, _, _, h2, _⟩ := h1; cases h2; done) | (rcases h1 with ⟨⟨_, _, h2, _⟩ | ⟨_, h2⟩, _⟩ <;> cases h2; done) | (exact nor _ h1)) rfl ?_
        refine o_yield rfl rfl rfl (y_val tok rfl) ?_
        refine o_yield rfl rfl rfl (y_val tok rfl) ?_
        refine o_end [2, 3, 53] rfl ?_
        refine rq ?_
        refine x_then ?_
        refine r_cond rfl (fun h => ?_) (fun h => ?_)
        ·
          refine k_unptrK 2 6 1 (Ea.ρ 1) 0 rfl rfl rfl ?_
          refine k_unptrK 3 5 2 (Ea.ρ 2) 0 rfl rfl rfl ?_
          refine r_seq ?_
          refine r_region (by intro _ _ w1 h1; first | exact h1 | (obtain ⟨h2, _⟩ := h1; cases h2; done) | (obtain ⟨⟨_, h2⟩, _⟩ := h1; cases h2; done) | (obtain ⟨_, h2, _⟩ := h1; cases h2; done) | (obtain ⟨_, _, h2, _⟩ := h1; cases h2; done) | (obtain ⟨_, _, _, h2, _⟩ := h1; cases h2; done) | (rcases h1 with ⟨⟨_, _, h2, _⟩ | ⟨_, h2⟩, _⟩ <;> cases h2; done) | (exact nor _ h1)) rfl ?_
          refine o_yield rfl rfl rfl (y_val tok rfl) ?_
          refine o_store tok rfl rfl rfl (by first | exact ⟨trivial, trivial⟩ | (repeat' first | exact trivial | exact rfl | apply And.intro); done | simp [onesP, oneP, lk, Value.oneCell']) ?_
          refine o_store tok rfl rfl rfl (by first | exact ⟨trivial, trivial⟩ | (repeat' first | exact trivial | exact rfl | apply And.intro); done | simp [onesP, oneP, lk, Value.oneCell']) ?_
          refine o_end [2, 3] rfl ?_
          refine rq ?_
          refine x_then ?_
          refine r_ret ?_
          refine x_block_ret ?_
          refine rb_stop (()) (⟨x, by simp, by rw [htl]; simpa using h⟩) (by repeat (first | exact SubO.nil | refine SubO.cons rfl ?_)) rfl (by repeat (first | exact Vw.le.refl _ | assumption | (refine Vw.le.trans ?_ (by assumption)))) (by repeat (first | exact Vw.le.refl _ | assumption | (refine Vw.le.trans ?_ (by assumption))))
        ·
          refine r_skip ?_
          refine x_block ?_
          have hte : tailE t = 0 := by simpa using h
          refine rb_next (()) (fun y hy => (List.mem_append.1 hy).elim (fun h1 => hI y h1) (fun h1 => by simp only [List.mem_singleton] at h1; rw [h1, htl]; exact hte)) (by repeat (first | exact SubO.nil | refine SubO.cons rfl ?_)) rfl (by repeat (first | exact Vw.le.refl _ | assumption | (refine Vw.le.trans ?_ (by assumption)))) (by repeat (first | exact Vw.le.refl _ | assumption | (refine Vw.le.trans ?_ (by assumption))))
      · intro D V3 s1 xs hS hI hle3 hD hle4
        have hb3' := hle3.get _ _ (hle2.get _ _ hb3)
        refine x_block ?_
        refine x_then ?_
        refine r_seq ?_
        refine k_unptrK 2 6 1 (Ea.ρ 1) 0 rfl rfl rfl ?_
        refine k_unptrK 3 5 2 (Ea.ρ 2) 0 rfl rfl rfl ?_
        refine r_region (by intro _ _ w1 h1; first | exact h1 | (obtain ⟨h2, _⟩ := h1; cases h2; done) | (obtain ⟨⟨_, h2⟩, _⟩ := h1; cases h2; done) | (obtain ⟨_, h2, _⟩ := h1; cases h2; done) | (obtain ⟨_, _, h2, _⟩ := h1; cases h2; done) | (obtain ⟨_, _, _, h2, _⟩ := h1; cases h2; done) | (rcases h1 with ⟨⟨_, _, h2, _⟩ | ⟨_, h2⟩, _⟩ <;> cases h2; done) | (exact nor _ h1)) rfl ?_
        refine o_yield rfl rfl rfl (y_ldp tok rfl (fun hg => hb3') rfl) ?_
        refine o_store tok rfl rfl rfl (by first | exact ⟨trivial, trivial⟩ | (repeat' first | exact trivial | exact rfl | apply And.intro); done | simp [onesP, oneP, lk, Value.oneCell']) ?_
        refine o_store tok rfl rfl rfl (by first | exact ⟨trivial, trivial⟩ | (repeat' first | exact trivial | exact rfl | apply And.intro); done | simp [onesP, oneP, lk, Value.oneCell']) ?_
        refine o_end [2, 3] rfl ?_
        refine rq ?_
        refine x_then ?_
        refine r_ret ?_
        refine rb_retD tok rfl hD ?_
        intro E w' hm _
        refine ⟨?_, hm.below ((hle1.trans (hle2.trans hle4)))⟩
        rw [hS] at hI
        rw [if_pos ((headsOk_all hsl l).2 hI)] at hheads
        rw [chkV, chkE, hheads]; rfl
      · intro D V3 y pre hSp hX hle3 hD hle4
        refine k_unptrK 2 6 1 (Ea.ρ 1) 0 rfl rfl rfl ?_
        refine k_unptrK 3 5 2 (Ea.ρ 2) 0 rfl rfl rfl ?_
        refine r_ret ?_
        refine x_block_ret ?_
        refine x_then_ret ?_
        refine rb_retD tok rfl hD ?_
        intro E w' hm _
        refine ⟨?_, hm.below ((hle1.trans (hle2.trans hle4)))⟩
        rw [if_neg] at hheads
        · rw [chkV, chkE, hheads]; rfl
        · intro hh
          obtain ⟨x, _, hx⟩ := hX
          exact hx ((headsOk_all hsl l).1 hh x (List.mem_finRange _))
end Go.Proofs.Ytflimioplnbopaa

/- Whether sectors are a device's: the document's. -/
set_option linter.unusedVariables false
set_option linter.unusedSimpArgs false
set_option maxRecDepth 100000
namespace Go.Proofs.Ytflimioplnbopaa
open Go Go.Eng Go.RowKit

theorem fitB_iff (d : Nat) (l : List ByteArray) : fitB d l = true ↔ ∀ (j : Nat) (x : ByteArray), l[j]? = some x → (x.size : Int) ≤ 512 ∧ ((d : Int) ≤ j → (x.size : Int) ≤ 256) := by
  unfold fitB
  simp only [Bool.and_eq_true, Bool.not_eq_true', List.any_eq_false, decide_eq_true_eq, Int.not_lt]
  constructor
  · rintro ⟨h1, h2⟩ j x hx
    by_cases hj : j < d
    · exact ⟨h1 x (List.mem_of_getElem? (i := j) (by rw [List.getElem?_take]; simp [hj, hx])), fun h => by omega⟩
    · have := h2 x (List.mem_of_getElem? (i := j - d) (by rw [List.getElem?_drop, show d + (j - d) = j by omega]; exact hx))
      exact ⟨by omega, fun _ => this⟩
  · intro h
    refine ⟨fun x hx => ?_, fun x hx => ?_⟩
    · obtain ⟨j, hj⟩ := List.mem_iff_getElem?.1 hx
      rw [List.getElem?_take] at hj
      split at hj
      · exact (h j x hj).1
      · cases hj
    · obtain ⟨j, hj⟩ := List.mem_iff_getElem?.1 hx
      rw [List.getElem?_drop] at hj
      exact (h _ x hj).2 (by omega)

theorem rchk_c (V : Vw) (sv : Value) (l : List ByteArray) (w : World) (hV : V.le (vw w)) (hs0 : SlOf V encS 1 sv l) (hn : l.length ≤ 4398046511104) (hsz : ∀ x ∈ l, x.size ≤ maxLen) :
    Calls Try.prog 48 #[sv] w fun e w' => e = .returned (.tuple #[(chkV l).val, I (chkE l)]) ∧ Below w.heap.size w w' := by
  obtain ⟨sa, sn, sc, rfl⟩ := sl_shape hs0.sl
  have hs := hs0.mono hV
  refine enter (E := E0) (O := []) (nl := 0) (V := vw w) [.a (.v (.slice sa sn sc))] Try.func48 rfl rfl (mem0 E0 0 w) rfl rfl ?_
  refine c_seq ?_
  refine c_region ?_
  refine o_new tok rfl rfl rfl rfl ?_
  refine o_yield rfl rfl rfl (y_val tok rfl) ?_
  refine o_end [0, 2] rfl ?_
  refine x_then ?_
  refine c_seq ?_
  refine c_seq ?_
  refine c_region ?_
  refine o_yield rfl rfl rfl (y_val tok rfl) ?_
  refine o_yield rfl rfl rfl (y_len tok rfl (fun hg => hs.sl)) ?_
  refine o_yield rfl rfl rfl (y_val tok rfl) ?_
  refine o_end [0, 2, 13] rfl ?_
  refine x_then ?_
  refine c_cond rfl (fun h => ?_) (fun h => ?_)
  ·
    simp only [Bool.and_eq_true, Bool.or_eq_true, Bool.not_eq_true', Bool.or_eq_false_iff, Bool.and_eq_false_iff, decide_eq_true_eq, decide_eq_false_iff_not, beq_iff_eq, bne_iff_ne, Bool.not_eq_false', beq_eq_false_iff_ne, bne_eq_false_iff_eq, ne_eq, Decidable.not_not, Int.not_lt, Int.not_le] at h
    refine c_seq ?_
    refine c_region ?_
    refine o_yield rfl rfl rfl (y_val tok rfl) ?_
    refine o_store tok rfl rfl rfl (by first | exact ⟨trivial, trivial⟩ | (repeat' first | exact trivial | exact rfl | apply And.intro); done | simp [onesP, oneP, lk, Value.oneCell']) ?_
    refine o_yield rfl rfl rfl (y_val tok rfl) ?_
    refine o_end [2, 3] rfl ?_
    refine x_then ?_
    refine c_ret ?_
    refine x_then_ret ?_
    refine b_ret tok rfl ?_
    have hl : l = [] := List.length_eq_zero_iff.1 (by omega)
    intro E w' hm _
    refine ⟨?_, hm.below (Vw.le.refl _)⟩
    subst hl
    rfl
  ·
    simp only [Bool.and_eq_true, Bool.or_eq_true, Bool.not_eq_true', Bool.or_eq_false_iff, Bool.and_eq_false_iff, decide_eq_true_eq, decide_eq_false_iff_not, beq_iff_eq, bne_iff_ne, Bool.not_eq_false', beq_eq_false_iff_ne, bne_eq_false_iff_eq, ne_eq, Decidable.not_not, Int.not_lt, Int.not_le] at h
    obtain ⟨s, r, hl⟩ : ∃ s r, l = s :: r := by
      cases l with
      | nil => simp at h
      | cons s r => exact ⟨s, r, rfl⟩
    clear h
    have h0 : l[0]? = some s := by rw [hl]; rfl
    have hlen : 0 < l.length := by rw [hl]; simp
    have hss : s.size ≤ maxLen := hsz s (by rw [hl]; simp)
    refine c_skip ?_
    refine x_then ?_
    refine c_seq ?_
    refine c_region ?_
    refine o_yield rfl rfl rfl (y_val tok rfl) ?_
    have hlt_s := lt_of_at h0
    refine o_yield rfl rfl rfl (y_idx tok rfl (fun hg => hs.sl) (fun hg => ⟨by omega, by omega⟩)) ?_
    refine o_yield rfl rfl rfl (y_lel tok (0) 0 (s) rfl (fun hg => hs) (fun hg => h0) rfl rfl) ?_
    refine o_call (.a (.v _)) rfl rfl fnok55 rfl rfl rfl (fun hg E w1 hm => by exact rsread_c s hss _) ?_
    refine o_yield rfl rfl rfl (y_val tok rfl) ?_
    refine o_yield rfl rfl rfl (y_val tok rfl) ?_
    refine o_yield rfl rfl rfl (y_val tok rfl) ?_
    refine o_new tok rfl rfl rfl rfl ?_
    refine o_store tok rfl rfl rfl (by first | exact ⟨trivial, trivial⟩ | (repeat' first | exact trivial | exact rfl | apply And.intro); done | simp [onesP, oneP, lk, Value.oneCell']) ?_
    refine o_yield rfl rfl rfl (y_val tok rfl) ?_
    refine o_end [0, 2, 4, 5] rfl ?_
    refine x_then ?_
    refine c_seq ?_
    refine c_seq ?_
    refine c_region ?_
    refine o_yield rfl rfl rfl (y_val tok rfl) ?_
    refine o_yield rfl rfl rfl (y_val tok rfl) ?_
    refine o_yield rfl rfl rfl (y_val tok rfl) ?_
    refine o_yield rfl rfl rfl (y_val tok rfl) ?_
    refine o_yield rfl rfl rfl (y_len tok rfl (fun hg => hs.sl)) ?_
    refine o_yield rfl rfl rfl (y_val tok rfl) ?_
    refine o_call (.a (.v _)) rfl rfl fnok15 rfl rfl rfl (fun hg E w1 hm => by exact refTotal_c _ (srV_ok s) _) ?_
    refine o_yield rfl rfl rfl (y_val tok rfl) ?_
    refine o_yield rfl rfl rfl (y_val tok rfl) ?_
    refine o_end [0, 2, 4, 30] rfl ?_
    refine x_then ?_
    refine c_cond rfl (fun h => ?_) (fun h => ?_)
    ·
      refine c_seq ?_
      refine c_region ?_
      refine o_yield rfl rfl rfl (y_val tok rfl) ?_
      refine o_store tok rfl rfl rfl (by first | exact ⟨trivial, trivial⟩ | (repeat' first | exact trivial | exact rfl | apply And.intro); done | simp [onesP, oneP, lk, Value.oneCell']) ?_
      refine o_yield rfl rfl rfl (y_val tok rfl) ?_
      refine o_end [2, 3] rfl ?_
      refine x_then ?_
      refine c_ret ?_
      refine x_then_ret ?_
      refine b_ret tok rfl ?_
      intro E w' hm _
      refine ⟨?_, hm.below (Vw.le.refl _)⟩
      have hno : chkG l = none := by
        rw [chkG_none hl]
        intro hG1 hG2 hG3
        rw [hG1] at h
        simp [hG2] at h
      rw [chkV, chkE, hno]; rfl
    ·
      have hG : srOk s = some (srV s) ∧ (l.length : Int) = totV (srV s) := by
        simp only [Bool.or_eq_false_iff, bne_eq_false_iff_eq] at h
        refine ⟨?_, h.2⟩
        have h1 := h.1
        unfold srE at h1
        unfold srV
        cases hq : srOk s with
        | none => rw [hq] at h1; simp at h1
        | some g => rfl
      obtain ⟨hG1, hG2⟩ := hG
      clear h
      have hG3 := srOk_geo hG1
      have okG := srV_ok s
      have hh0 := chkG_heads hl hG1 hG2
      have hn0 := chkG_none hl
      generalize srV s = G at *
      have hf := geo_facts hG3
      have hz := geo_sizes hG3
      have h5 : dataV (G) 0 0 = dataAt (G) + 0 * (G).per + 0 := by rw [dataV, if_pos ⟨hG3, by omega, by omega, by omega, by omega⟩]
      obtain ⟨d, hd⟩ : ∃ d : Nat, dataV (G) 0 0 = d := ⟨(dataV (G) 0 0).toNat, by rw [h5]; omega⟩
      have hdn : (dataV (G) 0 0).toNat = d := by omega
      obtain ⟨sl, hsl⟩ : ∃ sl : Nat, (G).slots = sl := ⟨(G).slots.toNat, by omega⟩
      have hbad : ∀ (j : Nat) (x : ByteArray), l[j]? = some x → ¬ ((x.size : Int) ≤ 512 ∧ ((d : Int) ≤ j → (x.size : Int) ≤ 256)) → chkG l = none := fun j x hx hb => by
        refine hn0 (fun _ _ h3 => ?_)
        rw [hdn] at h3
        exact hb ((fitB_iff d l).1 h3 j x hx)
      refine c_skip ?_
      refine x_then ?_
      refine c_seq ?_
      refine c_region ?_
      refine o_yield rfl rfl rfl (y_val tok rfl) ?_
      refine o_call (.a (.v _)) rfl rfl fnok90 rfl rfl rfl (fun hg E w1 hm => by exact refData_c _ okG 0 0 _) ?_
      refine o_yield rfl rfl rfl (y_val tok rfl) ?_
      refine o_end [0, 2, 4, 6] rfl ?_
      refine x_then ?_
      refine c_seq ?_
      refine c_seq ?_
      refine c_region ?_
      refine o_yield rfl rfl rfl (y_val tok rfl) ?_
      refine o_end [0, 2, 4, 6, 7] rfl ?_
      refine x_then ?_
      refine c_block ?_
      rw [hd]
      refine c_loopK [0, 2, 4, 6] [] rfl rfl (σ := Nat) (fun i => [(7, .a (.v (I i)))]) (fun i => []) (fun i => i ≤ l.length ∧ ∀ (j : Nat) (x : ByteArray), j < i → l[j]? = some x → (x.size : Int) ≤ 512 ∧ ((d : Int) ≤ j → (x.size : Int) ≤ 256)) (fun i => l.length - i) (0) (⟨by omega, fun j x hj => by omega⟩) (by repeat (first | exact SubF.nil | refine SubF.cons rfl ?_)) (by repeat (first | exact SubO.nil | refine SubO.cons rfl ?_)) rfl ?_
      rintro i ⟨hi, hok⟩
      refine c_seq ?_
      refine c_seq ?_
      refine c_region ?_
      refine o_yield rfl rfl rfl (y_val tok rfl) ?_
      refine o_yield rfl rfl rfl (y_val tok rfl) ?_
      refine o_yield rfl rfl rfl (y_len tok rfl (fun hg => hs.sl)) ?_
      refine o_yield rfl rfl rfl (y_val tok rfl) ?_
      refine o_end [0, 2, 4, 6, 7, 37] rfl ?_
      refine x_then ?_
      refine c_cond rfl (fun h => ?_) (fun h => ?_)
      ·
        simp only [Bool.and_eq_true, Bool.or_eq_true, Bool.not_eq_true', Bool.or_eq_false_iff, Bool.and_eq_false_iff, decide_eq_true_eq, decide_eq_false_iff_not, beq_iff_eq, bne_iff_ne, Bool.not_eq_false', beq_eq_false_iff_ne, bne_eq_false_iff_eq, ne_eq, Decidable.not_not, Int.not_lt, Int.not_le] at h
        refine c_skip ?_
        refine x_then ?_
        refine c_seq ?_
        refine c_block ?_
        refine c_seq ?_
        refine c_region ?_
        refine o_yield rfl rfl rfl (y_val tok rfl) ?_
        refine o_yield rfl rfl rfl (y_val tok rfl) ?_
        obtain ⟨x, h_x⟩ := hs.at (k := i) (by omega)
        have hlt_x := lt_of_at h_x
        refine o_yield rfl rfl rfl (y_idx tok rfl (fun hg => hs.sl) (fun hg => ⟨by omega, by omega⟩)) ?_
        refine o_yield rfl rfl rfl (y_lel tok (i) 0 (x) rfl (fun hg => hs) (fun hg => h_x) rfl rfl) ?_
        refine o_yield rfl rfl rfl (y_val tok rfl) ?_
        refine o_yield rfl rfl rfl (y_val tok rfl) ?_
        refine o_yield rfl rfl rfl (y_val tok rfl) ?_
        refine o_yield rfl rfl rfl (y_val tok rfl) ?_
        refine o_yield rfl rfl rfl (y_val tok rfl) ?_
        refine o_yield rfl rfl rfl (y_val tok rfl) ?_
        refine o_yield rfl rfl rfl (y_val tok rfl) ?_
        refine o_yield rfl rfl rfl (y_val tok rfl) ?_
        refine o_yield rfl rfl rfl (y_val tok rfl) ?_
        have hlt_x := lt_of_at h_x
        refine o_yield rfl rfl rfl (y_idx tok rfl (fun hg => hs.sl) (fun hg => ⟨by omega, by omega⟩)) ?_
        refine o_yield rfl rfl rfl (y_lel tok (i) 0 (x) rfl (fun hg => hs) (fun hg => h_x) rfl rfl) ?_
        refine o_yield rfl rfl rfl (y_val tok rfl) ?_
        refine o_yield rfl rfl rfl (y_val tok rfl) ?_
        refine o_yield rfl rfl rfl (y_val tok rfl) ?_
        refine o_yield rfl rfl rfl (y_val tok rfl) ?_
        refine o_end [0, 2, 4, 6, 7, 58] rfl ?_
        refine x_then ?_
        refine c_cond rfl (fun h => ?_) (fun h => ?_)
        ·
          simp only [Bool.and_eq_true, Bool.or_eq_true, Bool.not_eq_true', Bool.or_eq_false_iff, Bool.and_eq_false_iff, decide_eq_true_eq, decide_eq_false_iff_not, beq_iff_eq, bne_iff_ne, Bool.not_eq_false', beq_eq_false_iff_ne, bne_eq_false_iff_eq, ne_eq, Decidable.not_not, Int.not_lt, Int.not_le] at h
          refine c_seq ?_
          refine c_region ?_
          refine o_yield rfl rfl rfl (y_val tok rfl) ?_
          refine o_store tok rfl rfl rfl (by first | exact ⟨trivial, trivial⟩ | (repeat' first | exact trivial | exact rfl | apply And.intro); done | simp [onesP, oneP, lk, Value.oneCell']) ?_
          refine o_yield rfl rfl rfl (y_val tok rfl) ?_
          refine o_end [2, 3] rfl ?_
          refine x_then ?_
          refine c_ret ?_
          refine x_block_ret ?_
          refine x_then_ret ?_
          refine x_then_ret ?_
          refine x_block_ret ?_
          refine x_then_ret ?_
          refine b_ret tok rfl ?_
          intro E w' hm _
          refine ⟨?_, hm.below (Vw.le.refl _)⟩
          have hno := hbad i x h_x (by
            intro hb
            rcases h with h | ⟨h1, h2⟩
            · omega
            · have := hb.2 (by omega); omega)
          rw [chkV, chkE, hno]; rfl
        ·
          simp only [Bool.and_eq_true, Bool.or_eq_true, Bool.not_eq_true', Bool.or_eq_false_iff, Bool.and_eq_false_iff, decide_eq_true_eq, decide_eq_false_iff_not, beq_iff_eq, bne_iff_ne, Bool.not_eq_false', beq_eq_false_iff_ne, bne_eq_false_iff_eq, ne_eq, Decidable.not_not, Int.not_lt, Int.not_le] at h
          refine c_skip ?_
          refine x_block ?_
          refine x_then ?_
          refine c_region ?_
          refine o_yield rfl rfl rfl (y_val tok rfl) ?_
          refine o_yield rfl rfl rfl (y_val tok rfl) ?_
          refine o_yield rfl rfl rfl (y_val tok rfl) ?_
          refine o_end [0, 2, 4, 6, 7] rfl ?_
          refine x_then ?_
          rw [wrapI (n := (i : Int) + 1) (by omega) (by omega)]
          have hnx : ∀ (j : Nat) (y : ByteArray), j < i + 1 → l[j]? = some y → (y.size : Int) ≤ 512 ∧ ((d : Int) ≤ j → (y.size : Int) ≤ 256) := by
            intro j y hj hy
            by_cases hji : j < i
            · exact hok j y hji hy
            · have : j = i := by omega
              subst this
              rw [h_x] at hy
              cases hy
              refine ⟨by omega, fun hdj => ?_⟩
              have := h.2
              omega
          refine x_round (i + 1) (⟨by omega, hnx⟩) (by first | omega | (dsimp only; omega)) (by repeat (first | exact SubF.nil | refine SubF.cons rfl ?_)) (by repeat (first | exact SubO.nil | refine SubO.cons rfl ?_)) rfl (Vw.le.refl _)
      ·
        simp only [Bool.and_eq_true, Bool.or_eq_true, Bool.not_eq_true', Bool.or_eq_false_iff, Bool.and_eq_false_iff, decide_eq_true_eq, decide_eq_false_iff_not, beq_iff_eq, bne_iff_ne, Bool.not_eq_false', beq_eq_false_iff_ne, bne_eq_false_iff_eq, ne_eq, Decidable.not_not, Int.not_lt, Int.not_le] at h
        have hil : i = l.length := by omega
        have hfit : fitB (dataV (G) 0 0).toNat l = true := by
          rw [hdn]
          exact (fitB_iff d l).2 fun j x hx => hok j x (by have := (List.getElem?_eq_some_iff.1 hx).1; omega) hx
        have hheads := hh0 hfit
        clear hok hi hil hbad h
        refine c_exit ?_
        refine x_then_exit ?_
        refine x_then_exit ?_
        refine x_block_hit ?_
        refine x_then ?_
        refine c_seq ?_
        refine c_seq ?_
        refine c_region ?_
        refine o_yield rfl rfl rfl (y_val tok rfl) ?_
        refine o_end [0, 2, 4, 8] rfl ?_
        refine x_then ?_
        refine c_block ?_
        refine c_loopK [0, 2, 4] [] rfl rfl (σ := Nat) (fun k => [(8, .a (.v (I k)))]) (fun k => []) (fun k => k ≤ sl ∧ ∀ j : Nat, j < k → tailE (l.getD (headV (G) (j : Int)).toNat ByteArray.empty) = 0) (fun k => sl - k) (0) (⟨by omega, fun j hj => by omega⟩) (by repeat (first | exact SubF.nil | refine SubF.cons rfl ?_)) (by repeat (first | exact SubO.nil | refine SubO.cons rfl ?_)) rfl ?_
        rintro k ⟨hk, hok⟩
        refine c_seq ?_
        refine c_seq ?_
        refine c_region ?_
        refine o_yield rfl rfl rfl (y_val tok rfl) ?_
        refine o_yield rfl rfl rfl (y_val tok rfl) ?_
        refine o_yield rfl rfl rfl (y_val tok rfl) ?_
        refine o_yield rfl rfl rfl (y_val tok rfl) ?_
        refine o_end [0, 2, 4, 8, 63] rfl ?_
        refine x_then ?_
        refine c_cond rfl (fun h => ?_) (fun h => ?_)
        ·
          simp only [Bool.and_eq_true, Bool.or_eq_true, Bool.not_eq_true', Bool.or_eq_false_iff, Bool.and_eq_false_iff, decide_eq_true_eq, decide_eq_false_iff_not, beq_iff_eq, bne_iff_ne, Bool.not_eq_false', beq_eq_false_iff_ne, bne_eq_false_iff_eq, ne_eq, Decidable.not_not, Int.not_lt, Int.not_le] at h
          refine c_skip ?_
          refine x_then ?_
          refine c_seq ?_
          refine c_block ?_
          refine c_seq ?_
          refine c_region ?_
          refine o_yield rfl rfl rfl (y_val tok rfl) ?_
          refine o_yield rfl rfl rfl (y_val tok rfl) ?_
          refine o_yield rfl rfl rfl (y_val tok rfl) ?_
          have hks : k < sl := by omega
          obtain ⟨q, hq, hqt⟩ := head_in hG3 (i := k) (by omega)
          have hql : q < l.length := by omega
          obtain ⟨t, ht⟩ : ∃ t, l[q]? = some t := ⟨_, List.getElem?_eq_getElem hql⟩
          have htl : l.getD (headV (G) (k : Int)).toNat ByteArray.empty = t := by rw [hq]; simp [List.getD, ht]
          refine o_call (.a (.v _)) rfl rfl fnok20 rfl rfl rfl (fun hg E w1 hm => by exact refHead_c _ okG k _) ?_
          rw [hq]
          have hlt_t := lt_of_at ht
          refine o_yield rfl rfl rfl (y_idx tok rfl (fun hg => hs.sl) (fun hg => ⟨by omega, by omega⟩)) ?_
          refine o_yield rfl rfl rfl (y_lel tok (q) 0 (t) rfl (fun hg => hs) (fun hg => ht) rfl rfl) ?_
          refine o_call (.a (.v _)) rfl rfl fnok54 rfl rfl rfl (fun hg E w1 hm => by exact rstail_c t (hsz t (List.mem_of_getElem? ht)) _) ?_
          refine o_yield rfl rfl rfl (y_val tok rfl) ?_
          refine o_yield rfl rfl rfl (y_val tok rfl) ?_
          refine o_yield rfl rfl rfl (y_val tok rfl) ?_
          refine o_yield rfl rfl rfl (y_val tok rfl) ?_
          refine o_yield rfl rfl rfl (y_val tok rfl) ?_
          refine o_end [0, 2, 4, 8, 10] rfl ?_
          refine x_then ?_
          refine c_seq ?_
          refine c_region ?_
          refine o_yield rfl rfl rfl (y_val tok rfl) ?_
          refine o_yield rfl rfl rfl (y_val tok rfl) ?_
          refine o_end [0, 2, 4, 8, 77] rfl ?_
          refine x_then ?_
          refine c_cond rfl (fun h => ?_) (fun h => ?_)
          ·
            simp only [Bool.and_eq_true, Bool.or_eq_true, Bool.not_eq_true', Bool.or_eq_false_iff, Bool.and_eq_false_iff, decide_eq_true_eq, decide_eq_false_iff_not, beq_iff_eq, bne_iff_ne, Bool.not_eq_false', beq_eq_false_iff_ne, bne_eq_false_iff_eq, ne_eq, Decidable.not_not, Int.not_lt, Int.not_le] at h
            refine c_seq ?_
            refine c_region ?_
            refine o_yield rfl rfl rfl (y_val tok rfl) ?_
            refine o_store tok rfl rfl rfl (by first | exact ⟨trivial, trivial⟩ | (repeat' first | exact trivial | exact rfl | apply And.intro); done | simp [onesP, oneP, lk, Value.oneCell']) ?_
            refine o_yield rfl rfl rfl (y_val tok rfl) ?_
            refine o_end [2, 3] rfl ?_
            refine x_then ?_
            refine c_ret ?_
            refine x_block_ret ?_
            refine x_then_ret ?_
            refine x_then_ret ?_
            refine x_block_ret ?_
            refine x_then_ret ?_
            refine b_ret tok rfl ?_
            intro E w' hm _
            refine ⟨?_, hm.below (Vw.le.refl _)⟩
            rw [if_neg] at hheads
            · rw [chkV, chkE, hheads]; rfl
            · intro hh
              exact h (by rw [← htl]; exact (headsOk_all hsl l).1 hh ⟨k, by omega⟩ (List.mem_finRange _))
          ·
            simp only [Bool.and_eq_true, Bool.or_eq_true, Bool.not_eq_true', Bool.or_eq_false_iff, Bool.and_eq_false_iff, decide_eq_true_eq, decide_eq_false_iff_not, beq_iff_eq, bne_iff_ne, Bool.not_eq_false', beq_eq_false_iff_ne, bne_eq_false_iff_eq, ne_eq, Decidable.not_not, Int.not_lt, Int.not_le] at h
            have hte : tailE t = 0 := h
            have hnx : ∀ j : Nat, j < k + 1 → tailE (l.getD (headV (G) (j : Int)).toNat ByteArray.empty) = 0 := by
              intro j hj
              by_cases hjk : j < k
              · exact hok j hjk
              · have : j = k := by omega
                subst this
                rw [htl]; exact hte
            refine c_skip ?_
            refine x_block ?_
            refine x_then ?_
            refine c_region ?_
            refine o_yield rfl rfl rfl (y_val tok rfl) ?_
            refine o_yield rfl rfl rfl (y_val tok rfl) ?_
            refine o_yield rfl rfl rfl (y_val tok rfl) ?_
            refine o_end [0, 2, 4, 8] rfl ?_
            refine x_then ?_
            rw [wrapI (n := (k : Int) + 1) (by omega) (by omega)]
            refine x_round (k + 1) (⟨by omega, hnx⟩) (by first | omega | (dsimp only; omega)) (by repeat (first | exact SubF.nil | refine SubF.cons rfl ?_)) (by repeat (first | exact SubO.nil | refine SubO.cons rfl ?_)) rfl (Vw.le.refl _)
        ·
          simp only [Bool.and_eq_true, Bool.or_eq_true, Bool.not_eq_true', Bool.or_eq_false_iff, Bool.and_eq_false_iff, decide_eq_true_eq, decide_eq_false_iff_not, beq_iff_eq, bne_iff_ne, Bool.not_eq_false', beq_eq_false_iff_ne, bne_eq_false_iff_eq, ne_eq, Decidable.not_not, Int.not_lt, Int.not_le] at h
          refine c_exit ?_
          refine x_then_exit ?_
          refine x_then_exit ?_
          refine x_block_hit ?_
          refine x_then ?_
          refine c_seq ?_
          refine c_region ?_
          refine o_yield rfl rfl rfl (y_val tok rfl) ?_
          refine o_store tok rfl rfl rfl (by first | exact ⟨trivial, trivial⟩ | (repeat' first | exact trivial | exact rfl | apply And.intro); done | simp [onesP, oneP, lk, Value.oneCell']) ?_
          refine o_yield rfl rfl rfl (y_val tok rfl) ?_
          refine o_end [2, 3] rfl ?_
          refine x_then ?_
          refine c_ret ?_
          refine b_ret tok rfl ?_
          intro E w' hm _
          refine ⟨?_, hm.below (Vw.le.refl _)⟩
          rw [if_pos ((headsOk_all hsl l).2 (fun x _ => hok x (by omega)))] at hheads
          rw [chkV, chkE, hheads]; rfl
end Go.Proofs.Ytflimioplnbopaa

/- What stands on a device at first, and whether sectors are a device's: the law. -/
set_option linter.unusedVariables false
set_option linter.unusedSimpArgs false
set_option maxRecDepth 100000
namespace Go.Proofs.Ytflimioplnbopaa
open Go Go.Eng Go.RowKit

theorem great05_c (V : Vw) (sv : Value) (l : List ByteArray) (w : World) (hV : V.le (vw w)) (hs0 : SlOf V encS 1 sv l) (hn : l.length ≤ maxLen) (hsz : ∀ x ∈ l, x.size ≤ maxLen) :
    Calls Try.prog 44 #[sv] w fun e w' => ∃ b : Bool, (e = .returned (.bool b) ∧ (b = false → l.length ≤ 6000)) ∧ Below w.heap.size w w' := by
  have hs := hs0.mono hV
  simp only [maxLen] at hn
  refine enter (E := E0) (O := []) (nl := 0) (V := vw w) [.a (.v sv)] Try.func44 rfl rfl (mem0 E0 0 w) rfl rfl ?_
  refine c_seq ?_
  refine c_region ?_
  refine o_yield rfl rfl rfl (y_val tok rfl) ?_
  refine o_end [0] rfl ?_
  refine x_then ?_
  refine c_seq ?_
  refine c_region ?_
  refine o_yield rfl rfl rfl (y_val tok rfl) ?_
  refine o_end [0, 3] rfl ?_
  refine x_then ?_
  refine c_seq ?_
  refine c_seq ?_
  refine c_region ?_
  refine o_yield rfl rfl rfl (y_val tok rfl) ?_
  refine o_end [0, 3, 4] rfl ?_
  refine x_then ?_
  refine c_block ?_
  refine c_loopK [0] [] rfl rfl (σ := Nat × Nat) (fun x => [(4, .a (.v (I x.1))), (3, .a (.v (I x.2)))]) (fun x => []) (fun x => x.1 ≤ l.length ∧ x.1 ≤ 6001 ∧ x.2 ≤ 1000 * x.1) (fun x => 7000 - x.1) ((0, 0)) (⟨by omega, by omega, by omega⟩) (by repeat (first | exact SubF.nil | refine SubF.cons rfl ?_)) (by repeat (first | exact SubO.nil | refine SubO.cons rfl ?_)) rfl ?_
  rintro ⟨i, n⟩ ⟨hi, hi2, hnn⟩
  dsimp only at hi hi2 hnn ⊢
  refine c_seq ?_
  refine c_seq ?_
  refine c_region ?_
  refine o_yield rfl rfl rfl (y_val tok rfl) ?_
  refine o_yield rfl rfl rfl (y_val tok rfl) ?_
  refine o_yield rfl rfl rfl (y_len tok rfl (fun hg => hs.sl)) ?_
  refine o_yield rfl rfl rfl (y_val tok rfl) ?_
  refine o_yield rfl rfl rfl (y_val tok rfl) ?_
  refine o_yield rfl rfl rfl (y_val tok rfl) ?_
  refine o_yield rfl rfl rfl (y_val tok rfl) ?_
  refine o_yield rfl rfl rfl (y_val tok rfl) ?_
  refine o_end [0, 3, 4, 12] rfl ?_
  refine x_then ?_
  refine c_cond rfl (fun h => ?_) (fun h => ?_)
  ·
    simp only [Bool.and_eq_true, Bool.or_eq_true, Bool.not_eq_true', Bool.or_eq_false_iff, Bool.and_eq_false_iff, decide_eq_true_eq, decide_eq_false_iff_not, beq_iff_eq, bne_iff_ne, Bool.not_eq_false', beq_eq_false_iff_ne, bne_eq_false_iff_eq, ne_eq, Decidable.not_not, Int.not_lt, Int.not_le] at h
    refine c_skip ?_
    refine x_then ?_
    refine c_seq ?_
    refine c_block ?_
    refine c_region ?_
    refine o_yield rfl rfl rfl (y_val tok rfl) ?_
    refine o_yield rfl rfl rfl (y_val tok rfl) ?_
    refine o_yield rfl rfl rfl (y_val tok rfl) ?_
    obtain ⟨x, h_x⟩ := hs.at (k := i) (by omega)
    have hlt_x := lt_of_at h_x
    refine o_yield rfl rfl rfl (y_idx tok rfl (fun hg => hs.sl) (fun hg => ⟨by omega, by omega⟩)) ?_
    refine o_yield rfl rfl rfl (y_lel tok (i) 0 (x) rfl (fun hg => hs) (fun hg => h_x) rfl rfl) ?_
    refine o_yield rfl rfl rfl (y_val tok rfl) ?_
    have hxs := hsz x (List.mem_of_getElem? h_x)
    simp only [maxLen] at hxs
    refine o_yield rfl rfl rfl (y_mm rfl) ?_
    refine o_yield rfl rfl rfl (y_val tok rfl) ?_
    refine o_yield rfl rfl rfl (y_val tok rfl) ?_
    refine o_end [0, 3, 4] rfl ?_
    refine x_block ?_
    refine x_then ?_
    refine c_region ?_
    refine o_yield rfl rfl rfl (y_val tok rfl) ?_
    refine o_yield rfl rfl rfl (y_val tok rfl) ?_
    refine o_yield rfl rfl rfl (y_val tok rfl) ?_
    refine o_end [0, 3, 4] rfl ?_
    refine x_then ?_
    obtain ⟨m, hm, hml⟩ : ∃ m : Nat, min (x.size : Int) 1000 = (m : Int) ∧ m ≤ 1000 := ⟨min x.size 1000, by omega, by omega⟩
    rw [show (bif false then max (x.size : Int) 1000 else min (x.size : Int) 1000) = m from hm]
    rw [wrapI (n := (n : Int) + m) (by omega) (by omega), wrapI (n := (i : Int) + 1) (by omega) (by omega)]
    refine x_round ((i + 1, n + m)) (⟨by dsimp only; omega, by dsimp only; omega, by dsimp only; omega⟩) (by first | omega | (dsimp only; omega)) (by repeat (first | exact SubF.nil | refine SubF.cons rfl ?_)) (by repeat (first | exact SubO.nil | refine SubO.cons rfl ?_)) rfl (Vw.le.refl _)
  ·
    simp only [Bool.and_eq_true, Bool.or_eq_true, Bool.not_eq_true', Bool.or_eq_false_iff, Bool.and_eq_false_iff, decide_eq_true_eq, decide_eq_false_iff_not, beq_iff_eq, bne_iff_ne, Bool.not_eq_false', beq_eq_false_iff_ne, bne_eq_false_iff_eq, ne_eq, Decidable.not_not, Int.not_lt, Int.not_le] at h
    refine c_exit ?_
    refine x_then_exit ?_
    refine x_then_exit ?_
    refine x_block_hit ?_
    refine x_then ?_
    refine c_seq ?_
    refine c_region ?_
    refine o_yield rfl rfl rfl (y_val tok rfl) ?_
    refine o_yield rfl rfl rfl (y_len tok rfl (fun hg => hs.sl)) ?_
    refine o_yield rfl rfl rfl (y_val tok rfl) ?_
    refine o_yield rfl rfl rfl (y_val tok rfl) ?_
    refine o_yield rfl rfl rfl (y_val tok rfl) ?_
    refine o_yield rfl rfl rfl (y_val tok rfl) ?_
    refine o_yield rfl rfl rfl (y_val tok rfl) ?_
    refine o_yield rfl rfl rfl (y_val tok rfl) ?_
    refine o_end [2] rfl ?_
    refine x_then ?_
    refine c_ret ?_
    refine b_ret tok rfl ?_
    intro E w' hm _
    refine ⟨_, ⟨rfl, fun hb => ?_⟩, hm.below (Vw.le.refl _)⟩
    simp only [Bool.or_eq_false_iff, decide_eq_false_iff_not] at hb
    omega

theorem great05_cV (V : Vw) (sv : Value) (l : List ByteArray) (w : World) (hV : V.le (vw w)) (hs0 : SlOf V encS 1 sv l) (hn : l.length ≤ maxLen) (hsz : ∀ x ∈ l, x.size ≤ maxLen) :
    Calls Try.prog 44 #[sv] w fun e w' => ∃ x V', e = .returned x ∧ Below w.heap.size w w' ∧ Vext w.heap.size V V' w' ∧ ∃ b : Bool, x = .bool b ∧ (b = false → l.length ≤ 6000) := by
  refine (great05_c V sv l w hV hs0 hn hsz).mono ?_
  rintro e w' ⟨b, ⟨rfl, hb⟩, hbl⟩
  exact ⟨_, V, rfl, hbl, Vext.same hV hbl, b, rfl, hb⟩

theorem same05_c (V : Vw) (v1 v2 : Value) (l : List ByteArray) (w : World) (hV : V.le (vw w)) (h1 : SlOf V encS 1 v1 l) (h2 : SlOf V encS 1 v2 l) (hn : l.length ≤ 4398046511104) :
    Calls Try.prog 49 #[v1, v2] w fun e w' => e = .returned (.bool true) ∧ Below w.heap.size w w' := by
  have s1 := h1.mono hV
  have s2 := h2.mono hV
  refine enter (E := E0) (O := []) (nl := 0) (V := vw w) [.a (.v v1), .a (.v v2)] Try.func49 rfl rfl (mem0 E0 0 w) rfl rfl ?_
  refine c_seq ?_
  refine c_region ?_
  refine o_yield rfl rfl rfl (y_val tok rfl) ?_
  refine o_end [0, 1] rfl ?_
  refine x_then ?_
  refine c_seq ?_
  refine c_seq ?_
  refine c_region ?_
  refine o_yield rfl rfl rfl (y_val tok rfl) ?_
  refine o_yield rfl rfl rfl (y_len tok rfl (fun hg => s1.sl)) ?_
  refine o_yield rfl rfl rfl (y_val tok rfl) ?_
  refine o_yield rfl rfl rfl (y_len tok rfl (fun hg => s2.sl)) ?_
  refine o_yield rfl rfl rfl (y_val tok rfl) ?_
  refine o_end [0, 1, 10] rfl ?_
  refine x_then ?_
  refine c_cond rfl (fun h => ?_) (fun h => ?_)
  ·
    refine c_seq ?_
    refine c_region ?_
    refine o_yield rfl rfl rfl (y_val tok rfl) ?_
    refine o_end [4] rfl ?_
    refine x_then ?_
    refine c_ret ?_
    refine x_then_ret ?_
    refine b_ret tok rfl ?_
    exact absurd h (by simp)
  ·
    clear h
    refine c_skip ?_
    refine x_then ?_
    refine c_seq ?_
    refine c_seq ?_
    refine c_region ?_
    refine o_yield rfl rfl rfl (y_val tok rfl) ?_
    refine o_end [0, 1, 5] rfl ?_
    refine x_then ?_
    refine c_block ?_
    refine c_loopK [0, 1] [] rfl rfl (σ := Nat) (fun i => [(5, .a (.v (I i)))]) (fun i => []) (fun i => i ≤ l.length) (fun i => l.length - i) (0) (by omega) (by repeat (first | exact SubF.nil | refine SubF.cons rfl ?_)) (by repeat (first | exact SubO.nil | refine SubO.cons rfl ?_)) rfl ?_
    rintro i hi
    refine c_seq ?_
    refine c_seq ?_
    refine c_region ?_
    refine o_yield rfl rfl rfl (y_val tok rfl) ?_
    refine o_yield rfl rfl rfl (y_val tok rfl) ?_
    refine o_yield rfl rfl rfl (y_len tok rfl (fun hg => s1.sl)) ?_
    refine o_yield rfl rfl rfl (y_val tok rfl) ?_
    refine o_end [0, 1, 5, 14] rfl ?_
    refine x_then ?_
    refine c_cond rfl (fun h => ?_) (fun h => ?_)
    ·
      simp only [Bool.and_eq_true, Bool.or_eq_true, Bool.not_eq_true', Bool.or_eq_false_iff, Bool.and_eq_false_iff, decide_eq_true_eq, decide_eq_false_iff_not, beq_iff_eq, bne_iff_ne, Bool.not_eq_false', beq_eq_false_iff_ne, bne_eq_false_iff_eq, ne_eq, Decidable.not_not, Int.not_lt, Int.not_le] at h
      refine c_skip ?_
      refine x_then ?_
      refine c_seq ?_
      refine c_block ?_
      refine c_seq ?_
      refine c_draw mixed (by kernel_rfl) ?_
      refine d_yield rfl rfl rfl (y_val tok rfl) rfl ?_
      refine d_yield rfl rfl rfl (y_val tok rfl) rfl ?_
      obtain ⟨x, h_x⟩ := s1.at (k := i) (by omega)
      have hlt_x := lt_of_at h_x
      refine d_yield rfl rfl rfl (y_idx tok rfl (fun hg => s1.sl) (fun hg => ⟨by omega, by omega⟩)) rfl ?_
      refine d_yield rfl rfl rfl (y_lel tok (i) 0 (x) rfl (fun hg => s1) (fun hg => h_x) rfl rfl) rfl ?_
      refine d_yield rfl rfl rfl (y_val tok rfl) rfl ?_
      refine d_yield rfl rfl rfl (y_val tok rfl) rfl ?_
      have hlt_x := lt_of_at h_x
      refine d_yield rfl rfl rfl (y_idx tok rfl (fun hg => s2.sl) (fun hg => ⟨by omega, by omega⟩)) rfl ?_
      refine d_yield rfl rfl rfl (y_lel tok (i) 0 (x) rfl (fun hg => s2) (fun hg => h_x) rfl rfl) rfl ?_
      refine d_yield rfl rfl rfl (y_val tok rfl) rfl ?_
      refine d_end [0, 1, 5, 25] rfl ?_
      refine x_then ?_
      refine c_cond rfl (fun h => ?_) (fun h => ?_)
      ·
        refine c_seq ?_
        refine c_region ?_
        refine o_yield rfl rfl rfl (y_val tok rfl) ?_
        refine o_end [4] rfl ?_
        refine x_then ?_
        refine c_ret ?_
        refine x_block_ret ?_
        refine x_then_ret ?_
        refine x_then_ret ?_
        refine x_block_ret ?_
        refine x_then_ret ?_
        refine b_ret tok rfl ?_
        exact absurd h (by simp)
      ·
        refine c_skip ?_
        refine x_block ?_
        refine x_then ?_
        refine c_region ?_
        refine o_yield rfl rfl rfl (y_val tok rfl) ?_
        refine o_yield rfl rfl rfl (y_val tok rfl) ?_
        refine o_yield rfl rfl rfl (y_val tok rfl) ?_
        refine o_end [0, 1, 5] rfl ?_
        refine x_then ?_
        rw [wrapI (n := (i : Int) + 1) (by omega) (by omega)]
        refine x_round (i + 1) (by omega) (by first | omega | (dsimp only; omega)) (by repeat (first | exact SubF.nil | refine SubF.cons rfl ?_)) (by repeat (first | exact SubO.nil | refine SubO.cons rfl ?_)) rfl (Vw.le.refl _)
    ·
      simp only [Bool.and_eq_true, Bool.or_eq_true, Bool.not_eq_true', Bool.or_eq_false_iff, Bool.and_eq_false_iff, decide_eq_true_eq, decide_eq_false_iff_not, beq_iff_eq, bne_iff_ne, Bool.not_eq_false', beq_eq_false_iff_ne, bne_eq_false_iff_eq, ne_eq, Decidable.not_not, Int.not_lt, Int.not_le] at h
      refine c_exit ?_
      refine x_then_exit ?_
      refine x_then_exit ?_
      refine x_block_hit ?_
      refine x_then ?_
      refine c_seq ?_
      refine c_region ?_
      refine o_yield rfl rfl rfl (y_val tok rfl) ?_
      refine o_end [4] rfl ?_
      refine x_then ?_
      refine c_ret ?_
      refine b_ret tok rfl ?_
      intro E w' hm _
      refine ⟨?_, hm.below (Vw.le.refl _)⟩
      rfl

/-- What is at first on a device, as a row that may be read. -/
def fmtL (g : Geo) (hd : ByteArray) : List ByteArray := if geoB g = true then fmtTo g (gbV g) hd g.slots.toNat else []

theorem fmtL_len (g : Geo) (hd : ByteArray) : (fmtL g hd).length ≤ 4000 := by
  unfold fmtL
  split
  · rename_i h
    rw [fmtTo_len]
    have hs := geo_sizes h
    have htt : totV g = dataAt g + g.blocks * g.per := by rw [totV, if_pos h]
    omega
  · simp

def FmtV (g : Geo) (hd : ByteArray) (x : Value) (V' : Vw) : Prop := ∃ a n c, x = .tuple #[.slice a n c, I (gbE g)] ∧ SlOf V' encS 1 (.slice a n c) (fmtL g hd)

theorem fmtV_of {V : Vw} {g : Geo} {hd : ByteArray} {w : World} {f : Nat} (hV : V.le (vw w))
    (h : Calls Try.prog f #[g.val] w fun e w' => ((geoB g = true ∧ ∃ v, e = .returned (.tuple #[v, I 0]) ∧ w'.ownsRow w.heap.size 9 1 v (totV g).toNat ((fmtTo g (gbV g) hd g.slots.toNat).flatMap encS)) ∨
      (geoB g = false ∧ e = .returned (.tuple #[.slice none 0 0, I 40]))) ∧ Below w.heap.size w w') :
    Calls Try.prog f #[g.val] w fun e w' => ∃ x V', e = .returned x ∧ Below w.heap.size w w' ∧ Vext w.heap.size V V' w' ∧ FmtV g hd x V' := by
  refine h.mono ?_
  rintro e w' ⟨⟨hg, v, rfl, hown⟩ | ⟨hg, rfl⟩, hb⟩
  · obtain ⟨V', hx, hsl⟩ := ownsRow_vext hV hb hown
    obtain ⟨a, n, c, rfl⟩ := sl_shape hsl
    refine ⟨_, V', rfl, hb, hx, a, n, c, by rw [gbE, if_pos hg], ?_⟩
    rw [fmtL, if_pos hg]
    refine ⟨?_, fun _ => rfl⟩
    rw [fmtTo_len]
    exact hsl
  · refine ⟨_, V, rfl, hb, Vext.same hV hb, none, 0, 0, by rw [gbE, if_neg (by simp [hg])], ?_⟩
    rw [fmtL, if_neg (by simp [hg])]
    exact slNil _ _ _ _ (fun _ => rfl)

theorem head0 : ∃ hd : ByteArray, tailOk hd = some 0 ∧ hd.size ≤ 256 ∧ (∀ w, Calls Try.prog 53 #[I 0] w fun e w' => e = .returned (.tuple #[S hd, I 0]) ∧ Below w.heap.size w w') ∧
    ∀ w, Calls Try.prog 19 #[I 0] w fun e w' => e = .returned (.tuple #[S hd, I 0]) ∧ Below w.heap.size w w' := by
  have h7 : fitsB 0 6 = true := by decide
  have e : headS 0 = (strOf (sealL 2 (leB 6 0)), 0) := by rw [headS, if_pos h7]
  have ht := tail_head h7
  rw [e] at ht
  refine ⟨strOf (sealL 2 (leB 6 0)), ht, ?_, fun w => ?_, fun w => ?_⟩
  · simp only [strOf_size, sealL_len]
    have : (leB 6 0).length = 6 := by simp [leB, leTake_len]
    omega
  · have := shead_c 0 w
    rwa [e] at this
  · have := refHeadS_c 0 w
    rwa [e] at this

theorem superFormat_law (w : World) {v0 v1 : Value} (R0 : ∃ g : Geo, v0 = g.val ∧ g.Ok) (R1 : ∃ l : List ByteArray, SlOf (vw w) encS 1 v1 l ∧ l.length ≤ maxLen ∧ ∀ a ∈ l, a.size ≤ maxLen) :
    Calls Try.prog 5 #[v0, v1] w fun e w' => e = .returned (.bool true) ∧ Below w.heap.size w w' := by
  obtain ⟨g, rfl, ok⟩ := R0
  obtain ⟨l, hs0, hn, hsz⟩ := R1
  obtain ⟨hd, _, _, hh1, hh2⟩ := head0
  obtain ⟨sa, sn, sc, rfl⟩ := sl_shape hs0.sl
  refine enter (E := E0) (O := []) (nl := 0) (V := vw w) [.a (.v g.val), .a (.v (.slice sa sn sc))] Try.func5 rfl rfl (mem0 E0 0 w) rfl rfl ?_
  refine c_seq ?_
  refine c_region ?_
  refine o_new tok rfl rfl rfl rfl ?_
  refine o_yield rfl rfl rfl (y_val tok rfl) ?_
  refine o_end [1, 2] rfl ?_
  refine x_then ?_
  refine c_seq ?_
  refine c_seq ?_
  refine c_region ?_
  refine o_yield rfl rfl rfl (y_val tok rfl) ?_
  refine o_callV (fun x V' => ∃ b : Bool, x = .bool b ∧ (b = false → l.length ≤ 6000)) rfl rfl fnok44 rfl rfl (fun hg E w1 hm => by exact great05_cV (vw w) _ l _ hm.leV hs0 hn hsz) ?_
  rintro x V1 hle1 hx
  obtain ⟨b, rfl, hb⟩ := hx rfl
  clear hx
  have hs1 := hs0.mono hle1
  refine o_end [1, 2, 14] rfl ?_
  refine x_then ?_
  refine c_cond rfl (fun h => ?_) (fun h => ?_)
  ·
    refine c_seq ?_
    refine c_region ?_
    refine o_call (.a (.v _)) rfl rfl fnok45 rfl rfl rfl (fun hg E w1 hm => by exact wakes05_c _) ?_
    refine o_yield rfl rfl rfl (y_val tok rfl) ?_
    refine o_end [4] rfl ?_
    refine x_then ?_
    refine c_ret ?_
    refine x_then_ret ?_
    refine b_ret tok rfl ?_
    intro E w' hm _
    refine ⟨?_, hm.below (hle1)⟩
    rfl
  ·
    have hl6 := hb h
    clear h hb
    have hfl := fmtL_len g hd
    refine c_skip ?_
    refine x_then ?_
    refine c_seq ?_
    refine c_region ?_
    refine o_yield rfl rfl rfl (y_val tok rfl) ?_
    refine o_callV (FmtV g hd) rfl rfl fnok46 rfl rfl (fun hg E w1 hm => by exact fmtV_of hm.leV (sformat_c g ok hd hh1 _)) ?_
    rintro x V2 hle2 hx
    obtain ⟨a2, n2, c2, rfl, hf2⟩ := hx rfl
    clear hx
    refine o_yield rfl rfl rfl (y_val tok rfl) ?_
    refine o_yield rfl rfl rfl (y_val tok rfl) ?_
    refine o_yield rfl rfl rfl (y_val tok rfl) ?_
    refine o_yield rfl rfl rfl (y_val tok rfl) ?_
    refine o_yield rfl rfl rfl (y_val tok rfl) ?_
    refine o_end [1, 2, 5, 6] rfl ?_
    refine x_then ?_
    refine c_seq ?_
    refine c_region ?_
    refine o_yield rfl rfl rfl (y_val tok rfl) ?_
    refine o_callV (FmtV g hd) rfl rfl fnok18 rfl rfl (fun hg E w1 hm => by exact fmtV_of hm.leV (rformat_c g ok hd hh2 _)) ?_
    rintro x V3 hle3 hx
    obtain ⟨a3, n3, c3, rfl, hf3⟩ := hx rfl
    clear hx
    refine o_yield rfl rfl rfl (y_val tok rfl) ?_
    refine o_yield rfl rfl rfl (y_val tok rfl) ?_
    refine o_yield rfl rfl rfl (y_val tok rfl) ?_
    refine o_yield rfl rfl rfl (y_val tok rfl) ?_
    refine o_yield rfl rfl rfl (y_val tok rfl) ?_
    refine o_end [1, 5, 6, 7, 8] rfl ?_
    refine x_then ?_
    refine c_seq ?_
    refine c_region ?_
    refine o_yield rfl rfl rfl (y_val tok rfl) ?_
    refine o_call (.a (.v _)) rfl rfl fnok47 rfl rfl rfl (fun hg E w1 hm => by exact schk_c V3 _ l _ hm.leV (hs1.mono (hle2.trans hle3)) (by omega) hsz) ?_
    refine o_yield rfl rfl rfl (y_val tok rfl) ?_
    refine o_yield rfl rfl rfl (y_val tok rfl) ?_
    refine o_yield rfl rfl rfl (y_val tok rfl) ?_
    refine o_new tok rfl rfl rfl rfl ?_
    refine o_store tok rfl rfl rfl (by first | exact ⟨trivial, trivial⟩ | (repeat' first | exact trivial | exact rfl | apply And.intro); done | simp [onesP, oneP, lk, Value.oneCell']) ?_
    refine o_yield rfl rfl rfl (y_val tok rfl) ?_
    refine o_end [1, 5, 6, 7, 8, 9, 10] rfl ?_
    refine x_then ?_
    refine c_seq ?_
    refine c_region ?_
    refine o_yield rfl rfl rfl (y_val tok rfl) ?_
    refine o_call (.a (.v _)) rfl rfl fnok48 rfl rfl rfl (fun hg E w1 hm => by exact rchk_c V3 _ l _ hm.leV (hs1.mono (hle2.trans hle3)) (by omega) hsz) ?_
    refine o_yield rfl rfl rfl (y_val tok rfl) ?_
    refine o_yield rfl rfl rfl (y_val tok rfl) ?_
    refine o_yield rfl rfl rfl (y_val tok rfl) ?_
    refine o_new tok rfl rfl rfl rfl ?_
    refine o_store tok rfl rfl rfl (by first | exact ⟨trivial, trivial⟩ | (repeat' first | exact trivial | exact rfl | apply And.intro); done | simp [onesP, oneP, lk, Value.oneCell']) ?_
    refine o_yield rfl rfl rfl (y_val tok rfl) ?_
    refine o_end [5, 6, 7, 8, 9, 10, 11, 12] rfl ?_
    refine x_then ?_
    refine c_seq ?_
    refine c_region ?_
    refine o_yield rfl rfl rfl (y_val tok rfl) ?_
    refine o_yield rfl rfl rfl (y_val tok rfl) ?_
    refine o_call (.a (.v _)) rfl rfl fnok49 rfl rfl rfl (fun hg E w1 hm => by exact same05_c V3 _ _ _ _ hm.leV (hf2.mono hle3) hf3 (by omega)) ?_
    refine o_yield rfl rfl rfl (y_val tok rfl) ?_
    refine o_yield rfl rfl rfl (y_val tok rfl) ?_
    refine o_yield rfl rfl rfl (y_val tok rfl) ?_
    refine o_yield rfl rfl rfl (y_val tok rfl) ?_
    refine o_yield rfl rfl rfl (y_val tok rfl) ?_
    refine o_yield rfl rfl rfl (y_val tok rfl) ?_
    refine o_yield rfl rfl rfl (y_val tok rfl) ?_
    refine o_yield rfl rfl rfl (y_val tok rfl) ?_
    refine o_yield rfl rfl rfl (y_seq (.bool ((chkV l).eqB (chkV l))) rfl (fun E w => geoEq _ _ w (.inl rfl))) ?_
    refine o_yield rfl rfl rfl (y_val tok rfl) ?_
    refine o_yield rfl rfl rfl (y_val tok rfl) ?_
    refine o_yield rfl rfl rfl (y_val tok rfl) ?_
    refine o_yield rfl rfl rfl (y_val tok rfl) ?_
    refine o_yield rfl rfl rfl (y_val tok rfl) ?_
    refine o_yield rfl rfl rfl (y_val tok rfl) ?_
    refine o_yield rfl rfl rfl (y_val tok rfl) ?_
    refine o_call (.a (.v _)) rfl rfl fnok45 rfl rfl rfl (fun hg E w1 hm => by exact wakes05_c _) ?_
    refine o_yield rfl rfl rfl (y_val tok rfl) ?_
    refine o_yield rfl rfl rfl (y_val tok rfl) ?_
    refine o_end [4] rfl ?_
    refine x_then ?_
    refine c_ret ?_
    refine b_ret tok rfl ?_
    intro E w' hm _
    refine ⟨?_, hm.below ((hle1.trans (hle2.trans hle3)))⟩
    rw [Geo.eqB_refl]
    simp
    rfl
end Go.Proofs.Ytflimioplnbopaa

/- What is read of bytes was put there: the plain law. -/
set_option linter.unusedVariables false
set_option linter.unusedSimpArgs false
set_option maxRecDepth 100000
namespace Go.Proofs.Ytflimioplnbopaa
open Go Go.Eng Go.RowKit

theorem pw_add (a b : Nat) : pw (a + b) = pw a * pw b := by rw [pw, pw, pw, Nat.pow_add]

theorem leTo_digit {f : Nat → Nat} (hf : ∀ j, f j < 256) : ∀ (k j : Nat), j < k → leTo f k / pw j % 256 = f j
  | k + 1, j, h => by
    have hlt := leTo_lt hf k
    have hfk := hf k
    rw [leTo]
    by_cases hjk : j = k
    · subst hjk
      rw [Nat.add_mul_div_right _ _ (pw_pos j), Nat.div_eq_of_lt hlt, Nat.zero_add, Nat.mod_eq_of_lt hfk]
    · have ih := leTo_digit hf k j (by omega)
      obtain ⟨d, rfl⟩ : ∃ d, k = (j + 1) + d := ⟨k - (j + 1), by omega⟩
      have e : f (j + 1 + d) * pw (j + 1 + d) = (f (j + 1 + d) * pw d * 256) * pw j := by
        rw [pw_add, pw_succ]
        simp only [Nat.mul_assoc, Nat.mul_comm, Nat.mul_left_comm]
      rw [e, Nat.add_mul_div_right _ _ (pw_pos j), Nat.add_mul_mod_self_right, ih]

theorem getSpec_val {s : ByteArray} {k : Nat} (h : (getSpec s 0 k).2 = 0) : (getSpec s 0 k).1 = ((leTo (digit s 0) k : Nat) : Int) := by
  unfold getSpec at h ⊢
  split at h
  · simp at h
  · rename_i h1
    rw [if_neg h1]
    split at h
    · simp at h
    · rename_i h2
      rw [if_neg h2]
      split at h
      · simp at h
      · rename_i h3
        rw [if_neg h3]
        rfl

theorem getSpec_inv {s : ByteArray} {k : Nat} (h : (getSpec s 0 k).2 = 0) : s = strOf (leB k (getSpec s 0 k).1 ++ (restOf s k).data.toList) := by
  obtain ⟨hw, _, hle⟩ := getSpec_ok h
  have hsz := size_list s
  have hke : k ≤ s.data.toList.length := by omega
  apply str_ext
  rw [strOf_list, restOf_list, getSpec_val h]
  conv => lhs; rw [← List.take_append_drop k s.data.toList]
  congr 1
  apply List.ext_getElem
  · rw [List.length_take, leB, leTake_len, Int.toNat_natCast]; omega
  · intro i h1 h2
    have hik : i < k := by rw [List.length_take] at h1; omega
    rw [List.getElem_take]
    simp only [leB, leTake, Int.toNat_natCast, List.getElem_map, List.getElem_range]
    rw [leTo_digit (digit_lt s 0) k i hik, digit, byteAt_list, Nat.zero_add, UInt8.ofNat_toNat]
    rw [List.getD_eq_getElem?_getD, List.getElem?_eq_getElem (by omega)]
    rfl

end Go.Proofs.Ytflimioplnbopaa

/- Superblocks and headers read back, what is at first checked: plain laws. -/
set_option linter.unusedVariables false
set_option linter.unusedSimpArgs false
set_option maxRecDepth 100000
namespace Go.Proofs.Ytflimioplnbopaa
open Go Go.Eng Go.RowKit

theorem fld_inv : ∀ (ks acc : List Int) (rest : ByteArray) {l : List Int} {r : ByteArray}, fldA acc rest ks = some (l, r) → ∃ l', l = acc ++ l' ∧ l'.length = ks.length ∧ rest.data.toList = packL ks l' ++ r.data.toList
  | [], acc, rest, l, r, h => by
    simp only [fldA, Option.some.injEq, Prod.mk.injEq] at h
    exact ⟨[], by simp [h.1], rfl, by simp [packL, h.2]⟩
  | k :: ks, acc, rest, l, r, h => by
    rw [fldA] at h
    split at h
    · cases h
    · rename_i hg
      have hg0 : (getSpec rest 0 k).2 = 0 := Decidable.not_not.1 hg
      obtain ⟨hw, _, _⟩ := getSpec_ok hg0
      obtain ⟨m, rfl⟩ : ∃ m : Nat, k = m := ⟨k.toNat, by have := width_cases hw; omega⟩
      obtain ⟨l', h1, h2, h3⟩ := fld_inv ks _ _ h
      refine ⟨(getSpec rest 0 m).1 :: l', by rw [h1]; simp, by simp [h2], ?_⟩
      have := congrArg (fun x : ByteArray => x.data.toList) (getSpec_inv hg0)
      simp only [strOf_list] at this
      rw [Int.toNat_natCast] at h3
      rw [this, h3, packL, List.append_assoc]

theorem flds_inv {kind : Int} {s : ByteArray} {ks l : List Int} {r : ByteArray} (h : fieldsR kind s ks = some (l, r)) (hr : r.size = 0) : s = strOf (sealL (byteAt s 0) (packL ks l)) ∧ ((byteAt s 0).toNat : Int) = kind := by
  unfold fieldsR at h
  split at h
  · rename_i ho
    simp only [ofB, Bool.and_eq_true, decide_eq_true_eq] at ho
    obtain ⟨ho, hk⟩ := ho
    refine ⟨?_, hk⟩
    obtain ⟨l', h1, h2, h3⟩ := fld_inv _ _ _ h
    simp only [List.nil_append] at h1
    subst h1
    have hr0 : r.data.toList = [] := List.length_eq_zero_iff.1 (by rw [size_list]; exact hr)
    rw [hr0, List.append_nil] at h3
    simp only [openB, Bool.and_eq_true, decide_eq_true_eq] at ho
    apply str_ext
    rw [strOf_list, ← h3]
    exact ho.2.symm
  · cases h

theorem sup_inv {s : ByteArray} {g : Geo} (h : srOk s = some g) : gbV g = s ∧ gbE g = 0 := by
  have hg := srOk_geo h
  unfold srOk at h
  split at h
  · rename_i l r hfr
    split at h
    · rename_i hq
      cases h
      obtain ⟨h1, h2⟩ := flds_inv hfr hq.1
      have hb : byteAt s 0 = 1 := UInt8.toNat_inj.1 (by have : (1 : UInt8).toNat = 1 := rfl; omega)
      rw [hb] at h1
      refine ⟨?_, by rw [gbE, if_pos hg]⟩
      rw [gbV, if_pos hg, geoOf_nums (by rw [fields_len hfr]; rfl)]
      exact h1.symm
    · cases h
  · cases h

theorem tail_inv {s : ByteArray} {n : Int} (h : tailOk s = some n) : headS n = (s, 0) ∧ 0 ≤ n ∧ n ≤ 1099511627776 := by
  unfold tailOk at h
  split at h
  · rename_i l r hfr
    split at h
    · rename_i hq
      obtain ⟨a, rfl⟩ := one_list (l := l) (by rw [fields_len hfr]; rfl)
      have han : a = n := by simpa using h
      subst han
      obtain ⟨h1, h2⟩ := flds_inv hfr hq
      have hb : byteAt s 0 = 2 := UInt8.toNat_inj.1 (by have : (2 : UInt8).toNat = 2 := rfl; omega)
      rw [hb] at h1
      have hbnd : 0 ≤ a ∧ a ≤ 1099511627776 := by
        unfold fieldsR at hfr
        split at hfr
        · simp only [fldA] at hfr
          split at hfr
          · cases hfr
          · simp only [List.nil_append, Option.some.injEq, Prod.mk.injEq, List.cons.injEq, and_true] at hfr
            rw [← hfr.1]
            exact getSpec_64 _ _ _
        · cases hfr
      have hfit : fitsB a 6 = true := by
        have : mostN (6 : Int).toNat = 1099511627776 := by decide
        rw [fitsB, this]
        simp [widthB]; omega
      have h6 : (packL [6] [a]) = leB 6 a := by simp [packL]
      rw [h6] at h1
      exact ⟨by rw [headS_eq hfit, ← h1], hbnd⟩
    · cases h
  · cases h

theorem fits6 (n : Int) : fitsB n 6 = (decide (0 ≤ n) && decide (n ≤ 1099511627776)) := by
  have : mostN (6 : Int).toNat = 1099511627776 := by decide
  rw [fitsB, this]
  simp [widthB]

theorem headS_tail (n : Int) : ((headS n).2 = 0 ↔ 0 ≤ n ∧ n ≤ 1099511627776) ∧ ((headS n).2 = 0 → tailOk (headS n).1 = some n) := by
  by_cases h : fitsB n 6 = true
  · have h2 := h
    rw [fits6] at h2
    simp only [Bool.and_eq_true, decide_eq_true_eq] at h2
    exact ⟨⟨fun _ => h2, fun _ => by rw [headS_eq h]⟩, fun _ => tail_head h⟩
  · have h2 := h
    rw [fits6] at h2
    simp only [Bool.and_eq_true, decide_eq_true_eq] at h2
    have h3 : (headS n).2 = 2 := by rw [headS, if_neg h]
    exact ⟨⟨fun h4 => by omega, fun h4 => absurd h4 h2⟩, fun h4 => by omega⟩

theorem sup_back {g : Geo} (h : geoB g = true) : srOk (gbV g) = some g := by
  have hp := fldA_pack gW (gNums g) [] [] rfl (gnums_fit h)
  have hl := gpack_take g 8
  rw [List.take_of_length_le (by simp [gW]), List.take_of_length_le (by simp [gNums])] at hl
  rw [List.append_nil] at hp
  have hv : gbV g = strOf (sealL 1 (packL gW (gNums g))) := by rw [gbV, if_pos h]
  have ho : openB (gbV g) = true := by rw [hv]; exact openB_seal (by decide) (by decide) hl
  have hof : ofB 1 (gbV g) = true := by
    rw [ofB, ho, hv, byteAt_seal, Bool.true_and]; decide
  have hfr : fieldsR 1 (gbV g) gW = some ([] ++ gNums g, strOf []) := by
    rw [fieldsR, if_pos hof, hv, loadOf_seal, hp]
  rw [srOk, hfr]
  simp only [List.nil_append]
  have hgo : geoOf (gNums g) = g := rfl
  rw [hgo, if_pos ⟨by rw [strOf_size]; rfl, h⟩]

theorem gbV_size (g : Geo) : (gbV g).size ≤ 256 := by
  unfold gbV
  split
  · have h20 : (packL gW (gNums g)).length = 20 := by simp [packL, gW, gNums, leB, leTake_len]
    rw [strOf_size, sealL_len, h20]; omega
  · simp

theorem head_pos {g : Geo} (hg : geoB g = true) {k : Nat} (hk : (k : Int) < g.slots) : 1 ≤ headV g (k : Int) ∧ headV g (k : Int) < dataAt g := by
  have hf := geo_facts hg
  have hh : headV g (k : Int) = 1 + 2 * g.nodes + g.log + (k : Int) * (1 + g.journal) := by rw [headV, if_pos ⟨hg, by omega, hk⟩]
  have hd : dataAt g = 1 + 2 * g.nodes + g.log + g.slots * (1 + g.journal) := rfl
  have h1 : 0 ≤ (k : Int) * (1 + g.journal) := Int.mul_nonneg (by omega) (by omega)
  have h2 : ((k : Int) + 1) * (1 + g.journal) ≤ g.slots * (1 + g.journal) := Int.mul_le_mul_of_nonneg_right (by omega) (by omega)
  rw [Int.add_mul] at h2
  omega

theorem head_inj {g : Geo} (hg : geoB g = true) {i k : Nat} (hi : (i : Int) < g.slots) (hk : (k : Int) < g.slots) (h : headV g (i : Int) = headV g (k : Int)) : i = k := by
  have hf := geo_facts hg
  rw [headV, if_pos ⟨hg, by omega, hi⟩, headV, if_pos ⟨hg, by omega, hk⟩] at h
  have h2 : (i : Int) * (1 + g.journal) = (k : Int) * (1 + g.journal) := by omega
  have := Int.eq_of_mul_eq_mul_right (by omega) h2
  omega

theorem fmt_top {g : Geo} (hg : geoB g = true) (top hd : ByteArray) : ∀ i : Nat, (i : Int) ≤ g.slots → (fmtTo g top hd i)[0]? = some top
  | 0, _ => by
    have ht := geo_sizes hg
    have htt : totV g = dataAt g + g.blocks * g.per := by rw [totV, if_pos hg]
    have hp : 0 < (totV g).toNat := by omega
    simp [fmtTo, hp]
  | i + 1, h => by
    have hp := (head_pos hg (k := i) (by omega)).1
    rw [fmtTo, List.getElem?_set_ne (by omega)]
    exact fmt_top hg top hd i (by omega)

theorem fmt_head {g : Geo} (hg : geoB g = true) (top hd : ByteArray) : ∀ i : Nat, (i : Int) ≤ g.slots → ∀ k : Nat, k < i → (fmtTo g top hd i)[(headV g (k : Int)).toNat]? = some hd
  | 0, _, k, h => by omega
  | i + 1, h, k, hk => by
    have hlt := head_in hg (i := k) (by omega)
    obtain ⟨q, hq, hqt⟩ := hlt
    rw [fmtTo]
    by_cases hki : k = i
    · subst hki
      rw [List.getElem?_set_self (by rw [fmtTo_len]; omega)]
    · rw [List.getElem?_set_ne (fun e => hki (by
        have h1 := (head_pos hg (k := i) (by omega)).1
        have h2 := (head_pos hg (k := k) (by omega)).1
        exact (head_inj hg (i := i) (k := k) (by omega) (by omega) (by omega)).symm))]
      exact fmt_head hg top hd i (by omega) k (by omega)

theorem fmt_other {g : Geo} (hg : geoB g = true) (top hd : ByteArray) : ∀ i : Nat, (i : Int) ≤ g.slots → ∀ j : Nat, (j : Int) < totV g → j ≠ 0 → (∀ k : Nat, k < i → headV g (k : Int) ≠ j) → (fmtTo g top hd i)[j]? = some ByteArray.empty
  | 0, _, j, hj, h0, _ => by
    rw [fmtTo, List.getElem?_set_ne (by omega), List.getElem?_replicate, if_pos (by omega)]
  | i + 1, h, j, hj, h0, hk => by
    have hp := (head_pos hg (k := i) (by omega)).1
    have := hk i (by omega)
    rw [fmtTo, List.getElem?_set_ne (by omega)]
    exact fmt_other hg top hd i (by omega) j hj h0 (fun k hki => hk k (by omega))

theorem fmt_small {g : Geo} {top hd : ByteArray} (h1 : top.size ≤ 256) (h2 : hd.size ≤ 256) : ∀ i : Nat, ∀ x ∈ fmtTo g top hd i, x.size ≤ 256
  | 0, x, hx => by
    rw [fmtTo] at hx
    rcases List.mem_or_eq_of_mem_set hx with hx | rfl
    · rw [List.eq_of_mem_replicate hx]; simp
    · exact h1
  | i + 1, x, hx => by
    rw [fmtTo] at hx
    rcases List.mem_or_eq_of_mem_set hx with hx | rfl
    · exact fmt_small h1 h2 i x hx
    · exact h2

theorem fit_small {d : Nat} {l : List ByteArray} (h : ∀ x ∈ l, x.size ≤ 256) : fitB d l = true :=
  (fitB_iff d l).2 fun j x hx => by have := h x (List.mem_of_getElem? hx); exact ⟨by omega, fun _ => by omega⟩

/-- What is checked as a geometry's. -/
theorem chk_yes {g : Geo} {l : List ByteArray} {s : ByteArray} (h0 : l[0]? = some s) (hs : srOk s = some g) (hl : (l.length : Int) = totV g) (hf : ∀ x ∈ l, x.size ≤ 256) (hh : headsOk g l = true) : chkG l = some g := by
  cases l with
  | nil => simp at h0
  | cons a r =>
    have : a = s := by simpa using h0
    subst this
    unfold chkG
    simp only [hs]
    rw [if_pos ⟨⟨hl, fit_small hf⟩, hh⟩]

theorem chk_noLen {g : Geo} {l : List ByteArray} {s : ByteArray} (h0 : l[0]? = some s) (hs : srOk s = some g) (hl : (l.length : Int) ≠ totV g) : chkG l = none := by
  cases l with
  | nil => simp at h0
  | cons a r =>
    have : a = s := by simpa using h0
    subst this
    unfold chkG
    simp only [hs]
    rw [if_neg (fun h => hl h.1.1)]

theorem chk_noSup {l : List ByteArray} {s : ByteArray} (h0 : l[0]? = some s) (hs : srOk s = none) : chkG l = none := by
  cases l with
  | nil => simp at h0
  | cons a r =>
    have : a = s := by simpa using h0
    subst this
    unfold chkG
    simp only [hs]

theorem chk_noHead {g : Geo} {l : List ByteArray} {s : ByteArray} (h0 : l[0]? = some s) (hs : srOk s = some g) (hh : headsOk g l = false) : chkG l = none := by
  cases l with
  | nil => simp at h0
  | cons a r =>
    have : a = s := by simpa using h0
    subst this
    unfold chkG
    simp only [hs]
    rw [if_neg (fun h => by rw [hh] at h; cases h.2)]

theorem headsOk_iff (g : Geo) (l : List ByteArray) : headsOk g l = true ↔ ∀ k : Nat, (k : Int) < g.slots → tailE (l.getD (headV g (k : Int)).toNat ByteArray.empty) = 0 := by
  unfold headsOk
  simp only [List.all_eq_true, List.mem_range, decide_eq_true_eq]
  exact ⟨fun h k hk => h k (by omega), fun h k hk => h k (by omega)⟩

theorem fmt_chk {g : Geo} (hg : geoB g = true) {hd : ByteArray} (hh : tailOk hd = some 0) (hz : hd.size ≤ 256) : chkG (fmtTo g (gbV g) hd g.slots.toNat) = some g := by
  have hf := geo_facts hg
  have ht := geo_sizes hg
  have htt : totV g = dataAt g + g.blocks * g.per := by rw [totV, if_pos hg]
  refine chk_yes (fmt_top hg _ _ _ (by omega)) (sup_back hg) (by rw [fmtTo_len]; omega) (fmt_small (gbV_size g) hz _) ((headsOk_iff g _).2 fun k hk => ?_)
  rw [List.getD_eq_getElem?_getD, fmt_head hg _ _ _ (by omega) k (by omega)]
  rw [Option.getD_some, tailE, hh]; rfl
end Go.Proofs.Ytflimioplnbopaa

/- Superblocks and headers read back: the law. -/
set_option linter.unusedVariables false
set_option linter.unusedSimpArgs false
set_option maxRecDepth 100000
namespace Go.Proofs.Ytflimioplnbopaa
open Go Go.Eng Go.RowKit

theorem srE_zero {s : ByteArray} (h : srE s = 0) : srOk s = some (srV s) := by
  unfold srE at h
  unfold srV
  cases hq : srOk s with
  | none => rw [hq] at h; simp at h
  | some g => rfl

theorem tailE_zero {s : ByteArray} (h : tailE s = 0) : tailOk s = some (tailV s) := by
  unfold tailE at h
  unfold tailV
  cases hq : tailOk s with
  | none => rw [hq] at h; simp at h
  | some g => rfl

theorem headS_size (n : Int) : (headS n).1.size ≤ 256 := by
  unfold headS
  split
  · simp only [strOf_size, sealL_len, leB, leTake_len]; decide
  · simp

theorem superBack_law (w : World) {v0 v1 v2 : Value} (R0 : ∃ g : Geo, v0 = g.val ∧ g.Ok) (R1 : ∃ n : Int, v1 = I n ∧ R64 n) (R2 : ∃ s : ByteArray, v2 = .string s ∧ s.size ≤ maxLen) :
    Calls Try.prog 6 #[v0, v1, v2] w fun e w' => e = .returned (.bool true) ∧ Below w.heap.size w w' := by
  obtain ⟨g, rfl, ok⟩ := R0
  obtain ⟨tl, rfl, ht⟩ := R1
  obtain ⟨s, rfl, hs⟩ := R2
  obtain ⟨hd, hdt, hdz, hh1, hh2⟩ := head0
  obtain ⟨hS1, hS2⟩ := headS_tail tl
  have hSz := headS_size tl
  have hshead := fun w => shead_c tl w
  generalize hT : headS tl = T at *
  obtain ⟨t1, t2⟩ := T
  simp only at hS1 hS2 hSz hshead
  have hcond : ((((t2 == 0) != (decide (0 ≤ tl) && decide (tl ≤ 1099511627776))) || ((t2 == 0) && ((tailE t1 != 0) || (tailV t1 != tl)))) = true) → False := by
    intro h
    by_cases h0 : t2 = 0
    · have h1 := hS1.1 h0
      have h2 := hS2 h0
      have h3 : tailE t1 = 0 := by rw [tailE, h2]; rfl
      have h4 : tailV t1 = tl := by rw [tailV, h2]; rfl
      simp [h0, h1.1, h1.2, h3, h4] at h
    · have h1 : ¬ (0 ≤ tl ∧ tl ≤ 1099511627776) := fun h => h0 (hS1.2 h)
      have h2 : (decide (0 ≤ tl) && decide (tl ≤ 1099511627776)) = false := by simpa using h1
      simp [h0, h2] at h
  refine enter (E := E0) (O := []) (nl := 0) (V := vw w) [.a (.v g.val), .a (.v (I tl)), .a (.v (S s))] Try.func6 rfl rfl (mem0 E0 0 w) rfl rfl ?_
  refine c_seq ?_
  refine c_region ?_
  refine o_new tok rfl rfl rfl rfl ?_
  refine o_yield rfl rfl rfl (y_val tok rfl) ?_
  refine o_end [1, 2, 3] rfl ?_
  refine x_then ?_
  refine c_seq ?_
  refine c_seq ?_
  refine c_region ?_
  refine o_yield rfl rfl rfl (y_val tok rfl) ?_
  refine o_yield rfl rfl rfl (y_val tok rfl) ?_
  refine o_yield rfl rfl rfl (y_val tok rfl) ?_
  refine o_end [1, 2, 3, 22] rfl ?_
  refine x_then ?_
  refine c_cond rfl (fun h => ?_) (fun h => ?_)
  ·
    refine c_seq ?_
    refine c_region ?_
    refine o_call (.a (.v _)) rfl rfl fnok45 rfl rfl rfl (fun hg E w1 hm => by exact wakes05_c _) ?_
    refine o_yield rfl rfl rfl (y_val tok rfl) ?_
    refine o_end [6] rfl ?_
    refine x_then ?_
    refine c_ret ?_
    refine x_then_ret ?_
    refine b_ret tok rfl ?_
    intro E w' hm _
    refine ⟨?_, hm.below (Vw.le.refl _)⟩
    rfl
  ·
    clear h
    refine c_skip ?_
    refine x_then ?_
    refine c_seq ?_
    refine c_region ?_
    refine o_yield rfl rfl rfl (y_val tok rfl) ?_
    refine o_call (.a (.v _)) rfl rfl fnok50 rfl rfl rfl (fun hg E w1 hm => by exact sread_c s hs _) ?_
    refine o_yield rfl rfl rfl (y_val tok rfl) ?_
    refine o_yield rfl rfl rfl (y_val tok rfl) ?_
    refine o_yield rfl rfl rfl (y_val tok rfl) ?_
    refine o_new tok rfl rfl rfl rfl ?_
    refine o_store tok rfl rfl rfl (by first | exact ⟨trivial, trivial⟩ | (repeat' first | exact trivial | exact rfl | apply And.intro); done | simp [onesP, oneP, lk, Value.oneCell']) ?_
    refine o_yield rfl rfl rfl (y_val tok rfl) ?_
    refine o_end [1, 2, 3, 7, 8] rfl ?_
    refine x_then ?_
    refine c_seq ?_
    refine c_seq ?_
    refine c_region ?_
    refine o_yield rfl rfl rfl (y_val tok rfl) ?_
    refine o_yield rfl rfl rfl (y_val tok rfl) ?_
    refine o_end [1, 2, 3, 7, 30] rfl ?_
    refine x_then ?_
    refine c_cond rfl (fun h => ?_) (fun h => ?_)
    ·
      have hE : srE s = 0 := by simpa using h
      obtain ⟨hi1, hi2⟩ := sup_inv (srE_zero hE)
      have okS := srV_ok s
      have hsb := fun w => sbytes_c (srV s) okS w
      rw [hi1, hi2] at hsb
      clear h
      refine c_seq ?_
      refine c_region ?_
      refine o_yield rfl rfl rfl (y_val tok rfl) ?_
      refine o_call (.a (.v _)) rfl rfl fnok51 rfl rfl rfl (fun hg E w1 hm => by exact hsb _) ?_
      refine o_yield rfl rfl rfl (y_val tok rfl) ?_
      refine o_yield rfl rfl rfl (y_val tok rfl) ?_
      refine o_yield rfl rfl rfl (y_val tok rfl) ?_
      refine o_yield rfl rfl rfl (y_val tok rfl) ?_
      refine o_yield rfl rfl rfl (y_val tok rfl) ?_
      refine o_end [1, 2, 3, 9, 10] rfl ?_
      refine x_then ?_
      refine c_seq ?_
      refine c_region ?_
      refine o_yield rfl rfl rfl (y_val tok rfl) ?_
      refine o_yield rfl rfl rfl (y_val tok rfl) ?_
      refine o_yield rfl rfl rfl (y_val tok rfl) ?_
      refine o_yield rfl rfl rfl (y_val tok rfl) ?_
      refine o_yield rfl rfl rfl (y_val tok rfl) ?_
      refine o_yield rfl rfl rfl (y_val tok rfl) ?_
      refine o_yield rfl rfl rfl (y_val tok rfl) ?_
      refine o_end [1, 2, 3, 42] rfl ?_
      refine x_then ?_
      refine c_cond rfl (fun h => ?_) (fun h => ?_)
      ·
        refine c_seq ?_
        refine c_region ?_
        refine o_yield rfl rfl rfl (y_val tok rfl) ?_
        refine o_end [6] rfl ?_
        refine x_then ?_
        refine c_ret ?_
        refine x_then_ret ?_
        refine b_ret tok rfl ?_
        exact absurd h (by simp [ByteArray.toList_eq])
      ·
        refine c_skip ?_
        refine x_then ?_
        refine c_seq ?_
        refine c_region ?_
        refine o_yield rfl rfl rfl (y_val tok rfl) ?_
        refine o_call (.a (.v _)) rfl rfl fnok52 rfl rfl rfl (fun hg E w1 hm => by exact stail_c s hs _) ?_
        refine o_yield rfl rfl rfl (y_val tok rfl) ?_
        refine o_yield rfl rfl rfl (y_val tok rfl) ?_
        refine o_yield rfl rfl rfl (y_val tok rfl) ?_
        refine o_yield rfl rfl rfl (y_val tok rfl) ?_
        refine o_yield rfl rfl rfl (y_val tok rfl) ?_
        refine o_end [1, 2, 3, 8, 11] rfl ?_
        refine x_then ?_
        refine c_seq ?_
        refine c_seq ?_
        refine c_region ?_
        refine o_yield rfl rfl rfl (y_val tok rfl) ?_
        refine o_yield rfl rfl rfl (y_val tok rfl) ?_
        refine o_end [1, 2, 3, 11, 49] rfl ?_
        refine x_then ?_
        refine c_cond rfl (fun h => ?_) (fun h => ?_)
        ·
          have hE : tailE s = 0 := by simpa using h
          obtain ⟨hi1, hi2, hi3⟩ := tail_inv (tailE_zero hE)
          have hshd := fun w => shead_c (tailV s) w
          rw [hi1] at hshd
          clear h
          refine c_seq ?_
          refine c_region ?_
          refine o_yield rfl rfl rfl (y_val tok rfl) ?_
          refine o_call (.a (.v _)) rfl rfl fnok53 rfl rfl rfl (fun hg E w1 hm => by exact hshd _) ?_
          refine o_yield rfl rfl rfl (y_val tok rfl) ?_
          refine o_yield rfl rfl rfl (y_val tok rfl) ?_
          refine o_yield rfl rfl rfl (y_val tok rfl) ?_
          refine o_yield rfl rfl rfl (y_val tok rfl) ?_
          refine o_yield rfl rfl rfl (y_val tok rfl) ?_
          refine o_end [1, 2, 3, 12, 13] rfl ?_
          refine x_then ?_
          refine c_seq ?_
          refine c_region ?_
          refine o_yield rfl rfl rfl (y_val tok rfl) ?_
          refine o_yield rfl rfl rfl (y_val tok rfl) ?_
          refine o_yield rfl rfl rfl (y_val tok rfl) ?_
          refine o_yield rfl rfl rfl (y_val tok rfl) ?_
          refine o_yield rfl rfl rfl (y_val tok rfl) ?_
          refine o_yield rfl rfl rfl (y_val tok rfl) ?_
          refine o_yield rfl rfl rfl (y_val tok rfl) ?_
          refine o_end [1, 3, 61] rfl ?_
          refine x_then ?_
          refine c_cond rfl (fun h => ?_) (fun h => ?_)
          ·
            refine c_seq ?_
            refine c_region ?_
            refine o_yield rfl rfl rfl (y_val tok rfl) ?_
            refine o_end [6] rfl ?_
            refine x_then ?_
            refine c_ret ?_
            refine x_then_ret ?_
            refine b_ret tok rfl ?_
            exact absurd h (by simp [ByteArray.toList_eq])
          ·
            refine c_skip ?_
            refine x_then ?_
            refine c_seq ?_
            refine c_region ?_
            refine o_yield rfl rfl rfl (y_val tok rfl) ?_
            refine o_call (.a (.v _)) rfl rfl fnok53 rfl rfl rfl (fun hg E w1 hm => by exact hshead _) ?_
            refine o_yield rfl rfl rfl (y_val tok rfl) ?_
            refine o_yield rfl rfl rfl (y_val tok rfl) ?_
            refine o_yield rfl rfl rfl (y_val tok rfl) ?_
            refine o_yield rfl rfl rfl (y_val tok rfl) ?_
            refine o_yield rfl rfl rfl (y_val tok rfl) ?_
            refine o_end [1, 3, 8, 14] rfl ?_
            refine x_then ?_
            refine c_seq ?_
            refine c_region ?_
            refine o_yield rfl rfl rfl (y_val tok rfl) ?_
            refine o_call (.a (.v _)) rfl rfl fnok52 rfl rfl rfl (fun hg E w1 hm => by exact stail_c t1 (by simp only [maxLen]; omega) _) ?_
            refine o_yield rfl rfl rfl (y_val tok rfl) ?_
            refine o_yield rfl rfl rfl (y_val tok rfl) ?_
            refine o_yield rfl rfl rfl (y_val tok rfl) ?_
            refine o_yield rfl rfl rfl (y_val tok rfl) ?_
            refine o_yield rfl rfl rfl (y_val tok rfl) ?_
            refine o_end [1, 3, 8, 11, 15] rfl ?_
            refine x_then ?_
            refine c_seq ?_
            refine c_seq ?_
            refine c_region ?_
            refine o_yield rfl rfl rfl (y_val tok rfl) ?_
            refine o_yield rfl rfl rfl (y_val tok rfl) ?_
            refine o_yield rfl rfl rfl (y_val tok rfl) ?_
            refine o_yield rfl rfl rfl (y_val tok rfl) ?_
            refine o_yield rfl rfl rfl (y_val tok rfl) ?_
            refine o_yield rfl rfl rfl (y_val tok rfl) ?_
            refine o_yield rfl rfl rfl (y_val tok rfl) ?_
            refine o_yield rfl rfl rfl (y_val tok rfl) ?_
            refine o_yield rfl rfl rfl (y_val tok rfl) ?_
            refine o_yield rfl rfl rfl (y_val tok rfl) ?_
            refine o_yield rfl rfl rfl (y_val tok rfl) ?_
            refine o_yield rfl rfl rfl (y_val tok rfl) ?_
            refine o_yield rfl rfl rfl (y_val tok rfl) ?_
            refine o_yield rfl rfl rfl (y_val tok rfl) ?_
            refine o_yield rfl rfl rfl (y_val tok rfl) ?_
            refine o_yield rfl rfl rfl (y_val tok rfl) ?_
            refine o_yield rfl rfl rfl (y_val tok rfl) ?_
            refine o_yield rfl rfl rfl (y_val tok rfl) ?_
            refine o_yield rfl rfl rfl (y_val tok rfl) ?_
            refine o_yield rfl rfl rfl (y_val tok rfl) ?_
            refine o_yield rfl rfl rfl (y_val tok rfl) ?_
            refine o_yield rfl rfl rfl (y_val tok rfl) ?_
            refine o_end [3, 93] rfl ?_
            refine x_then ?_
            refine c_cond rfl (fun h => ?_) (fun h => ?_)
            ·
              refine c_seq ?_
              refine c_region ?_
              refine o_yield rfl rfl rfl (y_val tok rfl) ?_
              refine o_end [6] rfl ?_
              refine x_then ?_
              refine c_ret ?_
              refine x_then_ret ?_
              refine b_ret tok rfl ?_
              exact (hcond h).elim
            ·
              clear h
              refine c_skip ?_
              refine x_then ?_
              refine c_seq ?_
              refine c_region ?_
              refine o_yield rfl rfl rfl (y_val tok rfl) ?_
              refine o_callV (FmtV g hd) rfl rfl fnok46 rfl rfl (fun hg E w1 hm => by exact fmtV_of hm.leV (sformat_c g ok hd hh1 _)) ?_
              rintro x V2 hle2 hx
              obtain ⟨a2, n2, c2, rfl, hf2⟩ := hx rfl
              clear hx
              refine o_yield rfl rfl rfl (y_val tok rfl) ?_
              refine o_yield rfl rfl rfl (y_val tok rfl) ?_
              refine o_yield rfl rfl rfl (y_val tok rfl) ?_
              refine o_yield rfl rfl rfl (y_val tok rfl) ?_
              refine o_yield rfl rfl rfl (y_val tok rfl) ?_
              refine o_end [3, 16, 17] rfl ?_
              refine x_then ?_
              refine c_seq ?_
              refine c_seq ?_
              refine c_region ?_
              refine o_yield rfl rfl rfl (y_val tok rfl) ?_
              refine o_yield rfl rfl rfl (y_val tok rfl) ?_
              refine o_end [3, 16, 17, 100] rfl ?_
              refine x_then ?_
              refine c_cond rfl (fun h => ?_) (fun h => ?_)
              ·
                have hg : geoB g = false := by
                  cases hq : geoB g with
                  | false => rfl
                  | true => rw [gbE, if_pos hq] at h; simp at h
                have hfn : fmtL g hd = [] := by rw [fmtL, if_neg (by simp [hg])]
                rw [hfn] at hf2
                clear h
                refine c_seq ?_
                refine c_region ?_
                refine o_yield rfl rfl rfl (y_val tok rfl) ?_
                refine o_yield rfl rfl rfl (y_val tok rfl) ?_
                refine o_yield rfl rfl rfl (y_val tok rfl) ?_
                refine o_yield rfl rfl rfl (y_val tok rfl) ?_
                refine o_yield rfl rfl rfl (y_len tok rfl (fun hg => hf2.sl)) ?_
                refine o_yield rfl rfl rfl (y_val tok rfl) ?_
                refine o_yield rfl rfl rfl (y_val tok rfl) ?_
                refine o_yield rfl rfl rfl (y_val tok rfl) ?_
                refine o_yield rfl rfl rfl (y_val tok rfl) ?_
                refine o_call (.a (.v _)) rfl rfl fnok14 rfl rfl rfl (fun hg E w1 hm => by exact refMay_c g ok _) ?_
                refine o_yield rfl rfl rfl (y_val tok rfl) ?_
                refine o_yield rfl rfl rfl (y_val tok rfl) ?_
                refine o_yield rfl rfl rfl (y_val tok rfl) ?_
                refine o_call (.a (.v _)) rfl rfl fnok45 rfl rfl rfl (fun hg E w1 hm => by exact wakes05_c _) ?_
                refine o_yield rfl rfl rfl (y_val tok rfl) ?_
                refine o_yield rfl rfl rfl (y_val tok rfl) ?_
                refine o_end [6] rfl ?_
                refine x_then ?_
                refine c_ret ?_
                refine x_then_ret ?_
                refine b_ret tok rfl ?_
                intro E w' hm _
                refine ⟨?_, hm.below (hle2)⟩
                rw [hg, gbE, if_neg (by simp [hg])]
                rfl
              ·
                have hg : geoB g = true := by
                  cases hq : geoB g with
                  | true => rfl
                  | false => rw [gbE, hq] at h; simp at h
                have hfn : fmtL g hd = fmtTo g (gbV g) hd g.slots.toNat := by rw [fmtL, if_pos hg]
                have hck : chkG (fmtL g hd) = some g := by rw [hfn]; exact fmt_chk hg hdt hdz
                have hsm : ∀ x ∈ fmtL g hd, x.size ≤ maxLen := by
                  intro x hx
                  rw [hfn] at hx
                  have := fmt_small (gbV_size g) hdz _ x hx
                  simp only [maxLen]; omega
                have hln : ((fmtL g hd).length : Int) = totV g := by
                  have hz := geo_sizes hg
                  have htt : totV g = dataAt g + g.blocks * g.per := by rw [totV, if_pos hg]
                  rw [hfn, fmtTo_len]; omega
                have hl4 := fmtL_len g hd
                have hv : chkV (fmtL g hd) = g := by rw [chkV, hck]; rfl
                have hx : chkE (fmtL g hd) = 0 := by rw [chkE, hck]; rfl
                have hck2 := fun w hV => schk_c V2 _ _ w hV hf2 (by omega) hsm
                rw [hv, hx] at hck2
                clear h
                refine c_skip ?_
                refine x_then ?_
                refine c_seq ?_
                refine c_region ?_
                refine o_yield rfl rfl rfl (y_val tok rfl) ?_
                refine o_call (.a (.v _)) rfl rfl fnok47 rfl rfl rfl (fun hg E w1 hm => by exact hck2 _ hm.leV) ?_
                refine o_yield rfl rfl rfl (y_val tok rfl) ?_
                refine o_yield rfl rfl rfl (y_val tok rfl) ?_
                refine o_yield rfl rfl rfl (y_val tok rfl) ?_
                refine o_new tok rfl rfl rfl rfl ?_
                refine o_store tok rfl rfl rfl (by first | exact ⟨trivial, trivial⟩ | (repeat' first | exact trivial | exact rfl | apply And.intro); done | simp [onesP, oneP, lk, Value.oneCell']) ?_
                refine o_yield rfl rfl rfl (y_val tok rfl) ?_
                refine o_end [3, 16, 18, 19] rfl ?_
                refine x_then ?_
                refine c_seq ?_
                refine c_region ?_
                refine o_yield rfl rfl rfl (y_val tok rfl) ?_
                refine o_yield rfl rfl rfl (y_val tok rfl) ?_
                refine o_yield rfl rfl rfl (y_val tok rfl) ?_
                refine o_yield rfl rfl rfl (y_val tok rfl) ?_
                refine o_yield rfl rfl rfl (y_val tok rfl) ?_
                refine o_yield rfl rfl rfl (y_seq (.bool (g.eqB g)) rfl (fun E w => geoEq _ _ w (.inl rfl))) ?_
                refine o_yield rfl rfl rfl (y_val tok rfl) ?_
                refine o_yield rfl rfl rfl (y_val tok rfl) ?_
                refine o_yield rfl rfl rfl (y_val tok rfl) ?_
                refine o_yield rfl rfl rfl (y_len tok rfl (fun hg => hf2.sl)) ?_
                refine o_yield rfl rfl rfl (y_val tok rfl) ?_
                refine o_call (.a (.v _)) rfl rfl fnok15 rfl rfl rfl (fun hg E w1 hm => by exact refTotal_c g ok _) ?_
                refine o_yield rfl rfl rfl (y_val tok rfl) ?_
                refine o_yield rfl rfl rfl (y_val tok rfl) ?_
                refine o_yield rfl rfl rfl (y_val tok rfl) ?_
                refine o_call (.a (.v _)) rfl rfl fnok45 rfl rfl rfl (fun hg E w1 hm => by exact wakes05_c _) ?_
                refine o_yield rfl rfl rfl (y_val tok rfl) ?_
                refine o_yield rfl rfl rfl (y_val tok rfl) ?_
                refine o_end [6] rfl ?_
                refine x_then ?_
                refine c_ret ?_
                refine b_ret tok rfl ?_
                intro E w' hm _
                refine ⟨?_, hm.below (hle2)⟩
                rw [Geo.eqB_refl, hln]
                simp
                rfl

        ·
          clear h
          refine c_skip ?_
          refine x_then ?_
          refine c_seq ?_
          refine c_region ?_
          refine o_yield rfl rfl rfl (y_val tok rfl) ?_
          refine o_call (.a (.v _)) rfl rfl fnok53 rfl rfl rfl (fun hg E w1 hm => by exact hshead _) ?_
          refine o_yield rfl rfl rfl (y_val tok rfl) ?_
          refine o_yield rfl rfl rfl (y_val tok rfl) ?_
          refine o_yield rfl rfl rfl (y_val tok rfl) ?_
          refine o_yield rfl rfl rfl (y_val tok rfl) ?_
          refine o_yield rfl rfl rfl (y_val tok rfl) ?_
          refine o_end [1, 3, 8, 14] rfl ?_
          refine x_then ?_
          refine c_seq ?_
          refine c_region ?_
          refine o_yield rfl rfl rfl (y_val tok rfl) ?_
          refine o_call (.a (.v _)) rfl rfl fnok52 rfl rfl rfl (fun hg E w1 hm => by exact stail_c t1 (by simp only [maxLen]; omega) _) ?_
          refine o_yield rfl rfl rfl (y_val tok rfl) ?_
          refine o_yield rfl rfl rfl (y_val tok rfl) ?_
          refine o_yield rfl rfl rfl (y_val tok rfl) ?_
          refine o_yield rfl rfl rfl (y_val tok rfl) ?_
          refine o_yield rfl rfl rfl (y_val tok rfl) ?_
          refine o_end [1, 3, 8, 11, 15] rfl ?_
          refine x_then ?_
          refine c_seq ?_
          refine c_seq ?_
          refine c_region ?_
          refine o_yield rfl rfl rfl (y_val tok rfl) ?_
          refine o_yield rfl rfl rfl (y_val tok rfl) ?_
          refine o_yield rfl rfl rfl (y_val tok rfl) ?_
          refine o_yield rfl rfl rfl (y_val tok rfl) ?_
          refine o_yield rfl rfl rfl (y_val tok rfl) ?_
          refine o_yield rfl rfl rfl (y_val tok rfl) ?_
          refine o_yield rfl rfl rfl (y_val tok rfl) ?_
          refine o_yield rfl rfl rfl (y_val tok rfl) ?_
          refine o_yield rfl rfl rfl (y_val tok rfl) ?_
          refine o_yield rfl rfl rfl (y_val tok rfl) ?_
          refine o_yield rfl rfl rfl (y_val tok rfl) ?_
          refine o_yield rfl rfl rfl (y_val tok rfl) ?_
          refine o_yield rfl rfl rfl (y_val tok rfl) ?_
          refine o_yield rfl rfl rfl (y_val tok rfl) ?_
          refine o_yield rfl rfl rfl (y_val tok rfl) ?_
          refine o_yield rfl rfl rfl (y_val tok rfl) ?_
          refine o_yield rfl rfl rfl (y_val tok rfl) ?_
          refine o_yield rfl rfl rfl (y_val tok rfl) ?_
          refine o_yield rfl rfl rfl (y_val tok rfl) ?_
          refine o_yield rfl rfl rfl (y_val tok rfl) ?_
          refine o_yield rfl rfl rfl (y_val tok rfl) ?_
          refine o_yield rfl rfl rfl (y_val tok rfl) ?_
          refine o_end [3, 93] rfl ?_
          refine x_then ?_
          refine c_cond rfl (fun h => ?_) (fun h => ?_)
          ·
            refine c_seq ?_
            refine c_region ?_
            refine o_yield rfl rfl rfl (y_val tok rfl) ?_
            refine o_end [6] rfl ?_
            refine x_then ?_
            refine c_ret ?_
            refine x_then_ret ?_
            refine b_ret tok rfl ?_
            exact (hcond h).elim
          ·
            clear h
            refine c_skip ?_
            refine x_then ?_
            refine c_seq ?_
            refine c_region ?_
            refine o_yield rfl rfl rfl (y_val tok rfl) ?_
            refine o_callV (FmtV g hd) rfl rfl fnok46 rfl rfl (fun hg E w1 hm => by exact fmtV_of hm.leV (sformat_c g ok hd hh1 _)) ?_
            rintro x V2 hle2 hx
            obtain ⟨a2, n2, c2, rfl, hf2⟩ := hx rfl
            clear hx
            refine o_yield rfl rfl rfl (y_val tok rfl) ?_
            refine o_yield rfl rfl rfl (y_val tok rfl) ?_
            refine o_yield rfl rfl rfl (y_val tok rfl) ?_
            refine o_yield rfl rfl rfl (y_val tok rfl) ?_
            refine o_yield rfl rfl rfl (y_val tok rfl) ?_
            refine o_end [3, 16, 17] rfl ?_
            refine x_then ?_
            refine c_seq ?_
            refine c_seq ?_
            refine c_region ?_
            refine o_yield rfl rfl rfl (y_val tok rfl) ?_
            refine o_yield rfl rfl rfl (y_val tok rfl) ?_
            refine o_end [3, 16, 17, 100] rfl ?_
            refine x_then ?_
            refine c_cond rfl (fun h => ?_) (fun h => ?_)
            ·
              have hg : geoB g = false := by
                cases hq : geoB g with
                | false => rfl
                | true => rw [gbE, if_pos hq] at h; simp at h
              have hfn : fmtL g hd = [] := by rw [fmtL, if_neg (by simp [hg])]
              rw [hfn] at hf2
              clear h
              refine c_seq ?_
              refine c_region ?_
              refine o_yield rfl rfl rfl (y_val tok rfl) ?_
              refine o_yield rfl rfl rfl (y_val tok rfl) ?_
              refine o_yield rfl rfl rfl (y_val tok rfl) ?_
              refine o_yield rfl rfl rfl (y_val tok rfl) ?_
              refine o_yield rfl rfl rfl (y_len tok rfl (fun hg => hf2.sl)) ?_
              refine o_yield rfl rfl rfl (y_val tok rfl) ?_
              refine o_yield rfl rfl rfl (y_val tok rfl) ?_
              refine o_yield rfl rfl rfl (y_val tok rfl) ?_
              refine o_yield rfl rfl rfl (y_val tok rfl) ?_
              refine o_call (.a (.v _)) rfl rfl fnok14 rfl rfl rfl (fun hg E w1 hm => by exact refMay_c g ok _) ?_
              refine o_yield rfl rfl rfl (y_val tok rfl) ?_
              refine o_yield rfl rfl rfl (y_val tok rfl) ?_
              refine o_yield rfl rfl rfl (y_val tok rfl) ?_
              refine o_call (.a (.v _)) rfl rfl fnok45 rfl rfl rfl (fun hg E w1 hm => by exact wakes05_c _) ?_
              refine o_yield rfl rfl rfl (y_val tok rfl) ?_
              refine o_yield rfl rfl rfl (y_val tok rfl) ?_
              refine o_end [6] rfl ?_
              refine x_then ?_
              refine c_ret ?_
              refine x_then_ret ?_
              refine b_ret tok rfl ?_
              intro E w' hm _
              refine ⟨?_, hm.below (hle2)⟩
              rw [hg, gbE, if_neg (by simp [hg])]
              rfl
            ·
              have hg : geoB g = true := by
                cases hq : geoB g with
                | true => rfl
                | false => rw [gbE, hq] at h; simp at h
              have hfn : fmtL g hd = fmtTo g (gbV g) hd g.slots.toNat := by rw [fmtL, if_pos hg]
              have hck : chkG (fmtL g hd) = some g := by rw [hfn]; exact fmt_chk hg hdt hdz
              have hsm : ∀ x ∈ fmtL g hd, x.size ≤ maxLen := by
                intro x hx
                rw [hfn] at hx
                have := fmt_small (gbV_size g) hdz _ x hx
                simp only [maxLen]; omega
              have hln : ((fmtL g hd).length : Int) = totV g := by
                have hz := geo_sizes hg
                have htt : totV g = dataAt g + g.blocks * g.per := by rw [totV, if_pos hg]
                rw [hfn, fmtTo_len]; omega
              have hl4 := fmtL_len g hd
              have hv : chkV (fmtL g hd) = g := by rw [chkV, hck]; rfl
              have hx : chkE (fmtL g hd) = 0 := by rw [chkE, hck]; rfl
              have hck2 := fun w hV => schk_c V2 _ _ w hV hf2 (by omega) hsm
              rw [hv, hx] at hck2
              clear h
              refine c_skip ?_
              refine x_then ?_
              refine c_seq ?_
              refine c_region ?_
              refine o_yield rfl rfl rfl (y_val tok rfl) ?_
              refine o_call (.a (.v _)) rfl rfl fnok47 rfl rfl rfl (fun hg E w1 hm => by exact hck2 _ hm.leV) ?_
              refine o_yield rfl rfl rfl (y_val tok rfl) ?_
              refine o_yield rfl rfl rfl (y_val tok rfl) ?_
              refine o_yield rfl rfl rfl (y_val tok rfl) ?_
              refine o_new tok rfl rfl rfl rfl ?_
              refine o_store tok rfl rfl rfl (by first | exact ⟨trivial, trivial⟩ | (repeat' first | exact trivial | exact rfl | apply And.intro); done | simp [onesP, oneP, lk, Value.oneCell']) ?_
              refine o_yield rfl rfl rfl (y_val tok rfl) ?_
              refine o_end [3, 16, 18, 19] rfl ?_
              refine x_then ?_
              refine c_seq ?_
              refine c_region ?_
              refine o_yield rfl rfl rfl (y_val tok rfl) ?_
              refine o_yield rfl rfl rfl (y_val tok rfl) ?_
              refine o_yield rfl rfl rfl (y_val tok rfl) ?_
              refine o_yield rfl rfl rfl (y_val tok rfl) ?_
              refine o_yield rfl rfl rfl (y_val tok rfl) ?_
              refine o_yield rfl rfl rfl (y_seq (.bool (g.eqB g)) rfl (fun E w => geoEq _ _ w (.inl rfl))) ?_
              refine o_yield rfl rfl rfl (y_val tok rfl) ?_
              refine o_yield rfl rfl rfl (y_val tok rfl) ?_
              refine o_yield rfl rfl rfl (y_val tok rfl) ?_
              refine o_yield rfl rfl rfl (y_len tok rfl (fun hg => hf2.sl)) ?_
              refine o_yield rfl rfl rfl (y_val tok rfl) ?_
              refine o_call (.a (.v _)) rfl rfl fnok15 rfl rfl rfl (fun hg E w1 hm => by exact refTotal_c g ok _) ?_
              refine o_yield rfl rfl rfl (y_val tok rfl) ?_
              refine o_yield rfl rfl rfl (y_val tok rfl) ?_
              refine o_yield rfl rfl rfl (y_val tok rfl) ?_
              refine o_call (.a (.v _)) rfl rfl fnok45 rfl rfl rfl (fun hg E w1 hm => by exact wakes05_c _) ?_
              refine o_yield rfl rfl rfl (y_val tok rfl) ?_
              refine o_yield rfl rfl rfl (y_val tok rfl) ?_
              refine o_end [6] rfl ?_
              refine x_then ?_
              refine c_ret ?_
              refine b_ret tok rfl ?_
              intro E w' hm _
              refine ⟨?_, hm.below (hle2)⟩
              rw [Geo.eqB_refl, hln]
              simp
              rfl

    ·
      clear h
      refine c_skip ?_
      refine x_then ?_
      refine c_seq ?_
      refine c_region ?_
      refine o_yield rfl rfl rfl (y_val tok rfl) ?_
      refine o_call (.a (.v _)) rfl rfl fnok52 rfl rfl rfl (fun hg E w1 hm => by exact stail_c s hs _) ?_
      refine o_yield rfl rfl rfl (y_val tok rfl) ?_
      refine o_yield rfl rfl rfl (y_val tok rfl) ?_
      refine o_yield rfl rfl rfl (y_val tok rfl) ?_
      refine o_yield rfl rfl rfl (y_val tok rfl) ?_
      refine o_yield rfl rfl rfl (y_val tok rfl) ?_
      refine o_end [1, 2, 3, 8, 11] rfl ?_
      refine x_then ?_
      refine c_seq ?_
      refine c_seq ?_
      refine c_region ?_
      refine o_yield rfl rfl rfl (y_val tok rfl) ?_
      refine o_yield rfl rfl rfl (y_val tok rfl) ?_
      refine o_end [1, 2, 3, 11, 49] rfl ?_
      refine x_then ?_
      refine c_cond rfl (fun h => ?_) (fun h => ?_)
      ·
        have hE : tailE s = 0 := by simpa using h
        obtain ⟨hi1, hi2, hi3⟩ := tail_inv (tailE_zero hE)
        have hshd := fun w => shead_c (tailV s) w
        rw [hi1] at hshd
        clear h
        refine c_seq ?_
        refine c_region ?_
        refine o_yield rfl rfl rfl (y_val tok rfl) ?_
        refine o_call (.a (.v _)) rfl rfl fnok53 rfl rfl rfl (fun hg E w1 hm => by exact hshd _) ?_
        refine o_yield rfl rfl rfl (y_val tok rfl) ?_
        refine o_yield rfl rfl rfl (y_val tok rfl) ?_
        refine o_yield rfl rfl rfl (y_val tok rfl) ?_
        refine o_yield rfl rfl rfl (y_val tok rfl) ?_
        refine o_yield rfl rfl rfl (y_val tok rfl) ?_
        refine o_end [1, 2, 3, 12, 13] rfl ?_
        refine x_then ?_
        refine c_seq ?_
        refine c_region ?_
        refine o_yield rfl rfl rfl (y_val tok rfl) ?_
        refine o_yield rfl rfl rfl (y_val tok rfl) ?_
        refine o_yield rfl rfl rfl (y_val tok rfl) ?_
        refine o_yield rfl rfl rfl (y_val tok rfl) ?_
        refine o_yield rfl rfl rfl (y_val tok rfl) ?_
        refine o_yield rfl rfl rfl (y_val tok rfl) ?_
        refine o_yield rfl rfl rfl (y_val tok rfl) ?_
        refine o_end [1, 3, 61] rfl ?_
        refine x_then ?_
        refine c_cond rfl (fun h => ?_) (fun h => ?_)
        ·
          refine c_seq ?_
          refine c_region ?_
          refine o_yield rfl rfl rfl (y_val tok rfl) ?_
          refine o_end [6] rfl ?_
          refine x_then ?_
          refine c_ret ?_
          refine x_then_ret ?_
          refine b_ret tok rfl ?_
          exact absurd h (by simp [ByteArray.toList_eq])
        ·
          refine c_skip ?_
          refine x_then ?_
          refine c_seq ?_
          refine c_region ?_
          refine o_yield rfl rfl rfl (y_val tok rfl) ?_
          refine o_call (.a (.v _)) rfl rfl fnok53 rfl rfl rfl (fun hg E w1 hm => by exact hshead _) ?_
          refine o_yield rfl rfl rfl (y_val tok rfl) ?_
          refine o_yield rfl rfl rfl (y_val tok rfl) ?_
          refine o_yield rfl rfl rfl (y_val tok rfl) ?_
          refine o_yield rfl rfl rfl (y_val tok rfl) ?_
          refine o_yield rfl rfl rfl (y_val tok rfl) ?_
          refine o_end [1, 3, 8, 14] rfl ?_
          refine x_then ?_
          refine c_seq ?_
          refine c_region ?_
          refine o_yield rfl rfl rfl (y_val tok rfl) ?_
          refine o_call (.a (.v _)) rfl rfl fnok52 rfl rfl rfl (fun hg E w1 hm => by exact stail_c t1 (by simp only [maxLen]; omega) _) ?_
          refine o_yield rfl rfl rfl (y_val tok rfl) ?_
          refine o_yield rfl rfl rfl (y_val tok rfl) ?_
          refine o_yield rfl rfl rfl (y_val tok rfl) ?_
          refine o_yield rfl rfl rfl (y_val tok rfl) ?_
          refine o_yield rfl rfl rfl (y_val tok rfl) ?_
          refine o_end [1, 3, 8, 11, 15] rfl ?_
          refine x_then ?_
          refine c_seq ?_
          refine c_seq ?_
          refine c_region ?_
          refine o_yield rfl rfl rfl (y_val tok rfl) ?_
          refine o_yield rfl rfl rfl (y_val tok rfl) ?_
          refine o_yield rfl rfl rfl (y_val tok rfl) ?_
          refine o_yield rfl rfl rfl (y_val tok rfl) ?_
          refine o_yield rfl rfl rfl (y_val tok rfl) ?_
          refine o_yield rfl rfl rfl (y_val tok rfl) ?_
          refine o_yield rfl rfl rfl (y_val tok rfl) ?_
          refine o_yield rfl rfl rfl (y_val tok rfl) ?_
          refine o_yield rfl rfl rfl (y_val tok rfl) ?_
          refine o_yield rfl rfl rfl (y_val tok rfl) ?_
          refine o_yield rfl rfl rfl (y_val tok rfl) ?_
          refine o_yield rfl rfl rfl (y_val tok rfl) ?_
          refine o_yield rfl rfl rfl (y_val tok rfl) ?_
          refine o_yield rfl rfl rfl (y_val tok rfl) ?_
          refine o_yield rfl rfl rfl (y_val tok rfl) ?_
          refine o_yield rfl rfl rfl (y_val tok rfl) ?_
          refine o_yield rfl rfl rfl (y_val tok rfl) ?_
          refine o_yield rfl rfl rfl (y_val tok rfl) ?_
          refine o_yield rfl rfl rfl (y_val tok rfl) ?_
          refine o_yield rfl rfl rfl (y_val tok rfl) ?_
          refine o_yield rfl rfl rfl (y_val tok rfl) ?_
          refine o_yield rfl rfl rfl (y_val tok rfl) ?_
          refine o_end [3, 93] rfl ?_
          refine x_then ?_
          refine c_cond rfl (fun h => ?_) (fun h => ?_)
          ·
            refine c_seq ?_
            refine c_region ?_
            refine o_yield rfl rfl rfl (y_val tok rfl) ?_
            refine o_end [6] rfl ?_
            refine x_then ?_
            refine c_ret ?_
            refine x_then_ret ?_
            refine b_ret tok rfl ?_
            exact (hcond h).elim
          ·
            clear h
            refine c_skip ?_
            refine x_then ?_
            refine c_seq ?_
            refine c_region ?_
            refine o_yield rfl rfl rfl (y_val tok rfl) ?_
            refine o_callV (FmtV g hd) rfl rfl fnok46 rfl rfl (fun hg E w1 hm => by exact fmtV_of hm.leV (sformat_c g ok hd hh1 _)) ?_
            rintro x V2 hle2 hx
            obtain ⟨a2, n2, c2, rfl, hf2⟩ := hx rfl
            clear hx
            refine o_yield rfl rfl rfl (y_val tok rfl) ?_
            refine o_yield rfl rfl rfl (y_val tok rfl) ?_
            refine o_yield rfl rfl rfl (y_val tok rfl) ?_
            refine o_yield rfl rfl rfl (y_val tok rfl) ?_
            refine o_yield rfl rfl rfl (y_val tok rfl) ?_
            refine o_end [3, 16, 17] rfl ?_
            refine x_then ?_
            refine c_seq ?_
            refine c_seq ?_
            refine c_region ?_
            refine o_yield rfl rfl rfl (y_val tok rfl) ?_
            refine o_yield rfl rfl rfl (y_val tok rfl) ?_
            refine o_end [3, 16, 17, 100] rfl ?_
            refine x_then ?_
            refine c_cond rfl (fun h => ?_) (fun h => ?_)
            ·
              have hg : geoB g = false := by
                cases hq : geoB g with
                | false => rfl
                | true => rw [gbE, if_pos hq] at h; simp at h
              have hfn : fmtL g hd = [] := by rw [fmtL, if_neg (by simp [hg])]
              rw [hfn] at hf2
              clear h
              refine c_seq ?_
              refine c_region ?_
              refine o_yield rfl rfl rfl (y_val tok rfl) ?_
              refine o_yield rfl rfl rfl (y_val tok rfl) ?_
              refine o_yield rfl rfl rfl (y_val tok rfl) ?_
              refine o_yield rfl rfl rfl (y_val tok rfl) ?_
              refine o_yield rfl rfl rfl (y_len tok rfl (fun hg => hf2.sl)) ?_
              refine o_yield rfl rfl rfl (y_val tok rfl) ?_
              refine o_yield rfl rfl rfl (y_val tok rfl) ?_
              refine o_yield rfl rfl rfl (y_val tok rfl) ?_
              refine o_yield rfl rfl rfl (y_val tok rfl) ?_
              refine o_call (.a (.v _)) rfl rfl fnok14 rfl rfl rfl (fun hg E w1 hm => by exact refMay_c g ok _) ?_
              refine o_yield rfl rfl rfl (y_val tok rfl) ?_
              refine o_yield rfl rfl rfl (y_val tok rfl) ?_
              refine o_yield rfl rfl rfl (y_val tok rfl) ?_
              refine o_call (.a (.v _)) rfl rfl fnok45 rfl rfl rfl (fun hg E w1 hm => by exact wakes05_c _) ?_
              refine o_yield rfl rfl rfl (y_val tok rfl) ?_
              refine o_yield rfl rfl rfl (y_val tok rfl) ?_
              refine o_end [6] rfl ?_
              refine x_then ?_
              refine c_ret ?_
              refine x_then_ret ?_
              refine b_ret tok rfl ?_
              intro E w' hm _
              refine ⟨?_, hm.below (hle2)⟩
              rw [hg, gbE, if_neg (by simp [hg])]
              rfl
            ·
              have hg : geoB g = true := by
                cases hq : geoB g with
                | true => rfl
                | false => rw [gbE, hq] at h; simp at h
              have hfn : fmtL g hd = fmtTo g (gbV g) hd g.slots.toNat := by rw [fmtL, if_pos hg]
              have hck : chkG (fmtL g hd) = some g := by rw [hfn]; exact fmt_chk hg hdt hdz
              have hsm : ∀ x ∈ fmtL g hd, x.size ≤ maxLen := by
                intro x hx
                rw [hfn] at hx
                have := fmt_small (gbV_size g) hdz _ x hx
                simp only [maxLen]; omega
              have hln : ((fmtL g hd).length : Int) = totV g := by
                have hz := geo_sizes hg
                have htt : totV g = dataAt g + g.blocks * g.per := by rw [totV, if_pos hg]
                rw [hfn, fmtTo_len]; omega
              have hl4 := fmtL_len g hd
              have hv : chkV (fmtL g hd) = g := by rw [chkV, hck]; rfl
              have hx : chkE (fmtL g hd) = 0 := by rw [chkE, hck]; rfl
              have hck2 := fun w hV => schk_c V2 _ _ w hV hf2 (by omega) hsm
              rw [hv, hx] at hck2
              clear h
              refine c_skip ?_
              refine x_then ?_
              refine c_seq ?_
              refine c_region ?_
              refine o_yield rfl rfl rfl (y_val tok rfl) ?_
              refine o_call (.a (.v _)) rfl rfl fnok47 rfl rfl rfl (fun hg E w1 hm => by exact hck2 _ hm.leV) ?_
              refine o_yield rfl rfl rfl (y_val tok rfl) ?_
              refine o_yield rfl rfl rfl (y_val tok rfl) ?_
              refine o_yield rfl rfl rfl (y_val tok rfl) ?_
              refine o_new tok rfl rfl rfl rfl ?_
              refine o_store tok rfl rfl rfl (by first | exact ⟨trivial, trivial⟩ | (repeat' first | exact trivial | exact rfl | apply And.intro); done | simp [onesP, oneP, lk, Value.oneCell']) ?_
              refine o_yield rfl rfl rfl (y_val tok rfl) ?_
              refine o_end [3, 16, 18, 19] rfl ?_
              refine x_then ?_
              refine c_seq ?_
              refine c_region ?_
              refine o_yield rfl rfl rfl (y_val tok rfl) ?_
              refine o_yield rfl rfl rfl (y_val tok rfl) ?_
              refine o_yield rfl rfl rfl (y_val tok rfl) ?_
              refine o_yield rfl rfl rfl (y_val tok rfl) ?_
              refine o_yield rfl rfl rfl (y_val tok rfl) ?_
              refine o_yield rfl rfl rfl (y_seq (.bool (g.eqB g)) rfl (fun E w => geoEq _ _ w (.inl rfl))) ?_
              refine o_yield rfl rfl rfl (y_val tok rfl) ?_
              refine o_yield rfl rfl rfl (y_val tok rfl) ?_
              refine o_yield rfl rfl rfl (y_val tok rfl) ?_
              refine o_yield rfl rfl rfl (y_len tok rfl (fun hg => hf2.sl)) ?_
              refine o_yield rfl rfl rfl (y_val tok rfl) ?_
              refine o_call (.a (.v _)) rfl rfl fnok15 rfl rfl rfl (fun hg E w1 hm => by exact refTotal_c g ok _) ?_
              refine o_yield rfl rfl rfl (y_val tok rfl) ?_
              refine o_yield rfl rfl rfl (y_val tok rfl) ?_
              refine o_yield rfl rfl rfl (y_val tok rfl) ?_
              refine o_call (.a (.v _)) rfl rfl fnok45 rfl rfl rfl (fun hg E w1 hm => by exact wakes05_c _) ?_
              refine o_yield rfl rfl rfl (y_val tok rfl) ?_
              refine o_yield rfl rfl rfl (y_val tok rfl) ?_
              refine o_end [6] rfl ?_
              refine x_then ?_
              refine c_ret ?_
              refine b_ret tok rfl ?_
              intro E w' hm _
              refine ⟨?_, hm.below (hle2)⟩
              rw [Geo.eqB_refl, hln]
              simp
              rfl

      ·
        clear h
        refine c_skip ?_
        refine x_then ?_
        refine c_seq ?_
        refine c_region ?_
        refine o_yield rfl rfl rfl (y_val tok rfl) ?_
        refine o_call (.a (.v _)) rfl rfl fnok53 rfl rfl rfl (fun hg E w1 hm => by exact hshead _) ?_
        refine o_yield rfl rfl rfl (y_val tok rfl) ?_
        refine o_yield rfl rfl rfl (y_val tok rfl) ?_
        refine o_yield rfl rfl rfl (y_val tok rfl) ?_
        refine o_yield rfl rfl rfl (y_val tok rfl) ?_
        refine o_yield rfl rfl rfl (y_val tok rfl) ?_
        refine o_end [1, 3, 8, 14] rfl ?_
        refine x_then ?_
        refine c_seq ?_
        refine c_region ?_
        refine o_yield rfl rfl rfl (y_val tok rfl) ?_
        refine o_call (.a (.v _)) rfl rfl fnok52 rfl rfl rfl (fun hg E w1 hm => by exact stail_c t1 (by simp only [maxLen]; omega) _) ?_
        refine o_yield rfl rfl rfl (y_val tok rfl) ?_
        refine o_yield rfl rfl rfl (y_val tok rfl) ?_
        refine o_yield rfl rfl rfl (y_val tok rfl) ?_
        refine o_yield rfl rfl rfl (y_val tok rfl) ?_
        refine o_yield rfl rfl rfl (y_val tok rfl) ?_
        refine o_end [1, 3, 8, 11, 15] rfl ?_
        refine x_then ?_
        refine c_seq ?_
        refine c_seq ?_
        refine c_region ?_
        refine o_yield rfl rfl rfl (y_val tok rfl) ?_
        refine o_yield rfl rfl rfl (y_val tok rfl) ?_
        refine o_yield rfl rfl rfl (y_val tok rfl) ?_
        refine o_yield rfl rfl rfl (y_val tok rfl) ?_
        refine o_yield rfl rfl rfl (y_val tok rfl) ?_
        refine o_yield rfl rfl rfl (y_val tok rfl) ?_
        refine o_yield rfl rfl rfl (y_val tok rfl) ?_
        refine o_yield rfl rfl rfl (y_val tok rfl) ?_
        refine o_yield rfl rfl rfl (y_val tok rfl) ?_
        refine o_yield rfl rfl rfl (y_val tok rfl) ?_
        refine o_yield rfl rfl rfl (y_val tok rfl) ?_
        refine o_yield rfl rfl rfl (y_val tok rfl) ?_
        refine o_yield rfl rfl rfl (y_val tok rfl) ?_
        refine o_yield rfl rfl rfl (y_val tok rfl) ?_
        refine o_yield rfl rfl rfl (y_val tok rfl) ?_
        refine o_yield rfl rfl rfl (y_val tok rfl) ?_
        refine o_yield rfl rfl rfl (y_val tok rfl) ?_
        refine o_yield rfl rfl rfl (y_val tok rfl) ?_
        refine o_yield rfl rfl rfl (y_val tok rfl) ?_
        refine o_yield rfl rfl rfl (y_val tok rfl) ?_
        refine o_yield rfl rfl rfl (y_val tok rfl) ?_
        refine o_yield rfl rfl rfl (y_val tok rfl) ?_
        refine o_end [3, 93] rfl ?_
        refine x_then ?_
        refine c_cond rfl (fun h => ?_) (fun h => ?_)
        ·
          refine c_seq ?_
          refine c_region ?_
          refine o_yield rfl rfl rfl (y_val tok rfl) ?_
          refine o_end [6] rfl ?_
          refine x_then ?_
          refine c_ret ?_
          refine x_then_ret ?_
          refine b_ret tok rfl ?_
          exact (hcond h).elim
        ·
          clear h
          refine c_skip ?_
          refine x_then ?_
          refine c_seq ?_
          refine c_region ?_
          refine o_yield rfl rfl rfl (y_val tok rfl) ?_
          refine o_callV (FmtV g hd) rfl rfl fnok46 rfl rfl (fun hg E w1 hm => by exact fmtV_of hm.leV (sformat_c g ok hd hh1 _)) ?_
          rintro x V2 hle2 hx
          obtain ⟨a2, n2, c2, rfl, hf2⟩ := hx rfl
          clear hx
          refine o_yield rfl rfl rfl (y_val tok rfl) ?_
          refine o_yield rfl rfl rfl (y_val tok rfl) ?_
          refine o_yield rfl rfl rfl (y_val tok rfl) ?_
          refine o_yield rfl rfl rfl (y_val tok rfl) ?_
          refine o_yield rfl rfl rfl (y_val tok rfl) ?_
          refine o_end [3, 16, 17] rfl ?_
          refine x_then ?_
          refine c_seq ?_
          refine c_seq ?_
          refine c_region ?_
          refine o_yield rfl rfl rfl (y_val tok rfl) ?_
          refine o_yield rfl rfl rfl (y_val tok rfl) ?_
          refine o_end [3, 16, 17, 100] rfl ?_
          refine x_then ?_
          refine c_cond rfl (fun h => ?_) (fun h => ?_)
          ·
            have hg : geoB g = false := by
              cases hq : geoB g with
              | false => rfl
              | true => rw [gbE, if_pos hq] at h; simp at h
            have hfn : fmtL g hd = [] := by rw [fmtL, if_neg (by simp [hg])]
            rw [hfn] at hf2
            clear h
            refine c_seq ?_
            refine c_region ?_
            refine o_yield rfl rfl rfl (y_val tok rfl) ?_
            refine o_yield rfl rfl rfl (y_val tok rfl) ?_
            refine o_yield rfl rfl rfl (y_val tok rfl) ?_
            refine o_yield rfl rfl rfl (y_val tok rfl) ?_
            refine o_yield rfl rfl rfl (y_len tok rfl (fun hg => hf2.sl)) ?_
            refine o_yield rfl rfl rfl (y_val tok rfl) ?_
            refine o_yield rfl rfl rfl (y_val tok rfl) ?_
            refine o_yield rfl rfl rfl (y_val tok rfl) ?_
            refine o_yield rfl rfl rfl (y_val tok rfl) ?_
            refine o_call (.a (.v _)) rfl rfl fnok14 rfl rfl rfl (fun hg E w1 hm => by exact refMay_c g ok _) ?_
            refine o_yield rfl rfl rfl (y_val tok rfl) ?_
            refine o_yield rfl rfl rfl (y_val tok rfl) ?_
            refine o_yield rfl rfl rfl (y_val tok rfl) ?_
            refine o_call (.a (.v _)) rfl rfl fnok45 rfl rfl rfl (fun hg E w1 hm => by exact wakes05_c _) ?_
            refine o_yield rfl rfl rfl (y_val tok rfl) ?_
            refine o_yield rfl rfl rfl (y_val tok rfl) ?_
            refine o_end [6] rfl ?_
            refine x_then ?_
            refine c_ret ?_
            refine x_then_ret ?_
            refine b_ret tok rfl ?_
            intro E w' hm _
            refine ⟨?_, hm.below (hle2)⟩
            rw [hg, gbE, if_neg (by simp [hg])]
            rfl
          ·
            have hg : geoB g = true := by
              cases hq : geoB g with
              | true => rfl
              | false => rw [gbE, hq] at h; simp at h
            have hfn : fmtL g hd = fmtTo g (gbV g) hd g.slots.toNat := by rw [fmtL, if_pos hg]
            have hck : chkG (fmtL g hd) = some g := by rw [hfn]; exact fmt_chk hg hdt hdz
            have hsm : ∀ x ∈ fmtL g hd, x.size ≤ maxLen := by
              intro x hx
              rw [hfn] at hx
              have := fmt_small (gbV_size g) hdz _ x hx
              simp only [maxLen]; omega
            have hln : ((fmtL g hd).length : Int) = totV g := by
              have hz := geo_sizes hg
              have htt : totV g = dataAt g + g.blocks * g.per := by rw [totV, if_pos hg]
              rw [hfn, fmtTo_len]; omega
            have hl4 := fmtL_len g hd
            have hv : chkV (fmtL g hd) = g := by rw [chkV, hck]; rfl
            have hx : chkE (fmtL g hd) = 0 := by rw [chkE, hck]; rfl
            have hck2 := fun w hV => schk_c V2 _ _ w hV hf2 (by omega) hsm
            rw [hv, hx] at hck2
            clear h
            refine c_skip ?_
            refine x_then ?_
            refine c_seq ?_
            refine c_region ?_
            refine o_yield rfl rfl rfl (y_val tok rfl) ?_
            refine o_call (.a (.v _)) rfl rfl fnok47 rfl rfl rfl (fun hg E w1 hm => by exact hck2 _ hm.leV) ?_
            refine o_yield rfl rfl rfl (y_val tok rfl) ?_
            refine o_yield rfl rfl rfl (y_val tok rfl) ?_
            refine o_yield rfl rfl rfl (y_val tok rfl) ?_
            refine o_new tok rfl rfl rfl rfl ?_
            refine o_store tok rfl rfl rfl (by first | exact ⟨trivial, trivial⟩ | (repeat' first | exact trivial | exact rfl | apply And.intro); done | simp [onesP, oneP, lk, Value.oneCell']) ?_
            refine o_yield rfl rfl rfl (y_val tok rfl) ?_
            refine o_end [3, 16, 18, 19] rfl ?_
            refine x_then ?_
            refine c_seq ?_
            refine c_region ?_
            refine o_yield rfl rfl rfl (y_val tok rfl) ?_
            refine o_yield rfl rfl rfl (y_val tok rfl) ?_
            refine o_yield rfl rfl rfl (y_val tok rfl) ?_
            refine o_yield rfl rfl rfl (y_val tok rfl) ?_
            refine o_yield rfl rfl rfl (y_val tok rfl) ?_
            refine o_yield rfl rfl rfl (y_seq (.bool (g.eqB g)) rfl (fun E w => geoEq _ _ w (.inl rfl))) ?_
            refine o_yield rfl rfl rfl (y_val tok rfl) ?_
            refine o_yield rfl rfl rfl (y_val tok rfl) ?_
            refine o_yield rfl rfl rfl (y_val tok rfl) ?_
            refine o_yield rfl rfl rfl (y_len tok rfl (fun hg => hf2.sl)) ?_
            refine o_yield rfl rfl rfl (y_val tok rfl) ?_
            refine o_call (.a (.v _)) rfl rfl fnok15 rfl rfl rfl (fun hg E w1 hm => by exact refTotal_c g ok _) ?_
            refine o_yield rfl rfl rfl (y_val tok rfl) ?_
            refine o_yield rfl rfl rfl (y_val tok rfl) ?_
            refine o_yield rfl rfl rfl (y_val tok rfl) ?_
            refine o_call (.a (.v _)) rfl rfl fnok45 rfl rfl rfl (fun hg E w1 hm => by exact wakes05_c _) ?_
            refine o_yield rfl rfl rfl (y_val tok rfl) ?_
            refine o_yield rfl rfl rfl (y_val tok rfl) ?_
            refine o_end [6] rfl ?_
            refine x_then ?_
            refine c_ret ?_
            refine b_ret tok rfl ?_
            intro E w' hm _
            refine ⟨?_, hm.below (hle2)⟩
            rw [Geo.eqB_refl, hln]
            simp
            rfl
end Go.Proofs.Ytflimioplnbopaa
