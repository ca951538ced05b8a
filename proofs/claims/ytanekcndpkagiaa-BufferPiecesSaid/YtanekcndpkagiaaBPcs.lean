import Derived.Test.YtanekcndpkagiaaMFetP
/- A text's pieces: the document's, and the law. -/
set_option linter.unusedVariables false
set_option linter.unusedSimpArgs false
set_option maxRecDepth 100000
namespace Go.Proofs.Ytanekcndpkagiaa
open Go Go.Eng Go.RowKit

theorem pieceL_succ (t : ByteArray) (k : Nat) : pieceL (k + 1) t = pieceL k t ++ [pieceAt t k] := by simp [pieceL, List.range_succ]
theorem pieceL_len (t : ByteArray) (k : Nat) : (pieceL k t).length = k := by simp [pieceL]
theorem pieceL_at {t : ByteArray} {per i : Nat} {p : ByteArray} (h : (pieceL per t)[i]? = some p) : p = pieceAt t i := by
  have hi : i < per := by
    have := (List.getElem?_eq_some_iff.1 h).1
    rwa [pieceL_len] at this
  simp only [pieceL, List.getElem?_map, List.getElem?_range hi, Option.map_some, Option.some.injEq] at h
  exact h.symm

theorem refPieces_c (g : Geo) (ok : g.Ok) (text : ByteArray) (w : World) (ht : text.size ≤ maxLen) : Calls Try.prog 28 #[g.val, S text] w (PcPost g text w) := by
  have ht0 := ht
  simp only [maxLen] at ht
  refine enter (E := E0) (O := []) (nl := 0) (V := vw w) [.a (.v g.val), .a (.v (S text))] Try.func28 rfl rfl (mem0 E0 0 w) rfl rfl ?_
  refine c_seq ?_
  refine c_region ?_
  refine o_new tok rfl rfl rfl rfl ?_
  refine o_yield rfl rfl rfl (y_val tok rfl) ?_
  refine o_yield rfl rfl rfl (y_val tok rfl) ?_
  refine o_end [1, 2] rfl ?_
  refine x_then ?_
  refine c_seq ?_
  refine c_seq ?_
  refine c_region ?_
  refine o_yield rfl rfl rfl (y_val tok rfl) ?_
  refine o_call (.a (.v _)) rfl rfl fnok47 rfl rfl rfl (fun hg E w1 hm => by exact refMay_c g ok _) ?_
  refine o_yield rfl rfl rfl (y_val tok rfl) ?_
  refine o_end [1, 2, 10] rfl ?_
  refine x_then ?_
  refine c_cond rfl (fun h => ?_) (fun h => ?_)
  ·
    simp only [Bool.and_eq_true, Bool.or_eq_true, Bool.not_eq_true', Bool.or_eq_false_iff, Bool.and_eq_false_iff, decide_eq_true_eq, decide_eq_false_iff_not, beq_iff_eq, bne_iff_ne, Bool.not_eq_false', beq_eq_false_iff_ne, bne_eq_false_iff_eq, ne_eq, Decidable.not_not, Int.not_lt, Int.not_le] at h
    refine c_seq ?_
    refine c_region ?_
    refine o_yield rfl rfl rfl (y_val tok rfl) ?_
    refine o_yield rfl rfl rfl (y_val tok rfl) ?_
    refine o_end [4, 5] rfl ?_
    refine x_then ?_
    refine c_ret ?_
    refine x_then_ret ?_
    refine b_ret tok rfl ?_
    intro E w' hm _
    exact ⟨.inr (.inl ⟨h, rfl⟩), hm.below (Vw.le.refl _)⟩
  ·
    simp only [Bool.and_eq_true, Bool.or_eq_true, Bool.not_eq_true', Bool.or_eq_false_iff, Bool.and_eq_false_iff, decide_eq_true_eq, decide_eq_false_iff_not, beq_iff_eq, bne_iff_ne, Bool.not_eq_false', beq_eq_false_iff_ne, bne_eq_false_iff_eq, ne_eq, Decidable.not_not, Int.not_lt, Int.not_le] at h
    have hgg := h
    have hf := geo_facts hgg
    obtain ⟨per, hper⟩ : ∃ per : Nat, g.per = per := ⟨g.per.toNat, by omega⟩
    have hpn : g.per.toNat = per := by omega
    have hwp : IntKind.i64.wrap (g.per * 256) = g.per * 256 := wrapI (by omega) (by omega)
    clear h
    refine c_skip ?_
    refine x_then ?_
    refine c_seq ?_
    refine c_seq ?_
    refine c_region ?_
    refine o_yield rfl rfl rfl (y_val tok rfl) ?_
    refine o_yield rfl rfl rfl (y_val tok rfl) ?_
    refine o_yield rfl rfl rfl (y_val tok rfl) ?_
    refine o_yield rfl rfl rfl (y_val tok rfl) ?_
    refine o_yield rfl rfl rfl (y_val tok rfl) ?_
    refine o_yield rfl rfl rfl (y_val tok rfl) ?_
    refine o_end [1, 2, 16] rfl ?_
    refine x_then ?_
    refine c_cond rfl (fun h => ?_) (fun h => ?_)
    ·
      simp only [Bool.and_eq_true, Bool.or_eq_true, Bool.not_eq_true', Bool.or_eq_false_iff, Bool.and_eq_false_iff, decide_eq_true_eq, decide_eq_false_iff_not, beq_iff_eq, bne_iff_ne, Bool.not_eq_false', beq_eq_false_iff_ne, bne_eq_false_iff_eq, ne_eq, Decidable.not_not, Int.not_lt, Int.not_le] at h
      refine c_seq ?_
      refine c_region ?_
      refine o_yield rfl rfl rfl (y_val tok rfl) ?_
      refine o_yield rfl rfl rfl (y_val tok rfl) ?_
      refine o_end [4, 5] rfl ?_
      refine x_then ?_
      refine c_ret ?_
      refine x_then_ret ?_
      refine b_ret tok rfl ?_
      rw [hwp] at h
      intro E w' hm _
      exact ⟨.inr (.inr ⟨hgg, h, rfl⟩), hm.below (Vw.le.refl _)⟩
    ·
      simp only [Bool.and_eq_true, Bool.or_eq_true, Bool.not_eq_true', Bool.or_eq_false_iff, Bool.and_eq_false_iff, decide_eq_true_eq, decide_eq_false_iff_not, beq_iff_eq, bne_iff_ne, Bool.not_eq_false', beq_eq_false_iff_ne, bne_eq_false_iff_eq, ne_eq, Decidable.not_not, Int.not_lt, Int.not_le] at h
      rw [hwp] at h
      have hle := h
      clear h
      refine c_skip ?_
      refine x_then ?_
      refine c_seq ?_
      refine c_region ?_
      refine o_yield rfl rfl rfl (y_val tok rfl) ?_
      refine o_end [1, 2, 6] rfl ?_
      refine x_then ?_
      refine c_seq ?_
      refine c_seq ?_
      refine c_region ?_
      refine o_yield rfl rfl rfl (y_val tok rfl) ?_
      refine o_end [1, 2, 6, 7] rfl ?_
      refine x_then ?_
      refine c_block ?_
      refine k_nil 6 9 1 rfl rfl ?_
      have e0 : pieceL 0 text = [] := rfl
      refine c_loopK [1, 2] [1, 0] rfl rfl (σ := Nat) (fun k => [(6, .a (.row 1)), (7, .a (.v (I k)))]) (fun k => [(1, .row 9 1 (pieceL k text).length ((pieceL k text).flatMap encS)), (0, .lit (g.cells.map .v) 29)]) (fun k => k ≤ per) (fun k => per - k) (0) (by omega) (by repeat (first | exact SubF.nil | refine SubF.cons rfl ?_ | refine SubF.cons (by simp only [e0]; first | done | rfl) ?_)) (by repeat (first | exact SubO.nil | refine SubO.cons rfl ?_ | refine SubO.cons (by simp only [e0]; first | done | rfl) ?_)) rfl ?_
      rintro k hk
      refine c_seq ?_
      refine c_seq ?_
      refine c_region ?_
      refine o_yield rfl rfl rfl (y_val tok rfl) ?_
      refine o_yield rfl rfl rfl (y_val tok rfl) ?_
      refine o_yield rfl rfl rfl (y_val tok rfl) ?_
      refine o_yield rfl rfl rfl (y_val tok rfl) ?_
      refine o_end [1, 2, 6, 7, 20] rfl ?_
      refine x_then ?_
      refine c_cond rfl (fun h => ?_) (fun h => ?_)
      ·
        simp only [Bool.and_eq_true, Bool.or_eq_true, Bool.not_eq_true', Bool.or_eq_false_iff, Bool.and_eq_false_iff, decide_eq_true_eq, decide_eq_false_iff_not, beq_iff_eq, bne_iff_ne, Bool.not_eq_false', beq_eq_false_iff_ne, bne_eq_false_iff_eq, ne_eq, Decidable.not_not, Int.not_lt, Int.not_le] at h
        refine c_skip ?_
        refine x_then ?_
        refine c_seq ?_
        refine c_block ?_
        refine c_region ?_
        refine o_yield rfl rfl rfl (y_val tok rfl) ?_
        refine o_yield rfl rfl rfl (y_val tok rfl) ?_
        refine o_yield rfl rfl rfl (y_val tok rfl) ?_
        have hl1 : (pieceL k text).length + 1 = (pieceL (k + 1) text).length := by rw [pieceL_len, pieceL_len]
        refine o_call (.a (.v _)) rfl rfl fnok91 rfl rfl rfl (fun hg E w1 hm => by exact refPiece_c text k (by omega) ht0 _) ?_
        refine o_step rfl rfl rfl rfl rfl (s_bs tok 1 rfl rfl rfl) (fun _ _ => ?_)
        refine o_step rfl rfl rfl rfl rfl (s_app tok ([pieceAt text k].flatMap encS) rfl (fun E w hm => ownsRow_src (hm.row _ _ _ _ _ rfl)) (fun _ _ _ => str_ones _) (by dsimp only; rw [pieceL_len]; omega)) (fun _ _ => ?_)
        refine o_yield rfl rfl rfl (y_val tok rfl) ?_
        refine o_end [1, 2, 6, 7] rfl ?_
        refine x_block ?_
        refine x_then ?_
        refine c_region ?_
        refine o_yield rfl rfl rfl (y_val tok rfl) ?_
        refine o_yield rfl rfl rfl (y_val tok rfl) ?_
        refine o_yield rfl rfl rfl (y_val tok rfl) ?_
        refine o_end [1, 2, 6, 7] rfl ?_
        refine x_then ?_
        rw [hl1, ← List.flatMap_append, ← pieceL_succ, wrapI (n := (k : Int) + 1) (by omega) (by omega)]
        refine k_swap 1 3 rfl ?_
        refine x_round (k + 1) (by omega) (by first | omega | (dsimp only; omega)) (by repeat (first | exact SubF.nil | refine SubF.cons rfl ?_)) (by repeat (first | exact SubO.nil | refine SubO.cons rfl ?_)) rfl (Vw.le.refl _)
      ·
        simp only [Bool.and_eq_true, Bool.or_eq_true, Bool.not_eq_true', Bool.or_eq_false_iff, Bool.and_eq_false_iff, decide_eq_true_eq, decide_eq_false_iff_not, beq_iff_eq, bne_iff_ne, Bool.not_eq_false', beq_eq_false_iff_ne, bne_eq_false_iff_eq, ne_eq, Decidable.not_not, Int.not_lt, Int.not_le] at h
        refine c_exit ?_
        refine x_then_exit ?_
        refine x_then_exit ?_
        refine x_block_hit ?_
        refine x_then ?_
        refine c_seq ?_
        refine c_region ?_
        refine o_yield rfl rfl rfl (y_val tok rfl) ?_
        refine o_yield rfl rfl rfl (y_val tok rfl) ?_
        refine o_yield rfl rfl rfl (y_val tok rfl) ?_
        refine o_end [4, 5] rfl ?_
        refine x_then ?_
        refine c_ret ?_
        refine b_ret tok rfl ?_
        have hkp : k = per := by omega
        subst hkp
        intro E w' hm _
        refine ⟨.inl ⟨hgg, hle, E.κ 1, rfl, ?_⟩, hm.below (Vw.le.refl _)⟩
        rw [hpn]
        exact hm.rowFresh (Vw.le.refl _) (l := 1) rfl

def pcE (g : Geo) (text : ByteArray) : Int := if geoB g = false then 2 else if g.per * 256 < (text.size : Int) then 60 else 0
def pcL (g : Geo) (text : ByteArray) : List ByteArray := if pcE g text = 0 then pieceL g.per.toNat text else []

theorem PcPost.vw {V : Vw} {g : Geo} {text : ByteArray} {w w' : World} {e : Ending} (hV : V.le (vw w)) (h : PcPost g text w e w') :
    ∃ x V', e = .returned x ∧ Below w.heap.size w w' ∧ Vext w.heap.size V V' w' ∧ ∃ a n c, x = .tuple #[.slice a n c, I (pcE g text)] ∧ SlOf V' encS 1 (.slice a n c) (pcL g text) := by
  obtain ⟨h | h | h, hb⟩ := h
  · obtain ⟨h1, h2, v, rfl, hrow⟩ := h
    obtain ⟨V', hx, hsl⟩ := ownsRow_vext hV hb hrow
    obtain ⟨a, n, c, rfl⟩ := sl_shape hsl
    have he : pcE g text = 0 := by rw [pcE, if_neg (by rw [h1]; simp), if_neg (by omega)]
    exact ⟨_, V', rfl, hb, hx, a, n, c, by rw [he], by rw [pcL, if_pos he]; exact ⟨hsl, fun _ => rfl⟩⟩
  · obtain ⟨h1, rfl⟩ := h
    have he : pcE g text = 2 := by rw [pcE, if_pos h1]
    exact ⟨_, V, rfl, hb, Vext.same hV hb, none, 0, 0, by rw [he], by rw [pcL, if_neg (by rw [he]; decide)]; exact slNil _ _ _ _ (fun _ => rfl)⟩
  · obtain ⟨h1, h2, rfl⟩ := h
    have he : pcE g text = 60 := by rw [pcE, if_neg (by rw [h1]; simp), if_pos h2]
    exact ⟨_, V, rfl, hb, Vext.same hV hb, none, 0, 0, by rw [he], by rw [pcL, if_neg (by rw [he]; decide)]; exact slNil _ _ _ _ (fun _ => rfl)⟩

theorem catL_pieces (t : ByteArray) : ∀ k, catL (pieceL k t) = t.data.toList.take (256 * k)
  | 0 => rfl
  | k + 1 => by
    rw [pieceL_succ, catL, List.flatMap_append, ← catL, catL_pieces t k]
    simp only [List.flatMap_cons, List.flatMap_nil, List.append_nil, piece_list]
    rw [← List.take_add]
    congr 1

theorem catS_pieces {t : ByteArray} {per : Nat} (h : t.size ≤ 256 * per) : catS (pieceL per t) = t := by
  rw [catS, catL_pieces, List.take_of_length_le (by have := size_list t; omega)]
  exact strOf_data t

theorem bjoin_c (V : Vw) (sv : Value) (l : List ByteArray) (w : World) (hV : V.le (vw w)) (hs0 : SlOf V encS 1 sv l) (hn : l.length ≤ 140737488355328) (hc : (catL l).length ≤ 140737488355328) :
    Calls Try.prog 29 #[sv] w fun e w' => e = .returned (S (catS l)) ∧ Below w.heap.size w w' := by
  obtain ⟨a, n, c, rfl⟩ := sl_shape hs0.sl
  have hs := hs0.mono hV
  refine enter (E := E0) (O := []) (nl := 0) (V := vw w) [.a (.v (.slice a n c))] Try.func29 rfl rfl (mem0 E0 0 w) rfl rfl ?_
  refine c_seq ?_
  refine c_region ?_
  refine o_yield rfl rfl rfl (y_val tok rfl) ?_
  refine o_end [0] rfl ?_
  refine x_then ?_
  refine c_seq ?_
  refine c_region ?_
  refine o_yield rfl rfl rfl (y_val tok rfl) ?_
  refine o_call (.a (.v _)) rfl rfl fnok92 rfl rfl rfl (fun hg E w1 hm => by exact join_c (vw w) _ l _ hm.leV hs hn hc) ?_
  refine o_yield rfl rfl rfl (y_val tok rfl) ?_
  refine o_end [2] rfl ?_
  refine x_then ?_
  refine c_ret ?_
  refine b_ret tok rfl ?_
  intro E w' hm _
  refine ⟨?_, hm.below (Vw.le.refl _)⟩
  rfl

theorem empty_of {p : ByteArray} (h : p.size = 0) : p = ⟨#[]⟩ := by
  obtain ⟨d⟩ := p
  simp only [ByteArray.size] at h
  have : d = #[] := by simpa using h
  rw [this]

theorem catL_pc (g : Geo) (t : ByteArray) : (catL (pcL g t)).length ≤ t.size := by
  unfold pcL
  split
  · rw [catL_pieces, List.length_take, size_list]; omega
  · simp [catL]

theorem bufferPieces_law (w : World) {v0 v1 : Value} (R0 : ∃ g : Geo, v0 = g.val ∧ g.Ok) (R1 : ∃ s : ByteArray, v1 = .string s ∧ s.size ≤ maxLen) :
    Calls Try.prog 6 #[v0, v1] w fun e w' => e = .returned (.bool true) ∧ Below w.heap.size w w' := by
  obtain ⟨g, rfl, ok⟩ := R0
  obtain ⟨t, rfl, ht⟩ := R1
  refine enter (E := E0) (O := []) (nl := 0) (V := vw w) [.a (.v g.val), .a (.v (S t))] Try.func6 rfl rfl (mem0 E0 0 w) rfl rfl ?_
  refine c_seq ?_
  refine c_region ?_
  refine o_new tok rfl rfl rfl rfl ?_
  refine o_yield rfl rfl rfl (y_val tok rfl) ?_
  refine o_end [1, 2] rfl ?_
  refine x_then ?_
  refine c_seq ?_
  refine c_seq ?_
  refine c_region ?_
  refine o_yield rfl rfl rfl (y_val tok rfl) ?_
  refine o_yield rfl rfl rfl (y_val tok rfl) ?_
  refine o_yield rfl rfl rfl (y_val tok rfl) ?_
  refine o_end [1, 2, 12] rfl ?_
  refine x_then ?_
  refine c_cond rfl (fun h => ?_) (fun h => ?_)
  ·
    simp only [Bool.and_eq_true, Bool.or_eq_true, Bool.not_eq_true', Bool.or_eq_false_iff, Bool.and_eq_false_iff, decide_eq_true_eq, decide_eq_false_iff_not, beq_iff_eq, bne_iff_ne, Bool.not_eq_false', beq_eq_false_iff_ne, bne_eq_false_iff_eq, ne_eq, Decidable.not_not, Int.not_lt, Int.not_le] at h
    refine c_seq ?_
    refine c_region ?_
    refine o_call (.a (.v _)) rfl rfl fnok19 rfl rfl rfl (fun hg E w1 hm => by exact wakes18_c _) ?_
    refine o_yield rfl rfl rfl (y_val tok rfl) ?_
    refine o_end [4] rfl ?_
    refine x_then ?_
    refine c_ret ?_
    refine x_then_ret ?_
    refine b_ret tok rfl ?_
    intro E w' hm _
    refine ⟨?_, hm.below (Vw.le.refl _)⟩
    rfl
  ·
    simp only [Bool.and_eq_true, Bool.or_eq_true, Bool.not_eq_true', Bool.or_eq_false_iff, Bool.and_eq_false_iff, decide_eq_true_eq, decide_eq_false_iff_not, beq_iff_eq, bne_iff_ne, Bool.not_eq_false', beq_eq_false_iff_ne, bne_eq_false_iff_eq, ne_eq, Decidable.not_not, Int.not_lt, Int.not_le] at h
    have h5 : t.size ≤ 5000 := by omega
    clear h
    refine c_skip ?_
    refine x_then ?_
    refine c_seq ?_
    refine c_region ?_
    refine o_yield rfl rfl rfl (y_val tok rfl) ?_
    refine o_yield rfl rfl rfl (y_val tok rfl) ?_
    refine o_callV (fun x V' => ∃ a n c, x = .tuple #[.slice a n c, I (pcE g t)] ∧ SlOf V' encS 1 (.slice a n c) (pcL g t)) rfl rfl fnok27 rfl rfl (fun hg E w1 hm => by exact (pieces_c g ok t _ ht).mono fun e w' h => PcPost.vw hm.leV h) ?_
    rintro x V1 hle1 hx
    obtain ⟨a1, n1, c1, rfl, hs1⟩ := hx rfl
    refine o_yield rfl rfl rfl (y_val tok rfl) ?_
    refine o_yield rfl rfl rfl (y_val tok rfl) ?_
    refine o_yield rfl rfl rfl (y_val tok rfl) ?_
    refine o_yield rfl rfl rfl (y_val tok rfl) ?_
    refine o_yield rfl rfl rfl (y_val tok rfl) ?_
    refine o_end [1, 2, 5, 6] rfl ?_
    refine x_then ?_
    refine c_seq ?_
    refine c_region ?_
    refine o_yield rfl rfl rfl (y_val tok rfl) ?_
    refine o_yield rfl rfl rfl (y_val tok rfl) ?_
    refine o_callV (fun x V' => ∃ a n c, x = .tuple #[.slice a n c, I (pcE g t)] ∧ SlOf V' encS 1 (.slice a n c) (pcL g t)) rfl rfl fnok28 rfl rfl (fun hg E w1 hm => by exact (refPieces_c g ok t _ ht).mono fun e w' h => PcPost.vw hm.leV h) ?_
    rintro x V2 hle2 hx
    obtain ⟨a2, n2, c2, rfl, hs2⟩ := hx rfl
    have hs1' := hs1.mono hle2
    have hpl : (pcL g t).length ≤ 8 ∧ (pcE g t = 0 → geoB g = true ∧ (t.size : Int) ≤ g.per * 256 ∧ (pcL g t).length = g.per.toNat ∧ 1 ≤ g.per ∧ g.per ≤ 8) := by
      by_cases he : pcE g t = 0
      · have h0 := he
        unfold pcE at h0
        split at h0
        · cases h0
        · rename_i hg
          have hg' : geoB g = true := by cases hq : geoB g <;> simp [hq] at hg ⊢
          have hf := geo_facts hg'
          split at h0
          · cases h0
          · rw [pcL, if_pos he, pieceL_len]
            exact ⟨by omega, fun _ => ⟨hg', by omega, rfl, by omega, by omega⟩⟩
      · rw [pcL, if_neg he]
        exact ⟨by simp, fun h => absurd h he⟩
    refine o_yield rfl rfl rfl (y_val tok rfl) ?_
    refine o_yield rfl rfl rfl (y_val tok rfl) ?_
    refine o_yield rfl rfl rfl (y_val tok rfl) ?_
    refine o_yield rfl rfl rfl (y_val tok rfl) ?_
    refine o_yield rfl rfl rfl (y_val tok rfl) ?_
    refine o_end [1, 2, 5, 6, 7, 8] rfl ?_
    refine x_then ?_
    refine c_seq ?_
    refine c_seq ?_
    refine c_region ?_
    refine o_yield rfl rfl rfl (y_val tok rfl) ?_
    refine o_yield rfl rfl rfl (y_val tok rfl) ?_
    refine o_yield rfl rfl rfl (y_val tok rfl) ?_
    refine o_yield rfl rfl rfl (y_val tok rfl) ?_
    refine o_yield rfl rfl rfl (y_val tok rfl) ?_
    refine o_yield rfl rfl rfl (y_len tok rfl (fun hg => hs1'.sl)) ?_
    refine o_yield rfl rfl rfl (y_val tok rfl) ?_
    refine o_yield rfl rfl rfl (y_len tok rfl (fun hg => hs2.sl)) ?_
    refine o_yield rfl rfl rfl (y_val tok rfl) ?_
    refine o_yield rfl rfl rfl (y_val tok rfl) ?_
    refine o_end [1, 2, 5, 6, 7, 35] rfl ?_
    refine x_then ?_
    refine c_cond rfl (fun h => ?_) (fun h => ?_)
    ·
      simp only [Bool.and_eq_true, Bool.or_eq_true, Bool.not_eq_true', Bool.or_eq_false_iff, Bool.and_eq_false_iff, decide_eq_true_eq, decide_eq_false_iff_not, beq_iff_eq, bne_iff_ne, Bool.not_eq_false', beq_eq_false_iff_ne, bne_eq_false_iff_eq, ne_eq, Decidable.not_not, Int.not_lt, Int.not_le] at h
      exfalso
      simp at h
    ·
      simp only [Bool.and_eq_true, Bool.or_eq_true, Bool.not_eq_true', Bool.or_eq_false_iff, Bool.and_eq_false_iff, decide_eq_true_eq, decide_eq_false_iff_not, beq_iff_eq, bne_iff_ne, Bool.not_eq_false', beq_eq_false_iff_ne, bne_eq_false_iff_eq, ne_eq, Decidable.not_not, Int.not_lt, Int.not_le] at h
      refine c_skip ?_
      refine x_then ?_
      refine c_seq ?_
      refine c_seq ?_
      refine c_region ?_
      refine o_yield rfl rfl rfl (y_val tok rfl) ?_
      refine o_end [1, 2, 5, 6, 7, 9] rfl ?_
      refine x_then ?_
      refine c_block ?_
      refine c_loopK [1, 2, 5, 6, 7] [0] rfl rfl (σ := Nat) (fun i => [(9, .a (.v (I i)))]) (fun i => [(0, .lit (g.cells.map .v) 29)]) (fun i => i ≤ (pcL g t).length) (fun i => (pcL g t).length - i) (0) (by omega) (by repeat (first | exact SubF.nil | refine SubF.cons rfl ?_)) (by repeat (first | exact SubO.nil | refine SubO.cons rfl ?_)) rfl ?_
      rintro i hi
      refine c_seq ?_
      refine c_seq ?_
      refine c_region ?_
      refine o_yield rfl rfl rfl (y_val tok rfl) ?_
      refine o_yield rfl rfl rfl (y_val tok rfl) ?_
      refine o_yield rfl rfl rfl (y_len tok rfl (fun hg => hs1'.sl)) ?_
      refine o_yield rfl rfl rfl (y_val tok rfl) ?_
      refine o_end [1, 2, 5, 6, 7, 9, 39] rfl ?_
      refine x_then ?_
      refine c_cond rfl (fun h => ?_) (fun h => ?_)
      ·
        simp only [Bool.and_eq_true, Bool.or_eq_true, Bool.not_eq_true', Bool.or_eq_false_iff, Bool.and_eq_false_iff, decide_eq_true_eq, decide_eq_false_iff_not, beq_iff_eq, bne_iff_ne, Bool.not_eq_false', beq_eq_false_iff_ne, bne_eq_false_iff_eq, ne_eq, Decidable.not_not, Int.not_lt, Int.not_le] at h
        refine c_skip ?_
        refine x_then ?_
        refine c_seq ?_
        refine c_block ?_
        refine c_seq ?_
        refine c_draw mixed (by kernel_rfl) ?_
        refine d_yield rfl rfl rfl (y_val tok rfl) rfl ?_
        refine d_yield rfl rfl rfl (y_val tok rfl) rfl ?_
        obtain ⟨p, h_p⟩ := hs1'.at (k := i) (by omega)
        obtain ⟨q, h_q⟩ : ∃ q, (pcL g t)[i - 1]? = some q := ⟨(pcL g t)[i - 1]'(by omega), by rw [List.getElem?_eq_getElem (by omega)]⟩
        have hfull : 0 < i → p.size ≠ 0 → q.size = 256 := by
          intro h0 h1
          by_cases he : pcE g t = 0
          · rw [pcL, if_pos he] at h_p h_q
            have hp := pieceL_at h_p
            have hq := pieceL_at h_q
            have := piece_size t i
            have := piece_size t (i - 1)
            rw [← hp] at *
            rw [← hq] at *
            omega
          · rw [pcL, if_neg he] at h_p
            simp at h_p
        have hlt_p := lt_of_at h_p
        refine d_yield rfl rfl rfl (y_idx tok rfl (fun hg => hs1'.sl) (fun hg => ⟨by omega, by omega⟩)) rfl ?_
        refine d_yield rfl rfl rfl (y_lel tok (i) 0 (p) rfl (fun hg => hs1') (fun hg => h_p) rfl rfl) rfl ?_
        refine d_yield rfl rfl rfl (y_val tok rfl) rfl ?_
        refine d_yield rfl rfl rfl (y_val tok rfl) rfl ?_
        have hlt_p := lt_of_at h_p
        refine d_yield rfl rfl rfl (y_idx tok rfl (fun hg => hs2.sl) (fun hg => ⟨by omega, by omega⟩)) rfl ?_
        refine d_yield rfl rfl rfl (y_lel tok (i) 0 (p) rfl (fun hg => hs2) (fun hg => h_p) rfl rfl) rfl ?_
        refine d_yield rfl rfl rfl (y_val tok rfl) rfl ?_
        refine d_yield rfl rfl rfl (y_val tok rfl) rfl ?_
        refine d_yield rfl rfl rfl (y_val tok rfl) rfl ?_
        refine d_yield rfl rfl rfl (y_val tok rfl) rfl ?_
        refine d_yield rfl rfl rfl (y_val tok rfl) rfl ?_
        refine d_yield rfl rfl rfl (y_val tok rfl) rfl ?_
        refine d_yield rfl rfl rfl (y_val tok rfl) rfl ?_
        have hlt_p := lt_of_at h_p
        refine d_yield rfl rfl rfl (y_idx tok rfl (fun hg => hs1'.sl) (fun hg => ⟨by omega, by omega⟩)) rfl ?_
        refine d_yield rfl rfl rfl (y_lel tok (i) 0 (p) rfl (fun hg => hs1') (fun hg => h_p) rfl rfl) rfl ?_
        refine d_yield rfl rfl rfl (y_val tok rfl) rfl ?_
        refine d_yield rfl rfl rfl (y_val tok rfl) rfl ?_
        refine d_yield rfl rfl rfl (y_val tok rfl) rfl ?_
        refine d_yield rfl rfl rfl (y_val tok rfl) rfl ?_
        refine d_yield rfl rfl rfl (y_val tok rfl) rfl ?_
        refine d_yield rfl rfl rfl (y_val tok rfl) rfl ?_
        refine d_yield rfl rfl rfl (y_idxK tok ((i - 1) * 1 + 0) rfl (by rw [wrapI (by omega) (by omega)]; dsimp only; omega) (fun hg => hs1'.sl) (fun hg => by simp at hg; rw [wrapI (by omega) (by omega)]; omega)) rfl ?_
        refine d_yield rfl rfl rfl (y_lel tok (i - 1) 0 (q) rfl (fun hg => hs1') (fun hg => h_q) rfl rfl) rfl ?_
        refine d_yield rfl rfl rfl (y_val tok rfl) rfl ?_
        refine d_yield rfl rfl rfl (y_val tok rfl) rfl ?_
        refine d_yield rfl rfl rfl (y_val tok rfl) rfl ?_
        refine d_yield rfl rfl rfl (y_val tok rfl) rfl ?_
        refine d_end [1, 2, 5, 6, 7, 9, 70] rfl ?_
        refine x_then ?_
        refine c_cond rfl (fun h => ?_) (fun h => ?_)
        ·
          simp only [Bool.and_eq_true, Bool.or_eq_true, Bool.not_eq_true', Bool.or_eq_false_iff, Bool.and_eq_false_iff, decide_eq_true_eq, decide_eq_false_iff_not, beq_iff_eq, bne_iff_ne, Bool.not_eq_false', beq_eq_false_iff_ne, bne_eq_false_iff_eq, ne_eq, Decidable.not_not, Int.not_lt, Int.not_le] at h
          exfalso
          simp at h
          have := hfull (by omega) (fun h0 => h.1.2 (by rw [empty_of h0]; simp))
          omega
        ·
          simp only [Bool.and_eq_true, Bool.or_eq_true, Bool.not_eq_true', Bool.or_eq_false_iff, Bool.and_eq_false_iff, decide_eq_true_eq, decide_eq_false_iff_not, beq_iff_eq, bne_iff_ne, Bool.not_eq_false', beq_eq_false_iff_ne, bne_eq_false_iff_eq, ne_eq, Decidable.not_not, Int.not_lt, Int.not_le] at h
          refine c_skip ?_
          refine x_block ?_
          refine x_then ?_
          refine c_region ?_
          refine o_yield rfl rfl rfl (y_val tok rfl) ?_
          refine o_yield rfl rfl rfl (y_val tok rfl) ?_
          refine o_yield rfl rfl rfl (y_val tok rfl) ?_
          refine o_end [1, 2, 5, 6, 7, 9] rfl ?_
          refine x_then ?_
          rw [wrapI (n := (i : Int) + 1) (by omega) (by omega)]
          refine x_round (i + 1) (by omega) (by first | omega | (dsimp only; omega)) (by repeat (first | exact SubF.nil | refine SubF.cons rfl ?_)) (by repeat (first | exact SubO.nil | refine SubO.cons rfl ?_)) rfl (Vw.le.refl _)
      ·
        simp only [Bool.and_eq_true, Bool.or_eq_true, Bool.not_eq_true', Bool.or_eq_false_iff, Bool.and_eq_false_iff, decide_eq_true_eq, decide_eq_false_iff_not, beq_iff_eq, bne_iff_ne, Bool.not_eq_false', beq_eq_false_iff_ne, bne_eq_false_iff_eq, ne_eq, Decidable.not_not, Int.not_lt, Int.not_le] at h
        refine c_exit ?_
        refine x_then_exit ?_
        refine x_then_exit ?_
        refine x_block_hit ?_
        refine x_then ?_
        refine c_seq ?_
        refine c_region ?_
        refine o_yield rfl rfl rfl (y_val tok rfl) ?_
        refine o_yield rfl rfl rfl (y_val tok rfl) ?_
        refine o_yield rfl rfl rfl (y_val tok rfl) ?_
        refine o_yield rfl rfl rfl (y_val tok rfl) ?_
        have hcl := catL_pc g t
        refine o_call (.a (.v _)) rfl rfl fnok29 rfl rfl rfl (fun hg E w1 hm => by exact bjoin_c V2 _ (pcL g t) _ hm.leV hs1' (by omega) (by omega)) ?_
        refine o_yield rfl rfl rfl (y_val tok rfl) ?_
        refine o_yield rfl rfl rfl (y_val tok rfl) ?_
        refine o_yield rfl rfl rfl (y_val tok rfl) ?_
        refine o_yield rfl rfl rfl (y_val tok rfl) ?_
        refine o_yield rfl rfl rfl (y_len tok rfl (fun hg => hs1'.sl)) ?_
        refine o_yield rfl rfl rfl (y_val tok rfl) ?_
        refine o_yield rfl rfl rfl (y_val tok rfl) ?_
        refine o_yield rfl rfl rfl (y_val tok rfl) ?_
        refine o_yield rfl rfl rfl (y_val tok rfl) ?_
        refine o_yield rfl rfl rfl (y_val tok rfl) ?_
        refine o_yield rfl rfl rfl (y_val tok rfl) ?_
        refine o_call (.a (.v _)) rfl rfl fnok19 rfl rfl rfl (fun hg E w1 hm => by exact wakes18_c _) ?_
        refine o_yield rfl rfl rfl (y_val tok rfl) ?_
        refine o_yield rfl rfl rfl (y_val tok rfl) ?_
        refine o_end [4] rfl ?_
        refine x_then ?_
        refine c_ret ?_
        refine b_ret tok rfl ?_
        intro E w' hm _
        refine ⟨?_, hm.below ((hle1.trans hle2))⟩
        by_cases he : pcE g t = 0
        · obtain ⟨k1, k2, k3, k4, k5⟩ := hpl.2 he
          have hc : catS (pcL g t) = t := by rw [pcL, if_pos he]; exact catS_pieces (by omega)
          rw [hc, k3]
          simp [he, Int.toNat_of_nonneg (show 0 ≤ g.per by omega)]
          rfl
        · have hb : (pcE g t != 0) = true := by simp [he]
          rw [hb]
          simp
          rfl
end Go.Proofs.Ytanekcndpkagiaa
