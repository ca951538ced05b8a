import Derived.Test.YtanekcndpkagiaaMFKn
import Derived.Test.YtanekcndpkagiaaRows
/- Fetching: the document's. -/
set_option linter.unusedVariables false
set_option linter.unusedSimpArgs false
set_option maxRecDepth 100000
namespace Go.Proofs.Ytanekcndpkagiaa
open Go Go.Eng Go.RowKit


theorem rfbegin_c (g : Geo) (ok : g.Ok) (bk : Int) (w : World) : Calls Try.prog 59 #[g.val, I bk] w fun e w' => e = .returned (.tuple #[(⟨if 0 ≤ dataV g bk 0 then bk else 0, 0, ⟨.slice none 0 0, []⟩⟩ : Fetching).val, I (if 0 ≤ dataV g bk 0 then 0 else 2)]) ∧ Below w.heap.size w w' := by
  refine enter (E := E0) (O := []) (nl := 0) (V := vw w) [.a (.v g.val), .a (.v (I bk))] Try.func59 rfl rfl (mem0 E0 0 w) rfl rfl ?_
  refine c_seq ?_
  refine c_region ?_
  refine o_new tok rfl rfl rfl rfl ?_
  refine o_new tok rfl rfl rfl rfl ?_
  refine o_yield rfl rfl rfl (y_val tok rfl) ?_
  refine o_end [1, 2, 4] rfl ?_
  refine x_then ?_
  refine c_seq ?_
  refine c_seq ?_
  refine c_region ?_
  refine o_yield rfl rfl rfl (y_val tok rfl) ?_
  refine o_yield rfl rfl rfl (y_val tok rfl) ?_
  refine o_call (.a (.v _)) rfl rfl fnok31 rfl rfl rfl (fun hg E w1 hm => by exact refData_c g ok _ _ _) ?_
  refine o_yield rfl rfl rfl (y_val tok rfl) ?_
  refine o_end [1, 4, 9] rfl ?_
  refine x_then ?_
  refine c_cond rfl (fun h => ?_) (fun h => ?_)
  ·
    simp only [Bool.and_eq_true, Bool.or_eq_true, Bool.not_eq_true', Bool.or_eq_false_iff, Bool.and_eq_false_iff, decide_eq_true_eq, decide_eq_false_iff_not, beq_iff_eq, bne_iff_ne, Bool.not_eq_false', beq_eq_false_iff_ne, bne_eq_false_iff_eq, ne_eq, Decidable.not_not, Int.not_lt, Int.not_le] at h
    refine c_seq ?_
    refine c_region ?_
    refine o_yield rfl rfl rfl (y_val tok rfl) ?_
    refine o_store tok rfl rfl rfl (by first | exact ⟨trivial, trivial⟩ | (repeat' first | exact trivial | exact rfl | apply And.intro); done | simp [onesP, oneP, lk, Value.oneCell']) ?_
    refine o_yield rfl rfl rfl (y_val tok rfl) ?_
    refine o_end [4, 5] rfl ?_
    refine x_then ?_
    refine c_ret ?_
    refine x_then_ret ?_
    refine b_ret tok rfl ?_
    intro E w' hm _
    refine ⟨?_, hm.below (Vw.le.refl _)⟩
    rw [if_neg (by omega), if_neg (by omega)]; rfl
  ·
    simp only [Bool.and_eq_true, Bool.or_eq_true, Bool.not_eq_true', Bool.or_eq_false_iff, Bool.and_eq_false_iff, decide_eq_true_eq, decide_eq_false_iff_not, beq_iff_eq, bne_iff_ne, Bool.not_eq_false', beq_eq_false_iff_ne, bne_eq_false_iff_eq, ne_eq, Decidable.not_not, Int.not_lt, Int.not_le] at h
    refine c_skip ?_
    refine x_then ?_
    refine c_seq ?_
    refine c_region ?_
    refine o_yield rfl rfl rfl (y_val tok rfl) ?_
    refine o_yield rfl rfl rfl (y_val tok rfl) ?_
    refine o_store tok rfl rfl rfl (by first | exact ⟨trivial, trivial⟩ | (repeat' first | exact trivial | exact rfl | apply And.intro); done | simp [onesP, oneP, lk, Value.oneCell']) ?_
    refine o_yield rfl rfl rfl (y_val tok rfl) ?_
    refine o_end [4, 5] rfl ?_
    refine x_then ?_
    refine c_ret ?_
    refine b_ret tok rfl ?_
    intro E w' hm _
    refine ⟨?_, hm.below (Vw.le.refl _)⟩
    rw [if_pos (by omega), if_pos (by omega)]; rfl

theorem rfover_c (f : Fetching) (g : Geo) (a : Option Addr) (n c : Nat) (hv : f.parts.v = .slice a n c) (w : World) : Calls Try.prog 62 #[g.val, f.val] w fun e w' => e = .returned (.bool (decide (g.per ≤ f.k))) ∧ Below w.heap.size w w' := by
  obtain ⟨bk, k, ⟨v, L⟩⟩ := f
  simp only at hv
  subst hv
  refine enter (E := E0) (O := []) (nl := 0) (V := vw w) [.a (.v g.val), .a (.v (⟨bk, k, ⟨.slice a n c, L⟩⟩ : Fetching).val)] Try.func62 rfl rfl (mem0 E0 0 w) rfl rfl ?_
  refine c_seq ?_
  refine c_region ?_
  refine o_new tok rfl rfl rfl rfl ?_
  refine o_new tok rfl rfl rfl rfl ?_
  refine o_yield rfl rfl rfl (y_val tok rfl) ?_
  refine o_end [2, 3] rfl ?_
  refine x_then ?_
  refine c_seq ?_
  refine c_region ?_
  refine o_yield rfl rfl rfl (y_val tok rfl) ?_
  refine o_yield rfl rfl rfl (y_val tok rfl) ?_
  refine o_yield rfl rfl rfl (y_val tok rfl) ?_
  refine o_yield rfl rfl rfl (y_val tok rfl) ?_
  refine o_yield rfl rfl rfl (y_val tok rfl) ?_
  refine o_yield rfl rfl rfl (y_val tok rfl) ?_
  refine o_end [4] rfl ?_
  refine x_then ?_
  refine c_ret ?_
  refine b_ret tok rfl ?_
  intro E w' hm _
  refine ⟨?_, hm.below (Vw.le.refl _)⟩
  rfl

theorem rfwant_c (f : Fetching) (g : Geo) (ok : g.Ok) (a : Option Addr) (n c : Nat) (hv : f.parts.v = .slice a n c) (w : World) : Calls Try.prog 64 #[g.val, f.val] w fun e w' => e = .returned (fwantV f g).val ∧ Below w.heap.size w w' := by
  obtain ⟨bk, k, ⟨v, L⟩⟩ := f
  simp only at hv
  subst hv
  refine enter (E := E0) (O := []) (nl := 0) (V := vw w) [.a (.v g.val), .a (.v (⟨bk, k, ⟨.slice a n c, L⟩⟩ : Fetching).val)] Try.func64 rfl rfl (mem0 E0 0 w) rfl rfl ?_
  refine c_seq ?_
  refine c_region ?_
  refine o_new tok rfl rfl rfl rfl ?_
  refine o_new tok rfl rfl rfl rfl ?_
  refine o_new tok rfl rfl rfl rfl ?_
  refine o_end [2, 3, 4] rfl ?_
  refine x_then ?_
  refine c_seq ?_
  refine c_region ?_
  refine o_yield rfl rfl rfl (y_val tok rfl) ?_
  refine o_yield rfl rfl rfl (y_val tok rfl) ?_
  refine o_yield rfl rfl rfl (y_val tok rfl) ?_
  refine o_yield rfl rfl rfl (y_val tok rfl) ?_
  refine o_yield rfl rfl rfl (y_val tok rfl) ?_
  refine o_call (.a (.v _)) rfl rfl fnok31 rfl rfl rfl (fun hg E w1 hm => by exact refData_c g ok _ _ _) ?_
  refine o_yield rfl rfl rfl (y_val tok rfl) ?_
  refine o_end [2, 3, 4, 5] rfl ?_
  refine x_then ?_
  refine c_seq ?_
  refine c_seq ?_
  refine c_region ?_
  refine o_yield rfl rfl rfl (y_val tok rfl) ?_
  refine o_yield rfl rfl rfl (y_val tok rfl) ?_
  refine o_call (.a (.v _)) rfl rfl fnok62 rfl rfl rfl (fun hg E w1 hm => by exact rfover_c ⟨bk, k, ⟨.slice a n c, L⟩⟩ g _ _ _ rfl _) ?_
  refine o_yield rfl rfl rfl (y_val tok rfl) ?_
  refine o_yield rfl rfl rfl (y_val tok rfl) ?_
  refine o_yield rfl rfl rfl (y_val tok rfl) ?_
  refine o_yield rfl rfl rfl (y_val tok rfl) ?_
  refine o_end [4, 5, 18] rfl ?_
  refine x_then ?_
  refine c_cond rfl (fun h => ?_) (fun h => ?_)
  ·
    simp only [Bool.and_eq_true, Bool.or_eq_true, Bool.not_eq_true', Bool.or_eq_false_iff, Bool.and_eq_false_iff, decide_eq_true_eq, decide_eq_false_iff_not, beq_iff_eq, bne_iff_ne, Bool.not_eq_false', beq_eq_false_iff_ne, bne_eq_false_iff_eq, ne_eq, Decidable.not_not, Int.not_lt, Int.not_le] at h
    refine c_seq ?_
    refine c_region ?_
    refine o_yield rfl rfl rfl (y_val tok rfl) ?_
    refine o_store tok rfl rfl rfl (by first | exact ⟨trivial, trivial⟩ | (repeat' first | exact trivial | exact rfl | apply And.intro); done | simp [onesP, oneP, lk, Value.oneCell']) ?_
    refine o_end [4] rfl ?_
    refine x_then ?_
    refine c_ret ?_
    refine x_then_ret ?_
    refine b_ret tok rfl ?_
    intro E w' hm _
    refine ⟨?_, hm.below (Vw.le.refl _)⟩
    have : nextV ⟨bk, k, ⟨.slice a n c, L⟩⟩ g < 0 := by
      unfold nextV
      simp only
      split <;> omega
    rw [fwantV, if_neg (by omega)]; rfl
  ·
    simp only [Bool.and_eq_true, Bool.or_eq_true, Bool.not_eq_true', Bool.or_eq_false_iff, Bool.and_eq_false_iff, decide_eq_true_eq, decide_eq_false_iff_not, beq_iff_eq, bne_iff_ne, Bool.not_eq_false', beq_eq_false_iff_ne, bne_eq_false_iff_eq, ne_eq, Decidable.not_not, Int.not_lt, Int.not_le] at h
    refine c_skip ?_
    refine x_then ?_
    refine c_seq ?_
    refine c_region ?_
    refine o_yield rfl rfl rfl (y_val tok rfl) ?_
    refine o_yield rfl rfl rfl (y_val tok rfl) ?_
    refine o_store tok rfl rfl rfl (by first | exact ⟨trivial, trivial⟩ | (repeat' first | exact trivial | exact rfl | apply And.intro); done | simp [onesP, oneP, lk, Value.oneCell']) ?_
    refine o_end [4] rfl ?_
    refine x_then ?_
    refine c_ret ?_
    refine b_ret tok rfl ?_
    intro E w' hm _
    refine ⟨?_, hm.below (Vw.le.refl _)⟩
    have hn : nextV ⟨bk, k, ⟨.slice a n c, L⟩⟩ g = dataV g bk k := by rw [nextV, if_neg (by simp only; omega)]
    rw [fwantV, hn, if_pos (by omega)]; rfl

theorem rjoin_c (V : Vw) (sv : Value) (l : List ByteArray) (w : World) (hV : V.le (vw w)) (hs0 : SlOf V encS 1 sv l) (hn : l.length ≤ 140737488355328) (hc : (catL l).length ≤ 140737488355328) :
    Calls Try.prog 118 #[sv] w fun e w' => e = .returned (S (catS l)) ∧ Below w.heap.size w w' := by
  have hs := hs0.mono hV
  refine enter (E := E0) (O := []) (nl := 0) (V := vw w) [.a (.v sv)] Try.func118 rfl rfl (mem0 E0 0 w) rfl rfl ?_
  refine c_seq ?_
  refine c_region ?_
  refine o_yield rfl rfl rfl (y_val tok rfl) ?_
  refine o_end [0] rfl ?_
  refine x_then ?_
  refine c_seq ?_
  refine c_region ?_
  refine o_yield rfl rfl rfl (y_val tok rfl) ?_
  refine o_end [0, 3] rfl ?_
  refine x_then ?_
  refine c_seq ?_
  refine c_seq ?_
  refine c_region ?_
  refine o_yield rfl rfl rfl (y_val tok rfl) ?_
  refine o_end [0, 3, 4] rfl ?_
  refine x_then ?_
  refine c_block ?_
  have e0 : catS (l.take 0) = ⟨#[]⟩ := rfl
  refine c_loopK [0] [] rfl rfl (σ := Nat) (fun i => [(3, .a (.v (S (catS (l.take i))))), (4, .a (.v (I i)))]) (fun i => []) (fun i => i ≤ l.length) (fun i => l.length - i) (0) (by omega) (by repeat (first | exact SubF.nil | refine SubF.cons rfl ?_ | refine SubF.cons (by simp only [e0]; first | done | rfl) ?_)) (by repeat (first | exact SubO.nil | refine SubO.cons rfl ?_ | refine SubO.cons (by simp only [e0]; first | done | rfl) ?_)) rfl ?_
  rintro i hi
  refine c_seq ?_
  refine c_seq ?_
  refine c_region ?_
  refine o_yield rfl rfl rfl (y_val tok rfl) ?_
  refine o_yield rfl rfl rfl (y_val tok rfl) ?_
  refine o_yield rfl rfl rfl (y_len tok rfl (fun hg => hs.sl)) ?_
  refine o_yield rfl rfl rfl (y_val tok rfl) ?_
  refine o_end [0, 3, 4, 8] rfl ?_
  refine x_then ?_
  refine c_cond rfl (fun h => ?_) (fun h => ?_)
  ·
    simp only [Bool.and_eq_true, Bool.or_eq_true, Bool.not_eq_true', Bool.or_eq_false_iff, Bool.and_eq_false_iff, decide_eq_true_eq, decide_eq_false_iff_not, beq_iff_eq, bne_iff_ne, Bool.not_eq_false', beq_eq_false_iff_ne, bne_eq_false_iff_eq, ne_eq, Decidable.not_not, Int.not_lt, Int.not_le] at h
    refine c_skip ?_
    refine x_then ?_
    refine c_seq ?_
    refine c_block ?_
    refine c_region ?_
    refine o_yield rfl rfl rfl (y_val tok rfl) ?_
    refine o_yield rfl rfl rfl (y_val tok rfl) ?_
    refine o_yield rfl rfl rfl (y_val tok rfl) ?_
    obtain ⟨x, h_x⟩ := hs.at (k := i) (by omega)
    have hsn : catS (l.take (i + 1)) = catS (l.take i) ++ x := by rw [take_succ_at h_x, catS_snoc]
    have hcs := catS_size (l.take (i + 1))
    have hcs0 := catS_size (l.take i)
    have hle : (catL (l.take (i + 1))).length ≤ (catL l).length := by
      have : catL l = catL (l.take (i + 1)) ++ catL (l.drop (i + 1)) := by simp only [catL]; rw [← List.flatMap_append, List.take_append_drop]
      rw [this, List.length_append]; omega
    have hsum : (catS (l.take (i + 1))).size = (catS (l.take i)).size + x.size := by rw [hsn, ByteArray.size_append]
    have hlt_x := lt_of_at h_x
    refine o_yield rfl rfl rfl (y_idx tok rfl (fun hg => hs.sl) (fun hg => ⟨by omega, by omega⟩)) ?_
    refine o_yield rfl rfl rfl (y_lel tok (i) 0 (x) rfl (fun hg => hs) (fun hg => h_x) rfl rfl) ?_
    refine o_yield rfl rfl rfl (y_cat rfl (fun hg => by omega)) ?_
    refine o_yield rfl rfl rfl (y_val tok rfl) ?_
    refine o_end [0, 3, 4] rfl ?_
    refine x_block ?_
    refine x_then ?_
    refine c_region ?_
    refine o_yield rfl rfl rfl (y_val tok rfl) ?_
    refine o_yield rfl rfl rfl (y_val tok rfl) ?_
    refine o_yield rfl rfl rfl (y_val tok rfl) ?_
    refine o_end [0, 3, 4] rfl ?_
    refine x_then ?_
    rw [← hsn, wrapI (n := (i : Int) + 1) (by omega) (by omega)]
    refine x_round (i + 1) (by omega) (by first | omega | (dsimp only; omega)) (by repeat (first | exact SubF.nil | refine SubF.cons rfl ?_)) (by repeat (first | exact SubO.nil | refine SubO.cons rfl ?_)) rfl (Vw.le.refl _)
  ·
    simp only [Bool.and_eq_true, Bool.or_eq_true, Bool.not_eq_true', Bool.or_eq_false_iff, Bool.and_eq_false_iff, decide_eq_true_eq, decide_eq_false_iff_not, beq_iff_eq, bne_iff_ne, Bool.not_eq_false', beq_eq_false_iff_ne, bne_eq_false_iff_eq, ne_eq, Decidable.not_not, Int.not_lt, Int.not_le] at h
    refine c_exit ?_
    refine x_then_exit ?_
    refine x_then_exit ?_
    refine x_block_hit ?_
    refine x_then ?_
    refine c_seq ?_
    refine c_region ?_
    refine o_yield rfl rfl rfl (y_val tok rfl) ?_
    refine o_yield rfl rfl rfl (y_val tok rfl) ?_
    refine o_end [2] rfl ?_
    refine x_then ?_
    refine c_ret ?_
    refine b_ret tok rfl ?_
    have hil : i = l.length := by omega
    subst hil
    rw [List.take_length]
    intro E w' hm _
    refine ⟨?_, hm.below (Vw.le.refl _)⟩
    rfl

theorem rftext_c (V : Vw) (f : Fetching) (w : World) (hV : V.le (vw w)) (hs0 : SlOf V encS 1 f.parts.v f.parts.l) (hn : f.parts.l.length ≤ 140737488355328) (hc : (catL f.parts.l).length ≤ 140737488355328) :
    Calls Try.prog 66 #[f.val] w fun e w' => e = .returned (S (catS f.parts.l)) ∧ Below w.heap.size w w' := by
  obtain ⟨bk, k, ⟨v, L⟩⟩ := f
  simp only at hs0 hn hc
  obtain ⟨a, n, c, rfl⟩ := sl_shape hs0.sl
  have hs := hs0.mono hV
  refine enter (E := E0) (O := []) (nl := 0) (V := vw w) [.a (.v (⟨bk, k, ⟨.slice a n c, L⟩⟩ : Fetching).val)] Try.func66 rfl rfl (mem0 E0 0 w) rfl rfl ?_
  refine c_seq ?_
  refine c_region ?_
  refine o_new tok rfl rfl rfl rfl ?_
  refine o_yield rfl rfl rfl (y_val tok rfl) ?_
  refine o_end [1] rfl ?_
  refine x_then ?_
  refine c_seq ?_
  refine c_region ?_
  refine o_yield rfl rfl rfl (y_val tok rfl) ?_
  refine o_yield rfl rfl rfl (y_val tok rfl) ?_
  refine o_call (.a (.v _)) rfl rfl fnok118 rfl rfl rfl (fun hg E w1 hm => by exact rjoin_c (vw w) _ L _ hm.leV hs hn hc) ?_
  refine o_yield rfl rfl rfl (y_val tok rfl) ?_
  refine o_end [2] rfl ?_
  refine x_then ?_
  refine c_ret ?_
  refine b_ret tok rfl ?_
  intro E w' hm _
  refine ⟨?_, hm.below (Vw.le.refl _)⟩
  rfl

theorem sameS_c (V : Vw) (v v' : Value) (L : List ByteArray) (w : World) (hV : V.le (vw w)) (hs0 : SlOf V encS 1 v L) (hs1 : SlOf V encS 1 v' L) (hn : L.length ≤ 4398046511104) :
    Calls Try.prog 115 #[v, v'] w fun e w' => e = .returned (.bool true) ∧ Below w.heap.size w w' := by
  have hs := hs0.mono hV
  have hs' := hs1.mono hV
  refine enter (E := E0) (O := []) (nl := 0) (V := vw w) [.a (.v v), .a (.v v')] Try.func115 rfl rfl (mem0 E0 0 w) rfl rfl ?_
  refine c_seq ?_
  refine c_region ?_
  refine o_yield rfl rfl rfl (y_val tok rfl) ?_
  refine o_end [0, 1] rfl ?_
  refine x_then ?_
  refine c_seq ?_
  refine c_seq ?_
  refine c_region ?_
  refine o_yield rfl rfl rfl (y_val tok rfl) ?_
  refine o_yield rfl rfl rfl (y_len tok rfl (fun hg => hs.sl)) ?_
  refine o_yield rfl rfl rfl (y_val tok rfl) ?_
  refine o_yield rfl rfl rfl (y_len tok rfl (fun hg => hs'.sl)) ?_
  refine o_yield rfl rfl rfl (y_val tok rfl) ?_
  refine o_end [0, 1, 10] rfl ?_
  refine x_then ?_
  refine c_cond rfl (fun h => ?_) (fun h => ?_)
  ·
    simp only [Bool.and_eq_true, Bool.or_eq_true, Bool.not_eq_true', Bool.or_eq_false_iff, Bool.and_eq_false_iff, decide_eq_true_eq, decide_eq_false_iff_not, beq_iff_eq, bne_iff_ne, Bool.not_eq_false', beq_eq_false_iff_ne, bne_eq_false_iff_eq, ne_eq, Decidable.not_not, Int.not_lt, Int.not_le] at h
    refine c_seq ?_
    refine c_region ?_
    refine o_yield rfl rfl rfl (y_val tok rfl) ?_
    refine o_end [4] rfl ?_
    refine x_then ?_
    refine c_ret ?_
    refine x_then_ret ?_
    refine b_ret tok rfl ?_
    contradiction
  ·
    simp only [Bool.and_eq_true, Bool.or_eq_true, Bool.not_eq_true', Bool.or_eq_false_iff, Bool.and_eq_false_iff, decide_eq_true_eq, decide_eq_false_iff_not, beq_iff_eq, bne_iff_ne, Bool.not_eq_false', beq_eq_false_iff_ne, bne_eq_false_iff_eq, ne_eq, Decidable.not_not, Int.not_lt, Int.not_le] at h
    clear h
    refine c_skip ?_
    refine x_then ?_
    refine c_seq ?_
    refine c_seq ?_
    refine c_region ?_
    refine o_yield rfl rfl rfl (y_val tok rfl) ?_
    refine o_end [0, 1, 5] rfl ?_
    refine x_then ?_
    refine c_block ?_
    refine c_loopK [0, 1] [] rfl rfl (σ := Nat) (fun i => [(5, .a (.v (I i)))]) (fun i => []) (fun i => i ≤ L.length) (fun i => L.length - i) (0) (by omega) (by repeat (first | exact SubF.nil | refine SubF.cons rfl ?_)) (by repeat (first | exact SubO.nil | refine SubO.cons rfl ?_)) rfl ?_
    rintro i hi
    refine c_seq ?_
    refine c_seq ?_
    refine c_region ?_
    refine o_yield rfl rfl rfl (y_val tok rfl) ?_
    refine o_yield rfl rfl rfl (y_val tok rfl) ?_
    refine o_yield rfl rfl rfl (y_len tok rfl (fun hg => hs.sl)) ?_
    refine o_yield rfl rfl rfl (y_val tok rfl) ?_
    refine o_end [0, 1, 5, 14] rfl ?_
    refine x_then ?_
    refine c_cond rfl (fun h => ?_) (fun h => ?_)
    ·
      simp only [Bool.and_eq_true, Bool.or_eq_true, Bool.not_eq_true', Bool.or_eq_false_iff, Bool.and_eq_false_iff, decide_eq_true_eq, decide_eq_false_iff_not, beq_iff_eq, bne_iff_ne, Bool.not_eq_false', beq_eq_false_iff_ne, bne_eq_false_iff_eq, ne_eq, Decidable.not_not, Int.not_lt, Int.not_le] at h
      refine c_skip ?_
      refine x_then ?_
      refine c_seq ?_
      refine c_block ?_
      refine c_seq ?_
      refine c_draw mixed (by kernel_rfl) ?_
      refine d_yield rfl rfl rfl (y_val tok rfl) rfl ?_
      refine d_yield rfl rfl rfl (y_val tok rfl) rfl ?_
      obtain ⟨r, h_r⟩ := hs.at (k := i) (by omega)
      have hlt_r := lt_of_at h_r
      refine d_yield rfl rfl rfl (y_idx tok rfl (fun hg => hs.sl) (fun hg => ⟨by omega, by omega⟩)) rfl ?_
      refine d_yield rfl rfl rfl (y_lel tok (i) 0 (r) rfl (fun hg => hs) (fun hg => h_r) rfl rfl) rfl ?_
      refine d_yield rfl rfl rfl (y_val tok rfl) rfl ?_
      refine d_yield rfl rfl rfl (y_val tok rfl) rfl ?_
      have hlt_r := lt_of_at h_r
      refine d_yield rfl rfl rfl (y_idx tok rfl (fun hg => hs'.sl) (fun hg => ⟨by omega, by omega⟩)) rfl ?_
      refine d_yield rfl rfl rfl (y_lel tok (i) 0 (r) rfl (fun hg => hs') (fun hg => h_r) rfl rfl) rfl ?_
      refine d_yield rfl rfl rfl (y_val tok rfl) rfl ?_
      refine d_end [0, 1, 5, 25] rfl ?_
      refine x_then ?_
      refine c_cond rfl (fun h => ?_) (fun h => ?_)
      ·
        simp only [Bool.and_eq_true, Bool.or_eq_true, Bool.not_eq_true', Bool.or_eq_false_iff, Bool.and_eq_false_iff, decide_eq_true_eq, decide_eq_false_iff_not, beq_iff_eq, bne_iff_ne, Bool.not_eq_false', beq_eq_false_iff_ne, bne_eq_false_iff_eq, ne_eq, Decidable.not_not, Int.not_lt, Int.not_le] at h
        exfalso
        simp at h
      ·
        simp only [Bool.and_eq_true, Bool.or_eq_true, Bool.not_eq_true', Bool.or_eq_false_iff, Bool.and_eq_false_iff, decide_eq_true_eq, decide_eq_false_iff_not, beq_iff_eq, bne_iff_ne, Bool.not_eq_false', beq_eq_false_iff_ne, bne_eq_false_iff_eq, ne_eq, Decidable.not_not, Int.not_lt, Int.not_le] at h
        refine c_skip ?_
        refine x_block ?_
        refine x_then ?_
        refine c_region ?_
        refine o_yield rfl rfl rfl (y_val tok rfl) ?_
        refine o_yield rfl rfl rfl (y_val tok rfl) ?_
        refine o_yield rfl rfl rfl (y_val tok rfl) ?_
        refine o_end [0, 1, 5] rfl ?_
        refine x_then ?_
        rw [wrapI (n := (i : Int) + 1) (by omega) (by omega)]
        refine x_round (i + 1) (by omega) (by first | omega | (dsimp only; omega)) (by repeat (first | exact SubF.nil | refine SubF.cons rfl ?_)) (by repeat (first | exact SubO.nil | refine SubO.cons rfl ?_)) rfl (Vw.le.refl _)
    ·
      simp only [Bool.and_eq_true, Bool.or_eq_true, Bool.not_eq_true', Bool.or_eq_false_iff, Bool.and_eq_false_iff, decide_eq_true_eq, decide_eq_false_iff_not, beq_iff_eq, bne_iff_ne, Bool.not_eq_false', beq_eq_false_iff_ne, bne_eq_false_iff_eq, ne_eq, Decidable.not_not, Int.not_lt, Int.not_le] at h
      refine c_exit ?_
      refine x_then_exit ?_
      refine x_then_exit ?_
      refine x_block_hit ?_
      refine x_then ?_
      refine c_seq ?_
      refine c_region ?_
      refine o_yield rfl rfl rfl (y_val tok rfl) ?_
      refine o_end [4] rfl ?_
      refine x_then ?_
      refine c_ret ?_
      refine b_ret tok rfl ?_
      intro E w' hm _
      refine ⟨?_, hm.below (Vw.le.refl _)⟩
      rfl

theorem sameF_c (V : Vw) (b k : Int) (a a' : Option Addr) (n c n' c' : Nat) (L : List ByteArray) (w : World) (hV : V.le (vw w)) (hs0 : SlOf V encS 1 (.slice a n c) L) (hs1 : SlOf V encS 1 (.slice a' n' c') L) (hn : L.length ≤ 4398046511104) :
    Calls Try.prog 60 #[.agg #[I b, I k, .slice a n c], .agg #[I b, I k, .slice a' n' c']] w fun e w' => e = .returned (.bool true) ∧ Below w.heap.size w w' := by
  have hs := hs0.mono hV
  have hs' := hs1.mono hV
  refine enter (E := E0) (O := []) (nl := 0) (V := vw w) [.a (.v (.agg #[I b, I k, .slice a n c])), .a (.v (.agg #[I b, I k, .slice a' n' c']))] Try.func60 rfl rfl (mem0 E0 0 w) rfl rfl ?_
  refine c_seq ?_
  refine c_region ?_
  refine o_new tok rfl rfl rfl rfl ?_
  refine o_new tok rfl rfl rfl rfl ?_
  refine o_yield rfl rfl rfl (y_val tok rfl) ?_
  refine o_end [2, 3] rfl ?_
  refine x_then ?_
  refine c_seq ?_
  refine c_region ?_
  refine o_yield rfl rfl rfl (y_val tok rfl) ?_
  refine o_yield rfl rfl rfl (y_val tok rfl) ?_
  refine o_yield rfl rfl rfl (y_val tok rfl) ?_
  refine o_yield rfl rfl rfl (y_val tok rfl) ?_
  refine o_yield rfl rfl rfl (y_val tok rfl) ?_
  refine o_yield rfl rfl rfl (y_val tok rfl) ?_
  refine o_yield rfl rfl rfl (y_val tok rfl) ?_
  refine o_yield rfl rfl rfl (y_val tok rfl) ?_
  refine o_yield rfl rfl rfl (y_val tok rfl) ?_
  refine o_yield rfl rfl rfl (y_val tok rfl) ?_
  refine o_yield rfl rfl rfl (y_val tok rfl) ?_
  refine o_yield rfl rfl rfl (y_val tok rfl) ?_
  refine o_yield rfl rfl rfl (y_val tok rfl) ?_
  refine o_yield rfl rfl rfl (y_val tok rfl) ?_
  refine o_yield rfl rfl rfl (y_val tok rfl) ?_
  refine o_yield rfl rfl rfl (y_val tok rfl) ?_
  refine o_yield rfl rfl rfl (y_val tok rfl) ?_
  refine o_call (.a (.v _)) rfl rfl fnok115 rfl rfl rfl (fun hg E w1 hm => by exact sameS_c (vw w) _ _ L _ hm.leV hs hs' hn) ?_
  refine o_yield rfl rfl rfl (y_val tok rfl) ?_
  refine o_yield rfl rfl rfl (y_val tok rfl) ?_
  refine o_end [4] rfl ?_
  refine x_then ?_
  refine c_ret ?_
  refine b_ret tok rfl ?_
  intro E w' hm _
  refine ⟨?_, hm.below (Vw.le.refl _)⟩
  simp
  rfl
end Go.Proofs.Ytanekcndpkagiaa

/- Fetching: taking, the document's. -/
set_option linter.unusedVariables false
set_option linter.unusedSimpArgs false
set_option maxRecDepth 100000
namespace Go.Proofs.Ytanekcndpkagiaa
open Go Go.Eng Go.RowKit

theorem rftake_c (V : Vw) (f : Fetching) (g : Geo) (got : ByteArray) (w : World) (hV : V.le (vw w)) (hs0 : SlOf V encS 1 f.parts.v f.parts.l) (hn : f.parts.l.length ≤ 1048576) :
    Calls Try.prog 68 #[g.val, f.val, S got] w fun e w' => ∃ x V', e = .returned x ∧ Below w.heap.size w w' ∧ Vext w.heap.size V V' w' ∧ FRes f g got V' x := by
  obtain ⟨bk, k, ⟨v, L⟩⟩ := f
  simp only at hs0 hn
  obtain ⟨a, n, c, rfl⟩ := sl_shape hs0.sl
  have hs := hs0.mono hV
  refine enter (E := E0) (O := []) (nl := 0) (V := vw w) [.a (.v g.val), .a (.v (⟨bk, k, ⟨.slice a n c, L⟩⟩ : Fetching).val), .a (.v (S got))] Try.func68 rfl rfl (mem0 E0 0 w) rfl rfl ?_
  refine c_seq ?_
  refine c_region ?_
  refine o_new tok rfl rfl rfl rfl ?_
  refine o_new tok rfl rfl rfl rfl ?_
  refine o_new tok rfl rfl rfl rfl ?_
  refine o_yield rfl rfl rfl (y_val tok rfl) ?_
  refine o_end [2, 3, 4, 6] rfl ?_
  refine x_then ?_
  refine c_seq ?_
  refine c_seq ?_
  refine c_region ?_
  refine o_yield rfl rfl rfl (y_val tok rfl) ?_
  refine o_yield rfl rfl rfl (y_val tok rfl) ?_
  refine o_yield rfl rfl rfl (y_val tok rfl) ?_
  refine o_end [2, 3, 4, 6, 10] rfl ?_
  refine x_then ?_
  refine c_cond rfl (fun h => ?_) (fun h => ?_)
  ·
    simp only [Bool.and_eq_true, Bool.or_eq_true, Bool.not_eq_true', Bool.or_eq_false_iff, Bool.and_eq_false_iff, decide_eq_true_eq, decide_eq_false_iff_not, beq_iff_eq, bne_iff_ne, Bool.not_eq_false', beq_eq_false_iff_ne, bne_eq_false_iff_eq, ne_eq, Decidable.not_not, Int.not_lt, Int.not_le] at h
    refine c_seq ?_
    refine c_region ?_
    refine o_yield rfl rfl rfl (y_val tok rfl) ?_
    refine o_store tok rfl rfl rfl (by first | exact ⟨trivial, trivial⟩ | (repeat' first | exact trivial | exact rfl | apply And.intro); done | simp [onesP, oneP, lk, Value.oneCell']) ?_
    refine o_yield rfl rfl rfl (y_val tok rfl) ?_
    refine o_end [6, 7] rfl ?_
    refine x_then ?_
    refine c_ret ?_
    refine x_then_ret ?_
    refine b_ret tok rfl ?_
    intro E w' hm _
    have hb := hm.below (Vw.le.refl _)
    exact ⟨_, V, rfl, hb, Vext.same hV hb, .inl ⟨by omega, rfl⟩⟩
  ·
    simp only [Bool.and_eq_true, Bool.or_eq_true, Bool.not_eq_true', Bool.or_eq_false_iff, Bool.and_eq_false_iff, decide_eq_true_eq, decide_eq_false_iff_not, beq_iff_eq, bne_iff_ne, Bool.not_eq_false', beq_eq_false_iff_ne, bne_eq_false_iff_eq, ne_eq, Decidable.not_not, Int.not_lt, Int.not_le] at h
    have hgt := h
    clear h
    refine c_skip ?_
    refine x_then ?_
    refine c_seq ?_
    refine c_seq ?_
    refine c_region ?_
    refine o_yield rfl rfl rfl (y_val tok rfl) ?_
    refine o_yield rfl rfl rfl (y_val tok rfl) ?_
    refine o_call (.a (.v _)) rfl rfl fnok62 rfl rfl rfl (fun hg E w1 hm => by exact rfover_c ⟨bk, k, ⟨.slice a n c, L⟩⟩ g _ _ _ rfl _) ?_
    refine o_end [2, 4, 6, 14] rfl ?_
    refine x_then ?_
    refine c_cond rfl (fun h => ?_) (fun h => ?_)
    ·
      simp only [Bool.and_eq_true, Bool.or_eq_true, Bool.not_eq_true', Bool.or_eq_false_iff, Bool.and_eq_false_iff, decide_eq_true_eq, decide_eq_false_iff_not, beq_iff_eq, bne_iff_ne, Bool.not_eq_false', beq_eq_false_iff_ne, bne_eq_false_iff_eq, ne_eq, Decidable.not_not, Int.not_lt, Int.not_le] at h
      refine c_seq ?_
      refine c_region ?_
      refine o_yield rfl rfl rfl (y_val tok rfl) ?_
      refine o_store tok rfl rfl rfl (by first | exact ⟨trivial, trivial⟩ | (repeat' first | exact trivial | exact rfl | apply And.intro); done | simp [onesP, oneP, lk, Value.oneCell']) ?_
      refine o_yield rfl rfl rfl (y_val tok rfl) ?_
      refine o_end [6, 7] rfl ?_
      refine x_then ?_
      refine c_ret ?_
      refine x_then_ret ?_
      refine b_ret tok rfl ?_
      intro E w' hm _
      have hb := hm.below (Vw.le.refl _)
      exact ⟨_, V, rfl, hb, Vext.same hV hb, .inr (.inl ⟨by omega, by omega, rfl⟩)⟩
    ·
      simp only [Bool.and_eq_true, Bool.or_eq_true, Bool.not_eq_true', Bool.or_eq_false_iff, Bool.and_eq_false_iff, decide_eq_true_eq, decide_eq_false_iff_not, beq_iff_eq, bne_iff_ne, Bool.not_eq_false', beq_eq_false_iff_ne, bne_eq_false_iff_eq, ne_eq, Decidable.not_not, Int.not_lt, Int.not_le] at h
      have hk := h
      clear h
      refine c_skip ?_
      refine x_then ?_
      refine c_seq ?_
      refine c_heldMS [13] (σ := Vw) (fun x => [(6, .a (.ptr 2 0)), (7, .a (.v (I 0)))]) (fun x => [(2, .lit [.v (I bk), .v (I (IntKind.i64.wrap (k + 1))), .row 5] 92), (5, .row 9 1 (0 + L.length + 1) ([] ++ L.flatMap encS ++ [got].flatMap encS))]) (6) (fun x => x) (fun x => (vw w).le x) mixed rfl (by repeat (first | exact SubO.nil | refine SubO.cons rfl ?_)) rfl ?_ ?_
      ·
        refine t_takeD 0 rfl (by kernel_rfl) rfl rfl rfl (y_val tok rfl) rfl ?_
        refine t_takeD 1 rfl (by kernel_rfl) rfl rfl rfl (y_val tok rfl) rfl ?_
        refine t_takeD 2 rfl (by kernel_rfl) rfl rfl rfl (y_val tok rfl) rfl ?_
        refine t_takeD 3 rfl (by kernel_rfl) rfl rfl rfl (y_val tok rfl) rfl ?_
        refine t_takeD 4 rfl (by kernel_rfl) rfl rfl rfl (y_val tok rfl) rfl ?_
        refine t_takeD 6 rfl (by kernel_rfl) rfl rfl rfl (y_val tok rfl) rfl ?_
        refine t_takeD 7 rfl (by kernel_rfl) rfl rfl rfl (y_val tok rfl) rfl ?_
        refine t_takeD 9 rfl (by kernel_rfl) rfl rfl rfl (y_val tok rfl) rfl ?_
        refine t_go ?_
        refine h_two 5 10 (by kernel_rfl) ?_ ?_
        ·
          refine h_to 5 rfl rfl rfl rfl rfl rfl (s_bs tok 1 rfl rfl rfl) (.inr fun _ _ => ⟨(by repeat (first | exact SubO.nil | refine SubO.cons rfl ?_)), rfl, (by first | exact Vw.le.refl _ | assumption)⟩) (fun _ _ => ?_)
          refine h_two 8 10 (by kernel_rfl) ?_ ?_
          ·
            refine h_to 8 rfl rfl rfl rfl rfl rfl (s_app (l := 3) (e := 9) (sz := 1) (by_ := 16) (m := 0) (k := L.length) (x := .a (.v (.slice a n c))) (olds := []) tok (L.flatMap encS) rfl (fun E w1 hm => (hs.mono (by repeat (first | exact Vw.le.refl _ | assumption | (refine Vw.le.trans ?_ (by assumption))))).sl.src hm.get) (fun _ _ _ => str_ones L) (by omega)) (.inr fun _ _ => ⟨(by repeat (first | exact SubO.nil | refine SubO.cons rfl ?_)), rfl, (by first | exact Vw.le.refl _ | assumption)⟩) (fun _ _ => ?_)
            refine h_one 10 (by kernel_rfl) ?_
            refine h_bs 10 tok rfl rfl rfl rfl rfl (fun b1 W1 hlw1 hb1 => ?_)
            refine h_one 11 (by kernel_rfl) ?_
            refine h_to 11 rfl rfl rfl rfl rfl rfl (s_app (l := 4) (e := 9) (sz := 1) (by_ := 16) (m := 0 + L.length) (k := 1) (x := .a (.v (.slice (some ⟨b1, 0, none⟩) 1 1))) (olds := [] ++ L.flatMap encS) tok ([got].flatMap encS) rfl (fun E w1 hm => ((SlOf.ofBlock (enc := encS) (sz := 1) (l := [got]) (hb1 rfl) rfl (fun _ => rfl) (Nat.le_refl _)).mono (by repeat (first | exact Vw.le.refl _ | assumption | (refine Vw.le.trans ?_ (by assumption))))).sl.src hm.get) (fun _ _ _ => str_ones [got]) (by omega)) (.inr fun _ _ => ⟨(by repeat (first | exact SubO.nil | refine SubO.cons rfl ?_)), rfl, (by first | exact Vw.le.refl _ | assumption)⟩) (fun _ _ => ?_)
            refine h_one 12 (by kernel_rfl) ?_
            refine h_yield 12 rfl rfl rfl rfl (y_val tok rfl) ?_
            refine h_one 13 (by kernel_rfl) ?_
            refine h_store 13 tok rfl rfl rfl rfl (by first | exact ⟨trivial, trivial⟩ | (repeat' first | exact trivial | exact rfl | apply And.intro); done | simp [onesP, oneP, lk, Value.oneCell']) (.inl rfl) ?_
            refine h_one 14 (by kernel_rfl) ?_
            refine h_yield 14 rfl rfl rfl rfl (y_val tok rfl) ?_
            refine h_done [6, 7] (by kernel_rfl) rfl ?_
            exact x_meet (W1) (by repeat (first | exact Vw.le.refl _ | assumption | (refine Vw.le.trans ?_ (by assumption)))) (by repeat (first | exact SubF.nil | refine SubF.cons rfl ?_)) (by repeat (first | exact SubO.nil | refine SubO.cons rfl ?_)) rfl (Vw.le.refl _)
          ·
            refine h_bs 10 tok rfl rfl rfl rfl rfl (fun b1 W1 hlw1 hb1 => ?_)
            refine h_one 8 (by kernel_rfl) ?_
            refine h_to 8 rfl rfl rfl rfl rfl rfl (s_app (l := 3) (e := 9) (sz := 1) (by_ := 16) (m := 0) (k := L.length) (x := .a (.v (.slice a n c))) (olds := []) tok (L.flatMap encS) rfl (fun E w1 hm => (hs.mono (by repeat (first | exact Vw.le.refl _ | assumption | (refine Vw.le.trans ?_ (by assumption))))).sl.src hm.get) (fun _ _ _ => str_ones L) (by omega)) (.inr fun _ _ => ⟨(by repeat (first | exact SubO.nil | refine SubO.cons rfl ?_)), rfl, (by first | exact Vw.le.refl _ | assumption)⟩) (fun _ _ => ?_)
            refine h_one 11 (by kernel_rfl) ?_
            refine h_to 11 rfl rfl rfl rfl rfl rfl (s_app (l := 4) (e := 9) (sz := 1) (by_ := 16) (m := 0 + L.length) (k := 1) (x := .a (.v (.slice (some ⟨b1, 0, none⟩) 1 1))) (olds := [] ++ L.flatMap encS) tok ([got].flatMap encS) rfl (fun E w1 hm => ((SlOf.ofBlock (enc := encS) (sz := 1) (l := [got]) (hb1 rfl) rfl (fun _ => rfl) (Nat.le_refl _)).mono (by repeat (first | exact Vw.le.refl _ | assumption | (refine Vw.le.trans ?_ (by assumption))))).sl.src hm.get) (fun _ _ _ => str_ones [got]) (by omega)) (.inr fun _ _ => ⟨(by repeat (first | exact SubO.nil | refine SubO.cons rfl ?_)), rfl, (by first | exact Vw.le.refl _ | assumption)⟩) (fun _ _ => ?_)
            refine h_one 12 (by kernel_rfl) ?_
            refine h_yield 12 rfl rfl rfl rfl (y_val tok rfl) ?_
            refine h_one 13 (by kernel_rfl) ?_
            refine h_store 13 tok rfl rfl rfl rfl (by first | exact ⟨trivial, trivial⟩ | (repeat' first | exact trivial | exact rfl | apply And.intro); done | simp [onesP, oneP, lk, Value.oneCell']) (.inl rfl) ?_
            refine h_one 14 (by kernel_rfl) ?_
            refine h_yield 14 rfl rfl rfl rfl (y_val tok rfl) ?_
            refine h_done [6, 7] (by kernel_rfl) rfl ?_
            exact x_meet (W1) (by repeat (first | exact Vw.le.refl _ | assumption | (refine Vw.le.trans ?_ (by assumption)))) (by repeat (first | exact SubF.nil | refine SubF.cons rfl ?_)) (by repeat (first | exact SubO.nil | refine SubO.cons rfl ?_)) rfl (Vw.le.refl _)
        ·
          refine h_bs 10 tok rfl rfl rfl rfl rfl (fun b1 W1 hlw1 hb1 => ?_)
          refine h_one 5 (by kernel_rfl) ?_
          refine h_to 5 rfl rfl rfl rfl rfl rfl (s_bs tok 1 rfl rfl rfl) (.inr fun _ _ => ⟨(by repeat (first | exact SubO.nil | refine SubO.cons rfl ?_)), rfl, (by first | exact Vw.le.refl _ | assumption)⟩) (fun _ _ => ?_)
          refine h_one 8 (by kernel_rfl) ?_
          refine h_to 8 rfl rfl rfl rfl rfl rfl (s_app (l := 3) (e := 9) (sz := 1) (by_ := 16) (m := 0) (k := L.length) (x := .a (.v (.slice a n c))) (olds := []) tok (L.flatMap encS) rfl (fun E w1 hm => (hs.mono (by repeat (first | exact Vw.le.refl _ | assumption | (refine Vw.le.trans ?_ (by assumption))))).sl.src hm.get) (fun _ _ _ => str_ones L) (by omega)) (.inr fun _ _ => ⟨(by repeat (first | exact SubO.nil | refine SubO.cons rfl ?_)), rfl, (by first | exact Vw.le.refl _ | assumption)⟩) (fun _ _ => ?_)
          refine h_one 11 (by kernel_rfl) ?_
          refine h_to 11 rfl rfl rfl rfl rfl rfl (s_app (l := 4) (e := 9) (sz := 1) (by_ := 16) (m := 0 + L.length) (k := 1) (x := .a (.v (.slice (some ⟨b1, 0, none⟩) 1 1))) (olds := [] ++ L.flatMap encS) tok ([got].flatMap encS) rfl (fun E w1 hm => ((SlOf.ofBlock (enc := encS) (sz := 1) (l := [got]) (hb1 rfl) rfl (fun _ => rfl) (Nat.le_refl _)).mono (by repeat (first | exact Vw.le.refl _ | assumption | (refine Vw.le.trans ?_ (by assumption))))).sl.src hm.get) (fun _ _ _ => str_ones [got]) (by omega)) (.inr fun _ _ => ⟨(by repeat (first | exact SubO.nil | refine SubO.cons rfl ?_)), rfl, (by first | exact Vw.le.refl _ | assumption)⟩) (fun _ _ => ?_)
          refine h_one 12 (by kernel_rfl) ?_
          refine h_yield 12 rfl rfl rfl rfl (y_val tok rfl) ?_
          refine h_one 13 (by kernel_rfl) ?_
          refine h_store 13 tok rfl rfl rfl rfl (by first | exact ⟨trivial, trivial⟩ | (repeat' first | exact trivial | exact rfl | apply And.intro); done | simp [onesP, oneP, lk, Value.oneCell']) (.inl rfl) ?_
          refine h_one 14 (by kernel_rfl) ?_
          refine h_yield 14 rfl rfl rfl rfl (y_val tok rfl) ?_
          refine h_done [6, 7] (by kernel_rfl) rfl ?_
          exact x_meet (W1) (by repeat (first | exact Vw.le.refl _ | assumption | (refine Vw.le.trans ?_ (by assumption)))) (by repeat (first | exact SubF.nil | refine SubF.cons rfl ?_)) (by repeat (first | exact SubO.nil | refine SubO.cons rfl ?_)) rfl (Vw.le.refl _)
      rintro V6 hle6
      try dsimp only
      refine x_then ?_
      refine c_ret ?_
      refine b_ret tok rfl ?_
      intro E w' hm _
      have hb := hm.below hle6
      have hrow := hm.rowFresh hle6 (l := 5) rfl
      rw [show 0 + L.length + 1 = (L ++ [got]).length by simp, List.nil_append, ← List.flatMap_append] at hrow
      obtain ⟨V', hx, hsl⟩ := ownsRow_vext hV hb hrow
      obtain ⟨a', n', c', hv⟩ := sl_shape hsl
      rw [hv] at hsl
      refine ⟨_, V', rfl, hb, hx, .inr (.inr ⟨by omega, by omega, a', n', c', ?_, hsl, fun _ => rfl⟩)⟩
      rw [← hv]
      rfl

def takeK (f : Fetching) (g : Geo) (got : ByteArray) : Int := if 256 < got.size ∨ g.per ≤ f.k then f.k else IntKind.i64.wrap (f.k + 1)
def takeE (got : ByteArray) : Int := if 256 < got.size then 50 else 0
def takeL (f : Fetching) (g : Geo) (got : ByteArray) : List ByteArray := if 256 < got.size ∨ g.per ≤ f.k then f.parts.l else f.parts.l ++ [got]

theorem FRes.out {f : Fetching} {g : Geo} {got : ByteArray} {V' : Vw} {x : Value} (h : FRes f g got V' x) (hs : SlOf V' encS 1 f.parts.v f.parts.l) : ∃ a n c, x = .tuple #[.agg #[I f.block, I (takeK f g got), .slice a n c], I (takeE got)] ∧ SlOf V' encS 1 (.slice a n c) (takeL f g got) := by
  rcases h with ⟨h1, rfl⟩ | ⟨h1, h2, rfl⟩ | ⟨h1, h2, a, n, c, rfl, h3⟩
  · obtain ⟨a, n, c, hv⟩ := sl_shape hs.sl
    rw [hv] at hs
    refine ⟨a, n, c, ?_, by rw [takeL, if_pos (.inl h1)]; exact hs⟩
    rw [takeK, if_pos (.inl h1), takeE, if_pos h1, ← hv]
  · obtain ⟨a, n, c, hv⟩ := sl_shape hs.sl
    rw [hv] at hs
    refine ⟨a, n, c, ?_, by rw [takeL, if_pos (.inr h2)]; exact hs⟩
    rw [takeK, if_pos (.inr h2), takeE, if_neg (by omega), ← hv]
  · have hn : ¬ (256 < got.size ∨ g.per ≤ f.k) := by omega
    exact ⟨a, n, c, by rw [takeK, if_neg hn, takeE, if_neg (by omega)], by rw [takeL, if_neg hn]; exact h3⟩
end Go.Proofs.Ytanekcndpkagiaa

/- Fetching tells what the document tells: the law, for parts that may be put together. -/
set_option linter.unusedVariables false
set_option linter.unusedSimpArgs false
set_option maxRecDepth 100000
namespace Go.Proofs.Ytanekcndpkagiaa
open Go Go.Eng Go.RowKit

theorem ftakeV_c (V : Vw) (f : Fetching) (g : Geo) (got : ByteArray) (w : World) (hV : V.le (vw w)) (hs0 : SlOf V encS 1 f.parts.v f.parts.l) (hn : f.parts.l.length ≤ 1048576) :
    Calls Try.prog 67 #[g.val, f.val, S got] w fun e w' => ∃ x V', e = .returned x ∧ Below w.heap.size w w' ∧ Vext w.heap.size V V' w' ∧ ∃ a n c, x = .tuple #[.agg #[I f.block, I (takeK f g got), .slice a n c], I (takeE got)] ∧ SlOf V' encS 1 (.slice a n c) (takeL f g got) := by
  refine (ftake_c V f g got w hV hs0 (by omega)).mono ?_
  rintro e w' ⟨x, V', he, hb, hx, h⟩
  exact ⟨x, V', he, hb, hx, h.out (hs0.mono hx.le)⟩

theorem rftakeV_c (V : Vw) (f : Fetching) (g : Geo) (got : ByteArray) (w : World) (hV : V.le (vw w)) (hs0 : SlOf V encS 1 f.parts.v f.parts.l) (hn : f.parts.l.length ≤ 1048576) :
    Calls Try.prog 68 #[g.val, f.val, S got] w fun e w' => ∃ x V', e = .returned x ∧ Below w.heap.size w w' ∧ Vext w.heap.size V V' w' ∧ ∃ a n c, x = .tuple #[.agg #[I f.block, I (takeK f g got), .slice a n c], I (takeE got)] ∧ SlOf V' encS 1 (.slice a n c) (takeL f g got) := by
  refine (rftake_c V f g got w hV hs0 hn).mono ?_
  rintro e w' ⟨x, V', he, hb, hx, h⟩
  exact ⟨x, V', he, hb, hx, h.out (hs0.mono hx.le)⟩

theorem fetchTells_c (w : World) (g : Geo) (ok : g.Ok) (bk k : Int) (pv : Value) (L : List ByteArray) (hp : SlOf (vw w) encS 1 pv L) (hcat : L.length ≤ 100 → (catL L).length ≤ 140737488355328) (hpn : L.length ≤ maxLen) (got : ByteArray) (hgot : got.size ≤ maxLen) (blk : Int) (lv : Value) (l : List (Sl Block))
    (hl : SlOf (vw w) Sl.enc 1 lv l) (hln : l.length ≤ maxLen) (hla : ∀ r ∈ l, SlOf (vw w) Block.cells 2 r.v r.l ∧ r.l.length ≤ maxLen) (d : Device) (hd : DevIn (vw w) d) :
    Calls Try.prog 12 #[g.val, (⟨bk, k, ⟨pv, L⟩⟩ : Fetching).val, S got, I blk, lv, d.val] w fun e w' => e = .returned (.bool true) ∧ Below w.heap.size w w' := by
  obtain ⟨a0, n0, c0, rfl⟩ := sl_shape hp.sl
  obtain ⟨b0, m0, e0, rfl⟩ := sl_shape hl.sl
  obtain ⟨⟨sv, sl⟩, ⟨cv, cl⟩, ⟨kv, kl⟩, nx, ⟨fv, fl⟩⟩ := d
  obtain ⟨a1, n1, c1, rfl⟩ := sl_shape hd.s.sl
  obtain ⟨a2, n2, c2, rfl⟩ := sl_shape hd.cache.sl
  obtain ⟨a3, n3, c3, rfl⟩ := sl_shape hd.keys.sl
  obtain ⟨a4, n4, c4, rfl⟩ := sl_shape hd.fenced.sl
  have hS := hd.s
  have hC := hd.cache
  have hK := hd.keys
  have hF := hd.fenced
  have hnow := fun (V : Vw) (hle : (vw w).le V) (w1 : World) (h1 : V.le (vw w1)) => fnow_c V g ok _ blk w1 h1 (hd.mono hle)
  have hrnow := fun (V : Vw) (hle : (vw w).le V) (w1 : World) (h1 : V.le (vw w1)) => refNow_c V g ok _ blk w1 h1 (hd.mono hle)
  generalize hD : (⟨⟨.slice a1 n1 c1, sl⟩, ⟨.slice a2 n2 c2, cl⟩, ⟨.slice a3 n3 c3, kl⟩, nx, ⟨.slice a4 n4 c4, fl⟩⟩ : Device) = D at hnow hrnow ⊢
  have hval : D.val = .agg #[.slice a1 n1 c1, .slice a2 n2 c2, .slice a3 n3 c3, I nx, .slice a4 n4 c4] := by rw [← hD]
  rw [hval] at hnow hrnow ⊢
  simp only at hS hC hK hF
  clear hD hval hd
  simp only [maxLen] at hpn hgot hln
  refine enter (E := E0) (O := []) (nl := 0) (V := vw w) [.a (.v g.val), .a (.v (⟨bk, k, ⟨.slice a0 n0 c0, L⟩⟩ : Fetching).val), .a (.v (S got)), .a (.v (I blk)), .a (.v (.slice b0 m0 e0)), .a (.v (.agg #[.slice a1 n1 c1, .slice a2 n2 c2, .slice a3 n3 c3, I nx, .slice a4 n4 c4]))] Try.func12 rfl rfl (mem0 E0 0 w) rfl rfl ?_
  refine c_seq ?_
  refine c_region ?_
  refine o_new tok rfl rfl rfl rfl ?_
  refine o_new tok rfl rfl rfl rfl ?_
  refine o_new tok rfl rfl rfl rfl ?_
  refine o_yield rfl rfl rfl (y_val tok rfl) ?_
  refine o_end [2, 3, 4, 6, 7, 11] rfl ?_
  refine x_then ?_
  refine c_seq ?_
  refine c_seq ?_
  refine c_region ?_
  refine o_yield rfl rfl rfl (y_val tok rfl) ?_
  refine o_yield rfl rfl rfl (y_val tok rfl) ?_
  refine o_yield rfl rfl rfl (y_len tok rfl (fun hg => hp.sl)) ?_
  refine o_yield rfl rfl rfl (y_val tok rfl) ?_
  refine o_yield rfl rfl rfl (y_val tok rfl) ?_
  refine o_yield rfl rfl rfl (y_val tok rfl) ?_
  refine o_yield rfl rfl rfl (y_val tok rfl) ?_
  refine o_yield rfl rfl rfl (y_val tok rfl) ?_
  refine o_yield rfl rfl rfl (y_val tok rfl) ?_
  refine o_yield rfl rfl rfl (y_val tok rfl) ?_
  refine o_yield rfl rfl rfl (y_val tok rfl) ?_
  refine o_yield rfl rfl rfl (y_len tok rfl (fun hg => hl.sl)) ?_
  refine o_yield rfl rfl rfl (y_val tok rfl) ?_
  refine o_yield rfl rfl rfl (y_val tok rfl) ?_
  refine o_yield rfl rfl rfl (y_val tok rfl) ?_
  refine o_yield rfl rfl rfl (y_val tok rfl) ?_
  refine o_yield rfl rfl rfl (y_val tok rfl) ?_
  refine o_yield rfl rfl rfl (y_len tok rfl (fun hg => hS.sl)) ?_
  refine o_yield rfl rfl rfl (y_val tok rfl) ?_
  refine o_yield rfl rfl rfl (y_val tok rfl) ?_
  refine o_yield rfl rfl rfl (y_val tok rfl) ?_
  refine o_yield rfl rfl rfl (y_val tok rfl) ?_
  refine o_yield rfl rfl rfl (y_val tok rfl) ?_
  refine o_yield rfl rfl rfl (y_len tok rfl (fun hg => hC.sl)) ?_
  refine o_yield rfl rfl rfl (y_val tok rfl) ?_
  refine o_yield rfl rfl rfl (y_val tok rfl) ?_
  refine o_yield rfl rfl rfl (y_val tok rfl) ?_
  refine o_yield rfl rfl rfl (y_val tok rfl) ?_
  refine o_yield rfl rfl rfl (y_val tok rfl) ?_
  refine o_yield rfl rfl rfl (y_len tok rfl (fun hg => hK.sl)) ?_
  refine o_yield rfl rfl rfl (y_val tok rfl) ?_
  refine o_yield rfl rfl rfl (y_val tok rfl) ?_
  refine o_yield rfl rfl rfl (y_val tok rfl) ?_
  refine o_yield rfl rfl rfl (y_val tok rfl) ?_
  refine o_yield rfl rfl rfl (y_val tok rfl) ?_
  refine o_yield rfl rfl rfl (y_len tok rfl (fun hg => hF.sl)) ?_
  refine o_yield rfl rfl rfl (y_val tok rfl) ?_
  refine o_yield rfl rfl rfl (y_val tok rfl) ?_
  refine o_end [2, 3, 4, 6, 7, 11, 61] rfl ?_
  refine x_then ?_
  refine c_cond rfl (fun h => ?_) (fun h => ?_)
  ·
    simp only [Bool.and_eq_true, Bool.or_eq_true, Bool.not_eq_true', Bool.or_eq_false_iff, Bool.and_eq_false_iff, decide_eq_true_eq, decide_eq_false_iff_not, beq_iff_eq, bne_iff_ne, Bool.not_eq_false', beq_eq_false_iff_ne, bne_eq_false_iff_eq, ne_eq, Decidable.not_not, Int.not_lt, Int.not_le] at h
    refine c_seq ?_
    refine c_region ?_
    refine o_call (.a (.v _)) rfl rfl fnok16 rfl rfl rfl (fun hg E w1 hm => by exact wakes22_c _) ?_
    refine o_yield rfl rfl rfl (y_val tok rfl) ?_
    refine o_end [12] rfl ?_
    refine x_then ?_
    refine c_ret ?_
    refine x_then_ret ?_
    refine b_ret tok rfl ?_
    intro E w' hm _
    refine ⟨?_, hm.below (Vw.le.refl _)⟩
    rfl
  ·
    simp only [Bool.and_eq_true, Bool.or_eq_true, Bool.not_eq_true', Bool.or_eq_false_iff, Bool.and_eq_false_iff, decide_eq_true_eq, decide_eq_false_iff_not, beq_iff_eq, bne_iff_ne, Bool.not_eq_false', beq_eq_false_iff_ne, bne_eq_false_iff_eq, ne_eq, Decidable.not_not, Int.not_lt, Int.not_le] at h
    have hL100 : L.length ≤ 100 := by omega
    have hl6 : l.length ≤ 6 := by omega
    have hct := hcat hL100
    clear h
    refine c_skip ?_
    refine x_then ?_
    refine c_seq ?_
    refine c_seq ?_
    refine c_region ?_
    refine o_yield rfl rfl rfl (y_val tok rfl) ?_
    refine o_end [2, 3, 4, 6, 7, 11, 13] rfl ?_
    refine x_then ?_
    refine c_block ?_
    refine c_loopK [2, 3, 4, 6, 7, 11] [0, 1, 2] rfl rfl (σ := Nat) (fun i => [(13, .a (.v (I i)))]) (fun i => [(0, .lit (g.cells.map .v) 29), (1, .lit [.v (I bk), .v (I k), .v (.slice a0 n0 c0)] 92), (2, .lit [.v (.slice a1 n1 c1), .v (.slice a2 n2 c2), .v (.slice a3 n3 c3), .v (I nx), .v (.slice a4 n4 c4)] 84)]) (fun i => i ≤ l.length ∧ (∀ j r, j < i → l[j]? = some r → greatB r.l = false)) (fun i => l.length - i) (0) (⟨by omega, by omega⟩) (by repeat (first | exact SubF.nil | refine SubF.cons rfl ?_)) (by repeat (first | exact SubO.nil | refine SubO.cons rfl ?_)) rfl ?_
    rintro i ⟨hi, hall⟩
    refine c_seq ?_
    refine c_seq ?_
    refine c_region ?_
    refine o_yield rfl rfl rfl (y_val tok rfl) ?_
    refine o_yield rfl rfl rfl (y_val tok rfl) ?_
    refine o_yield rfl rfl rfl (y_len tok rfl (fun hg => hl.sl)) ?_
    refine o_yield rfl rfl rfl (y_val tok rfl) ?_
    refine o_end [2, 3, 4, 6, 7, 11, 13, 66] rfl ?_
    refine x_then ?_
    refine c_cond rfl (fun h => ?_) (fun h => ?_)
    ·
      simp only [Bool.and_eq_true, Bool.or_eq_true, Bool.not_eq_true', Bool.or_eq_false_iff, Bool.and_eq_false_iff, decide_eq_true_eq, decide_eq_false_iff_not, beq_iff_eq, bne_iff_ne, Bool.not_eq_false', beq_eq_false_iff_ne, bne_eq_false_iff_eq, ne_eq, Decidable.not_not, Int.not_lt, Int.not_le] at h
      refine c_skip ?_
      refine x_then ?_
      refine c_seq ?_
      refine c_block ?_
      refine c_seq ?_
      refine c_region ?_
      refine o_yield rfl rfl rfl (y_val tok rfl) ?_
      refine o_yield rfl rfl rfl (y_val tok rfl) ?_
      obtain ⟨r, h_r⟩ := hl.at (k := i) (by omega)
      obtain ⟨hr1, hr2⟩ := hla r (List.mem_of_getElem? h_r)
      have hlt_r := lt_of_at h_r
      refine o_yield rfl rfl rfl (y_idx tok rfl (fun hg => hl.sl) (fun hg => ⟨by omega, by omega⟩)) ?_
      refine o_yield rfl rfl rfl (y_lel tok (i) 0 (r) rfl (fun hg => hl) (fun hg => h_r) rfl rfl) ?_
      refine o_call (.a (.v _)) rfl rfl fnok15 rfl rfl rfl (fun hg E w1 hm => by exact great_c _ r.v r.l _ hm.leV hr1 hr2) ?_
      refine o_end [2, 3, 4, 6, 7, 11, 13, 73] rfl ?_
      refine x_then ?_
      refine c_cond rfl (fun h => ?_) (fun h => ?_)
      ·
        refine c_seq ?_
        refine c_region ?_
        refine o_call (.a (.v _)) rfl rfl fnok16 rfl rfl rfl (fun hg E w1 hm => by exact wakes22_c _) ?_
        refine o_yield rfl rfl rfl (y_val tok rfl) ?_
        refine o_end [12] rfl ?_
        refine x_then ?_
        refine c_ret ?_
        refine x_block_ret ?_
        refine x_then_ret ?_
        refine x_then_ret ?_
        refine x_block_ret ?_
        refine x_then_ret ?_
        refine b_ret tok rfl ?_
        intro E w' hm _
        refine ⟨?_, hm.below (Vw.le.refl _)⟩
        rfl
      ·
        refine c_skip ?_
        refine x_block ?_
        refine x_then ?_
        refine c_region ?_
        refine o_yield rfl rfl rfl (y_val tok rfl) ?_
        refine o_yield rfl rfl rfl (y_val tok rfl) ?_
        refine o_yield rfl rfl rfl (y_val tok rfl) ?_
        refine o_end [2, 3, 4, 6, 7, 11, 13] rfl ?_
        refine x_then ?_
        rw [wrapI (n := (i : Int) + 1) (by omega) (by omega)]
        refine x_round (i + 1) (⟨by omega, ahead_succ' h_r hall h⟩) (by first | omega | (dsimp only; omega)) (by repeat (first | exact SubF.nil | refine SubF.cons rfl ?_)) (by repeat (first | exact SubO.nil | refine SubO.cons rfl ?_)) rfl (Vw.le.refl _)
    ·
      simp only [Bool.and_eq_true, Bool.or_eq_true, Bool.not_eq_true', Bool.or_eq_false_iff, Bool.and_eq_false_iff, decide_eq_true_eq, decide_eq_false_iff_not, beq_iff_eq, bne_iff_ne, Bool.not_eq_false', beq_eq_false_iff_ne, bne_eq_false_iff_eq, ne_eq, Decidable.not_not, Int.not_lt, Int.not_le] at h
      refine c_exit ?_
      refine x_then_exit ?_
      refine x_then_exit ?_
      refine x_block_hit ?_
      refine x_then ?_
      refine c_seq ?_
      refine c_region ?_
      refine o_yield rfl rfl rfl (y_val tok rfl) ?_
      refine o_yield rfl rfl rfl (y_val tok rfl) ?_
      have hil : i = l.length := by omega
      have hlk : ∀ r ∈ l, SlOf (vw w) Block.cells 2 r.v r.l ∧ r.l.length ≤ 4398046511104 := by
        intro r hr
        obtain ⟨j, hj⟩ := List.getElem?_of_mem hr
        have hjl := (List.getElem?_eq_some_iff.1 hj).1
        have := great_no (hall j r (by omega) hj)
        exact ⟨(hla r hr).1, by omega⟩
      refine o_call (.a (.v _)) rfl rfl fnok58 rfl rfl rfl (fun hg E w1 hm => by exact fbegin_c g ok blk _) ?_
      refine o_yield rfl rfl rfl (y_val tok rfl) ?_
      refine o_yield rfl rfl rfl (y_val tok rfl) ?_
      refine o_yield rfl rfl rfl (y_val tok rfl) ?_
      refine o_new tok rfl rfl rfl rfl ?_
      refine o_store tok rfl rfl rfl (by first | exact ⟨trivial, trivial⟩ | (repeat' first | exact trivial | exact rfl | apply And.intro); done | simp [onesP, oneP, lk, Value.oneCell']) ?_
      refine o_yield rfl rfl rfl (y_val tok rfl) ?_
      refine o_end [2, 3, 4, 6, 7, 11, 14, 15] rfl ?_
      refine x_then ?_
      refine c_seq ?_
      refine c_region ?_
      refine o_yield rfl rfl rfl (y_val tok rfl) ?_
      refine o_yield rfl rfl rfl (y_val tok rfl) ?_
      refine o_call (.a (.v _)) rfl rfl fnok59 rfl rfl rfl (fun hg E w1 hm => by exact rfbegin_c g ok blk _) ?_
      refine o_yield rfl rfl rfl (y_val tok rfl) ?_
      refine o_yield rfl rfl rfl (y_val tok rfl) ?_
      refine o_yield rfl rfl rfl (y_val tok rfl) ?_
      refine o_new tok rfl rfl rfl rfl ?_
      refine o_store tok rfl rfl rfl (by first | exact ⟨trivial, trivial⟩ | (repeat' first | exact trivial | exact rfl | apply And.intro); done | simp [onesP, oneP, lk, Value.oneCell']) ?_
      refine o_yield rfl rfl rfl (y_val tok rfl) ?_
      refine o_end [2, 3, 4, 6, 7, 11, 14, 15, 16, 17] rfl ?_
      refine x_then ?_
      refine c_seq ?_
      refine c_seq ?_
      refine c_draw mixed (by kernel_rfl) ?_
      refine d_yield rfl rfl rfl (y_val tok rfl) rfl ?_
      refine d_yield rfl rfl rfl (y_val tok rfl) rfl ?_
      refine d_call (.a (.v _)) rfl rfl fnok60 rfl rfl rfl (fun hg E w1 hm => by exact sameF_c (vw w) _ _ none none 0 0 0 0 [] _ hm.leV (slNil _ _ _ _ (fun _ => rfl)) (slNil _ _ _ _ (fun _ => rfl)) (by simp)) ?_
      refine d_yield rfl rfl rfl (y_val tok rfl) rfl ?_
      refine d_yield rfl rfl rfl (y_val tok rfl) rfl ?_
      refine d_yield rfl rfl rfl (y_val tok rfl) rfl ?_
      refine d_yield rfl rfl rfl (y_val tok rfl) rfl ?_
      refine d_yield rfl rfl rfl (y_val tok rfl) rfl ?_
      refine d_yield rfl rfl rfl (y_val tok rfl) rfl ?_
      refine d_yield rfl rfl rfl (y_val tok rfl) rfl ?_
      refine d_yield rfl rfl rfl (y_val tok rfl) rfl ?_
      refine d_yield rfl rfl rfl (y_val tok rfl) rfl ?_
      refine d_call (.a (.v _)) rfl rfl fnok61 rfl rfl rfl (fun hg E w1 hm => by exact fover_c ⟨bk, k, ⟨.slice a0 n0 c0, L⟩⟩ g _ _ _ rfl _) ?_
      refine d_yield rfl rfl rfl (y_val tok rfl) rfl ?_
      refine d_yield rfl rfl rfl (y_val tok rfl) rfl ?_
      refine d_call (.a (.v _)) rfl rfl fnok62 rfl rfl rfl (fun hg E w1 hm => by exact rfover_c ⟨bk, k, ⟨.slice a0 n0 c0, L⟩⟩ g _ _ _ rfl _) ?_
      refine d_yield rfl rfl rfl (y_val tok rfl) rfl ?_
      refine d_yield rfl rfl rfl (y_val tok rfl) rfl ?_
      refine d_yield rfl rfl rfl (y_val tok rfl) rfl ?_
      refine d_yield rfl rfl rfl (y_val tok rfl) rfl ?_
      refine d_yield rfl rfl rfl (y_val tok rfl) rfl ?_
      refine d_call (.a (.v _)) rfl rfl fnok63 rfl rfl rfl (fun hg E w1 hm => by exact fwant_c ⟨bk, k, ⟨.slice a0 n0 c0, L⟩⟩ g ok _ _ _ rfl _) ?_
      refine d_yield rfl rfl rfl (y_val tok rfl) rfl ?_
      refine d_yield rfl rfl rfl (y_val tok rfl) rfl ?_
      refine d_call (.a (.v _)) rfl rfl fnok64 rfl rfl rfl (fun hg E w1 hm => by exact rfwant_c ⟨bk, k, ⟨.slice a0 n0 c0, L⟩⟩ g ok _ _ _ rfl _) ?_
      refine d_yield rfl rfl rfl (y_seq (.bool (!((fwantV ⟨bk, k, ⟨.slice a0 n0 c0, L⟩⟩ g).eqB (fwantV ⟨bk, k, ⟨.slice a0 n0 c0, L⟩⟩ g)))) rfl (fun E w => actEq _ _ w (.inr rfl))) rfl ?_
      refine d_yield rfl rfl rfl (y_val tok rfl) rfl ?_
      refine d_yield rfl rfl rfl (y_val tok rfl) rfl ?_
      refine d_yield rfl rfl rfl (y_val tok rfl) rfl ?_
      refine d_call (.a (.v _)) rfl rfl fnok65 rfl rfl rfl (fun hg E w1 hm => by exact ftext_c (vw w) ⟨bk, k, ⟨.slice a0 n0 c0, L⟩⟩ _ hm.leV hp (by simp only; omega) (by simp only; omega)) ?_
      refine d_yield rfl rfl rfl (y_val tok rfl) rfl ?_
      refine d_call (.a (.v _)) rfl rfl fnok66 rfl rfl rfl (fun hg E w1 hm => by exact rftext_c (vw w) ⟨bk, k, ⟨.slice a0 n0 c0, L⟩⟩ _ hm.leV hp (by simp only; omega) (by simp only; omega)) ?_
      refine d_yield rfl rfl rfl (y_val tok rfl) rfl ?_
      refine d_yield rfl rfl rfl (y_val tok rfl) rfl ?_
      refine d_end [2, 3, 4, 6, 7, 11, 14, 16, 120] rfl ?_
      refine x_then ?_
      refine c_cond rfl (fun h => ?_) (fun h => ?_)
      ·
        refine c_seq ?_
        refine c_region ?_
        refine o_yield rfl rfl rfl (y_val tok rfl) ?_
        refine o_end [12] rfl ?_
        refine x_then ?_
        refine c_ret ?_
        refine x_then_ret ?_
        refine b_ret tok rfl ?_
        exfalso
        rw [ActV.eqB_refl] at h
        simp at h
      ·
        refine c_skip ?_
        refine x_then ?_
        refine c_seq ?_
        refine c_region ?_
        refine o_yield rfl rfl rfl (y_val tok rfl) ?_
        refine o_yield rfl rfl rfl (y_val tok rfl) ?_
        refine o_yield rfl rfl rfl (y_val tok rfl) ?_
        clear h
        refine o_callV (fun x V' => ∃ a n c, x = .tuple #[.agg #[I bk, I (takeK ⟨bk, k, ⟨.slice a0 n0 c0, L⟩⟩ g got), .slice a n c], I (takeE got)] ∧ SlOf V' encS 1 (.slice a n c) (takeL ⟨bk, k, ⟨.slice a0 n0 c0, L⟩⟩ g got)) rfl rfl fnok67 rfl rfl (fun hg E w1 hm => by exact ftakeV_c (vw w) ⟨bk, k, ⟨.slice a0 n0 c0, L⟩⟩ g got _ hm.leV hp (by simp only; omega)) ?_
        rintro x V1 hle1 hx
        obtain ⟨a5, n5, c5, rfl, hs5⟩ := hx rfl
        refine o_yield rfl rfl rfl (y_val tok rfl) ?_
        refine o_yield rfl rfl rfl (y_val tok rfl) ?_
        refine o_yield rfl rfl rfl (y_val tok rfl) ?_
        refine o_store tok rfl rfl rfl (by first | exact ⟨trivial, trivial⟩ | (repeat' first | exact trivial | exact rfl | apply And.intro); done | simp [onesP, oneP, lk, Value.oneCell']) ?_
        refine o_yield rfl rfl rfl (y_val tok rfl) ?_
        refine o_end [2, 3, 4, 6, 7, 11, 14, 15, 16] rfl ?_
        refine x_then ?_
        refine c_seq ?_
        refine c_region ?_
        refine o_yield rfl rfl rfl (y_val tok rfl) ?_
        refine o_yield rfl rfl rfl (y_val tok rfl) ?_
        refine o_yield rfl rfl rfl (y_val tok rfl) ?_
        refine o_callV (fun x V' => ∃ a n c, x = .tuple #[.agg #[I bk, I (takeK ⟨bk, k, ⟨.slice a0 n0 c0, L⟩⟩ g got), .slice a n c], I (takeE got)] ∧ SlOf V' encS 1 (.slice a n c) (takeL ⟨bk, k, ⟨.slice a0 n0 c0, L⟩⟩ g got)) rfl rfl fnok68 rfl rfl (fun hg E w1 hm => by exact rftakeV_c V1 ⟨bk, k, ⟨.slice a0 n0 c0, L⟩⟩ g got _ hm.leV (hp.mono hle1) (by simp only; omega)) ?_
        rintro x V2 hle2 hx
        obtain ⟨a6, n6, c6, rfl, hs6⟩ := hx rfl
        have htl : (takeL ⟨bk, k, ⟨.slice a0 n0 c0, L⟩⟩ g got).length ≤ 101 := by
          unfold takeL
          split <;> simp <;> omega
        refine o_yield rfl rfl rfl (y_val tok rfl) ?_
        refine o_yield rfl rfl rfl (y_val tok rfl) ?_
        refine o_yield rfl rfl rfl (y_val tok rfl) ?_
        refine o_store tok rfl rfl rfl (by first | exact ⟨trivial, trivial⟩ | (repeat' first | exact trivial | exact rfl | apply And.intro); done | simp [onesP, oneP, lk, Value.oneCell']) ?_
        refine o_yield rfl rfl rfl (y_val tok rfl) ?_
        refine o_end [3, 4, 6, 11, 14, 15, 16, 17] rfl ?_
        refine x_then ?_
        refine c_seq ?_
        refine c_seq ?_
        refine c_region ?_
        refine o_yield rfl rfl rfl (y_val tok rfl) ?_
        refine o_yield rfl rfl rfl (y_val tok rfl) ?_
        refine o_call (.a (.v _)) rfl rfl fnok60 rfl rfl rfl (fun hg E w1 hm => by exact sameF_c V2 _ _ _ _ _ _ _ _ _ _ hm.leV (hs5.mono hle2) hs6 (by omega)) ?_
        refine o_yield rfl rfl rfl (y_val tok rfl) ?_
        refine o_yield rfl rfl rfl (y_val tok rfl) ?_
        refine o_yield rfl rfl rfl (y_val tok rfl) ?_
        refine o_yield rfl rfl rfl (y_val tok rfl) ?_
        refine o_yield rfl rfl rfl (y_val tok rfl) ?_
        refine o_yield rfl rfl rfl (y_val tok rfl) ?_
        refine o_end [3, 4, 6, 11, 143] rfl ?_
        refine x_then ?_
        refine c_cond rfl (fun h => ?_) (fun h => ?_)
        ·
          refine c_seq ?_
          refine c_region ?_
          refine o_yield rfl rfl rfl (y_val tok rfl) ?_
          refine o_end [12] rfl ?_
          refine x_then ?_
          refine c_ret ?_
          refine x_then_ret ?_
          refine b_ret tok rfl ?_
          exfalso
          simp at h
        ·
          refine c_skip ?_
          refine x_then ?_
          refine c_seq ?_
          refine c_region ?_
          refine o_yield rfl rfl rfl (y_val tok rfl) ?_
          refine o_yield rfl rfl rfl (y_val tok rfl) ?_
          clear h
          have hl2 := hl.mono (hle1.trans hle2)
          have hlk2 : ∀ r ∈ l, SlOf V2 Block.cells 2 r.v r.l ∧ r.l.length ≤ 4398046511104 := fun r hr => ⟨(hlk r hr).1.mono (hle1.trans hle2), (hlk r hr).2⟩
          refine o_call (.a (.v _)) rfl rfl fnok17 rfl rfl rfl (fun hg E w1 hm => by exact known_c V2 _ l blk _ hm.leV hl2 hlk2 (by omega)) ?_
          refine o_yield rfl rfl rfl (y_val tok rfl) ?_
          refine o_yield rfl rfl rfl (y_val tok rfl) ?_
          refine o_yield rfl rfl rfl (y_val tok rfl) ?_
          refine o_yield rfl rfl rfl (y_val tok rfl) ?_
          refine o_yield rfl rfl rfl (y_val tok rfl) ?_
          refine o_end [3, 4, 6, 11, 18, 19] rfl ?_
          refine x_then ?_
          refine c_seq ?_
          refine c_region ?_
          refine o_yield rfl rfl rfl (y_val tok rfl) ?_
          refine o_yield rfl rfl rfl (y_val tok rfl) ?_
          refine o_call (.a (.v _)) rfl rfl fnok69 rfl rfl rfl (fun hg E w1 hm => by exact refKnown_c V2 _ l blk _ hm.leV hl2 hlk2 (by omega)) ?_
          refine o_yield rfl rfl rfl (y_val tok rfl) ?_
          refine o_yield rfl rfl rfl (y_val tok rfl) ?_
          refine o_yield rfl rfl rfl (y_val tok rfl) ?_
          refine o_yield rfl rfl rfl (y_val tok rfl) ?_
          refine o_yield rfl rfl rfl (y_val tok rfl) ?_
          refine o_end [3, 6, 11, 18, 19, 20, 21] rfl ?_
          refine x_then ?_
          refine c_seq ?_
          refine c_region ?_
          refine o_yield rfl rfl rfl (y_val tok rfl) ?_
          refine o_yield rfl rfl rfl (y_val tok rfl) ?_
          refine o_yield rfl rfl rfl (y_val tok rfl) ?_
          refine o_call (.a (.v _)) rfl rfl fnok70 rfl rfl rfl (fun hg E w1 hm => by exact hnow V2 (hle1.trans hle2) _ hm.leV) ?_
          refine o_yield rfl rfl rfl (y_val tok rfl) ?_
          refine o_yield rfl rfl rfl (y_val tok rfl) ?_
          refine o_yield rfl rfl rfl (y_val tok rfl) ?_
          refine o_yield rfl rfl rfl (y_val tok rfl) ?_
          refine o_yield rfl rfl rfl (y_val tok rfl) ?_
          refine o_end [3, 6, 11, 15, 18, 19, 20, 21, 22] rfl ?_
          refine x_then ?_
          refine c_seq ?_
          refine c_region ?_
          refine o_yield rfl rfl rfl (y_val tok rfl) ?_
          refine o_yield rfl rfl rfl (y_val tok rfl) ?_
          refine o_yield rfl rfl rfl (y_val tok rfl) ?_
          refine o_call (.a (.v _)) rfl rfl fnok71 rfl rfl rfl (fun hg E w1 hm => by exact hrnow V2 (hle1.trans hle2) _ hm.leV) ?_
          refine o_yield rfl rfl rfl (y_val tok rfl) ?_
          refine o_yield rfl rfl rfl (y_val tok rfl) ?_
          refine o_yield rfl rfl rfl (y_val tok rfl) ?_
          refine o_yield rfl rfl rfl (y_val tok rfl) ?_
          refine o_yield rfl rfl rfl (y_val tok rfl) ?_
          refine o_end [15, 17, 18, 19, 20, 21, 22, 23] rfl ?_
          refine x_then ?_
          refine c_seq ?_
          refine c_region ?_
          refine o_yield rfl rfl rfl (y_val tok rfl) ?_
          refine o_yield rfl rfl rfl (y_val tok rfl) ?_
          refine o_yield rfl rfl rfl (y_val tok rfl) ?_
          refine o_yield rfl rfl rfl (y_val tok rfl) ?_
          refine o_yield rfl rfl rfl (y_val tok rfl) ?_
          refine o_yield rfl rfl rfl (y_val tok rfl) ?_
          refine o_yield rfl rfl rfl (y_val tok rfl) ?_
          refine o_yield rfl rfl rfl (y_val tok rfl) ?_
          refine o_yield rfl rfl rfl (y_val tok rfl) ?_
          refine o_yield rfl rfl rfl (y_val tok rfl) ?_
          refine o_yield rfl rfl rfl (y_val tok rfl) ?_
          refine o_yield rfl rfl rfl (y_val tok rfl) ?_
          refine o_yield rfl rfl rfl (y_val tok rfl) ?_
          refine o_yield rfl rfl rfl (y_val tok rfl) ?_
          refine o_yield rfl rfl rfl (y_val tok rfl) ?_
          refine o_yield rfl rfl rfl (y_val tok rfl) ?_
          refine o_yield rfl rfl rfl (y_val tok rfl) ?_
          refine o_yield rfl rfl rfl (y_val tok rfl) ?_
          refine o_yield rfl rfl rfl (y_val tok rfl) ?_
          refine o_call (.a (.v _)) rfl rfl fnok16 rfl rfl rfl (fun hg E w1 hm => by exact wakes22_c _) ?_
          refine o_yield rfl rfl rfl (y_val tok rfl) ?_
          refine o_yield rfl rfl rfl (y_val tok rfl) ?_
          refine o_end [12] rfl ?_
          refine x_then ?_
          refine c_ret ?_
          refine b_ret tok rfl ?_
          intro E w' hm _
          refine ⟨?_, hm.below ((hle1.trans hle2))⟩
          simp
          rfl
end Go.Proofs.Ytanekcndpkagiaa

/- What a fetching's reading holds: its parts' letters. -/
set_option linter.unusedVariables false
set_option linter.unusedSimpArgs false
set_option maxRecDepth 100000
namespace Go.Proofs.Ytanekcndpkagiaa
open Go Go.Eng Go.RowKit

section
variable {H : Type} {enc : TypeId × Value → H} {P : Program} {w : World} {base : Nat} {spare : Nat → Bool} {held : Bool}

theorem enc_map : ∀ l : List ByteArray, l.flatMap encS = l.map S
  | [] => rfl
  | y :: r => by rw [List.flatMap_cons, enc_map r]; rfl

theorem str_bulk {t e fuel : Nat} {v : Value} {x : DataW H × List MemPlace} {l : List ByteArray} (ht : P.underlying t = some (.slice e)) (he : P.underlying e = some .string) (hsz : P.cellsOf e = 1)
    (h : DataW.trod enc P w base spare held fuel t [v] = some x) (hs : SlOf (vw w) encS 1 v l) : l = [] ∨ ∃ rest, x.1 = .slice (l.map fun s => .lit (.string s.data.toList)) rest := by
  rcases DataW.trod_slice ht h with ⟨h1, rfl⟩ | ⟨a, len, cap, elems, rest, n, rfl, h1, rfl, _, _, _, hel, hall, _⟩
  · left
    have hv : v = .slice none 0 0 := by simpa using h1
    subst hv
    rcases hs.sl.2 with ⟨_, _, _, h2⟩ | ⟨_, _, _, _, _, _, h2, _⟩
    · exact List.eq_nil_of_length_eq_zero h2
    · cases h2
  · have hv : v = .slice (some a) len cap := by simpa using h1
    subst hv
    rcases hs.sl.2 with ⟨_, _, h2, h3⟩ | ⟨b, off, cap', cs, el, fz, h2, hb, hle, hx, _⟩
    · exact .inl (List.eq_nil_of_length_eq_zero h3)
    · right
      cases h2
      refine ⟨rest.map (·.1), ?_⟩
      simp only [DataW.slice.injEq, and_true]
      apply List.ext_getElem?
      intro i
      by_cases hi : i < l.length
      · have hbind := hall i hi
        rw [hsz, List.getElem?_eq_getElem (by omega)] at hbind
        obtain ⟨cs', hc, ht'⟩ := Option.bind_eq_some_iff.1 hbind
        obtain ⟨_, hlen, hg⟩ := World.cells?_some hc
        obtain ⟨s, hs', hxx, _⟩ := DataW.trod_string he ht'
        subst hs'
        have h0 := hg 0 (by omega)
        have hb' : w.heap[b]? = some (.cells cs el fz) := hb
        rw [Go.Deep.add_add, Addr.add_lit] at h0
        have hcell : w.cell? ⟨b, off + (i * 1 + 0), none⟩ = cs[off + i]? := by simp [World.cell?, hb']
        rw [hcell] at h0
        have hli : cs[off + i]? = some (S l[i]) := by
          have : (l.flatMap encS)[i]? = some (S l[i]) := by
            rw [enc_map, List.getElem?_map, List.getElem?_eq_getElem hi]
            rfl
          rw [hx, List.getElem?_take, if_pos (by omega), List.getElem?_drop] at this
          simpa using this
        rw [hli] at h0
        have hsl : l[i] = s := by
          have := h0
          simp at this
          exact this
        rw [List.getElem?_map, List.getElem?_map, List.getElem?_eq_getElem hi, List.getElem?_eq_getElem (by omega)]
        simp only [Option.map_some, hxx, hsl]
      · rw [List.getElem?_eq_none (by rw [List.length_map]; omega), List.getElem?_eq_none (by rw [List.length_map]; omega)]

theorem bulk_strs : ∀ l : List ByteArray, Rows.uptoBulkAll (H := H) (l.map fun s => .lit (.string s.data.toList)) = (catL l).length + l.length
  | [] => by simp [Rows.uptoBulkAll, catL]
  | a :: r => by
    simp only [List.map_cons, Rows.uptoBulkAll, Rows.uptoBulk, bulk_strs r, catL, List.flatMap_cons, List.length_append, List.length_cons]
    omega

theorem part_le {d : DataW H} : ∀ {l : List (DataW H)}, d ∈ l → Rows.uptoBulk d ≤ Rows.uptoBulkAll l
  | [], h => by cases h
  | x :: r, h => by
    simp only [Rows.uptoBulkAll]
    rcases List.mem_cons.1 h with rfl | e
    · omega
    · have := part_le e; omega

theorem fetch_bulk {d : DataW H} {p : List MemPlace} (a : Fetching) (ok : Fetching.Ok (vw w) a) (h : DataW.Trod enc Try.prog w base spare held 92 a.val d p) : (catL a.parts.l).length ≤ Rows.uptoBulk d := by
  obtain ⟨fuel, hf⟩ := h
  have hf' : DataW.trod enc Try.prog w base spare held fuel 92 a.cells = some (d, p) := hf
  obtain ⟨xs, n, rfl, hx, _, hxl, hall⟩ := DataW.trod_struct Try.underlying92 hf'
  have hd : d = .agg (xs.map (·.1)) := congrArg Prod.fst hx
  have h2 := hall 2 _ rfl
  have hc41 : Try.prog.cellsOf 41 = 1 := by kernel_rfl
  have hc9 : Try.prog.cellsOf 9 = 1 := by kernel_rfl
  have h2' : DataW.trod enc Try.prog w base spare held n 41 [a.parts.v] = xs[2]? := by
    rw [← h2]
    show _ = DataW.trod enc Try.prog w base spare held n 41 ((a.cells.drop 2).take (Try.prog.cellsOf 41))
    rw [hc41]
    rfl
  have hlen : 2 < xs.length := by rw [hxl]; decide
  rw [List.getElem?_eq_getElem hlen] at h2'
  have hmem : xs[2].1 ∈ xs.map (·.1) := List.mem_map.2 ⟨xs[2], List.getElem_mem hlen, rfl⟩
  have hle := part_le hmem
  rcases str_bulk Try.underlying41 Try.underlying9 hc9 h2' ok.parts.sl with h0 | ⟨rest, h0⟩
  · rw [h0]; simp [catL]
  · rw [h0] at hle
    rw [hd]
    simp only [Rows.uptoBulk, bulk_strs] at hle ⊢
    omega
end

theorem fetchTells_upto (w : World) {v0 v1 v2 v3 v4 v5 : Value} (R0 : ∃ g : Geo, v0 = g.val ∧ g.Ok) (R1 : ∃ a : Fetching, v1 = a.val ∧ Fetching.Ok (vw w) a) (R2 : ∃ s : ByteArray, v2 = .string s ∧ s.size ≤ maxLen) (R3 : ∃ n : Int, v3 = I n ∧ R64 n)
    (R4 : ∃ l : List (Sl Block), SlOf (vw w) Sl.enc 1 v4 l ∧ l.length ≤ maxLen ∧ ∀ a ∈ l, SlGood (vw w) Block.cells 2 (fun a => Block.Ok a) a) (R5 : ∃ a : Device, v5 = a.val ∧ Device.Ok (vw w) a)
    (hb : ∀ a : Fetching, v1 = a.val → Fetching.Ok (vw w) a → (catL a.parts.l).length ≤ 1048576) :
    Calls Try.prog 12 #[v0, v1, v2, v3, v4, v5] w fun e w' => e = .returned (.bool true) ∧ Below w.heap.size w w' := by
  obtain ⟨g, rfl, ok⟩ := R0
  obtain ⟨f, rfl, hf⟩ := R1
  obtain ⟨s, rfl, hs⟩ := R2
  obtain ⟨blk, rfl, _⟩ := R3
  obtain ⟨l, hl, hln, hla⟩ := R4
  obtain ⟨d, rfl, hd⟩ := R5
  have hb1 := hb f rfl hf
  obtain ⟨bk, k, ⟨pv, L⟩⟩ := f
  exact fetchTells_c w g ok bk k pv L hf.parts.sl (fun _ => by simp only at hb1; omega) hf.parts.max s hs blk v4 l hl hln (fun r hr => ⟨(hla r hr).sl, (hla r hr).max⟩) d (DevIn.of hd)
end Go.Proofs.Ytanekcndpkagiaa
