import Derived.Test.YtanekcndpkagiaaMFKn
/- Whether blocks may be: the program's. -/
set_option linter.unusedVariables false
set_option linter.unusedSimpArgs false
set_option maxRecDepth 100000
namespace Go.Proofs.Ytanekcndpkagiaa
open Go Go.Eng Go.RowKit

theorem bmayS_c (sv : Value) (l : List Block) (g : Geo) (ok : g.Ok) (b : Nat) (w : World) (hb : w.heap[b]? = some (.cells (sv :: g.cells).toArray 123 (0, 0))) (hs0 : SlOf ((vw w).del b) Block.cells 2 sv l) (hn : l.length ≤ maxLen) :
    Calls Try.prog 90 #[.pointer (some ⟨b, 0, none⟩)] w fun e w' => e = .returned (.bool (mayL g l)) ∧ Below w.heap.size w w' := by
  have hs := hs0
  simp only [maxLen] at hn
  refine enter1 [.a (.ptr 0 0)] hb Try.func90 rfl rfl rfl rfl ?_
  refine c_seq ?_
  refine c_region ?_
  refine o_yield rfl rfl rfl (y_val tok rfl) ?_
  refine o_end [0] rfl ?_
  refine x_then ?_
  refine c_seq ?_
  refine c_seq ?_
  refine c_region ?_
  refine o_yield rfl rfl rfl (y_val tok rfl) ?_
  refine o_yield rfl rfl rfl (y_val tok rfl) ?_
  refine o_yield rfl rfl rfl (y_val tok rfl) ?_
  refine o_yield rfl rfl rfl (y_val tok rfl) ?_
  refine o_call (.a (.v _)) rfl rfl fnok85 rfl rfl rfl (fun hg E w1 hm => by exact geoMay_c g ok _) ?_
  refine o_yield rfl rfl rfl (y_val tok rfl) ?_
  refine o_end [0, 11] rfl ?_
  refine x_then ?_
  refine c_cond rfl (fun h => ?_) (fun h => ?_)
  ·
    simp only [Bool.and_eq_true, Bool.or_eq_true, Bool.not_eq_true', Bool.or_eq_false_iff, Bool.and_eq_false_iff, decide_eq_true_eq, decide_eq_false_iff_not, beq_iff_eq, bne_iff_ne, Bool.not_eq_false', beq_eq_false_iff_ne, bne_eq_false_iff_eq, ne_eq, Decidable.not_not, Int.not_lt, Int.not_le] at h
    refine c_seq ?_
    refine c_region ?_
    refine o_yield rfl rfl rfl (y_val tok rfl) ?_
    refine o_end [2] rfl ?_
    refine x_then ?_
    refine c_ret ?_
    refine x_then_ret ?_
    refine b_ret tok rfl ?_
    intro E w' hm _
    exact ⟨by rw [mayL, h]; rfl, below1 hb hm (Vw.le.refl _) rfl rfl rfl⟩
  ·
    simp only [Bool.and_eq_true, Bool.or_eq_true, Bool.not_eq_true', Bool.or_eq_false_iff, Bool.and_eq_false_iff, decide_eq_true_eq, decide_eq_false_iff_not, beq_iff_eq, bne_iff_ne, Bool.not_eq_false', beq_eq_false_iff_ne, bne_eq_false_iff_eq, ne_eq, Decidable.not_not, Int.not_lt, Int.not_le] at h
    have hgg := h
    have hf := geo_facts hgg
    clear h
    have hmL : mayL g l = mayF g (-1) l := by rw [mayL, hgg, Bool.true_and]
    have hwp : IntKind.i64.wrap (g.per * 256) = g.per * 256 := wrapI (by omega) (by omega)
    refine c_skip ?_
    refine x_then ?_
    refine c_seq ?_
    refine c_region ?_
    refine o_yield rfl rfl rfl (y_val tok rfl) ?_
    refine o_end [0, 3] rfl ?_
    refine x_then ?_
    refine c_seq ?_
    refine c_seq ?_
    refine c_region ?_
    refine o_yield rfl rfl rfl (y_val tok rfl) ?_
    refine o_yield rfl rfl rfl (y_val tok rfl) ?_
    refine o_yield rfl rfl rfl (y_val tok rfl) ?_
    refine o_yield rfl rfl rfl (y_val tok rfl) ?_
    refine o_yield rfl rfl rfl (y_val tok rfl) ?_
    refine o_yield rfl rfl rfl (y_len tok rfl (fun hg => hs.sl)) ?_
    refine o_yield rfl rfl rfl (y_val tok rfl) ?_
    refine o_end [0, 3, 16, 17, 18] rfl ?_
    refine x_then ?_
    refine c_block ?_
    refine c_loopK [0, 16, 17] [0, 1, 2] rfl rfl (σ := Nat) (fun i => [(3, .a (.v (I (lastN l i)))), (18, .a (.v (I i)))]) (fun i => [(0, .lit ((sv :: g.cells).map .v) 123), (1, .pin 0 b), (2, .size w.heap.size)]) (fun i => i ≤ l.length ∧ mayF g (-1) l = mayF g (lastN l i) (l.drop i) ∧ -1 ≤ lastN l i) (fun i => l.length - i) (0) (⟨by omega, rfl, by simp [lastN]⟩) (by repeat (first | exact SubF.nil | refine SubF.cons rfl ?_)) (by repeat (first | exact SubO.nil | refine SubO.cons rfl ?_)) rfl ?_
    rintro i ⟨hi, heq, hlast⟩
    refine c_seq ?_
    refine c_region ?_
    refine o_yield rfl rfl rfl (y_val tok rfl) ?_
    refine o_end [0, 3, 16, 17, 18, 19] rfl ?_
    refine x_then ?_
    refine c_seq ?_
    refine c_cond rfl (fun h => ?_) (fun h => ?_)
    ·
      simp only [Bool.and_eq_true, Bool.or_eq_true, Bool.not_eq_true', Bool.or_eq_false_iff, Bool.and_eq_false_iff, decide_eq_true_eq, decide_eq_false_iff_not, beq_iff_eq, bne_iff_ne, Bool.not_eq_false', beq_eq_false_iff_ne, bne_eq_false_iff_eq, ne_eq, Decidable.not_not, Int.not_lt, Int.not_le] at h
      refine c_skip ?_
      refine x_then ?_
      refine c_seq ?_
      refine c_block ?_
      refine c_seq ?_
      refine c_region ?_
      obtain ⟨x, h_x⟩ := hs.at (k := i) (by omega)
      rw [drop_at h_x] at heq
      have hlt_x := lt_of_at h_x
      refine o_yield rfl rfl rfl (y_idx tok rfl (fun hg => hs.sl) (fun hg => ⟨by omega, by omega⟩)) ?_
      refine o_yield rfl rfl rfl (y_lel tok (i) 0 (x) rfl (fun hg => hs) (fun hg => h_x) rfl rfl) ?_
      refine o_new tok rfl rfl rfl rfl ?_
      refine o_store tok rfl rfl rfl (by first | exact ⟨trivial, trivial⟩ | (repeat' first | exact trivial | exact rfl | apply And.intro); done | simp [onesP, oneP, lk, Value.oneCell']) ?_
      refine o_end [0, 3, 5, 16, 17, 18] rfl ?_
      refine x_then ?_
      refine c_seq ?_
      refine c_seq ?_
      refine c_draw mixed (by kernel_rfl) ?_
      refine d_yield rfl rfl rfl (y_val tok rfl) rfl ?_
      refine d_yield rfl rfl rfl (y_val tok rfl) rfl ?_
      refine d_yield rfl rfl rfl (y_val tok rfl) rfl ?_
      refine d_yield rfl rfl rfl (y_val tok rfl) rfl ?_
      refine d_yield rfl rfl rfl (y_val tok rfl) rfl ?_
      refine d_yield rfl rfl rfl (y_val tok rfl) rfl ?_
      refine d_yield rfl rfl rfl (y_val tok rfl) rfl ?_
      refine d_yield rfl rfl rfl (y_val tok rfl) rfl ?_
      refine d_yield rfl rfl rfl (y_val tok rfl) rfl ?_
      refine d_yield rfl rfl rfl (y_val tok rfl) rfl ?_
      refine d_yield rfl rfl rfl (y_val tok rfl) rfl ?_
      refine d_yield rfl rfl rfl (y_val tok rfl) rfl ?_
      refine d_yield rfl rfl rfl (y_val tok rfl) rfl ?_
      refine d_yield rfl rfl rfl (y_val tok rfl) rfl ?_
      refine d_yield rfl rfl rfl (y_val tok rfl) rfl ?_
      refine d_yield rfl rfl rfl (y_val tok rfl) rfl ?_
      refine d_yield rfl rfl rfl (y_val tok rfl) rfl ?_
      refine d_yield rfl rfl rfl (y_val tok rfl) rfl ?_
      refine d_yield rfl rfl rfl (y_val tok rfl) rfl ?_
      refine d_yield rfl rfl rfl (y_val tok rfl) rfl ?_
      refine d_yield rfl rfl rfl (y_val tok rfl) rfl ?_
      refine d_yield rfl rfl rfl (y_val tok rfl) rfl ?_
      refine d_yield rfl rfl rfl (y_val tok rfl) rfl ?_
      refine d_yield rfl rfl rfl (y_val tok rfl) rfl ?_
      refine d_yield rfl rfl rfl (y_val tok rfl) rfl ?_
      refine d_yield rfl rfl rfl (y_val tok rfl) rfl ?_
      refine d_end [0, 5, 16, 17, 18, 47] rfl ?_
      refine x_then ?_
      refine c_cond rfl (fun h => ?_) (fun h => ?_)
      ·
        simp only [Bool.and_eq_true, Bool.or_eq_true, Bool.not_eq_true', Bool.or_eq_false_iff, Bool.and_eq_false_iff, decide_eq_true_eq, decide_eq_false_iff_not, beq_iff_eq, bne_iff_ne, Bool.not_eq_false', beq_eq_false_iff_ne, bne_eq_false_iff_eq, ne_eq, Decidable.not_not, Int.not_lt, Int.not_le] at h
        refine c_seq ?_
        refine c_region ?_
        refine o_yield rfl rfl rfl (y_val tok rfl) ?_
        refine o_end [2] rfl ?_
        refine x_then ?_
        refine c_ret ?_
        refine x_then_ret ?_
        refine x_block_ret ?_
        refine x_then_ret ?_
        refine x_then_ret ?_
        refine x_block_ret ?_
        refine x_then_ret ?_
        refine b_ret tok rfl ?_
        rw [hwp] at h
        have hno : mayF g (lastN l i) (x :: l.drop (i + 1)) = false := by
          rw [Bool.eq_false_iff]
          intro hc
          obtain ⟨⟨h1, h2, h3⟩, _⟩ := mayF_cons.1 hc
          omega
        intro E w' hm _
        exact ⟨by rw [hmL, heq, hno]; rfl, below1 hb hm (Vw.le.refl _) rfl rfl rfl⟩
      ·
        simp only [Bool.and_eq_true, Bool.or_eq_true, Bool.not_eq_true', Bool.or_eq_false_iff, Bool.and_eq_false_iff, decide_eq_true_eq, decide_eq_false_iff_not, beq_iff_eq, bne_iff_ne, Bool.not_eq_false', beq_eq_false_iff_ne, bne_eq_false_iff_eq, ne_eq, Decidable.not_not, Int.not_lt, Int.not_le] at h
        refine c_skip ?_
        refine x_then ?_
        refine c_region ?_
        refine o_yield rfl rfl rfl (y_val tok rfl) ?_
        refine o_yield rfl rfl rfl (y_val tok rfl) ?_
        refine o_yield rfl rfl rfl (y_val tok rfl) ?_
        refine o_end [0, 3, 16, 17, 18] rfl ?_
        refine x_block ?_
        refine x_then ?_
        refine c_region ?_
        refine o_yield rfl rfl rfl (y_val tok rfl) ?_
        refine o_yield rfl rfl rfl (y_val tok rfl) ?_
        refine o_end [0, 3, 16, 17, 18] rfl ?_
        refine x_then ?_
        rw [hwp] at h
        have hyes : mayF g (lastN l i) (x :: l.drop (i + 1)) = mayF g x.n (l.drop (i + 1)) := by
          rw [mayF, decide_eq_true (by omega), Bool.true_and]
        rw [wrapI (n := (i : Int) + 1) (by omega) (by omega)]
        have hls := lastN_succ h_x
        rw [← hls]
        refine x_round (i + 1) (⟨by omega, by rw [heq, hyes, hls], by rw [hls]; omega⟩) (by first | omega | (dsimp only; omega)) (by repeat (first | exact SubF.nil | refine SubF.cons rfl ?_)) (by repeat (first | exact SubO.nil | refine SubO.cons rfl ?_)) rfl (Vw.le.refl _)
    ·
      simp only [Bool.and_eq_true, Bool.or_eq_true, Bool.not_eq_true', Bool.or_eq_false_iff, Bool.and_eq_false_iff, decide_eq_true_eq, decide_eq_false_iff_not, beq_iff_eq, bne_iff_ne, Bool.not_eq_false', beq_eq_false_iff_ne, bne_eq_false_iff_eq, ne_eq, Decidable.not_not, Int.not_lt, Int.not_le] at h
      refine c_exit ?_
      refine x_then_exit ?_
      refine x_then_exit ?_
      refine x_block_hit ?_
      refine x_then ?_
      refine c_seq ?_
      refine c_region ?_
      refine o_yield rfl rfl rfl (y_val tok rfl) ?_
      refine o_end [2] rfl ?_
      refine x_then ?_
      refine c_ret ?_
      refine b_ret tok rfl ?_
      have hkL : i = l.length := by omega
      subst hkL
      rw [List.drop_length, mayF] at heq
      intro E w' hm _
      exact ⟨by rw [hmL, heq]; rfl, below1 hb hm (Vw.le.refl _) rfl rfl rfl⟩

theorem bmay_c (V : Vw) (g : Geo) (ok : g.Ok) (sv : Value) (l : List Block) (w : World) (hV : V.le (vw w)) (hs0 : SlOf V Block.cells 2 sv l) (hn : l.length ≤ maxLen) :
    Calls Try.prog 25 #[g.val, sv] w fun e w' => e = .returned (.bool (mayL g l)) ∧ Below w.heap.size w w' := by
  obtain ⟨a, n, c, rfl⟩ := sl_shape hs0.sl
  have hs := hs0.mono hV
  refine enter (E := E0) (O := []) (nl := 0) (V := vw w) [.a (.v g.val), .a (.v (.slice a n c))] Try.func25 rfl rfl (mem0 E0 0 w) rfl rfl ?_
  refine c_seq ?_
  refine c_region ?_
  refine o_new tok rfl rfl rfl rfl ?_
  refine o_yield rfl rfl rfl (y_val tok rfl) ?_
  refine o_end [1, 2] rfl ?_
  refine x_then ?_
  refine c_seq ?_
  refine c_region ?_
  refine o_yield rfl rfl rfl (y_val tok rfl) ?_
  refine o_yield rfl rfl rfl (y_val tok rfl) ?_
  refine o_yield rfl rfl rfl (y_val tok rfl) ?_
  refine o_yield rfl rfl rfl (y_val tok rfl) ?_
  refine o_new tok rfl rfl rfl rfl ?_
  refine o_call (.a (.v _)) rfl rfl fnok90 rfl rfl rfl (fun hg E w1 hm => by exact bmayS_c _ l g ok _ _ (hm.lit 1 _ _ rfl) (hs.mono (hm.leDel (l := 1) rfl)) hn) ?_
  refine o_yield rfl rfl rfl (y_val tok rfl) ?_
  refine o_end [4] rfl ?_
  refine x_then ?_
  refine c_ret ?_
  refine b_ret tok rfl ?_
  intro E w' hm _
  refine ⟨?_, hm.below (Vw.le.refl _)⟩
  rfl
end Go.Proofs.Ytanekcndpkagiaa

/- Where blocks stand: the program's. -/
set_option linter.unusedVariables false
set_option linter.unusedSimpArgs false
set_option maxRecDepth 100000
namespace Go.Proofs.Ytanekcndpkagiaa
open Go Go.Eng Go.RowKit

def cellAt (g : Geo) (per : Nat) (l : List Block) (j : Nat) : Cell := ⟨dataV g (blkAt l (j / per)).n ((j % per : Nat) : Int), pieceAt (blkAt l (j / per)).text (j % per)⟩
def cellsN (g : Geo) (per : Nat) (l : List Block) (n : Nat) : List Cell := (List.range n).map (cellAt g per l)

theorem cellsN_len (g : Geo) (per : Nat) (l : List Block) (n : Nat) : (cellsN g per l n).length = n := by simp [cellsN]
theorem cellsN_succ (g : Geo) (per : Nat) (l : List Block) (n : Nat) : cellsN g per l (n + 1) = cellsN g per l n ++ [cellAt g per l n] := by simp [cellsN, List.range_succ]
theorem cellsN_at {g : Geo} {per : Nat} {l : List Block} {n j : Nat} (h : j < n) : (cellsN g per l n)[j]? = some (cellAt g per l j) := by simp [cellsN, List.getElem?_range h]
theorem cellAt_eq (g : Geo) {per : Nat} {l : List Block} {i k : Nat} {b : Block} (hb : l[i]? = some b) (hk : k < per) : cellAt g per l (i * per + k) = ⟨dataV g b.n (k : Int), pieceAt b.text k⟩ := by
  have h1 : (i * per + k) / per = i := by rw [Nat.add_comm, Nat.add_mul_div_right _ _ (by omega), Nat.div_eq_of_lt hk, Nat.zero_add]
  have h2 : (i * per + k) % per = k := by rw [Nat.add_comm, Nat.add_mul_mod_self_right, Nat.mod_eq_of_lt hk]
  rw [cellAt, h1, h2, blkAt_eq hb]

theorem cell_ones (l : List Cell) : ∀ u ∈ l.flatMap Cell.cells, u.oneCell' = true := by
  intro u hu
  obtain ⟨x, _, hx⟩ := List.mem_flatMap.1 hu
  simp only [Cell.cells, List.mem_cons, List.not_mem_nil, or_false] at hx
  rcases hx with rfl | rfl <;> rfl

def allCells (g : Geo) (l : List Block) : List Cell := cellsN g g.per.toNat l (l.length * g.per.toNat)

def CelPost (g : Geo) (l : List Block) (w : World) (e : Ending) (w' : World) : Prop :=
  ((mayL g l = true ∧ ∃ v, e = .returned (.tuple #[v, I 0]) ∧ w'.ownsRow w.heap.size 50 2 v (allCells g l).length ((allCells g l).flatMap Cell.cells)) ∨
    (mayL g l = false ∧ e = .returned (.tuple #[.slice none 0 0, I 2]))) ∧ Below w.heap.size w w'

theorem bcells_c (V : Vw) (g : Geo) (ok : g.Ok) (sv : Value) (l : List Block) (w : World) (hV : V.le (vw w)) (hs0 : SlOf V Block.cells 2 sv l) (hn : l.length ≤ maxLen) :
    Calls Try.prog 30 #[g.val, sv] w (CelPost g l w) := by
  have hs := hs0.mono hV
  have hn0 := hn
  simp only [maxLen] at hn
  refine enter (E := E0) (O := []) (nl := 0) (V := vw w) [.a (.v g.val), .a (.v sv)] Try.func30 rfl rfl (mem0 E0 0 w) rfl rfl ?_
  refine c_seq ?_
  refine c_region ?_
  refine o_new tok rfl rfl rfl rfl ?_
  refine o_yield rfl rfl rfl (y_val tok rfl) ?_
  refine o_yield rfl rfl rfl (y_val tok rfl) ?_
  refine o_end [1, 2, 4] rfl ?_
  refine x_then ?_
  refine c_seq ?_
  refine c_seq ?_
  refine c_region ?_
  refine o_yield rfl rfl rfl (y_val tok rfl) ?_
  refine o_yield rfl rfl rfl (y_val tok rfl) ?_
  refine o_call (.a (.v _)) rfl rfl fnok25 rfl rfl rfl (fun hg E w1 hm => by exact bmay_c (vw w) g ok sv l _ hm.leV hs hn0) ?_
  refine o_yield rfl rfl rfl (y_val tok rfl) ?_
  refine o_end [1, 2, 4, 15] rfl ?_
  refine x_then ?_
  refine c_cond rfl (fun h => ?_) (fun h => ?_)
  ·
    simp only [Bool.and_eq_true, Bool.or_eq_true, Bool.not_eq_true', Bool.or_eq_false_iff, Bool.and_eq_false_iff, decide_eq_true_eq, decide_eq_false_iff_not, beq_iff_eq, bne_iff_ne, Bool.not_eq_false', beq_eq_false_iff_ne, bne_eq_false_iff_eq, ne_eq, Decidable.not_not, Int.not_lt, Int.not_le] at h
    refine c_seq ?_
    refine c_region ?_
    refine o_yield rfl rfl rfl (y_val tok rfl) ?_
    refine o_yield rfl rfl rfl (y_val tok rfl) ?_
    refine o_end [4, 5] rfl ?_
    refine x_then ?_
    refine c_ret ?_
    refine x_then_ret ?_
    refine b_ret tok rfl ?_
    intro E w' hm _
    exact ⟨.inr ⟨h, rfl⟩, hm.below (Vw.le.refl _)⟩
  ·
    simp only [Bool.and_eq_true, Bool.or_eq_true, Bool.not_eq_true', Bool.or_eq_false_iff, Bool.and_eq_false_iff, decide_eq_true_eq, decide_eq_false_iff_not, beq_iff_eq, bne_iff_ne, Bool.not_eq_false', beq_eq_false_iff_ne, bne_eq_false_iff_eq, ne_eq, Decidable.not_not, Int.not_lt, Int.not_le] at h
    have hml := h
    clear h
    have hlen := mayL_len hml
    have hmay := hml
    rw [mayL, Bool.and_eq_true] at hmay
    have hf := geo_facts hmay.1
    have hat := mayF_at hmay.2
    obtain ⟨per, hper⟩ : ∃ per : Nat, g.per = per := ⟨g.per.toNat, by omega⟩
    have hpn : g.per.toNat = per := by omega
    refine c_skip ?_
    refine x_then ?_
    refine c_seq ?_
    refine c_seq ?_
    refine c_region ?_
    refine o_yield rfl rfl rfl (y_val tok rfl) ?_
    refine o_yield rfl rfl rfl (y_len tok rfl (fun hg => hs.sl)) ?_
    refine o_yield rfl rfl rfl (y_val tok rfl) ?_
    refine o_end [2, 4, 16, 17, 18] rfl ?_
    refine x_then ?_
    refine c_block ?_
    refine k_nil 4 50 2 rfl rfl ?_
    have e0 : cellsN g per l (0 * per) = [] := by simp [cellsN]
    refine c_loopK [2, 16, 17] [1, 0] rfl rfl (σ := Nat) (fun i => [(4, .a (.row 1)), (18, .a (.v (I i)))]) (fun i => [(1, .row 50 2 (cellsN g per l (i * per)).length ((cellsN g per l (i * per)).flatMap Cell.cells)), (0, .lit (g.cells.map .v) 29)]) (fun i => i ≤ l.length) (fun i => l.length - i) (0) (by omega) (by repeat (first | exact SubF.nil | refine SubF.cons rfl ?_ | refine SubF.cons (by simp only [e0]; first | done | rfl) ?_)) (by repeat (first | exact SubO.nil | refine SubO.cons rfl ?_ | refine SubO.cons (by simp only [e0]; first | done | rfl) ?_)) rfl ?_
    rintro i hi
    have hip : i * per ≤ 512 := by
      have : i * per ≤ 64 * per := Nat.mul_le_mul_right _ (by omega)
      omega
    refine c_seq ?_
    refine c_region ?_
    refine o_yield rfl rfl rfl (y_val tok rfl) ?_
    refine o_end [2, 4, 16, 17, 18, 19] rfl ?_
    refine x_then ?_
    refine c_seq ?_
    refine c_cond rfl (fun h => ?_) (fun h => ?_)
    ·
      simp only [Bool.and_eq_true, Bool.or_eq_true, Bool.not_eq_true', Bool.or_eq_false_iff, Bool.and_eq_false_iff, decide_eq_true_eq, decide_eq_false_iff_not, beq_iff_eq, bne_iff_ne, Bool.not_eq_false', beq_eq_false_iff_ne, bne_eq_false_iff_eq, ne_eq, Decidable.not_not, Int.not_lt, Int.not_le] at h
      refine c_skip ?_
      refine x_then ?_
      refine c_seq ?_
      refine c_block ?_
      refine c_seq ?_
      refine c_region ?_
      obtain ⟨x, h_x⟩ := hs.at (k := i) (by omega)
      have hlt_x := lt_of_at h_x
      refine o_yield rfl rfl rfl (y_idx tok rfl (fun hg => hs.sl) (fun hg => ⟨by omega, by omega⟩)) ?_
      refine o_yield rfl rfl rfl (y_lel tok (i) 0 (x) rfl (fun hg => hs) (fun hg => h_x) rfl rfl) ?_
      refine o_new tok rfl rfl rfl rfl ?_
      refine o_store tok rfl rfl rfl (by first | exact ⟨trivial, trivial⟩ | (repeat' first | exact trivial | exact rfl | apply And.intro); done | simp [onesP, oneP, lk, Value.oneCell']) ?_
      refine o_end [2, 4, 7, 16, 17, 18] rfl ?_
      refine x_then ?_
      refine c_seq ?_
      refine c_region ?_
      refine o_yield rfl rfl rfl (y_val tok rfl) ?_
      refine o_yield rfl rfl rfl (y_val tok rfl) ?_
      refine o_yield rfl rfl rfl (y_val tok rfl) ?_
      obtain ⟨_, _, hx3, _, _⟩ := hat i x h_x
      have hxs : x.text.size ≤ 2048 := by omega
      have hpl : (pieceL per x.text).length = per := pieceL_len _ _
      refine o_callV (fun y V' => ∃ a n c, y = .tuple #[.slice a n c, I 0] ∧ SlOf V' encS 1 (.slice a n c) (pieceL per x.text)) rfl rfl fnok27 rfl rfl (fun hg E w1 hm => by exact by have := pieces_cV (vw w) g ok x.text w1 hm.leV (by simp only [maxLen]; omega) hmay.1 hx3; rw [hpn] at this; exact this) ?_
      rintro y V1 hle1 hy
      obtain ⟨a1, n1, c1, rfl, hs1⟩ := hy rfl
      refine o_yield rfl rfl rfl (y_val tok rfl) ?_
      refine o_yield rfl rfl rfl (y_val tok rfl) ?_
      refine o_yield rfl rfl rfl (y_val tok rfl) ?_
      refine o_yield rfl rfl rfl (y_val tok rfl) ?_
      refine o_yield rfl rfl rfl (y_val tok rfl) ?_
      refine o_end [2, 4, 7, 8, 16, 17, 18] rfl ?_
      refine x_then ?_
      refine c_seq ?_
      refine c_region ?_
      refine o_yield rfl rfl rfl (y_val tok rfl) ?_
      refine o_yield rfl rfl rfl (y_len tok rfl (fun hg => hs1.sl)) ?_
      refine o_yield rfl rfl rfl (y_val tok rfl) ?_
      refine o_end [2, 4, 7, 16, 17, 18, 29, 30, 31] rfl ?_
      refine x_then ?_
      refine c_block ?_
      refine c_loopK [2, 7, 16, 17, 18, 29, 30] [1, 0, 2] rfl rfl (σ := Nat) (fun k => [(4, .a (.row 1)), (31, .a (.v (I k)))]) (fun k => [(1, .row 50 2 (cellsN g per l (i * per + k)).length ((cellsN g per l (i * per + k)).flatMap Cell.cells)), (0, .lit (g.cells.map .v) 29), (2, .lit (x.cells.map .v) 34)]) (fun k => k ≤ per) (fun k => per - k) (0) (by omega) (by repeat (first | exact SubF.nil | refine SubF.cons rfl ?_)) (by repeat (first | exact SubO.nil | refine SubO.cons rfl ?_)) rfl ?_
      rintro k hk
      refine c_seq ?_
      refine c_region ?_
      refine o_yield rfl rfl rfl (y_val tok rfl) ?_
      refine o_end [2, 4, 7, 16, 17, 18, 29, 30, 31, 32] rfl ?_
      refine x_then ?_
      refine c_seq ?_
      refine c_cond rfl (fun h => ?_) (fun h => ?_)
      ·
        simp only [Bool.and_eq_true, Bool.or_eq_true, Bool.not_eq_true', Bool.or_eq_false_iff, Bool.and_eq_false_iff, decide_eq_true_eq, decide_eq_false_iff_not, beq_iff_eq, bne_iff_ne, Bool.not_eq_false', beq_eq_false_iff_ne, bne_eq_false_iff_eq, ne_eq, Decidable.not_not, Int.not_lt, Int.not_le] at h
        refine c_skip ?_
        refine x_then ?_
        refine c_seq ?_
        refine c_block ?_
        refine c_seq ?_
        refine c_region ?_
        refine o_yield rfl rfl rfl (y_val tok rfl) ?_
        have hklt : k < per := by omega
        have hp : (pieceL per x.text)[k]? = some (pieceAt x.text k) := by simp [pieceL, List.getElem?_range hklt]
        have hca := cellAt_eq g h_x hklt
        have hl1 : (cellsN g per l (i * per + k)).length + 1 = (cellsN g per l (i * per + (k + 1))).length := by rw [cellsN_len, cellsN_len]; omega
        have hlt_pieceAt_x_text_k := lt_of_at hp
        refine o_yield rfl rfl rfl (y_idx tok rfl (fun hg => hs1.sl) (fun hg => ⟨by omega, by omega⟩)) ?_
        refine o_yield rfl rfl rfl (y_lel tok (k) 0 (pieceAt x.text k) rfl (fun hg => hs1) (fun hg => hp) rfl rfl) ?_
        refine o_yield rfl rfl rfl (y_val tok rfl) ?_
        refine o_yield rfl rfl rfl (y_val tok rfl) ?_
        refine o_end [2, 4, 7, 10, 11, 16, 17, 18, 29, 30, 31] rfl ?_
        refine x_then ?_
        refine c_region ?_
        refine o_yield rfl rfl rfl (y_val tok rfl) ?_
        refine o_yield rfl rfl rfl (y_val tok rfl) ?_
        refine o_yield rfl rfl rfl (y_val tok rfl) ?_
        refine o_yield rfl rfl rfl (y_val tok rfl) ?_
        refine o_yield rfl rfl rfl (y_val tok rfl) ?_
        refine o_call (.a (.v _)) rfl rfl fnok93 rfl rfl rfl (fun hg E w1 hm => by exact data_c g ok x.n k _) ?_
        refine o_yield rfl rfl rfl (y_val tok rfl) ?_
        refine o_yield rfl rfl rfl (y_val tok rfl) ?_
        refine o_step rfl rfl rfl rfl rfl (s_bs tok 2 rfl rfl rfl) (fun _ _ => ?_)
        refine o_step rfl rfl rfl rfl rfl (s_app tok ([cellAt g per l (i * per + k)].flatMap Cell.cells) rfl (fun E w hm => by rw [hca]; exact ownsRow_src (hm.row _ _ _ _ _ rfl)) (fun _ _ _ => cell_ones _) (by dsimp only; rw [cellsN_len]; omega)) (fun _ _ => ?_)
        refine o_yield rfl rfl rfl (y_val tok rfl) ?_
        refine o_end [2, 4, 7, 16, 17, 18, 29, 30, 31] rfl ?_
        refine x_block ?_
        refine x_then ?_
        refine c_region ?_
        refine o_yield rfl rfl rfl (y_val tok rfl) ?_
        refine o_yield rfl rfl rfl (y_val tok rfl) ?_
        refine o_end [2, 4, 7, 16, 17, 18, 29, 30, 31] rfl ?_
        refine x_then ?_
        rw [hl1, ← List.flatMap_append, ← cellsN_succ, wrapI (n := (k : Int) + 1) (by omega) (by omega)]
        refine k_swap 1 4 rfl ?_
        refine x_round (k + 1) (by omega) (by first | omega | (dsimp only; omega)) (by repeat (first | exact SubF.nil | refine SubF.cons rfl ?_)) (by repeat (first | exact SubO.nil | refine SubO.cons rfl ?_)) rfl (Vw.le.refl _)
      ·
        simp only [Bool.and_eq_true, Bool.or_eq_true, Bool.not_eq_true', Bool.or_eq_false_iff, Bool.and_eq_false_iff, decide_eq_true_eq, decide_eq_false_iff_not, beq_iff_eq, bne_iff_ne, Bool.not_eq_false', beq_eq_false_iff_ne, bne_eq_false_iff_eq, ne_eq, Decidable.not_not, Int.not_lt, Int.not_le] at h
        refine c_exit ?_
        refine x_then_exit ?_
        refine x_then_exit ?_
        refine x_block_hit ?_
        refine x_block ?_
        refine x_then ?_
        refine c_region ?_
        refine o_yield rfl rfl rfl (y_val tok rfl) ?_
        refine o_yield rfl rfl rfl (y_val tok rfl) ?_
        refine o_end [2, 4, 16, 17, 18] rfl ?_
        refine x_then ?_
        have hkp : k = per := by omega
        subst hkp
        rw [wrapI (n := (i : Int) + 1) (by omega) (by omega), show i * k + k = (i + 1) * k by rw [Nat.add_mul, Nat.one_mul]]
        refine x_round (i + 1) (by omega) (by first | omega | (dsimp only; omega)) (by repeat (first | exact SubF.nil | refine SubF.cons rfl ?_)) (by repeat (first | exact SubO.nil | refine SubO.cons rfl ?_)) rfl (hle1)
    ·
      simp only [Bool.and_eq_true, Bool.or_eq_true, Bool.not_eq_true', Bool.or_eq_false_iff, Bool.and_eq_false_iff, decide_eq_true_eq, decide_eq_false_iff_not, beq_iff_eq, bne_iff_ne, Bool.not_eq_false', beq_eq_false_iff_ne, bne_eq_false_iff_eq, ne_eq, Decidable.not_not, Int.not_lt, Int.not_le] at h
      refine c_exit ?_
      refine x_then_exit ?_
      refine x_then_exit ?_
      refine x_block_hit ?_
      refine x_then ?_
      refine c_seq ?_
      refine c_region ?_
      refine o_yield rfl rfl rfl (y_val tok rfl) ?_
      refine o_yield rfl rfl rfl (y_val tok rfl) ?_
      refine o_yield rfl rfl rfl (y_val tok rfl) ?_
      refine o_end [4, 5] rfl ?_
      refine x_then ?_
      refine c_ret ?_
      refine b_ret tok rfl ?_
      have hil : i = l.length := by omega
      subst hil
      intro E w' hm _
      refine ⟨.inl ⟨hml, E.κ 1, rfl, ?_⟩, hm.below (Vw.le.refl _)⟩
      rw [allCells, hpn]
      exact hm.rowFresh (Vw.le.refl _) (l := 1) rfl
end Go.Proofs.Ytanekcndpkagiaa

/- Cells stand apart and have the blocks' texts: the law. -/
set_option linter.unusedVariables false
set_option linter.unusedSimpArgs false
set_option maxRecDepth 100000
namespace Go.Proofs.Ytanekcndpkagiaa
open Go Go.Eng Go.RowKit

theorem dataV_eq {g : Geo} {n k : Int} (h : geoB g = true) (h1 : 0 ≤ n) (h2 : n < g.blocks) (h3 : 0 ≤ k) (h4 : k < g.per) : dataV g n k = dataAt g + n * g.per + k := by
  rw [dataV, if_pos ⟨h, h1, h2, h3, h4⟩]

theorem cell_up {g : Geo} {l : List Block} {per i : Nat} (hml : mayL g l = true) (hper : g.per = per) (hi : i < l.length * per) (h0 : 0 < i) : (cellAt g per l (i - 1)).sector < (cellAt g per l i).sector := by
  have hmay := hml
  rw [mayL, Bool.and_eq_true] at hmay
  have hf := geo_facts hmay.1
  have hat := mayF_at hmay.2
  have hp : 0 < per := by omega
  obtain ⟨q, r, hr, hiq⟩ : ∃ q r, r < per ∧ i = q * per + r := ⟨i / per, i % per, Nat.mod_lt _ hp, by rw [Nat.mul_comm]; exact (Nat.div_add_mod i per).symm⟩
  have hq : q < l.length := by
    rcases Nat.lt_or_ge q l.length with h | h
    · exact h
    · have : l.length * per ≤ q * per := Nat.mul_le_mul_right _ h
      omega
  obtain ⟨b, hb⟩ : ∃ b, l[q]? = some b := ⟨l[q]'hq, by simp [hq]⟩
  obtain ⟨hb1, hb2, _, hb4, _⟩ := hat q b hb
  have hi' := hiq
  rw [hiq, cellAt_eq g hb hr]
  cases r with
  | succ r' =>
    rw [show q * per + (r' + 1) - 1 = q * per + r' by omega, cellAt_eq g hb (by omega)]
    simp only
    rw [dataV_eq hmay.1 (by omega) hb2 (by omega) (by omega), dataV_eq hmay.1 (by omega) hb2 (by omega) (by omega)]
    omega
  | zero =>
    cases q with
    | zero => omega
    | succ q' =>
      obtain ⟨b', hb'⟩ : ∃ b', l[q']? = some b' := ⟨l[q']'(by omega), by simp [show q' < l.length by omega]⟩
      obtain ⟨_, hc2, _, hc4, _⟩ := hat q' b' hb'
      rw [if_neg (by omega), show q' + 1 - 1 = q' by omega, blkAt_eq hb'] at hb1
      rw [show (q' + 1) * per + 0 - 1 = q' * per + (per - 1) by rw [Nat.add_mul]; omega, cellAt_eq g hb' (by omega)]
      simp only
      rw [dataV_eq hmay.1 (by omega) hb2 (by omega) (by omega), dataV_eq hmay.1 (by omega) hc2 (by omega) (by omega)]
      have : (b'.n + 1) * g.per ≤ b.n * g.per := Int.mul_le_mul_of_nonneg_right (by omega) (by omega)
      rw [Int.add_mul] at this
      omega

theorem bcells_cV (V : Vw) (g : Geo) (ok : g.Ok) (sv : Value) (l : List Block) (w : World) (hV : V.le (vw w)) (hs0 : SlOf V Block.cells 2 sv l) (hn : l.length ≤ maxLen) :
    Calls Try.prog 30 #[g.val, sv] w fun e w' => ∃ x V', e = .returned x ∧ Below w.heap.size w w' ∧ Vext w.heap.size V V' w' ∧ ∃ a n c, x = .tuple #[.slice a n c, I (if mayL g l = true then 0 else 2)] ∧ SlOf V' Cell.cells 2 (.slice a n c) (if mayL g l = true then allCells g l else []) := by
  refine (bcells_c V g ok sv l w hV hs0 hn).mono ?_
  rintro e w' ⟨⟨h1, v, rfl, hrow⟩ | ⟨h1, rfl⟩, hb⟩
  · obtain ⟨V', hx, hsl⟩ := ownsRow_vext hV hb hrow
    obtain ⟨a, n, c, rfl⟩ := sl_shape hsl
    exact ⟨_, V', rfl, hb, hx, a, n, c, by rw [if_pos h1], by rw [if_pos h1]; exact ⟨hsl, fun _ => rfl⟩⟩
  · exact ⟨_, V, rfl, hb, Vext.same hV hb, none, 0, 0, by rw [h1]; rfl, by rw [h1]; exact slNil _ _ _ _ (fun _ => rfl)⟩

theorem catS_succ (t : ByteArray) (k : Nat) : catS (pieceL k t) ++ pieceAt t k = catS (pieceL (k + 1) t) := by
  apply ByteArray.ext
  rw [ByteArray.data_append, pieceL_succ]
  simp [catS, strOf, catL]

theorem bufferCells_law (w : World) {v0 v1 : Value} (R0 : ∃ g : Geo, v0 = g.val ∧ g.Ok) (R1 : ∃ l : List Block, SlOf (vw w) Block.cells 2 v1 l ∧ l.length ≤ maxLen ∧ ∀ a ∈ l, Block.Ok a) :
    Calls Try.prog 7 #[v0, v1] w fun e w' => e = .returned (.bool true) ∧ Below w.heap.size w w' := by
  obtain ⟨g, rfl, ok⟩ := R0
  obtain ⟨l, hs, hn, _⟩ := R1
  obtain ⟨a0, n0, c0, rfl⟩ := sl_shape hs.sl
  refine enter (E := E0) (O := []) (nl := 0) (V := vw w) [.a (.v g.val), .a (.v (.slice a0 n0 c0))] Try.func7 rfl rfl (mem0 E0 0 w) rfl rfl ?_
  refine c_seq ?_
  refine c_region ?_
  refine o_new tok rfl rfl rfl rfl ?_
  refine o_yield rfl rfl rfl (y_val tok rfl) ?_
  refine o_end [1, 2] rfl ?_
  refine x_then ?_
  refine c_seq ?_
  refine c_seq ?_
  refine c_region ?_
  refine o_yield rfl rfl rfl (y_val tok rfl) ?_
  refine o_call (.a (.v _)) rfl rfl fnok15 rfl rfl rfl (fun hg E w1 hm => by exact great_c _ _ l _ hm.leV hs hn) ?_
  refine o_end [1, 2, 12] rfl ?_
  refine x_then ?_
  refine c_cond rfl (fun h => ?_) (fun h => ?_)
  ·
    refine c_seq ?_
    refine c_region ?_
    refine o_call (.a (.v _)) rfl rfl fnok19 rfl rfl rfl (fun hg E w1 hm => by exact wakes18_c _) ?_
    refine o_yield rfl rfl rfl (y_val tok rfl) ?_
    refine o_end [4] rfl ?_
    refine x_then ?_
    refine c_ret ?_
    refine x_then_ret ?_
    refine b_ret tok rfl ?_
    intro E w' hm _
    refine ⟨?_, hm.below (Vw.le.refl _)⟩
    rfl
  ·
    refine c_skip ?_
    refine x_then ?_
    refine c_seq ?_
    refine c_region ?_
    refine o_yield rfl rfl rfl (y_val tok rfl) ?_
    refine o_yield rfl rfl rfl (y_val tok rfl) ?_
    have hgr := great_no h
    clear h
    refine o_callV (fun x V' => ∃ a n c, x = .tuple #[.slice a n c, I (if mayL g l = true then 0 else 2)] ∧ SlOf V' Cell.cells 2 (.slice a n c) (if mayL g l = true then allCells g l else [])) rfl rfl fnok30 rfl rfl (fun hg E w1 hm => by exact bcells_cV (vw w) g ok _ l _ hm.leV hs hn) ?_
    rintro x V1 hle1 hx
    obtain ⟨a1, n1, c1, rfl, hsc⟩ := hx rfl
    have hs1 := hs.mono hle1
    cases hml : mayL g l with
    | false =>
      rw [hml] at hsc
      simp only [Bool.false_eq_true, if_false] at hsc ⊢
      refine o_yield rfl rfl rfl (y_val tok rfl) ?_
      refine o_yield rfl rfl rfl (y_val tok rfl) ?_
      refine o_yield rfl rfl rfl (y_val tok rfl) ?_
      refine o_yield rfl rfl rfl (y_val tok rfl) ?_
      refine o_yield rfl rfl rfl (y_val tok rfl) ?_
      refine o_end [1, 2, 5, 6] rfl ?_
      refine x_then ?_
      refine c_seq ?_
      refine c_seq ?_
      refine c_region ?_
      refine o_yield rfl rfl rfl (y_val tok rfl) ?_
      refine o_yield rfl rfl rfl (y_val tok rfl) ?_
      refine o_end [1, 2, 5, 6, 21] rfl ?_
      refine x_then ?_
      refine c_cond rfl (fun h => ?_) (fun h => ?_)
      ·
        simp only [Bool.and_eq_true, Bool.or_eq_true, Bool.not_eq_true', Bool.or_eq_false_iff, Bool.and_eq_false_iff, decide_eq_true_eq, decide_eq_false_iff_not, beq_iff_eq, bne_iff_ne, Bool.not_eq_false', beq_eq_false_iff_ne, bne_eq_false_iff_eq, ne_eq, Decidable.not_not, Int.not_lt, Int.not_le] at h
        refine c_seq ?_
        refine c_region ?_
        refine o_yield rfl rfl rfl (y_val tok rfl) ?_
        refine o_yield rfl rfl rfl (y_val tok rfl) ?_
        refine o_yield rfl rfl rfl (y_val tok rfl) ?_
        refine o_yield rfl rfl rfl (y_val tok rfl) ?_
        refine o_yield rfl rfl rfl (y_len tok rfl (fun hg => hsc.sl)) ?_
        refine o_yield rfl rfl rfl (y_val tok rfl) ?_
        refine o_yield rfl rfl rfl (y_val tok rfl) ?_
        refine o_yield rfl rfl rfl (y_val tok rfl) ?_
        refine o_yield rfl rfl rfl (y_val tok rfl) ?_
        refine o_yield rfl rfl rfl (y_val tok rfl) ?_
        refine o_call (.a (.v _)) rfl rfl fnok20 rfl rfl rfl (fun hg E w1 hm => by exact refBMay_c (vw w1) g ok _ l _ (Vw.le.refl _) (hs1.mono hm.leV) hn) ?_
        refine o_yield rfl rfl rfl (y_val tok rfl) ?_
        refine o_yield rfl rfl rfl (y_val tok rfl) ?_
        refine o_yield rfl rfl rfl (y_val tok rfl) ?_
        refine o_call (.a (.v _)) rfl rfl fnok19 rfl rfl rfl (fun hg E w1 hm => by exact wakes18_c _) ?_
        refine o_yield rfl rfl rfl (y_val tok rfl) ?_
        refine o_yield rfl rfl rfl (y_val tok rfl) ?_
        refine o_end [4] rfl ?_
        refine x_then ?_
        refine c_ret ?_
        refine x_then_ret ?_
        refine b_ret tok rfl ?_
        intro E w' hm _
        refine ⟨?_, hm.below (hle1)⟩
        rw [hml]
        rfl
      ·
        simp only [Bool.and_eq_true, Bool.or_eq_true, Bool.not_eq_true', Bool.or_eq_false_iff, Bool.and_eq_false_iff, decide_eq_true_eq, decide_eq_false_iff_not, beq_iff_eq, bne_iff_ne, Bool.not_eq_false', beq_eq_false_iff_ne, bne_eq_false_iff_eq, ne_eq, Decidable.not_not, Int.not_lt, Int.not_le] at h
        exfalso
        simp at h
    | true =>
      rw [hml] at hsc
      simp only [if_true] at hsc ⊢
      have hmay := hml
      rw [mayL, Bool.and_eq_true] at hmay
      have hf := geo_facts hmay.1
      have hat := mayF_at hmay.2
      have hlen := mayL_len hml
      obtain ⟨per, hper⟩ : ∃ per : Nat, g.per = per := ⟨g.per.toNat, by omega⟩
      have hpn : g.per.toNat = per := by omega
      have hal : (allCells g l).length = l.length * per := by rw [allCells, cellsN_len, hpn]
      have hip : l.length * per ≤ 512 := by
        have : l.length * per ≤ 64 * per := Nat.mul_le_mul_right _ (by omega)
        omega
      have hmul : g.per * (l.length : Int) = ((l.length * per : Nat) : Int) := by rw [hper, Int.natCast_mul, Int.mul_comm]
      have hwm : IntKind.i64.wrap (g.per * (l.length : Int)) = ((l.length * per : Nat) : Int) := by rw [hmul, wrapI (by omega) (by omega)]
      have hcat : ∀ j, j < l.length * per → (allCells g l)[j]? = some (cellAt g per l j) := fun j hj => by rw [allCells, hpn]; exact cellsN_at hj
      refine o_yield rfl rfl rfl (y_val tok rfl) ?_
      refine o_yield rfl rfl rfl (y_val tok rfl) ?_
      refine o_yield rfl rfl rfl (y_val tok rfl) ?_
      refine o_yield rfl rfl rfl (y_val tok rfl) ?_
      refine o_yield rfl rfl rfl (y_val tok rfl) ?_
      refine o_end [1, 2, 5, 6] rfl ?_
      refine x_then ?_
      refine c_seq ?_
      refine c_seq ?_
      refine c_region ?_
      refine o_yield rfl rfl rfl (y_val tok rfl) ?_
      refine o_yield rfl rfl rfl (y_val tok rfl) ?_
      refine o_end [1, 2, 5, 6, 21] rfl ?_
      refine x_then ?_
      refine c_cond rfl (fun h => ?_) (fun h => ?_)
      ·
        simp only [Bool.and_eq_true, Bool.or_eq_true, Bool.not_eq_true', Bool.or_eq_false_iff, Bool.and_eq_false_iff, decide_eq_true_eq, decide_eq_false_iff_not, beq_iff_eq, bne_iff_ne, Bool.not_eq_false', beq_eq_false_iff_ne, bne_eq_false_iff_eq, ne_eq, Decidable.not_not, Int.not_lt, Int.not_le] at h
        exfalso
        simp at h
      ·
        simp only [Bool.and_eq_true, Bool.or_eq_true, Bool.not_eq_true', Bool.or_eq_false_iff, Bool.and_eq_false_iff, decide_eq_true_eq, decide_eq_false_iff_not, beq_iff_eq, bne_iff_ne, Bool.not_eq_false', beq_eq_false_iff_ne, bne_eq_false_iff_eq, ne_eq, Decidable.not_not, Int.not_lt, Int.not_le] at h
        refine c_skip ?_
        refine x_then ?_
        refine c_seq ?_
        refine c_seq ?_
        refine c_region ?_
        refine o_yield rfl rfl rfl (y_val tok rfl) ?_
        refine o_yield rfl rfl rfl (y_len tok rfl (fun hg => hsc.sl)) ?_
        refine o_yield rfl rfl rfl (y_val tok rfl) ?_
        refine o_yield rfl rfl rfl (y_val tok rfl) ?_
        refine o_yield rfl rfl rfl (y_val tok rfl) ?_
        refine o_yield rfl rfl rfl (y_len tok rfl (fun hg => hs1.sl)) ?_
        refine o_yield rfl rfl rfl (y_val tok rfl) ?_
        refine o_yield rfl rfl rfl (y_val tok rfl) ?_
        refine o_end [1, 2, 5, 45] rfl ?_
        refine x_then ?_
        refine c_cond rfl (fun h => ?_) (fun h => ?_)
        ·
          simp only [Bool.and_eq_true, Bool.or_eq_true, Bool.not_eq_true', Bool.or_eq_false_iff, Bool.and_eq_false_iff, decide_eq_true_eq, decide_eq_false_iff_not, beq_iff_eq, bne_iff_ne, Bool.not_eq_false', beq_eq_false_iff_ne, bne_eq_false_iff_eq, ne_eq, Decidable.not_not, Int.not_lt, Int.not_le] at h
          exfalso
          rw [hwm, hal] at h
          exact h rfl
        ·
          simp only [Bool.and_eq_true, Bool.or_eq_true, Bool.not_eq_true', Bool.or_eq_false_iff, Bool.and_eq_false_iff, decide_eq_true_eq, decide_eq_false_iff_not, beq_iff_eq, bne_iff_ne, Bool.not_eq_false', beq_eq_false_iff_ne, bne_eq_false_iff_eq, ne_eq, Decidable.not_not, Int.not_lt, Int.not_le] at h
          refine c_skip ?_
          refine x_then ?_
          refine c_seq ?_
          refine c_seq ?_
          refine c_region ?_
          refine o_yield rfl rfl rfl (y_val tok rfl) ?_
          refine o_end [1, 2, 5, 7] rfl ?_
          refine x_then ?_
          refine c_block ?_
          refine c_loopK [1, 2, 5] [0] rfl rfl (σ := Nat) (fun i => [(7, .a (.v (I i)))]) (fun i => [(0, .lit (g.cells.map .v) 29)]) (fun i => i ≤ l.length * per) (fun i => l.length * per - i) (0) (by omega) (by repeat (first | exact SubF.nil | refine SubF.cons rfl ?_)) (by repeat (first | exact SubO.nil | refine SubO.cons rfl ?_)) rfl ?_
          rintro i hi
          refine c_seq ?_
          refine c_seq ?_
          refine c_region ?_
          refine o_yield rfl rfl rfl (y_val tok rfl) ?_
          refine o_yield rfl rfl rfl (y_val tok rfl) ?_
          refine o_yield rfl rfl rfl (y_len tok rfl (fun hg => hsc.sl)) ?_
          refine o_yield rfl rfl rfl (y_val tok rfl) ?_
          refine o_end [1, 2, 5, 7, 49] rfl ?_
          refine x_then ?_
          refine c_cond rfl (fun h => ?_) (fun h => ?_)
          ·
            simp only [Bool.and_eq_true, Bool.or_eq_true, Bool.not_eq_true', Bool.or_eq_false_iff, Bool.and_eq_false_iff, decide_eq_true_eq, decide_eq_false_iff_not, beq_iff_eq, bne_iff_ne, Bool.not_eq_false', beq_eq_false_iff_ne, bne_eq_false_iff_eq, ne_eq, Decidable.not_not, Int.not_lt, Int.not_le] at h
            refine c_skip ?_
            refine x_then ?_
            refine c_seq ?_
            refine c_block ?_
            refine c_seq ?_
            refine c_draw mixed (by kernel_rfl) ?_
            refine d_yield rfl rfl rfl (y_val tok rfl) rfl ?_
            refine d_yield rfl rfl rfl (y_val tok rfl) rfl ?_
            rw [hal] at h
            have hilt : i < l.length * per := by omega
            have hc0 := hcat i hilt
            have hc1 := hcat (i - 1) (by omega)
            have hup : 0 < i → (cellAt g per l (i - 1)).sector < (cellAt g per l i).sector := cell_up hml hper hilt
            have hdl := Nat.div_le_self i per
            have hrl := Nat.mod_le i per
            have hql : i / per < l.length := Nat.div_lt_of_lt_mul (by rw [Nat.mul_comm]; exact hilt)
            have hce0 : cellAt g per l i = ⟨dataV g (blkAt l (i / per)).n ((i % per : Nat) : Int), pieceAt (blkAt l (i / per)).text (i % per)⟩ := rfl
            have hq0 : Int.tdiv (i : Int) g.per = ((i / per : Nat) : Int) := by rw [hper, Int.tdiv_eq_ediv_of_nonneg (Int.natCast_nonneg i), ← Int.natCast_ediv]
            have hr0 : Int.tmod (i : Int) g.per = ((i % per : Nat) : Int) := by rw [hper, Int.tmod_eq_emod_of_nonneg (Int.natCast_nonneg i), ← Int.natCast_emod]
            generalize hqd : i / per = q at *
            generalize hrd : i % per = r at *
            clear hqd hrd
            have hquo : IntKind.i64.wrap (Int.tdiv (i : Int) g.per) = (q : Int) := by rw [hq0, wrapI (by omega) (by omega)]
            obtain ⟨b, hb⟩ : ∃ b, l[q]? = some b := ⟨l[q]'hql, by simp [hql]⟩
            have hce : cellAt g per l i = ⟨dataV g b.n (r : Int), pieceAt b.text r⟩ := by rw [hce0, blkAt_eq hb]
            have hlt_cellAt_g_per_l_i := lt_of_at hc0
            refine d_yield rfl rfl rfl (y_idx tok rfl (fun hg => hsc.sl) (fun hg => ⟨by omega, by omega⟩)) rfl ?_
            refine d_yield rfl rfl rfl (y_fel tok rfl (fun hg => hsc.sl) (fun hg => by omega)) rfl ?_
            refine d_yield rfl rfl rfl (y_lel tok (i) 0 (cellAt g per l i) rfl (fun hg => hsc) (fun hg => hc0) rfl rfl) rfl ?_
            refine d_yield rfl rfl rfl (y_val tok rfl) rfl ?_
            refine d_yield rfl rfl rfl (y_val tok rfl) rfl ?_
            refine d_yield rfl rfl rfl (y_val tok rfl) rfl ?_
            refine d_yield rfl rfl rfl (y_val tok rfl) rfl ?_
            refine d_yield rfl rfl rfl (y_val tok rfl) rfl ?_
            refine d_yield rfl rfl rfl (y_quo rfl (fun hg => by omega)) rfl ?_
            rw [hquo]
            have hlt_b := lt_of_at hb
            refine d_yield rfl rfl rfl (y_idx tok rfl (fun hg => hs1.sl) (fun hg => ⟨by omega, by omega⟩)) rfl ?_
            refine d_yield rfl rfl rfl (y_fel tok rfl (fun hg => hs1.sl) (fun hg => by omega)) rfl ?_
            refine d_yield rfl rfl rfl (y_lel tok (q) 0 (b) rfl (fun hg => hs1) (fun hg => hb) rfl rfl) rfl ?_
            refine d_yield rfl rfl rfl (y_val tok rfl) rfl ?_
            refine d_yield rfl rfl rfl (y_val tok rfl) rfl ?_
            refine d_yield rfl rfl rfl (y_val tok rfl) rfl ?_
            refine d_yield rfl rfl rfl (y_rem rfl (fun hg => by omega)) rfl ?_
            rw [hr0]
            refine d_call (.a (.v _)) rfl rfl fnok31 rfl rfl rfl (fun hg E w1 hm => by exact refData_c g ok b.n _ _) ?_
            refine d_yield rfl rfl rfl (y_val tok rfl) rfl ?_
            refine d_yield rfl rfl rfl (y_val tok rfl) rfl ?_
            refine d_yield rfl rfl rfl (y_val tok rfl) rfl ?_
            refine d_yield rfl rfl rfl (y_val tok rfl) rfl ?_
            refine d_yield rfl rfl rfl (y_val tok rfl) rfl ?_
            refine d_yield rfl rfl rfl (y_val tok rfl) rfl ?_
            refine d_yield rfl rfl rfl (y_val tok rfl) rfl ?_
            have hlt_cellAt_g_per_l_i := lt_of_at hc0
            refine d_yield rfl rfl rfl (y_idx tok rfl (fun hg => hsc.sl) (fun hg => ⟨by omega, by omega⟩)) rfl ?_
            refine d_yield rfl rfl rfl (y_fel tok rfl (fun hg => hsc.sl) (fun hg => by omega)) rfl ?_
            refine d_yield rfl rfl rfl (y_lel tok (i) 0 (cellAt g per l i) rfl (fun hg => hsc) (fun hg => hc0) rfl rfl) rfl ?_
            refine d_yield rfl rfl rfl (y_val tok rfl) rfl ?_
            refine d_yield rfl rfl rfl (y_val tok rfl) rfl ?_
            refine d_yield rfl rfl rfl (y_val tok rfl) rfl ?_
            refine d_yield rfl rfl rfl (y_idxK tok ((i - 1) * 2) rfl (by rw [wrapI (by omega) (by omega)]; dsimp only; omega) (fun hg => hsc.sl) (fun hg => by simp at hg; rw [wrapI (by omega) (by omega)]; omega)) rfl ?_
            refine d_yield rfl rfl rfl (y_fel tok rfl (fun hg => hsc.sl) (fun hg => by omega)) rfl ?_
            refine d_yield rfl rfl rfl (y_lel tok (i - 1) 0 (cellAt g per l (i - 1)) rfl (fun hg => hsc) (fun hg => hc1) rfl rfl) rfl ?_
            refine d_yield rfl rfl rfl (y_val tok rfl) rfl ?_
            refine d_yield rfl rfl rfl (y_val tok rfl) rfl ?_
            refine d_yield rfl rfl rfl (y_val tok rfl) rfl ?_
            refine d_yield rfl rfl rfl (y_val tok rfl) rfl ?_
            refine d_yield rfl rfl rfl (y_val tok rfl) rfl ?_
            refine d_yield rfl rfl rfl (y_val tok rfl) rfl ?_
            have hlt_cellAt_g_per_l_i := lt_of_at hc0
            refine d_yield rfl rfl rfl (y_idx tok rfl (fun hg => hsc.sl) (fun hg => ⟨by omega, by omega⟩)) rfl ?_
            refine d_yield rfl rfl rfl (y_fel tok rfl (fun hg => hsc.sl) (fun hg => by omega)) rfl ?_
            refine d_yield rfl rfl rfl (y_lel tok (i) 1 (cellAt g per l i) rfl (fun hg => hsc) (fun hg => hc0) rfl rfl) rfl ?_
            refine d_yield rfl rfl rfl (y_val tok rfl) rfl ?_
            refine d_yield rfl rfl rfl (y_val tok rfl) rfl ?_
            refine d_yield rfl rfl rfl (y_val tok rfl) rfl ?_
            refine d_end [1, 2, 5, 7, 98] rfl ?_
            refine x_then ?_
            refine c_cond rfl (fun h => ?_) (fun h => ?_)
            ·
              simp only [Bool.and_eq_true, Bool.or_eq_true, Bool.not_eq_true', Bool.or_eq_false_iff, Bool.and_eq_false_iff, decide_eq_true_eq, decide_eq_false_iff_not, beq_iff_eq, bne_iff_ne, Bool.not_eq_false', beq_eq_false_iff_ne, bne_eq_false_iff_eq, ne_eq, Decidable.not_not, Int.not_lt, Int.not_le] at h
              exfalso
              have hps := piece_size b.text r
              rcases h with (h | h) | h
              · rw [hce] at h; exact h rfl
              · have := hup (by omega); omega
              · rw [hce] at h; simp only at h; omega
            ·
              simp only [Bool.and_eq_true, Bool.or_eq_true, Bool.not_eq_true', Bool.or_eq_false_iff, Bool.and_eq_false_iff, decide_eq_true_eq, decide_eq_false_iff_not, beq_iff_eq, bne_iff_ne, Bool.not_eq_false', beq_eq_false_iff_ne, bne_eq_false_iff_eq, ne_eq, Decidable.not_not, Int.not_lt, Int.not_le] at h
              refine c_skip ?_
              refine x_block ?_
              refine x_then ?_
              refine c_region ?_
              refine o_yield rfl rfl rfl (y_val tok rfl) ?_
              refine o_yield rfl rfl rfl (y_val tok rfl) ?_
              refine o_yield rfl rfl rfl (y_val tok rfl) ?_
              refine o_end [1, 2, 5, 7] rfl ?_
              refine x_then ?_
              rw [wrapI (n := (i : Int) + 1) (by omega) (by omega)]
              refine x_round (i + 1) (by omega) (by first | omega | (dsimp only; omega)) (by repeat (first | exact SubF.nil | refine SubF.cons rfl ?_)) (by repeat (first | exact SubO.nil | refine SubO.cons rfl ?_)) rfl (Vw.le.refl _)
          ·
            simp only [Bool.and_eq_true, Bool.or_eq_true, Bool.not_eq_true', Bool.or_eq_false_iff, Bool.and_eq_false_iff, decide_eq_true_eq, decide_eq_false_iff_not, beq_iff_eq, bne_iff_ne, Bool.not_eq_false', beq_eq_false_iff_ne, bne_eq_false_iff_eq, ne_eq, Decidable.not_not, Int.not_lt, Int.not_le] at h
            refine c_exit ?_
            refine x_then_exit ?_
            refine x_then_exit ?_
            refine x_block_hit ?_
            refine x_then ?_
            refine c_seq ?_
            refine c_seq ?_
            refine c_region ?_
            refine o_yield rfl rfl rfl (y_val tok rfl) ?_
            refine o_end [1, 2, 5, 8] rfl ?_
            refine x_then ?_
            refine c_block ?_
            refine c_loopK [1, 2, 5] [0] rfl rfl (σ := Nat) (fun j => [(8, .a (.v (I j)))]) (fun j => [(0, .lit (g.cells.map .v) 29)]) (fun j => j ≤ l.length) (fun j => l.length - j) (0) (by omega) (by repeat (first | exact SubF.nil | refine SubF.cons rfl ?_)) (by repeat (first | exact SubO.nil | refine SubO.cons rfl ?_)) rfl ?_
            rintro j hj
            refine c_seq ?_
            refine c_seq ?_
            refine c_region ?_
            refine o_yield rfl rfl rfl (y_val tok rfl) ?_
            refine o_yield rfl rfl rfl (y_val tok rfl) ?_
            refine o_yield rfl rfl rfl (y_len tok rfl (fun hg => hs1.sl)) ?_
            refine o_yield rfl rfl rfl (y_val tok rfl) ?_
            refine o_end [1, 2, 5, 8, 102] rfl ?_
            refine x_then ?_
            refine c_cond rfl (fun h => ?_) (fun h => ?_)
            ·
              simp only [Bool.and_eq_true, Bool.or_eq_true, Bool.not_eq_true', Bool.or_eq_false_iff, Bool.and_eq_false_iff, decide_eq_true_eq, decide_eq_false_iff_not, beq_iff_eq, bne_iff_ne, Bool.not_eq_false', beq_eq_false_iff_ne, bne_eq_false_iff_eq, ne_eq, Decidable.not_not, Int.not_lt, Int.not_le] at h
              refine c_skip ?_
              refine x_then ?_
              refine c_seq ?_
              refine c_block ?_
              refine c_seq ?_
              refine c_region ?_
              refine o_yield rfl rfl rfl (y_val tok rfl) ?_
              refine o_end [1, 2, 5, 8, 9] rfl ?_
              refine x_then ?_
              refine c_seq ?_
              refine c_seq ?_
              refine c_region ?_
              refine o_yield rfl rfl rfl (y_val tok rfl) ?_
              refine o_end [1, 2, 5, 8, 9, 10] rfl ?_
              refine x_then ?_
              refine c_block ?_
              obtain ⟨x, h_x⟩ := hs1.at (k := j) (by omega)
              obtain ⟨_, _, hx3, _, _⟩ := hat j x h_x
              have e0c : catS (pieceL 0 x.text) = ⟨#[]⟩ := rfl
              refine c_loopK [1, 2, 5, 8] [0] rfl rfl (σ := Nat) (fun k => [(9, .a (.v (S (catS (pieceL k x.text))))), (10, .a (.v (I k)))]) (fun k => [(0, .lit (g.cells.map .v) 29)]) (fun k => k ≤ per) (fun k => per - k) (0) (by omega) (by repeat (first | exact SubF.nil | refine SubF.cons rfl ?_ | refine SubF.cons (by simp only [e0c]; first | done | rfl) ?_)) (by repeat (first | exact SubO.nil | refine SubO.cons rfl ?_ | refine SubO.cons (by simp only [e0c]; first | done | rfl) ?_)) rfl ?_
              rintro k hk
              refine c_seq ?_
              refine c_seq ?_
              refine c_region ?_
              refine o_yield rfl rfl rfl (y_val tok rfl) ?_
              refine o_yield rfl rfl rfl (y_val tok rfl) ?_
              refine o_yield rfl rfl rfl (y_val tok rfl) ?_
              refine o_yield rfl rfl rfl (y_val tok rfl) ?_
              refine o_end [1, 2, 5, 8, 9, 10, 108] rfl ?_
              refine x_then ?_
              refine c_cond rfl (fun h => ?_) (fun h => ?_)
              ·
                simp only [Bool.and_eq_true, Bool.or_eq_true, Bool.not_eq_true', Bool.or_eq_false_iff, Bool.and_eq_false_iff, decide_eq_true_eq, decide_eq_false_iff_not, beq_iff_eq, bne_iff_ne, Bool.not_eq_false', beq_eq_false_iff_ne, bne_eq_false_iff_eq, ne_eq, Decidable.not_not, Int.not_lt, Int.not_le] at h
                refine c_skip ?_
                refine x_then ?_
                refine c_seq ?_
                refine c_block ?_
                refine c_region ?_
                refine o_yield rfl rfl rfl (y_val tok rfl) ?_
                refine o_yield rfl rfl rfl (y_val tok rfl) ?_
                refine o_yield rfl rfl rfl (y_val tok rfl) ?_
                refine o_yield rfl rfl rfl (y_val tok rfl) ?_
                refine o_yield rfl rfl rfl (y_val tok rfl) ?_
                refine o_yield rfl rfl rfl (y_val tok rfl) ?_
                refine o_yield rfl rfl rfl (y_val tok rfl) ?_
                refine o_yield rfl rfl rfl (y_val tok rfl) ?_
                have hklt : k < per := by omega
                have hjk : j * per + k < l.length * per := by
                  have : (j + 1) * per ≤ l.length * per := Nat.mul_le_mul_right _ (by omega)
                  rw [Nat.add_mul] at this
                  omega
                have hw2 : IntKind.i64.wrap (IntKind.i64.wrap ((j : Int) * g.per) + (k : Int)) = ((j * per + k : Nat) : Int) := by
                  rw [hper, ← Int.natCast_mul, wrapI (n := ((j * per : Nat) : Int)) (by omega) (by omega), wrapI (by omega) (by omega)]; omega
                have hcj := hcat _ hjk
                have hca : (cellAt g per l (j * per + k)).b = pieceAt x.text k := by rw [cellAt_eq g h_x hklt]
                have hs1z : (catS (pieceL k x.text)).size ≤ 2048 := by rw [catS_size, catL_pieces, List.length_take, size_list]; omega
                have hps := piece_size x.text k
                rw [hw2]
                have hlt_cellAt_g_per_l__j___per___k_ := lt_of_at hcj
                refine o_yield rfl rfl rfl (y_idx tok rfl (fun hg => hsc.sl) (fun hg => ⟨by omega, by omega⟩)) ?_
                refine o_yield rfl rfl rfl (y_fel tok rfl (fun hg => hsc.sl) (fun hg => by omega)) ?_
                refine o_yield rfl rfl rfl (y_lel tok (j * per + k) 1 (cellAt g per l (j * per + k)) rfl (fun hg => hsc) (fun hg => hcj) rfl rfl) ?_
                rw [hca]
                refine o_yield rfl rfl rfl (y_cat rfl (fun hg => by omega)) ?_
                refine o_yield rfl rfl rfl (y_val tok rfl) ?_
                refine o_end [1, 2, 5, 8, 9, 10] rfl ?_
                refine x_block ?_
                refine x_then ?_
                refine c_region ?_
                refine o_yield rfl rfl rfl (y_val tok rfl) ?_
                refine o_yield rfl rfl rfl (y_val tok rfl) ?_
                refine o_yield rfl rfl rfl (y_val tok rfl) ?_
                refine o_end [1, 2, 5, 8, 9, 10] rfl ?_
                refine x_then ?_
                rw [catS_succ, wrapI (n := (k : Int) + 1) (by omega) (by omega)]
                refine x_round (k + 1) (by omega) (by first | omega | (dsimp only; omega)) (by repeat (first | exact SubF.nil | refine SubF.cons rfl ?_)) (by repeat (first | exact SubO.nil | refine SubO.cons rfl ?_)) rfl (Vw.le.refl _)
              ·
                simp only [Bool.and_eq_true, Bool.or_eq_true, Bool.not_eq_true', Bool.or_eq_false_iff, Bool.and_eq_false_iff, decide_eq_true_eq, decide_eq_false_iff_not, beq_iff_eq, bne_iff_ne, Bool.not_eq_false', beq_eq_false_iff_ne, bne_eq_false_iff_eq, ne_eq, Decidable.not_not, Int.not_lt, Int.not_le] at h
                refine c_exit ?_
                refine x_then_exit ?_
                refine x_then_exit ?_
                refine x_block_hit ?_
                refine x_then ?_
                refine c_seq ?_
                refine c_region ?_
                refine o_yield rfl rfl rfl (y_val tok rfl) ?_
                refine o_yield rfl rfl rfl (y_val tok rfl) ?_
                refine o_yield rfl rfl rfl (y_val tok rfl) ?_
                have hkp : k = per := by omega
                subst hkp
                have hcs : catS (pieceL k x.text) = x.text := catS_pieces (by omega)
                rw [hcs]
                have hlt_x := lt_of_at h_x
                refine o_yield rfl rfl rfl (y_idx tok rfl (fun hg => hs1.sl) (fun hg => ⟨by omega, by omega⟩)) ?_
                refine o_yield rfl rfl rfl (y_fel tok rfl (fun hg => hs1.sl) (fun hg => by omega)) ?_
                refine o_yield rfl rfl rfl (y_lel tok (j) 1 (x) rfl (fun hg => hs1) (fun hg => h_x) rfl rfl) ?_
                refine o_yield rfl rfl rfl (y_val tok rfl) ?_
                refine o_end [1, 2, 5, 8, 129] rfl ?_
                refine x_then ?_
                refine c_cond rfl (fun h => ?_) (fun h => ?_)
                ·
                  simp only [Bool.and_eq_true, Bool.or_eq_true, Bool.not_eq_true', Bool.or_eq_false_iff, Bool.and_eq_false_iff, decide_eq_true_eq, decide_eq_false_iff_not, beq_iff_eq, bne_iff_ne, Bool.not_eq_false', beq_eq_false_iff_ne, bne_eq_false_iff_eq, ne_eq, Decidable.not_not, Int.not_lt, Int.not_le] at h
                  exfalso
                  simp at h
                ·
                  simp only [Bool.and_eq_true, Bool.or_eq_true, Bool.not_eq_true', Bool.or_eq_false_iff, Bool.and_eq_false_iff, decide_eq_true_eq, decide_eq_false_iff_not, beq_iff_eq, bne_iff_ne, Bool.not_eq_false', beq_eq_false_iff_ne, bne_eq_false_iff_eq, ne_eq, Decidable.not_not, Int.not_lt, Int.not_le] at h
                  refine c_skip ?_
                  refine x_block ?_
                  refine x_then ?_
                  refine c_region ?_
                  refine o_yield rfl rfl rfl (y_val tok rfl) ?_
                  refine o_yield rfl rfl rfl (y_val tok rfl) ?_
                  refine o_yield rfl rfl rfl (y_val tok rfl) ?_
                  refine o_end [1, 2, 5, 8] rfl ?_
                  refine x_then ?_
                  rw [wrapI (n := (j : Int) + 1) (by omega) (by omega)]
                  refine x_round (j + 1) (by omega) (by first | omega | (dsimp only; omega)) (by repeat (first | exact SubF.nil | refine SubF.cons rfl ?_)) (by repeat (first | exact SubO.nil | refine SubO.cons rfl ?_)) rfl (Vw.le.refl _)
            ·
              simp only [Bool.and_eq_true, Bool.or_eq_true, Bool.not_eq_true', Bool.or_eq_false_iff, Bool.and_eq_false_iff, decide_eq_true_eq, decide_eq_false_iff_not, beq_iff_eq, bne_iff_ne, Bool.not_eq_false', beq_eq_false_iff_ne, bne_eq_false_iff_eq, ne_eq, Decidable.not_not, Int.not_lt, Int.not_le] at h
              refine c_exit ?_
              refine x_then_exit ?_
              refine x_then_exit ?_
              refine x_block_hit ?_
              refine x_then ?_
              refine c_seq ?_
              refine c_region ?_
              refine o_call (.a (.v _)) rfl rfl fnok19 rfl rfl rfl (fun hg E w1 hm => by exact wakes18_c _) ?_
              refine o_yield rfl rfl rfl (y_val tok rfl) ?_
              refine o_end [4] rfl ?_
              refine x_then ?_
              refine c_ret ?_
              refine b_ret tok rfl ?_
              intro E w' hm _
              refine ⟨?_, hm.below (hle1)⟩
              rfl
end Go.Proofs.Ytanekcndpkagiaa

/- Blocks put into rows: plain laws; rows compared. -/
set_option linter.unusedVariables false
set_option linter.unusedSimpArgs false
set_option maxRecDepth 100000
namespace Go.Proofs.Ytanekcndpkagiaa
open Go Go.Eng Go.RowKit

def insB : List Block → Block → List Block
  | [], x => [x]
  | y :: r, x => if y.n = x.n then x :: r else if x.n < y.n then x :: y :: r else y :: insB r x

theorem idxB_succ (pr : Block → Bool) : ∀ (l : List Block) (i : Nat), idxB pr l (i + 1) = if idxB pr l i < 0 then -1 else idxB pr l i + 1
  | [], i => rfl
  | b :: r, i => by
    rw [idxB, idxB]
    by_cases h : pr b = true
    · rw [if_pos h, if_pos h, if_neg (by omega)]; omega
    · rw [if_neg h, if_neg h, idxB_succ pr r (i + 1)]

theorem idxB_ge (pr : Block → Bool) (l : List Block) (i : Nat) : -1 ≤ idxB pr l i := by
  rcases idxB_cases pr l i with h | ⟨k, h, _⟩ <;> omega

theorem putB_cons (y : Block) (r : List Block) (x : Block) : putB (y :: r) x = if y.n = x.n then x :: r else if x.n < y.n ∧ idxB (fun z => z.n == x.n) r 0 < 0 then x :: y :: r else y :: putB r x := by
  have hg1 := idxB_ge (fun z => z.n == x.n) r 0
  have hg2 := idxB_ge (fun z => decide (x.n < z.n)) r 0
  have e1 : idxB (fun z => z.n == x.n) (y :: r) 0 = if y.n = x.n then 0 else if idxB (fun z => z.n == x.n) r 0 < 0 then -1 else idxB (fun z => z.n == x.n) r 0 + 1 := by
    rw [idxB, idxB_succ]
    by_cases h : y.n = x.n <;> simp [h]
  have e2 : idxB (fun z => decide (x.n < z.n)) (y :: r) 0 = if x.n < y.n then 0 else if idxB (fun z => decide (x.n < z.n)) r 0 < 0 then -1 else idxB (fun z => decide (x.n < z.n)) r 0 + 1 := by
    rw [idxB, idxB_succ]
    by_cases h : x.n < y.n <;> simp [h]
  rcases idxB_cases (fun z => z.n == x.n) r 0 with hq | ⟨k, hq, hk⟩
  · by_cases h1 : y.n = x.n
    · rw [if_pos h1, putB, e1, if_pos h1]; simp
    · rw [if_neg h1, hq]
      by_cases h2 : x.n < y.n
      · rw [if_pos ⟨h2, by omega⟩, putB, e1, if_neg h1, hq, e2, if_pos h2]
        simp [insAt]
      · rw [if_neg (fun h => h2 h.1), putB, e1, if_neg h1, hq, e2, if_neg h2, putB, hq]
        rcases idxB_cases (fun z => decide (x.n < z.n)) r 0 with hp | ⟨j, hp, hj⟩
        · rw [hp]; simp [insAt]
        · rw [hp]
          rw [if_neg (by omega), if_neg (by omega), if_neg (by omega), if_neg (by omega), if_neg (by omega)]
          rw [show (((0 + j : Nat) : Int) + 1).toNat = j + 1 by omega, show ((0 + j : Nat) : Int).toNat = j by omega]
          simp [insAt]
  · by_cases h1 : y.n = x.n
    · rw [if_pos h1, putB, e1, if_pos h1]; simp
    · have e3 : idxB (fun z => z.n == x.n) (y :: r) 0 = ((k + 1 : Nat) : Int) := by rw [e1, if_neg h1, hq, if_neg (by omega)]; omega
      rw [if_neg h1, if_neg (by omega), putB, e3, if_pos (by omega), putB, hq, if_pos (by omega)]
      rw [Int.toNat_natCast, Int.toNat_natCast, Nat.zero_add]
      simp

theorem idxB_none {g : Geo} {n : Int} : ∀ {l : List Block} {last : Int}, mayF g last l = true → n ≤ last → ∀ i, idxB (fun z => z.n == n) l i = -1
  | [], _, _, _, _ => rfl
  | y :: r, last, h, hn, i => by
    obtain ⟨⟨h1, _⟩, h2⟩ := mayF_cons.1 h
    rw [idxB, if_neg (by simp; omega)]
    exact idxB_none h2 (by omega) _

theorem putB_ins {g : Geo} {x : Block} : ∀ {l : List Block} {last : Int}, mayF g last l = true → putB l x = insB l x
  | [], _, _ => by simp [putB, insB, idxB, insAt]
  | y :: r, last, h => by
    obtain ⟨⟨h1, _⟩, h2⟩ := mayF_cons.1 h
    rw [putB_cons, insB]
    by_cases e1 : y.n = x.n
    · rw [if_pos e1, if_pos e1]
    · rw [if_neg e1, if_neg e1]
      by_cases e2 : x.n < y.n
      · rw [if_pos ⟨e2, by rw [idxB_none h2 (by omega)]; omega⟩, if_pos e2]
      · rw [if_neg (fun h => e2 h.1), if_neg e2, putB_ins h2]

theorem ins_may {g : Geo} {x : Block} (hx1 : x.n < g.blocks) (hx2 : (x.text.size : Int) ≤ g.per * 256) : ∀ {l : List Block} {last : Int}, last < x.n → mayF g last l = true → mayF g last (insB l x) = true
  | [], last, hl, _ => by rw [insB]; exact mayF_cons.2 ⟨⟨hl, hx1, hx2⟩, rfl⟩
  | y :: r, last, hl, h => by
    obtain ⟨⟨h1, h2, h3⟩, h4⟩ := mayF_cons.1 h
    rw [insB]
    by_cases e1 : y.n = x.n
    · rw [if_pos e1]; exact mayF_cons.2 ⟨⟨hl, hx1, hx2⟩, e1 ▸ h4⟩
    · rw [if_neg e1]
      by_cases e2 : x.n < y.n
      · rw [if_pos e2]; exact mayF_cons.2 ⟨⟨hl, hx1, hx2⟩, mayF_cons.2 ⟨⟨e2, h2, h3⟩, h4⟩⟩
      · rw [if_neg e2]; exact mayF_cons.2 ⟨⟨h1, h2, h3⟩, ins_may hx1 hx2 (by omega) h4⟩

theorem ins_get (x : Block) (n : Int) : ∀ l : List Block, getB (insB l x) n = if n = x.n then (x.text, true) else getB l n
  | [] => by simp only [insB, getB]; by_cases h : n = x.n <;> simp [h, eq_comm]
  | y :: r => by
    rw [insB]
    by_cases e1 : y.n = x.n
    · rw [if_pos e1, getB, getB]
      by_cases h : n = x.n
      · simp [h]
      · rw [if_neg (fun c => h c.symm), if_neg h, if_neg (by omega)]
    · rw [if_neg e1]
      by_cases e2 : x.n < y.n
      · rw [if_pos e2, getB]
        by_cases h : n = x.n
        · simp [h]
        · rw [if_neg (fun c => h c.symm), if_neg h]
      · rw [if_neg e2, getB, getB, ins_get x n r]
        by_cases h : n = x.n
        · rw [if_neg (by omega), if_pos h]; simp [h]
        · rw [if_neg h, if_neg h]

theorem ins_twice (x : Block) : ∀ l : List Block, insB (insB l x) x = insB l x
  | [] => by simp [insB]
  | y :: r => by
    rw [insB]
    by_cases e1 : y.n = x.n
    · simp [e1, insB]
    · by_cases e2 : x.n < y.n
      · simp [e1, e2, insB]
      · rw [if_neg e1, if_neg e2, insB, if_neg e1, if_neg e2, ins_twice x r]

theorem ins_comm {a b : Block} (hab : a.n ≠ b.n) : ∀ l : List Block, insB (insB l a) b = insB (insB l b) a
  | [] => by
    have hba : b.n ≠ a.n := fun h => hab h.symm
    rcases Int.lt_or_gt_of_ne hab with h | h
    · simp [insB, hab, hba, h, show ¬ b.n < a.n by omega]
    · simp [insB, hab, hba, h, show ¬ a.n < b.n by omega]
  | y :: r => by
    have hba : b.n ≠ a.n := fun h => hab h.symm
    have ih := ins_comm hab r
    by_cases c1 : y.n = a.n
    · have c2 : ¬ y.n = b.n := by omega
      rcases Int.lt_or_gt_of_ne hab with h | h
      · simp [insB, c1, hab, hba, h, show ¬ b.n < a.n by omega]
      · simp [insB, c1, hab, hba, h, show ¬ a.n < b.n by omega]
    · by_cases c2 : y.n = b.n
      · rcases Int.lt_or_gt_of_ne hab with h | h
        · simp [insB, c2, hab, hba, h, show ¬ b.n < a.n by omega]
        · simp [insB, c2, hab, hba, h, show ¬ a.n < b.n by omega]
      · by_cases c3 : a.n < y.n
        · by_cases c4 : b.n < y.n
          · rcases Int.lt_or_gt_of_ne hab with h | h
            · simp [insB, c1, c2, c3, c4, hab, hba, h, show ¬ b.n < a.n by omega]
            · simp [insB, c1, c2, c3, c4, hab, hba, h, show ¬ a.n < b.n by omega]
          · simp [insB, c1, c2, c3, c4, hab, hba, show ¬ b.n < a.n by omega]
        · by_cases c4 : b.n < y.n
          · simp [insB, c1, c2, c3, c4, hab, hba, show ¬ a.n < b.n by omega]
          · simp [insB, c1, c2, c3, c4, ih]
end Go.Proofs.Ytanekcndpkagiaa

/- What was put is got: the law. -/
set_option linter.unusedVariables false
set_option linter.unusedSimpArgs false
set_option maxRecDepth 100000
namespace Go.Proofs.Ytanekcndpkagiaa
open Go Go.Eng Go.RowKit

def Block.eqB (a b : Block) : Bool := a.n == b.n && a.text.toList == b.text.toList

theorem blkEq {op : BinOp} {ox oy : Operand} (a b : Block) (w : World) (hop : op = .eql ∨ op = .neq) :
    (do eqGuard op 34 ox oy a.val b.val; binOp op 34 a.val b.val : Sem Value).run Try.prog w = .ok (.bool (if op = .eql then a.eqB b else !(a.eqB b))) w := by
  have hS : Try.prog.underlying 34 = some (.struct (Try.prog.fieldsOf 34)) := by kernel_rfl
  have hp : Try.prog.stoodInHeld 34 = false := by kernel_rfl
  have hg : Try.prog.eqGuardType Try.prog.depth 34 = false := by kernel_rfl
  have key : (Op.equalIn 10000 34 a.val b.val).run Try.prog w = .ok (a.eqB b) w := by
    have u3 := Try.underlying3
    have a3 := Try.isAgg3
    have z3 := Try.sizeOf3
    have u9 := Try.underlying9
    have a9 := Try.isAgg9
    have z9 := Try.sizeOf9
    rw [show (10000 : Nat) = 9999 + 1 from rfl, run_equalIn_agg w 9999 34 _ _ hS hp]
    simp only [Program.fieldsOf, Try.underlying34]
    go_simp
    unfold Block.eqB
    by_cases h1 : a.n = b.n <;> by_cases h2 : a.text.toList = b.text.toList <;> simp [h1, h2]
  rw [Sem.run_bind, run_eqGuard_agg w _ _ _ _ _ _ hg]
  rcases hop with rfl | rfl
  · simp only [Result.andThen_ok, run_eql_struct, key]; rfl
  · simp only [Result.andThen_ok, run_neq_struct, key]; rfl

theorem Block.eqB_refl (a : Block) : a.eqB a = true := by simp [Block.eqB]

theorem sameB_c (V : Vw) (v v' : Value) (L : List Block) (w : World) (hV : V.le (vw w)) (hs0 : SlOf V Block.cells 2 v L) (hs1 : SlOf V Block.cells 2 v' L) (hn : L.length ≤ 4398046511104) :
    Calls Try.prog 24 #[v, v'] w fun e w' => e = .returned (.bool true) ∧ Below w.heap.size w w' := by
  have hs := hs0.mono hV
  have hs' := hs1.mono hV
  refine enter (E := E0) (O := []) (nl := 0) (V := vw w) [.a (.v v), .a (.v v')] Try.func24 rfl rfl (mem0 E0 0 w) rfl rfl ?_
  refine c_seq ?_
  refine c_region ?_
  refine o_yield rfl rfl rfl (y_val tok rfl) ?_
  refine o_end [0, 1] rfl ?_
  refine x_then ?_
  refine c_seq ?_
  refine c_seq ?_
  refine c_region ?_
  refine o_yield rfl rfl rfl (y_val tok rfl) ?_
  refine o_yield rfl rfl rfl (y_len tok rfl (fun hg => hs.sl)) ?_
  refine o_yield rfl rfl rfl (y_val tok rfl) ?_
  refine o_yield rfl rfl rfl (y_len tok rfl (fun hg => hs'.sl)) ?_
  refine o_yield rfl rfl rfl (y_val tok rfl) ?_
  refine o_end [0, 1, 10] rfl ?_
  refine x_then ?_
  refine c_cond rfl (fun h => ?_) (fun h => ?_)
  ·
    simp only [Bool.and_eq_true, Bool.or_eq_true, Bool.not_eq_true', Bool.or_eq_false_iff, Bool.and_eq_false_iff, decide_eq_true_eq, decide_eq_false_iff_not, beq_iff_eq, bne_iff_ne, Bool.not_eq_false', beq_eq_false_iff_ne, bne_eq_false_iff_eq, ne_eq, Decidable.not_not, Int.not_lt, Int.not_le] at h
    refine c_seq ?_
    refine c_region ?_
    refine o_yield rfl rfl rfl (y_val tok rfl) ?_
    refine o_end [4] rfl ?_
    refine x_then ?_
    refine c_ret ?_
    refine x_then_ret ?_
    refine b_ret tok rfl ?_
    contradiction
  ·
    simp only [Bool.and_eq_true, Bool.or_eq_true, Bool.not_eq_true', Bool.or_eq_false_iff, Bool.and_eq_false_iff, decide_eq_true_eq, decide_eq_false_iff_not, beq_iff_eq, bne_iff_ne, Bool.not_eq_false', beq_eq_false_iff_ne, bne_eq_false_iff_eq, ne_eq, Decidable.not_not, Int.not_lt, Int.not_le] at h
    clear h
    refine c_skip ?_
    refine x_then ?_
    refine c_seq ?_
    refine c_seq ?_
    refine c_region ?_
    refine o_yield rfl rfl rfl (y_val tok rfl) ?_
    refine o_end [0, 1, 5] rfl ?_
    refine x_then ?_
    refine c_block ?_
    refine c_loopK [0, 1] [] rfl rfl (σ := Nat) (fun i => [(5, .a (.v (I i)))]) (fun i => []) (fun i => i ≤ L.length) (fun i => L.length - i) (0) (by omega) (by repeat (first | exact SubF.nil | refine SubF.cons rfl ?_)) (by repeat (first | exact SubO.nil | refine SubO.cons rfl ?_)) rfl ?_
    rintro i hi
    refine c_seq ?_
    refine c_seq ?_
    refine c_region ?_
    refine o_yield rfl rfl rfl (y_val tok rfl) ?_
    refine o_yield rfl rfl rfl (y_val tok rfl) ?_
    refine o_yield rfl rfl rfl (y_len tok rfl (fun hg => hs.sl)) ?_
    refine o_yield rfl rfl rfl (y_val tok rfl) ?_
    refine o_end [0, 1, 5, 14] rfl ?_
    refine x_then ?_
    refine c_cond rfl (fun h => ?_) (fun h => ?_)
    ·
      simp only [Bool.and_eq_true, Bool.or_eq_true, Bool.not_eq_true', Bool.or_eq_false_iff, Bool.and_eq_false_iff, decide_eq_true_eq, decide_eq_false_iff_not, beq_iff_eq, bne_iff_ne, Bool.not_eq_false', beq_eq_false_iff_ne, bne_eq_false_iff_eq, ne_eq, Decidable.not_not, Int.not_lt, Int.not_le] at h
      refine c_skip ?_
      refine x_then ?_
      refine c_seq ?_
      refine c_block ?_
      refine c_seq ?_
      refine c_draw mixed (by kernel_rfl) ?_
      refine d_yield rfl rfl rfl (y_val tok rfl) rfl ?_
      refine d_yield rfl rfl rfl (y_val tok rfl) rfl ?_
      obtain ⟨r, h_r⟩ := hs.at (k := i) (by omega)
      have hlt_r := lt_of_at h_r
      refine d_yield rfl rfl rfl (y_idx tok rfl (fun hg => hs.sl) (fun hg => ⟨by omega, by omega⟩)) rfl ?_
      refine d_yield rfl rfl rfl (y_lel tok (i) 0 (r) rfl (fun hg => hs) (fun hg => h_r) rfl rfl) rfl ?_
      refine d_yield rfl rfl rfl (y_val tok rfl) rfl ?_
      refine d_yield rfl rfl rfl (y_val tok rfl) rfl ?_
      have hlt_r := lt_of_at h_r
      refine d_yield rfl rfl rfl (y_idx tok rfl (fun hg => hs'.sl) (fun hg => ⟨by omega, by omega⟩)) rfl ?_
      refine d_yield rfl rfl rfl (y_lel tok (i) 0 (r) rfl (fun hg => hs') (fun hg => h_r) rfl rfl) rfl ?_
      refine d_yield rfl rfl rfl (y_seq (.bool (!(r.eqB r))) rfl (fun E w => blkEq r r w (.inr rfl))) rfl ?_
      refine d_end [0, 1, 5, 25] rfl ?_
      refine x_then ?_
      refine c_cond rfl (fun h => ?_) (fun h => ?_)
      ·
        refine c_seq ?_
        refine c_region ?_
        refine o_yield rfl rfl rfl (y_val tok rfl) ?_
        refine o_end [4] rfl ?_
        refine x_then ?_
        refine c_ret ?_
        refine x_block_ret ?_
        refine x_then_ret ?_
        refine x_then_ret ?_
        refine x_block_ret ?_
        refine x_then_ret ?_
        refine b_ret tok rfl ?_
        rw [Block.eqB_refl] at h
        cases h
      ·
        refine c_skip ?_
        refine x_block ?_
        refine x_then ?_
        refine c_region ?_
        refine o_yield rfl rfl rfl (y_val tok rfl) ?_
        refine o_yield rfl rfl rfl (y_val tok rfl) ?_
        refine o_yield rfl rfl rfl (y_val tok rfl) ?_
        refine o_end [0, 1, 5] rfl ?_
        refine x_then ?_
        rw [wrapI (n := (i : Int) + 1) (by omega) (by omega)]
        refine x_round (i + 1) (by omega) (by first | omega | (dsimp only; omega)) (by repeat (first | exact SubF.nil | refine SubF.cons rfl ?_)) (by repeat (first | exact SubO.nil | refine SubO.cons rfl ?_)) rfl (Vw.le.refl _)
    ·
      simp only [Bool.and_eq_true, Bool.or_eq_true, Bool.not_eq_true', Bool.or_eq_false_iff, Bool.and_eq_false_iff, decide_eq_true_eq, decide_eq_false_iff_not, beq_iff_eq, bne_iff_ne, Bool.not_eq_false', beq_eq_false_iff_ne, bne_eq_false_iff_eq, ne_eq, Decidable.not_not, Int.not_lt, Int.not_le] at h
      refine c_exit ?_
      refine x_then_exit ?_
      refine x_then_exit ?_
      refine x_block_hit ?_
      refine x_then ?_
      refine c_seq ?_
      refine c_region ?_
      refine o_yield rfl rfl rfl (y_val tok rfl) ?_
      refine o_end [4] rfl ?_
      refine x_then ?_
      refine c_ret ?_
      refine b_ret tok rfl ?_
      intro E w' hm _
      refine ⟨?_, hm.below (Vw.le.refl _)⟩
      rfl

theorem bufPut_cG {G : Bool} (V : Vw) (sv lv : Value) (l more : List Block) (w : World) (hV : V.le (vw w)) (hs0 : SlOf V Block.cells 2 sv l) (hl0 : SlOf V Block.cells 2 lv more) (hn : l.length + more.length ≤ 1048576) :
    Calls Try.prog 21 #[sv, lv] w fun e w' => ∃ x V', e = .returned x ∧ Below w.heap.size w w' ∧ Vext w.heap.size V V' w' ∧ SlOf V' Block.cells 2 x (putP l more) := by
  refine (bufPut_cV V sv lv l more w hV hs0 hl0 hn).mono ?_
  rintro e w' ⟨x, V', he, hb, hx, a, n, c, rfl, hsl⟩
  exact ⟨_, V', he, hb, hx, hsl⟩

theorem bufMerge_cG (V : Vw) (sv lv : Value) (l more : List Block) (w : World) (hV : V.le (vw w)) (hs0 : SlOf V Block.cells 2 sv l) (hl0 : SlOf V Block.cells 2 lv more) (hn : l.length + more.length ≤ 1048576) :
    Calls Try.prog 26 #[sv, lv] w fun e w' => ∃ x V', e = .returned x ∧ Below w.heap.size w w' ∧ Vext w.heap.size V V' w' ∧ SlOf V' Block.cells 2 x (putP l more) := by
  refine (bufMerge_c V sv lv l more w hV hs0 hl0 hn).mono ?_
  rintro e w' ⟨v', rfl, hrow, hb⟩
  obtain ⟨V', hx, hsl⟩ := ownsRow_vext hV hb hrow
  exact ⟨_, V', rfl, hb, hx, hsl, fun _ => rfl⟩


theorem bufferPut_law (w : World) {v0 v1 v2 v3 : Value} (R0 : ∃ g : Geo, v0 = g.val ∧ g.Ok) (R1 : ∃ l : List Block, SlOf (vw w) Block.cells 2 v1 l ∧ l.length ≤ maxLen ∧ ∀ a ∈ l, Block.Ok a) (R2 : ∃ a : Block, v2 = a.val ∧ Block.Ok a) (R3 : ∃ a : Block, v3 = a.val ∧ Block.Ok a) :
    Calls Try.prog 5 #[v0, v1, v2, v3] w fun e w' => e = .returned (.bool true) ∧ Below w.heap.size w w' := by
  obtain ⟨g, rfl, ok⟩ := R0
  obtain ⟨l, hs, hn, _⟩ := R1
  obtain ⟨a, rfl, _⟩ := R2
  obtain ⟨b, rfl, _⟩ := R3
  obtain ⟨a0, n0, c0, rfl⟩ := sl_shape hs.sl
  refine enter (E := E0) (O := []) (nl := 0) (V := vw w) [.a (.v g.val), .a (.v (.slice a0 n0 c0)), .a (.v a.val), .a (.v b.val)] Try.func5 rfl rfl (mem0 E0 0 w) rfl rfl ?_
  refine c_seq ?_
  refine c_region ?_
  refine o_new tok rfl rfl rfl rfl ?_
  refine o_new tok rfl rfl rfl rfl ?_
  refine o_new tok rfl rfl rfl rfl ?_
  refine o_yield rfl rfl rfl (y_val tok rfl) ?_
  refine o_end [1, 4, 6, 7] rfl ?_
  refine x_then ?_
  refine c_seq ?_
  refine c_seq ?_
  refine c_region ?_
  refine o_yield rfl rfl rfl (y_val tok rfl) ?_
  refine o_call (.a (.v _)) rfl rfl fnok15 rfl rfl rfl (fun hg E w1 hm => by exact great_c _ _ l _ hm.leV hs hn) ?_
  refine o_yield rfl rfl rfl (y_val tok rfl) ?_
  refine o_yield rfl rfl rfl (y_val tok rfl) ?_
  refine o_yield rfl rfl rfl (y_val tok rfl) ?_
  refine o_call (.a (.v _)) rfl rfl fnok20 rfl rfl rfl (fun hg E w1 hm => by exact refBMay_c (vw w1) g ok _ l _ (Vw.le.refl _) (hs.mono hm.leV) hn) ?_
  refine o_yield rfl rfl rfl (y_val tok rfl) ?_
  refine o_yield rfl rfl rfl (y_val tok rfl) ?_
  refine o_yield rfl rfl rfl (y_val tok rfl) ?_
  refine o_yield rfl rfl rfl (y_val tok rfl) ?_
  refine o_yield rfl rfl rfl (y_val tok rfl) ?_
  refine o_bs tok rfl rfl rfl rfl (fun b1 W1 hlw1 hb1 => ?_)
  refine o_call (.a (.v _)) rfl rfl fnok20 rfl rfl rfl (fun hg E w1 hm => by exact refBMay_c W1 g ok _ [a] _ hm.leV (SlOf.ofBlock (enc := Block.cells) (sz := 2) (l := [a]) (hb1 hg) rfl (fun _ => rfl) (Nat.le_refl _)) (by simp [maxLen])) ?_
  refine o_yield rfl rfl rfl (y_val tok rfl) ?_
  refine o_yield rfl rfl rfl (y_val tok rfl) ?_
  refine o_yield rfl rfl rfl (y_val tok rfl) ?_
  refine o_yield rfl rfl rfl (y_val tok rfl) ?_
  refine o_yield rfl rfl rfl (y_val tok rfl) ?_
  refine o_bs tok rfl rfl rfl rfl (fun b2 W2 hlw2 hb2 => ?_)
  refine o_call (.a (.v _)) rfl rfl fnok20 rfl rfl rfl (fun hg E w1 hm => by exact refBMay_c W2 g ok _ [b] _ hm.leV (SlOf.ofBlock (enc := Block.cells) (sz := 2) (l := [b]) (hb2 hg) rfl (fun _ => rfl) (Nat.le_refl _)) (by simp [maxLen])) ?_
  refine o_yield rfl rfl rfl (y_val tok rfl) ?_
  refine o_yield rfl rfl rfl (y_val tok rfl) ?_
  refine o_end [1, 4, 6, 7, 37] rfl ?_
  refine x_then ?_
  refine c_cond rfl (fun h => ?_) (fun h => ?_)
  ·
    simp only [Bool.and_eq_true, Bool.or_eq_true, Bool.not_eq_true', Bool.or_eq_false_iff, Bool.and_eq_false_iff, decide_eq_true_eq, decide_eq_false_iff_not, beq_iff_eq, bne_iff_ne, Bool.not_eq_false', beq_eq_false_iff_ne, bne_eq_false_iff_eq, ne_eq, Decidable.not_not, Int.not_lt, Int.not_le] at h
    refine c_seq ?_
    refine c_region ?_
    refine o_call (.a (.v _)) rfl rfl fnok19 rfl rfl rfl (fun hg E w1 hm => by exact wakes18_c _) ?_
    refine o_yield rfl rfl rfl (y_val tok rfl) ?_
    refine o_end [8] rfl ?_
    refine x_then ?_
    refine c_ret ?_
    refine x_then_ret ?_
    refine b_ret tok rfl ?_
    intro E w' hm _
    refine ⟨?_, hm.below ((hlw1.trans hlw2))⟩
    rfl
  ·
    simp only [Bool.and_eq_true, Bool.or_eq_true, Bool.not_eq_true', Bool.or_eq_false_iff, Bool.and_eq_false_iff, decide_eq_true_eq, decide_eq_false_iff_not, beq_iff_eq, bne_iff_ne, Bool.not_eq_false', beq_eq_false_iff_ne, bne_eq_false_iff_eq, ne_eq, Decidable.not_not, Int.not_lt, Int.not_le] at h
    obtain ⟨⟨⟨hg0, hml⟩, hma⟩, hmb⟩ := h
    have h70 := great_no hg0
    have hmay := hml
    rw [mayL, Bool.and_eq_true] at hmay hma hmb
    have hf := geo_facts hmay.1
    obtain ⟨⟨ha1, ha2, ha3⟩, _⟩ := mayF_cons.1 hma.2
    obtain ⟨⟨hb1', hb2', hb3'⟩, _⟩ := mayF_cons.1 hmb.2
    have hMa := ins_may ha2 ha3 ha1 hmay.2
    have hMb := ins_may hb2' hb3' hb1' hmay.2
    have hM : putP l [a] = insB l a := by show putB l a = _; exact putB_ins hmay.2
    have hM2 : putP (insB l a) [a] = insB l a := by show putB _ a = _; rw [putB_ins hMa]; exact ins_twice a l
    have hAB : putP l [a, b] = insB (insB l a) b := by show putB (putB l a) b = _; rw [putB_ins hmay.2, putB_ins hMa]
    have hBA : putP l [b, a] = insB (insB l b) a := by show putB (putB l b) a = _; rw [putB_ins hmay.2, putB_ins hMb]
    have hMl := putP_len [a] l
    rw [hM, List.length_singleton] at hMl
    have hPl := putP_len l (insB l a)
    have hABl := putP_len [a, b] l
    have hbn : g.blocks ≤ 64 ∧ 0 ≤ g.blocks := by omega
    obtain ⟨bl, hbl⟩ : ∃ bl : Nat, g.blocks = bl := ⟨g.blocks.toNat, by omega⟩
    refine c_skip ?_
    refine x_then ?_
    refine c_seq ?_
    refine c_region ?_
    refine o_yield rfl rfl rfl (y_val tok rfl) ?_
    refine o_yield rfl rfl rfl (y_val tok rfl) ?_
    refine o_bs tok rfl rfl rfl rfl (fun b3 W3 hlw3 hb3 => ?_)
    refine o_callV (fun x V' => SlOf V' Block.cells 2 x (putP l [a])) rfl rfl fnok21 rfl rfl (fun hg E w1 hm => by exact bufPut_cG (G := true) W3 _ _ l [a] _ hm.leV (hs.mono (hlw1.trans (hlw2.trans hlw3))) (SlOf.ofBlock (enc := Block.cells) (sz := 2) (l := [a]) (hb3 rfl) rfl (fun _ => rfl) (Nat.le_refl _)) (by simp; omega)) ?_
    rintro mv V4 hle4 hx
    have hsm := hx rfl
    rw [hM] at hsm
    obtain ⟨a4, n4, c4, rfl⟩ := sl_shape hsm.sl
    have hs4 := hs.mono (hlw1.trans (hlw2.trans (hlw3.trans hle4)))
    refine o_yield rfl rfl rfl (y_val tok rfl) ?_
    refine o_end [1, 4, 6, 7, 9] rfl ?_
    refine x_then ?_
    refine c_seq ?_
    refine c_seq ?_
    refine c_region ?_
    refine o_yield rfl rfl rfl (y_val tok rfl) ?_
    refine o_end [1, 4, 6, 7, 9, 10] rfl ?_
    refine x_then ?_
    refine c_block ?_
    refine c_loopK [1, 4, 6, 7, 9] [0, 1, 2] rfl rfl (σ := Nat) (fun i => [(10, .a (.v (I i)))]) (fun i => [(0, .lit (g.cells.map .v) 29), (1, .lit (a.cells.map .v) 34), (2, .lit (b.cells.map .v) 34)]) (fun i => i ≤ bl) (fun i => bl - i) (0) (by omega) (by repeat (first | exact SubF.nil | refine SubF.cons rfl ?_)) (by repeat (first | exact SubO.nil | refine SubO.cons rfl ?_)) rfl ?_
    rintro i hi
    refine c_seq ?_
    refine c_seq ?_
    refine c_region ?_
    refine o_yield rfl rfl rfl (y_val tok rfl) ?_
    refine o_yield rfl rfl rfl (y_val tok rfl) ?_
    refine o_yield rfl rfl rfl (y_val tok rfl) ?_
    refine o_yield rfl rfl rfl (y_val tok rfl) ?_
    refine o_end [1, 4, 6, 7, 9, 10, 46] rfl ?_
    refine x_then ?_
    refine c_cond rfl (fun h => ?_) (fun h => ?_)
    ·
      simp only [Bool.and_eq_true, Bool.or_eq_true, Bool.not_eq_true', Bool.or_eq_false_iff, Bool.and_eq_false_iff, decide_eq_true_eq, decide_eq_false_iff_not, beq_iff_eq, bne_iff_ne, Bool.not_eq_false', beq_eq_false_iff_ne, bne_eq_false_iff_eq, ne_eq, Decidable.not_not, Int.not_lt, Int.not_le] at h
      refine c_skip ?_
      refine x_then ?_
      refine c_seq ?_
      refine c_block ?_
      refine c_seq ?_
      refine c_region ?_
      refine o_yield rfl rfl rfl (y_val tok rfl) ?_
      refine o_yield rfl rfl rfl (y_val tok rfl) ?_
      have hgi := ins_get a i l
      refine o_call (.a (.v _)) rfl rfl fnok22 rfl rfl rfl (fun hg E w1 hm => by exact get_c V4 _ (insB l a) i _ hm.leV hsm (by omega)) ?_
      refine o_yield rfl rfl rfl (y_val tok rfl) ?_
      refine o_yield rfl rfl rfl (y_val tok rfl) ?_
      refine o_yield rfl rfl rfl (y_val tok rfl) ?_
      refine o_yield rfl rfl rfl (y_val tok rfl) ?_
      refine o_yield rfl rfl rfl (y_val tok rfl) ?_
      refine o_end [1, 4, 6, 7, 9, 10, 11, 12] rfl ?_
      refine x_then ?_
      refine c_seq ?_
      refine c_region ?_
      refine o_yield rfl rfl rfl (y_val tok rfl) ?_
      refine o_yield rfl rfl rfl (y_val tok rfl) ?_
      refine o_call (.a (.v _)) rfl rfl fnok23 rfl rfl rfl (fun hg E w1 hm => by exact refGet18_c V4 _ l i _ hm.leV hs4 (by omega)) ?_
      refine o_yield rfl rfl rfl (y_val tok rfl) ?_
      refine o_yield rfl rfl rfl (y_val tok rfl) ?_
      refine o_yield rfl rfl rfl (y_val tok rfl) ?_
      refine o_yield rfl rfl rfl (y_val tok rfl) ?_
      refine o_yield rfl rfl rfl (y_val tok rfl) ?_
      refine o_end [1, 4, 6, 7, 9, 10, 11, 12, 13, 14] rfl ?_
      refine x_then ?_
      refine c_seq ?_
      refine c_seq ?_
      refine c_region ?_
      refine o_yield rfl rfl rfl (y_val tok rfl) ?_
      refine o_yield rfl rfl rfl (y_val tok rfl) ?_
      refine o_yield rfl rfl rfl (y_val tok rfl) ?_
      refine o_yield rfl rfl rfl (y_val tok rfl) ?_
      refine o_end [1, 4, 6, 7, 9, 10, 11, 12, 13, 14, 64] rfl ?_
      refine x_then ?_
      refine c_cond rfl (fun h => ?_) (fun h => ?_)
      ·
        simp only [Bool.and_eq_true, Bool.or_eq_true, Bool.not_eq_true', Bool.or_eq_false_iff, Bool.and_eq_false_iff, decide_eq_true_eq, decide_eq_false_iff_not, beq_iff_eq, bne_iff_ne, Bool.not_eq_false', beq_eq_false_iff_ne, bne_eq_false_iff_eq, ne_eq, Decidable.not_not, Int.not_lt, Int.not_le] at h
        rw [if_pos h] at hgi
        rw [hgi]
        refine c_region ?_
        refine o_yield rfl rfl rfl (y_val tok rfl) ?_
        refine o_yield rfl rfl rfl (y_val tok rfl) ?_
        refine o_yield rfl rfl rfl (y_val tok rfl) ?_
        refine o_yield rfl rfl rfl (y_val tok rfl) ?_
        refine o_end [1, 4, 6, 7, 9, 10, 11, 12, 13, 14] rfl ?_
        refine x_then ?_
        refine c_seq ?_
        refine c_region ?_
        refine o_yield rfl rfl rfl (y_val tok rfl) ?_
        refine o_yield rfl rfl rfl (y_val tok rfl) ?_
        refine o_yield rfl rfl rfl (y_val tok rfl) ?_
        refine o_yield rfl rfl rfl (y_val tok rfl) ?_
        refine o_yield rfl rfl rfl (y_val tok rfl) ?_
        refine o_yield rfl rfl rfl (y_val tok rfl) ?_
        refine o_yield rfl rfl rfl (y_val tok rfl) ?_
        refine o_yield rfl rfl rfl (y_val tok rfl) ?_
        refine o_end [1, 4, 6, 7, 9, 10, 74] rfl ?_
        refine x_then ?_
        refine c_cond rfl (fun h => ?_) (fun h => ?_)
        ·
          simp only [Bool.and_eq_true, Bool.or_eq_true, Bool.not_eq_true', Bool.or_eq_false_iff, Bool.and_eq_false_iff, decide_eq_true_eq, decide_eq_false_iff_not, beq_iff_eq, bne_iff_ne, Bool.not_eq_false', beq_eq_false_iff_ne, bne_eq_false_iff_eq, ne_eq, Decidable.not_not, Int.not_lt, Int.not_le] at h
          exfalso
          simp at h
        ·
          simp only [Bool.and_eq_true, Bool.or_eq_true, Bool.not_eq_true', Bool.or_eq_false_iff, Bool.and_eq_false_iff, decide_eq_true_eq, decide_eq_false_iff_not, beq_iff_eq, bne_iff_ne, Bool.not_eq_false', beq_eq_false_iff_ne, bne_eq_false_iff_eq, ne_eq, Decidable.not_not, Int.not_lt, Int.not_le] at h
          refine c_skip ?_
          refine x_block ?_
          refine x_then ?_
          refine c_region ?_
          refine o_yield rfl rfl rfl (y_val tok rfl) ?_
          refine o_yield rfl rfl rfl (y_val tok rfl) ?_
          refine o_yield rfl rfl rfl (y_val tok rfl) ?_
          refine o_end [1, 4, 6, 7, 9, 10] rfl ?_
          refine x_then ?_
          rw [wrapI (n := (i : Int) + 1) (by omega) (by omega)]
          refine x_round (i + 1) (by omega) (by first | omega | (dsimp only; omega)) (by repeat (first | exact SubF.nil | refine SubF.cons rfl ?_)) (by repeat (first | exact SubO.nil | refine SubO.cons rfl ?_)) rfl (Vw.le.refl _)
      ·
        simp only [Bool.and_eq_true, Bool.or_eq_true, Bool.not_eq_true', Bool.or_eq_false_iff, Bool.and_eq_false_iff, decide_eq_true_eq, decide_eq_false_iff_not, beq_iff_eq, bne_iff_ne, Bool.not_eq_false', beq_eq_false_iff_ne, bne_eq_false_iff_eq, ne_eq, Decidable.not_not, Int.not_lt, Int.not_le] at h
        rw [if_neg h] at hgi
        rw [hgi]
        refine c_skip ?_
        refine x_then ?_
        refine c_seq ?_
        refine c_region ?_
        refine o_yield rfl rfl rfl (y_val tok rfl) ?_
        refine o_yield rfl rfl rfl (y_val tok rfl) ?_
        refine o_yield rfl rfl rfl (y_val tok rfl) ?_
        refine o_yield rfl rfl rfl (y_val tok rfl) ?_
        refine o_yield rfl rfl rfl (y_val tok rfl) ?_
        refine o_yield rfl rfl rfl (y_val tok rfl) ?_
        refine o_yield rfl rfl rfl (y_val tok rfl) ?_
        refine o_yield rfl rfl rfl (y_val tok rfl) ?_
        refine o_end [1, 4, 6, 7, 9, 10, 74] rfl ?_
        refine x_then ?_
        refine c_cond rfl (fun h => ?_) (fun h => ?_)
        ·
          simp only [Bool.and_eq_true, Bool.or_eq_true, Bool.not_eq_true', Bool.or_eq_false_iff, Bool.and_eq_false_iff, decide_eq_true_eq, decide_eq_false_iff_not, beq_iff_eq, bne_iff_ne, Bool.not_eq_false', beq_eq_false_iff_ne, bne_eq_false_iff_eq, ne_eq, Decidable.not_not, Int.not_lt, Int.not_le] at h
          exfalso
          simp at h
        ·
          simp only [Bool.and_eq_true, Bool.or_eq_true, Bool.not_eq_true', Bool.or_eq_false_iff, Bool.and_eq_false_iff, decide_eq_true_eq, decide_eq_false_iff_not, beq_iff_eq, bne_iff_ne, Bool.not_eq_false', beq_eq_false_iff_ne, bne_eq_false_iff_eq, ne_eq, Decidable.not_not, Int.not_lt, Int.not_le] at h
          refine c_skip ?_
          refine x_block ?_
          refine x_then ?_
          refine c_region ?_
          refine o_yield rfl rfl rfl (y_val tok rfl) ?_
          refine o_yield rfl rfl rfl (y_val tok rfl) ?_
          refine o_yield rfl rfl rfl (y_val tok rfl) ?_
          refine o_end [1, 4, 6, 7, 9, 10] rfl ?_
          refine x_then ?_
          rw [wrapI (n := (i : Int) + 1) (by omega) (by omega)]
          refine x_round (i + 1) (by omega) (by first | omega | (dsimp only; omega)) (by repeat (first | exact SubF.nil | refine SubF.cons rfl ?_)) (by repeat (first | exact SubO.nil | refine SubO.cons rfl ?_)) rfl (Vw.le.refl _)
    ·
      simp only [Bool.and_eq_true, Bool.or_eq_true, Bool.not_eq_true', Bool.or_eq_false_iff, Bool.and_eq_false_iff, decide_eq_true_eq, decide_eq_false_iff_not, beq_iff_eq, bne_iff_ne, Bool.not_eq_false', beq_eq_false_iff_ne, bne_eq_false_iff_eq, ne_eq, Decidable.not_not, Int.not_lt, Int.not_le] at h
      clear h
      have heq : a.n ≠ b.n → putP l [a, b] = putP l [b, a] := fun h => by rw [hAB, hBA]; exact ins_comm h l
      refine c_exit ?_
      refine x_then_exit ?_
      refine x_then_exit ?_
      refine x_block_hit ?_
      refine x_then ?_
      refine c_seq ?_
      refine c_heldM (σ := Vw) (fun x => [(1, .a (.v (.slice a0 n0 c0))), (4, .a (.ptr 0 0)), (6, .a (.ptr 1 0)), (9, .a (.v (.slice a4 n4 c4))), (15, .a (.v (.bool (a.n == b.n || true))))]) (fun x => [(0, .lit (g.cells.map .v) 29), (1, .lit (a.cells.map .v) 34)]) (3) (fun x => x) (fun x => V4.le x) mixed ?_ ?_
      ·
        refine t_take 0 rfl (by kernel_rfl) rfl rfl rfl (y_val tok rfl) rfl ?_
        refine t_take 1 rfl (by kernel_rfl) rfl rfl rfl (y_val tok rfl) rfl ?_
        refine t_take 2 rfl (by kernel_rfl) rfl rfl rfl (y_val tok rfl) rfl ?_
        refine t_take 3 rfl (by kernel_rfl) rfl rfl rfl (y_val tok rfl) rfl ?_
        refine t_take 4 rfl (by kernel_rfl) rfl rfl rfl (y_val tok rfl) rfl ?_
        refine t_take 5 rfl (by kernel_rfl) rfl rfl rfl (y_val tok rfl) rfl ?_
        refine t_take 6 rfl (by kernel_rfl) rfl rfl rfl (y_val tok rfl) rfl ?_
        refine t_take 7 rfl (by kernel_rfl) rfl rfl rfl (y_val tok rfl) rfl ?_
        refine t_take 8 rfl (by kernel_rfl) rfl rfl rfl (y_val tok rfl) rfl ?_
        refine t_take 11 rfl (by kernel_rfl) rfl rfl rfl (y_val tok rfl) rfl ?_
        refine t_take 12 rfl (by kernel_rfl) rfl rfl rfl (y_val tok rfl) rfl ?_
        refine t_take 13 rfl (by kernel_rfl) rfl rfl rfl (y_val tok rfl) rfl ?_
        refine t_go ?_
        refine h_two 9 14 (by kernel_rfl) ?_ ?_
        ·
          refine h_bs 9 tok rfl rfl rfl rfl rfl (fun bA VA hleA hbA => ?_)
          refine h_two 10 14 (by kernel_rfl) ?_ ?_
          ·
            refine h_callV 10 (fun x V' => SlOf V' Block.cells 2 x (putP l [a, b])) rfl rfl rfl fnok21 rfl rfl (fun hg E w1 hm => by exact bufPut_cG (G := true) _ _ _ l [a, b] _ hm.leV (hs4.mono (by repeat (first | exact Vw.le.refl _ | assumption | (refine Vw.le.trans ?_ (by assumption))))) ((SlOf.ofBlock (enc := Block.cells) (sz := 2) (l := [a, b]) (hbA hg) rfl (fun _ => rfl) (Nat.le_refl _)).mono (by repeat (first | exact Vw.le.refl _ | assumption | (refine Vw.le.trans ?_ (by assumption))))) (by simp; omega)) ?_
            rintro xA VP hleP hxA
            refine h_one 14 (by kernel_rfl) ?_
            refine h_bs 14 tok rfl rfl rfl rfl rfl (fun bB VB hleB hbB => ?_)
            refine h_one 15 (by kernel_rfl) ?_
            refine h_callV 15 (fun x V' => SlOf V' Block.cells 2 x (putP l [b, a])) rfl rfl rfl fnok21 rfl rfl (fun hg E w1 hm => by exact bufPut_cG (G := true) _ _ _ l [b, a] _ hm.leV (hs4.mono (by repeat (first | exact Vw.le.refl _ | assumption | (refine Vw.le.trans ?_ (by assumption))))) ((SlOf.ofBlock (enc := Block.cells) (sz := 2) (l := [b, a]) (hbB hg) rfl (fun _ => rfl) (Nat.le_refl _)).mono (by repeat (first | exact Vw.le.refl _ | assumption | (refine Vw.le.trans ?_ (by assumption))))) (by simp; omega)) ?_
            rintro xB VQ hleQ hxB
            refine h_one 16 (by kernel_rfl) ?_
            refine h_call 16 (.a (.v (.bool true))) rfl rfl rfl fnok24 rfl rfl rfl (fun hg E w1 hm => by exact sameB_c _ _ _ (putP l [a, b]) w1 hm.leV ((hxA hg).mono (by repeat (first | exact Vw.le.refl _ | assumption | (refine Vw.le.trans ?_ (by assumption))))) (by rw [heq (by simpa using hg)]; exact (hxB hg).mono (by repeat (first | exact Vw.le.refl _ | assumption | (refine Vw.le.trans ?_ (by assumption))))) (by simp at hABl; omega)) ?_
            refine h_one 17 (by kernel_rfl) ?_
            refine h_yield 17 rfl rfl rfl rfl (y_val tok rfl) ?_
            refine h_one 18 (by kernel_rfl) ?_
            refine h_yield 18 rfl rfl rfl rfl (y_val tok rfl) ?_
            refine h_done [1, 4, 6, 9, 15] (by kernel_rfl) rfl ?_
            exact x_meet (VQ) (by repeat (first | exact Vw.le.refl _ | assumption | (refine Vw.le.trans ?_ (by assumption)))) (by repeat (first | exact SubF.nil | refine SubF.cons rfl ?_)) (by repeat (first | exact SubO.nil | refine SubO.cons rfl ?_)) rfl (Vw.le.refl _)
          ·
            refine h_bs 14 tok rfl rfl rfl rfl rfl (fun bB VB hleB hbB => ?_)
            refine h_one 10 (by kernel_rfl) ?_
            refine h_callV 10 (fun x V' => SlOf V' Block.cells 2 x (putP l [a, b])) rfl rfl rfl fnok21 rfl rfl (fun hg E w1 hm => by exact bufPut_cG (G := true) _ _ _ l [a, b] _ hm.leV (hs4.mono (by repeat (first | exact Vw.le.refl _ | assumption | (refine Vw.le.trans ?_ (by assumption))))) ((SlOf.ofBlock (enc := Block.cells) (sz := 2) (l := [a, b]) (hbA hg) rfl (fun _ => rfl) (Nat.le_refl _)).mono (by repeat (first | exact Vw.le.refl _ | assumption | (refine Vw.le.trans ?_ (by assumption))))) (by simp; omega)) ?_
            rintro xA VP hleP hxA
            refine h_one 15 (by kernel_rfl) ?_
            refine h_callV 15 (fun x V' => SlOf V' Block.cells 2 x (putP l [b, a])) rfl rfl rfl fnok21 rfl rfl (fun hg E w1 hm => by exact bufPut_cG (G := true) _ _ _ l [b, a] _ hm.leV (hs4.mono (by repeat (first | exact Vw.le.refl _ | assumption | (refine Vw.le.trans ?_ (by assumption))))) ((SlOf.ofBlock (enc := Block.cells) (sz := 2) (l := [b, a]) (hbB hg) rfl (fun _ => rfl) (Nat.le_refl _)).mono (by repeat (first | exact Vw.le.refl _ | assumption | (refine Vw.le.trans ?_ (by assumption))))) (by simp; omega)) ?_
            rintro xB VQ hleQ hxB
            refine h_one 16 (by kernel_rfl) ?_
            refine h_call 16 (.a (.v (.bool true))) rfl rfl rfl fnok24 rfl rfl rfl (fun hg E w1 hm => by exact sameB_c _ _ _ (putP l [a, b]) w1 hm.leV ((hxA hg).mono (by repeat (first | exact Vw.le.refl _ | assumption | (refine Vw.le.trans ?_ (by assumption))))) (by rw [heq (by simpa using hg)]; exact (hxB hg).mono (by repeat (first | exact Vw.le.refl _ | assumption | (refine Vw.le.trans ?_ (by assumption))))) (by simp at hABl; omega)) ?_
            refine h_one 17 (by kernel_rfl) ?_
            refine h_yield 17 rfl rfl rfl rfl (y_val tok rfl) ?_
            refine h_one 18 (by kernel_rfl) ?_
            refine h_yield 18 rfl rfl rfl rfl (y_val tok rfl) ?_
            refine h_done [1, 4, 6, 9, 15] (by kernel_rfl) rfl ?_
            exact x_meet (VQ) (by repeat (first | exact Vw.le.refl _ | assumption | (refine Vw.le.trans ?_ (by assumption)))) (by repeat (first | exact SubF.nil | refine SubF.cons rfl ?_)) (by repeat (first | exact SubO.nil | refine SubO.cons rfl ?_)) rfl (Vw.le.refl _)
        ·
          refine h_bs 14 tok rfl rfl rfl rfl rfl (fun bB VB hleB hbB => ?_)
          refine h_one 9 (by kernel_rfl) ?_
          refine h_bs 9 tok rfl rfl rfl rfl rfl (fun bA VA hleA hbA => ?_)
          refine h_one 10 (by kernel_rfl) ?_
          refine h_callV 10 (fun x V' => SlOf V' Block.cells 2 x (putP l [a, b])) rfl rfl rfl fnok21 rfl rfl (fun hg E w1 hm => by exact bufPut_cG (G := true) _ _ _ l [a, b] _ hm.leV (hs4.mono (by repeat (first | exact Vw.le.refl _ | assumption | (refine Vw.le.trans ?_ (by assumption))))) ((SlOf.ofBlock (enc := Block.cells) (sz := 2) (l := [a, b]) (hbA hg) rfl (fun _ => rfl) (Nat.le_refl _)).mono (by repeat (first | exact Vw.le.refl _ | assumption | (refine Vw.le.trans ?_ (by assumption))))) (by simp; omega)) ?_
          rintro xA VP hleP hxA
          refine h_one 15 (by kernel_rfl) ?_
          refine h_callV 15 (fun x V' => SlOf V' Block.cells 2 x (putP l [b, a])) rfl rfl rfl fnok21 rfl rfl (fun hg E w1 hm => by exact bufPut_cG (G := true) _ _ _ l [b, a] _ hm.leV (hs4.mono (by repeat (first | exact Vw.le.refl _ | assumption | (refine Vw.le.trans ?_ (by assumption))))) ((SlOf.ofBlock (enc := Block.cells) (sz := 2) (l := [b, a]) (hbB hg) rfl (fun _ => rfl) (Nat.le_refl _)).mono (by repeat (first | exact Vw.le.refl _ | assumption | (refine Vw.le.trans ?_ (by assumption))))) (by simp; omega)) ?_
          rintro xB VQ hleQ hxB
          refine h_one 16 (by kernel_rfl) ?_
          refine h_call 16 (.a (.v (.bool true))) rfl rfl rfl fnok24 rfl rfl rfl (fun hg E w1 hm => by exact sameB_c _ _ _ (putP l [a, b]) w1 hm.leV ((hxA hg).mono (by repeat (first | exact Vw.le.refl _ | assumption | (refine Vw.le.trans ?_ (by assumption))))) (by rw [heq (by simpa using hg)]; exact (hxB hg).mono (by repeat (first | exact Vw.le.refl _ | assumption | (refine Vw.le.trans ?_ (by assumption))))) (by simp at hABl; omega)) ?_
          refine h_one 17 (by kernel_rfl) ?_
          refine h_yield 17 rfl rfl rfl rfl (y_val tok rfl) ?_
          refine h_one 18 (by kernel_rfl) ?_
          refine h_yield 18 rfl rfl rfl rfl (y_val tok rfl) ?_
          refine h_done [1, 4, 6, 9, 15] (by kernel_rfl) rfl ?_
          exact x_meet (VQ) (by repeat (first | exact Vw.le.refl _ | assumption | (refine Vw.le.trans ?_ (by assumption)))) (by repeat (first | exact SubF.nil | refine SubF.cons rfl ?_)) (by repeat (first | exact SubO.nil | refine SubO.cons rfl ?_)) rfl (Vw.le.refl _)
      rintro V5 hle5
      try dsimp only
      refine x_then ?_
      refine c_seq ?_
      refine c_region ?_
      refine o_yield rfl rfl rfl (y_val tok rfl) ?_
      refine o_yield rfl rfl rfl (y_val tok rfl) ?_
      have hmM : mayL g (insB l a) = true := by rw [mayL, hmay.1, hMa]; rfl
      have hsm5 := hsm.mono hle5
      have hs5 := hs4.mono hle5
      refine o_call (.a (.v _)) rfl rfl fnok25 rfl rfl rfl (fun hg E w1 hm => by exact bmay_c V5 g ok _ (insB l a) _ hm.leV hsm5 (by simp only [maxLen]; omega)) ?_
      refine o_yield rfl rfl rfl (y_val tok rfl) ?_
      refine o_yield rfl rfl rfl (y_val tok rfl) ?_
      refine o_yield rfl rfl rfl (y_val tok rfl) ?_
      rw [hmM]
      refine o_bs tok rfl rfl rfl rfl (fun b6 W6 hlw6 hb6 => ?_)
      refine o_callV (fun x V' => SlOf V' Block.cells 2 x (insB l a)) rfl rfl fnok21 rfl rfl (fun hg E w1 hm => by exact by have := bufPut_cG (G := true) W6 _ _ (insB l a) [a] w1 hm.leV (hsm5.mono hlw6) (SlOf.ofBlock (enc := Block.cells) (sz := 2) (l := [a]) (hb6 hg) rfl (fun _ => rfl) (Nat.le_refl _)) (by simp; omega); rw [hM2] at this; exact this) ?_
      rintro x7 V7 hle7 hx7
      refine o_yield rfl rfl rfl (y_val tok rfl) ?_
      refine o_call (.a (.v _)) rfl rfl fnok24 rfl rfl rfl (fun hg E w1 hm => by exact sameB_c V7 _ _ (insB l a) _ hm.leV (hx7 hg) ((hsm5.mono hlw6).mono hle7) (by omega)) ?_
      refine o_yield rfl rfl rfl (y_val tok rfl) ?_
      refine o_yield rfl rfl rfl (y_val tok rfl) ?_
      refine o_yield rfl rfl rfl (y_val tok rfl) ?_
      refine o_yield rfl rfl rfl (y_val tok rfl) ?_
      refine o_yield rfl rfl rfl (y_val tok rfl) ?_
      refine o_yield rfl rfl rfl (y_val tok rfl) ?_
      refine o_yield rfl rfl rfl (y_val tok rfl) ?_
      refine o_callV (fun x V' => SlOf V' Block.cells 2 x (putP (insB l a) l)) rfl rfl fnok26 rfl rfl (fun hg E w1 hm => by exact bufMerge_cG V7 _ _ (insB l a) l _ hm.leV ((hsm5.mono hlw6).mono hle7) ((hs5.mono hlw6).mono hle7) (by omega)) ?_
      rintro x8 V8 hle8 hx8
      refine o_yield rfl rfl rfl (y_val tok rfl) ?_
      refine o_yield rfl rfl rfl (y_val tok rfl) ?_
      refine o_callV (fun x V' => SlOf V' Block.cells 2 x (putP (insB l a) l)) rfl rfl fnok21 rfl rfl (fun hg E w1 hm => by exact bufPut_cG (G := true) V8 _ _ (insB l a) l _ hm.leV (((hsm5.mono hlw6).mono hle7).mono hle8) (((hs5.mono hlw6).mono hle7).mono hle8) (by omega)) ?_
      rintro x9 V9 hle9 hx9
      refine o_call (.a (.v _)) rfl rfl fnok24 rfl rfl rfl (fun hg E w1 hm => by exact sameB_c V9 _ _ (putP (insB l a) l) _ hm.leV ((hx8 hg).mono hle9) (hx9 hg) (by omega)) ?_
      refine o_yield rfl rfl rfl (y_val tok rfl) ?_
      refine o_yield rfl rfl rfl (y_val tok rfl) ?_
      refine o_call (.a (.v _)) rfl rfl fnok19 rfl rfl rfl (fun hg E w1 hm => by exact wakes18_c _) ?_
      refine o_yield rfl rfl rfl (y_val tok rfl) ?_
      refine o_yield rfl rfl rfl (y_val tok rfl) ?_
      refine o_end [8] rfl ?_
      refine x_then ?_
      refine c_ret ?_
      refine b_ret tok rfl ?_
      intro E w' hm _
      refine ⟨?_, hm.below ((hlw1.trans (hlw2.trans (hlw3.trans (hle4.trans (hle5.trans (hlw6.trans (hle7.trans (hle8.trans hle9)))))))))⟩
      simp
      rfl
end Go.Proofs.Ytanekcndpkagiaa
