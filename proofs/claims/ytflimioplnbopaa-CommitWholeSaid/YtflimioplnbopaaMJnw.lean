import Derived.Test.YtflimioplnbopaaMSup2
import Derived.Test.YtflimioplnbopaaEng31
/- A journal's whole transactions and their blocks: the document's. -/
set_option linter.unusedVariables false
set_option linter.unusedSimpArgs false
set_option maxRecDepth 100000
namespace Go.Proofs.Ytflimioplnbopaa
open Go Go.Eng Go.RowKit

theorem wholeFrom_le : ∀ (l : List Record) (i n d : Nat), n ≤ i → wholeFrom l i n d ≤ i + l.length
  | [], i, n, d, h => by rw [wholeFrom]; exact Nat.le_trans h (Nat.le_add_right _ _)
  | r :: t, i, n, d, h => by
    rw [wholeFrom]
    have h1 := wholeFrom_le t (i + 1) n (d + 1) (by omega)
    have h2 := wholeFrom_le t (i + 1) (i + 1) 0 (by omega)
    simp only [List.length_cons]
    split
    · omega
    · split <;> omega

theorem whole_le (l : List Record) : whole l ≤ l.length := by
  have := wholeFrom_le l 0 0 0 (Nat.le_refl _)
  unfold whole; omega

theorem rwhole_c (V : Vw) (sv : Value) (l : List Record) (w : World) (hV : V.le (vw w)) (hs0 : SlOf V Record.cells 6 sv l) (hn : l.length ≤ 1000000) :
    Calls Try.prog 191 #[sv] w fun e w' => e = .returned (I (whole l)) ∧ Below w.heap.size w w' := by
  have hs := hs0.mono hV
  refine enter (E := E0) (O := []) (nl := 0) (V := vw w) [.a (.v sv)] Try.func191 rfl rfl (mem0 E0 0 w) rfl rfl ?_
  refine c_seq ?_
  refine c_region ?_
  refine o_yield rfl rfl rfl (y_val tok rfl) ?_
  refine o_end [0] rfl ?_
  refine x_then ?_
  refine c_seq ?_
  refine c_region ?_
  refine o_yield rfl rfl rfl (y_val tok rfl) ?_
  refine o_end [0, 3] rfl ?_
  refine x_then ?_
  refine c_seq ?_
  refine c_seq ?_
  refine c_region ?_
  refine o_yield rfl rfl rfl (y_val tok rfl) ?_
  refine o_end [0, 3, 4] rfl ?_
  refine x_then ?_
  refine c_block ?_
  refine c_loopK [0] [] rfl rfl (σ := Nat × Nat) (fun (i, n) => [(3, .a (.v (I n))), (4, .a (.v (I i)))]) (fun (i, n) => []) (fun (i, n) => i ≤ l.length ∧ n ≤ i ∧ whole l = wholeFrom (l.drop i) i n (i - n)) (fun (i, n) => l.length - i) ((0, 0)) (⟨by omega, by omega, rfl⟩) (by repeat (first | exact SubF.nil | refine SubF.cons rfl ?_)) (by repeat (first | exact SubO.nil | refine SubO.cons rfl ?_)) rfl ?_
  rintro ⟨i, n⟩ ⟨hi, hni, hw⟩
  dsimp only at hi hni hw ⊢
  refine c_seq ?_
  refine c_seq ?_
  refine c_region ?_
  refine o_yield rfl rfl rfl (y_val tok rfl) ?_
  refine o_yield rfl rfl rfl (y_val tok rfl) ?_
  refine o_yield rfl rfl rfl (y_len tok rfl (fun hg => hs.sl)) ?_
  refine o_yield rfl rfl rfl (y_val tok rfl) ?_
  refine o_end [0, 3, 4, 8] rfl ?_
  refine x_then ?_
  refine c_cond rfl (fun h => ?_) (fun h => ?_)
  ·
    simp only [Bool.and_eq_true, Bool.or_eq_true, Bool.not_eq_true', Bool.or_eq_false_iff, Bool.and_eq_false_iff, decide_eq_true_eq, decide_eq_false_iff_not, beq_iff_eq, bne_iff_ne, Bool.not_eq_false', beq_eq_false_iff_ne, bne_eq_false_iff_eq, ne_eq, Decidable.not_not, Int.not_lt, Int.not_le] at h
    refine c_skip ?_
    refine x_then ?_
    refine c_seq ?_
    refine c_block ?_
    refine c_seq ?_
    refine c_seq ?_
    refine c_region ?_
    refine o_yield rfl rfl rfl (y_val tok rfl) ?_
    refine o_yield rfl rfl rfl (y_val tok rfl) ?_
    obtain ⟨r, h_r⟩ := hs.at (k := i) (by omega)
    rw [drop_at h_r, wholeFrom] at hw
    have hwi : IntKind.i64.wrap ((i : Int) + 1) = ((i + 1 : Nat) : Int) := wrapI (by omega) (by omega)
    have hlt_r := lt_of_at h_r
    refine o_yield rfl rfl rfl (y_idx tok rfl (fun hg => hs.sl) (fun hg => ⟨by omega, by omega⟩)) ?_
    refine o_yield rfl rfl rfl (y_fel tok rfl (fun hg => hs.sl) (fun hg => by omega)) ?_
    refine o_yield rfl rfl rfl (y_lel tok (i) 5 (r) rfl (fun hg => hs) (fun hg => h_r) rfl rfl) ?_
    refine o_yield rfl rfl rfl (y_val tok rfl) ?_
    refine o_end [0, 3, 4, 16] rfl ?_
    refine x_then ?_
    refine c_cond rfl (fun h => ?_) (fun h => ?_)
    ·
      simp only [Bool.and_eq_true, Bool.or_eq_true, Bool.not_eq_true', Bool.or_eq_false_iff, Bool.and_eq_false_iff, decide_eq_true_eq, decide_eq_false_iff_not, beq_iff_eq, bne_iff_ne, Bool.not_eq_false', beq_eq_false_iff_ne, bne_eq_false_iff_eq, ne_eq, Decidable.not_not, Int.not_lt, Int.not_le] at h
      refine c_exit ?_
      refine x_then_exit ?_
      refine x_block_hit ?_
      refine x_then ?_
      refine c_region ?_
      refine o_yield rfl rfl rfl (y_val tok rfl) ?_
      refine o_yield rfl rfl rfl (y_val tok rfl) ?_
      refine o_yield rfl rfl rfl (y_val tok rfl) ?_
      refine o_end [0, 3, 4] rfl ?_
      refine x_then ?_
      rw [if_pos h, show i - n + 1 = i + 1 - n by omega] at hw
      rw [hwi]
      refine x_round ((i + 1, n)) (⟨by dsimp only; omega, by dsimp only; omega, hw⟩) (by first | omega | (dsimp only; omega)) (by repeat (first | exact SubF.nil | refine SubF.cons rfl ?_)) (by repeat (first | exact SubO.nil | refine SubO.cons rfl ?_)) rfl (Vw.le.refl _)
    ·
      simp only [Bool.and_eq_true, Bool.or_eq_true, Bool.not_eq_true', Bool.or_eq_false_iff, Bool.and_eq_false_iff, decide_eq_true_eq, decide_eq_false_iff_not, beq_iff_eq, bne_iff_ne, Bool.not_eq_false', beq_eq_false_iff_ne, bne_eq_false_iff_eq, ne_eq, Decidable.not_not, Int.not_lt, Int.not_le] at h
      rw [if_neg h] at hw
      clear h
      refine c_skip ?_
      refine x_then ?_
      refine c_seq ?_
      refine c_seq ?_
      refine c_region ?_
      refine o_yield rfl rfl rfl (y_val tok rfl) ?_
      refine o_yield rfl rfl rfl (y_val tok rfl) ?_
      have hwd : IntKind.i64.wrap ((i : Int) - n) = ((i - n : Nat) : Int) := by rw [wrapI (by omega) (by omega)]; omega
      have hlt_r := lt_of_at h_r
      refine o_yield rfl rfl rfl (y_idx tok rfl (fun hg => hs.sl) (fun hg => ⟨by omega, by omega⟩)) ?_
      refine o_yield rfl rfl rfl (y_fel tok rfl (fun hg => hs.sl) (fun hg => by omega)) ?_
      refine o_yield rfl rfl rfl (y_lel tok (i) 5 (r) rfl (fun hg => hs) (fun hg => h_r) rfl rfl) ?_
      refine o_yield rfl rfl rfl (y_val tok rfl) ?_
      refine o_yield rfl rfl rfl (y_val tok rfl) ?_
      refine o_yield rfl rfl rfl (y_val tok rfl) ?_
      refine o_yield rfl rfl rfl (y_val tok rfl) ?_
      refine o_end [0, 3, 4, 25] rfl ?_
      refine x_then ?_
      refine c_cond rfl (fun h => ?_) (fun h => ?_)
      ·
        simp only [Bool.and_eq_true, Bool.or_eq_true, Bool.not_eq_true', Bool.or_eq_false_iff, Bool.and_eq_false_iff, decide_eq_true_eq, decide_eq_false_iff_not, beq_iff_eq, bne_iff_ne, Bool.not_eq_false', beq_eq_false_iff_ne, bne_eq_false_iff_eq, ne_eq, Decidable.not_not, Int.not_lt, Int.not_le] at h
        refine c_seq ?_
        refine c_region ?_
        refine o_yield rfl rfl rfl (y_val tok rfl) ?_
        refine o_yield rfl rfl rfl (y_val tok rfl) ?_
        refine o_end [2] rfl ?_
        refine x_then ?_
        refine c_ret ?_
        refine x_then_ret ?_
        refine x_block_ret ?_
        refine x_then_ret ?_
        refine x_then_ret ?_
        refine x_block_ret ?_
        refine x_then_ret ?_
        refine b_ret tok rfl ?_
        rw [hwd] at h
        rw [if_pos h] at hw
        intro E w' hm _
        refine ⟨?_, hm.below (Vw.le.refl _)⟩
        rw [hw]; rfl
      ·
        simp only [Bool.and_eq_true, Bool.or_eq_true, Bool.not_eq_true', Bool.or_eq_false_iff, Bool.and_eq_false_iff, decide_eq_true_eq, decide_eq_false_iff_not, beq_iff_eq, bne_iff_ne, Bool.not_eq_false', beq_eq_false_iff_ne, bne_eq_false_iff_eq, ne_eq, Decidable.not_not, Int.not_lt, Int.not_le] at h
        refine c_skip ?_
        refine x_then ?_
        refine c_region ?_
        refine o_yield rfl rfl rfl (y_val tok rfl) ?_
        refine o_yield rfl rfl rfl (y_val tok rfl) ?_
        refine o_yield rfl rfl rfl (y_val tok rfl) ?_
        refine o_end [0, 3, 4] rfl ?_
        refine x_block ?_
        refine x_then ?_
        refine c_region ?_
        refine o_yield rfl rfl rfl (y_val tok rfl) ?_
        refine o_yield rfl rfl rfl (y_val tok rfl) ?_
        refine o_yield rfl rfl rfl (y_val tok rfl) ?_
        refine o_end [0, 3, 4] rfl ?_
        refine x_then ?_
        rw [hwd] at h
        rw [if_neg (by simpa using h)] at hw
        rw [hwi]
        refine x_round ((i + 1, i + 1)) (⟨by dsimp only; omega, by dsimp only; omega, by dsimp only; rw [hw, Nat.sub_self]⟩) (by first | omega | (dsimp only; omega)) (by repeat (first | exact SubF.nil | refine SubF.cons rfl ?_)) (by repeat (first | exact SubO.nil | refine SubO.cons rfl ?_)) rfl (Vw.le.refl _)
  ·
    simp only [Bool.and_eq_true, Bool.or_eq_true, Bool.not_eq_true', Bool.or_eq_false_iff, Bool.and_eq_false_iff, decide_eq_true_eq, decide_eq_false_iff_not, beq_iff_eq, bne_iff_ne, Bool.not_eq_false', beq_eq_false_iff_ne, bne_eq_false_iff_eq, ne_eq, Decidable.not_not, Int.not_lt, Int.not_le] at h
    refine c_exit ?_
    refine x_then_exit ?_
    refine x_then_exit ?_
    refine x_block_hit ?_
    refine x_then ?_
    refine c_seq ?_
    refine c_region ?_
    refine o_yield rfl rfl rfl (y_val tok rfl) ?_
    refine o_yield rfl rfl rfl (y_val tok rfl) ?_
    refine o_end [2] rfl ?_
    refine x_then ?_
    refine c_ret ?_
    refine b_ret tok rfl ?_
    have hil : i = l.length := by omega
    subst hil
    rw [List.drop_length, wholeFrom] at hw
    intro E w' hm _
    refine ⟨?_, hm.below (Vw.le.refl _)⟩
    rw [hw]; rfl

def RowR (L : List Record) (w : World) (e : Ending) (w' : World) : Prop :=
  (∃ v, e = .returned v ∧ w'.ownsRow w.heap.size 99 6 v L.length (L.flatMap Record.cells)) ∧ Below w.heap.size w w'
def RowRV (L : List Record) (x : Value) (V' : Vw) : Prop := ∃ a n c, x = .slice a n c ∧ SlOf V' Record.cells 6 (.slice a n c) L

theorem rowR_V {V : Vw} {f : Nat} {L : List Record} {args : Array Value} {w : World} (hV : V.le (vw w)) (h : Calls Try.prog f args w (RowR L w)) :
    Calls Try.prog f args w fun e w' => ∃ x V', e = .returned x ∧ Below w.heap.size w w' ∧ Vext w.heap.size V V' w' ∧ RowRV L x V' := by
  refine h.mono ?_
  rintro e w' ⟨⟨v, rfl, hown⟩, hb⟩
  obtain ⟨V', hx, hsl⟩ := ownsRow_vext hV hb hown
  obtain ⟨a, n, c, rfl⟩ := sl_shape hsl
  exact ⟨_, V', rfl, hb, hx, a, n, c, rfl, hsl, fun _ => rfl⟩

theorem rWhole17_c (V : Vw) (sv : Value) (l : List Record) (w : World) (hV : V.le (vw w)) (hs0 : SlOf V Record.cells 6 sv l) (hn : l.length ≤ 1000000) :
    Calls Try.prog 105 #[sv] w (RowR (l.take (whole l)) w) := by
  have hs := hs0.mono hV
  have hw := whole_le l
  have hl : (l.take (whole l)).length = whole l := by rw [List.length_take]; omega
  have hcut : SlOf (vw w) Record.cells 6 (sliceV sv 0 (whole l) 6) (l.take (whole l)) := by
    have := hs.cut (lo := 0) (hi := whole l) (by omega) hw
    simpa using this
  refine enter (E := E0) (O := []) (nl := 0) (V := vw w) [.a (.v sv)] Try.func105 rfl rfl (mem0 E0 0 w) rfl rfl ?_
  refine c_seq ?_
  refine c_region ?_
  refine o_yield rfl rfl rfl (y_val tok rfl) ?_
  refine o_end [0] rfl ?_
  refine x_then ?_
  refine c_seq ?_
  refine c_region ?_
  refine o_step rfl rfl rfl rfl rfl (s_bs tok 6 rfl rfl rfl) (fun _ _ => ?_)
  refine o_yield rfl rfl rfl (y_val tok rfl) ?_
  refine o_yield rfl rfl rfl (y_val tok rfl) ?_
  refine o_call (.a (.v _)) rfl rfl fnok191 rfl rfl rfl (fun hg E w1 hm => by exact rwhole_c (vw w) _ l _ hm.leV hs hn) ?_
  refine o_yield rfl rfl rfl (y_sl tok rfl (fun hg => hs.sl) (fun hg => by dsimp only [Option.getD]; omega)) ?_
  rw [show ((some ((whole l : Nat) : Int)).getD (l.length : Int)).toNat = whole l by simp [Option.getD]]
  refine o_step rfl rfl rfl rfl rfl (s_app tok ((l.take (whole l)).flatMap Record.cells) rfl (fun E w hm => hcut.sl.src hm.get) (fun _ _ _ => rec_ones _) (by dsimp only; omega)) (fun _ _ => ?_)
  refine o_yield rfl rfl rfl (y_val tok rfl) ?_
  refine o_end [2] rfl ?_
  refine x_then ?_
  refine c_ret ?_
  refine b_ret tok rfl ?_
  rw [List.nil_append, Nat.zero_add (l.take (whole l)).length]
  intro E w' hm _
  exact ⟨⟨E.κ 1, rfl, hm.rowFresh (Vw.le.refl _) (l := 1) rfl⟩, hm.below (Vw.le.refl _)⟩

/-! A block's text out of a transaction's data. -/

def isPc (n k : Int) (r : Record) : Bool := r.count == 0 && (r.block == n && r.k == k)
def pieceF (l : List Record) (n k : Int) : ByteArray := l.foldl (fun p r => if isPc n k r = true then r.text else p) ByteArray.empty
def someF (l : List Record) (n k : Int) : Bool := l.any (isPc n k)
def textTo (l : List Record) (n : Int) : Nat → ByteArray × Bool
  | 0 => (ByteArray.empty, false)
  | k + 1 => ((textTo l n k).1 ++ pieceF l n k, (textTo l n k).2 || someF l n k)

theorem pieceF_snoc (l : List Record) (r : Record) (n k : Int) : pieceF (l ++ [r]) n k = if isPc n k r = true then r.text else pieceF l n k := by simp [pieceF]
theorem someF_snoc (l : List Record) (r : Record) (n k : Int) : someF (l ++ [r]) n k = (someF l n k || isPc n k r) := by simp [someF]

theorem pieceF_size {l : List Record} (h : ∀ r ∈ l, r.text.size ≤ 256) (n k : Int) : (pieceF l n k).size ≤ 256 := by
  have key : ∀ (l : List Record) (p : ByteArray), (∀ r ∈ l, r.text.size ≤ 256) → p.size ≤ 256 → (l.foldl (fun p r => if isPc n k r = true then r.text else p) p).size ≤ 256 := by
    intro l
    induction l with
    | nil => intro p _ hp; exact hp
    | cons r t ih =>
      intro p h hp
      rw [List.foldl_cons]
      refine ih _ (fun x hx => h x (by simp [hx])) ?_
      split
      · exact h r (by simp)
      · exact hp
  exact key l _ h (by simp)

theorem textTo_size {l : List Record} (h : ∀ r ∈ l, r.text.size ≤ 256) (n : Int) : ∀ k, (textTo l n k).1.size ≤ 256 * k
  | 0 => by simp [textTo]
  | k + 1 => by
    have h1 := textTo_size h n k
    have h2 := pieceF_size h n k
    rw [textTo, ByteArray.size_append]; omega

theorem rtext_c (V : Vw) (sv : Value) (l : List Record) (n : Int) (w : World) (hV : V.le (vw w)) (hs0 : SlOf V Record.cells 6 sv l) (hn : l.length ≤ 1000000) (hz : ∀ r ∈ l, r.text.size ≤ 256) :
    Calls Try.prog 107 #[sv, I n] w fun e w' => e = .returned (.tuple #[S (textTo l n 8).1, .bool (textTo l n 8).2]) ∧ Below w.heap.size w w' := by
  have hs := hs0.mono hV
  refine enter (E := E0) (O := []) (nl := 0) (V := vw w) [.a (.v sv), .a (.v (I n))] Try.func107 rfl rfl (mem0 E0 0 w) rfl rfl ?_
  refine c_seq ?_
  refine c_region ?_
  refine o_yield rfl rfl rfl (y_val tok rfl) ?_
  refine o_yield rfl rfl rfl (y_val tok rfl) ?_
  refine o_end [0, 1] rfl ?_
  refine x_then ?_
  refine c_seq ?_
  refine c_region ?_
  refine o_yield rfl rfl rfl (y_val tok rfl) ?_
  refine o_yield rfl rfl rfl (y_val tok rfl) ?_
  refine o_end [0, 1, 6, 7] rfl ?_
  refine x_then ?_
  refine c_seq ?_
  refine c_seq ?_
  refine c_region ?_
  refine o_yield rfl rfl rfl (y_val tok rfl) ?_
  refine o_end [0, 1, 6, 7, 8] rfl ?_
  refine x_then ?_
  refine c_block ?_
  refine c_loopK [0, 1] [] rfl rfl (σ := Nat) (fun k => [(6, .a (.v (S (textTo l n k).1))), (7, .a (.v (.bool (textTo l n k).2))), (8, .a (.v (I k)))]) (fun k => []) (fun k => k ≤ 8) (fun k => 8 - k) (0) (by omega) (by repeat (first | exact SubF.nil | refine SubF.cons rfl ?_)) (by repeat (first | exact SubO.nil | refine SubO.cons rfl ?_)) rfl ?_
  rintro k hk
  refine c_seq ?_
  refine c_seq ?_
  refine c_region ?_
  refine o_yield rfl rfl rfl (y_val tok rfl) ?_
  refine o_yield rfl rfl rfl (y_val tok rfl) ?_
  refine o_end [0, 1, 6, 7, 8, 12] rfl ?_
  refine x_then ?_
  refine c_cond rfl (fun h => ?_) (fun h => ?_)
  ·
    simp only [Bool.and_eq_true, Bool.or_eq_true, Bool.not_eq_true', Bool.or_eq_false_iff, Bool.and_eq_false_iff, decide_eq_true_eq, decide_eq_false_iff_not, beq_iff_eq, bne_iff_ne, Bool.not_eq_false', beq_eq_false_iff_ne, bne_eq_false_iff_eq, ne_eq, Decidable.not_not, Int.not_lt, Int.not_le] at h
    refine c_skip ?_
    refine x_then ?_
    refine c_seq ?_
    refine c_block ?_
    refine c_seq ?_
    refine c_region ?_
    refine o_yield rfl rfl rfl (y_val tok rfl) ?_
    refine o_end [0, 1, 6, 7, 8, 9] rfl ?_
    refine x_then ?_
    refine c_seq ?_
    refine c_seq ?_
    refine c_region ?_
    refine o_yield rfl rfl rfl (y_val tok rfl) ?_
    refine o_end [0, 1, 6, 7, 8, 9, 10] rfl ?_
    refine x_then ?_
    refine c_block ?_
    have hts := textTo_size hz n k
    have hwk : IntKind.i64.wrap ((k : Int) + 1) = ((k + 1 : Nat) : Int) := wrapI (by omega) (by omega)
    have es : ((textTo l n k).2 || someF (l.take 0) n k) = (textTo l n k).2 := by simp [someF]
    refine c_loopK [0, 1, 6, 8] [] rfl rfl (σ := Nat × ByteArray × Bool) (fun (i, p, s) => [(7, .a (.v (.bool s))), (9, .a (.v (S p))), (10, .a (.v (I i)))]) (fun (i, p, s) => []) (fun (i, p, s) => i ≤ l.length ∧ p = pieceF (l.take i) n k ∧ s = ((textTo l n k).2 || someF (l.take i) n k)) (fun (i, p, s) => l.length - i) ((0, ByteArray.empty, (textTo l n k).2)) (⟨by omega, rfl, es.symm⟩) (by repeat (first | exact SubF.nil | refine SubF.cons rfl ?_ | refine SubF.cons (by simp only [es]; first | done | rfl) ?_)) (by repeat (first | exact SubO.nil | refine SubO.cons rfl ?_ | refine SubO.cons (by simp only [es]; first | done | rfl) ?_)) rfl ?_
    rintro ⟨i, p, s⟩ ⟨hi, hp, hsm⟩
    dsimp only at hi hp hsm ⊢
    refine c_seq ?_
    refine c_seq ?_
    refine c_region ?_
    refine o_yield rfl rfl rfl (y_val tok rfl) ?_
    refine o_yield rfl rfl rfl (y_val tok rfl) ?_
    refine o_yield rfl rfl rfl (y_len tok rfl (fun hg => hs.sl)) ?_
    refine o_yield rfl rfl rfl (y_val tok rfl) ?_
    refine o_end [0, 1, 6, 7, 8, 9, 10, 18] rfl ?_
    refine x_then ?_
    refine c_cond rfl (fun h => ?_) (fun h => ?_)
    ·
      simp only [Bool.and_eq_true, Bool.or_eq_true, Bool.not_eq_true', Bool.or_eq_false_iff, Bool.and_eq_false_iff, decide_eq_true_eq, decide_eq_false_iff_not, beq_iff_eq, bne_iff_ne, Bool.not_eq_false', beq_eq_false_iff_ne, bne_eq_false_iff_eq, ne_eq, Decidable.not_not, Int.not_lt, Int.not_le] at h
      refine c_skip ?_
      refine x_then ?_
      refine c_seq ?_
      refine c_block ?_
      refine c_seq ?_
      refine c_region ?_
      refine o_yield rfl rfl rfl (y_val tok rfl) ?_
      refine o_yield rfl rfl rfl (y_val tok rfl) ?_
      obtain ⟨r, h_r⟩ := hs.at (k := i) (by omega)
      have hwi : IntKind.i64.wrap ((i : Int) + 1) = ((i + 1 : Nat) : Int) := wrapI (by omega) (by omega)
      have e1 := pieceF_snoc (l.take i) r n k
      have e2 := someF_snoc (l.take i) r n k
      rw [← take_succ_at' h_r] at e1 e2
      have hlt_r := lt_of_at h_r
      refine o_yield rfl rfl rfl (y_idx tok rfl (fun hg => hs.sl) (fun hg => ⟨by omega, by omega⟩)) ?_
      refine o_yield rfl rfl rfl (y_fel tok rfl (fun hg => hs.sl) (fun hg => by omega)) ?_
      refine o_yield rfl rfl rfl (y_lel tok (i) 5 (r) rfl (fun hg => hs) (fun hg => h_r) rfl rfl) ?_
      refine o_yield rfl rfl rfl (y_val tok rfl) ?_
      refine o_yield rfl rfl rfl (y_val tok rfl) ?_
      refine o_yield rfl rfl rfl (y_val tok rfl) ?_
      refine o_yield rfl rfl rfl (y_val tok rfl) ?_
      have hlt_r := lt_of_at h_r
      refine o_yield rfl rfl rfl (y_idx tok rfl (fun hg => hs.sl) (fun hg => ⟨by omega, by omega⟩)) ?_
      refine o_yield rfl rfl rfl (y_fel tok rfl (fun hg => hs.sl) (fun hg => by omega)) ?_
      refine o_yield rfl rfl rfl (y_lel tok (i) 2 (r) rfl (fun hg => hs) (fun hg => h_r) rfl rfl) ?_
      refine o_yield rfl rfl rfl (y_val tok rfl) ?_
      refine o_yield rfl rfl rfl (y_val tok rfl) ?_
      refine o_yield rfl rfl rfl (y_val tok rfl) ?_
      refine o_yield rfl rfl rfl (y_val tok rfl) ?_
      refine o_yield rfl rfl rfl (y_val tok rfl) ?_
      refine o_yield rfl rfl rfl (y_val tok rfl) ?_
      have hlt_r := lt_of_at h_r
      refine o_yield rfl rfl rfl (y_idx tok rfl (fun hg => hs.sl) (fun hg => ⟨by omega, by omega⟩)) ?_
      refine o_yield rfl rfl rfl (y_fel tok rfl (fun hg => hs.sl) (fun hg => by omega)) ?_
      refine o_yield rfl rfl rfl (y_lel tok (i) 3 (r) rfl (fun hg => hs) (fun hg => h_r) rfl rfl) ?_
      refine o_yield rfl rfl rfl (y_val tok rfl) ?_
      refine o_yield rfl rfl rfl (y_val tok rfl) ?_
      refine o_yield rfl rfl rfl (y_val tok rfl) ?_
      refine o_end [0, 1, 6, 7, 8, 9, 10, 44] rfl ?_
      refine x_then ?_
      refine c_cond rfl (fun h => ?_) (fun h => ?_)
      ·
        simp only [Bool.and_eq_true, Bool.or_eq_true, Bool.not_eq_true', Bool.or_eq_false_iff, Bool.and_eq_false_iff, decide_eq_true_eq, decide_eq_false_iff_not, beq_iff_eq, bne_iff_ne, Bool.not_eq_false', beq_eq_false_iff_ne, bne_eq_false_iff_eq, ne_eq, Decidable.not_not, Int.not_lt, Int.not_le] at h
        refine c_seq ?_
        refine c_region ?_
        refine o_yield rfl rfl rfl (y_val tok rfl) ?_
        refine o_yield rfl rfl rfl (y_val tok rfl) ?_
        have hpc : isPc n k r = true := by simp only [isPc, Bool.and_eq_true, beq_iff_eq]; exact ⟨h.1.1, h.1.2, h.2⟩
        have hlt_r := lt_of_at h_r
        refine o_yield rfl rfl rfl (y_idx tok rfl (fun hg => hs.sl) (fun hg => ⟨by omega, by omega⟩)) ?_
        refine o_yield rfl rfl rfl (y_fel tok rfl (fun hg => hs.sl) (fun hg => by omega)) ?_
        refine o_yield rfl rfl rfl (y_lel tok (i) 4 (r) rfl (fun hg => hs) (fun hg => h_r) rfl rfl) ?_
        refine o_yield rfl rfl rfl (y_val tok rfl) ?_
        refine o_end [0, 1, 6, 8, 9, 10] rfl ?_
        refine x_then ?_
        refine c_region ?_
        refine o_yield rfl rfl rfl (y_val tok rfl) ?_
        refine o_end [0, 1, 6, 7, 8, 9, 10] rfl ?_
        refine x_block ?_
        refine x_then ?_
        refine c_region ?_
        refine o_yield rfl rfl rfl (y_val tok rfl) ?_
        refine o_yield rfl rfl rfl (y_val tok rfl) ?_
        refine o_yield rfl rfl rfl (y_val tok rfl) ?_
        refine o_end [0, 1, 6, 7, 8, 9, 10] rfl ?_
        refine x_then ?_
        rw [hwi]
        refine x_round ((i + 1, r.text, true)) (⟨by dsimp only; omega, by dsimp only; rw [e1, if_pos hpc], by dsimp only; rw [e2, hpc]; simp⟩) (by first | omega | (dsimp only; omega)) (by repeat (first | exact SubF.nil | refine SubF.cons rfl ?_)) (by repeat (first | exact SubO.nil | refine SubO.cons rfl ?_)) rfl (Vw.le.refl _)
      ·
        simp only [Bool.and_eq_true, Bool.or_eq_true, Bool.not_eq_true', Bool.or_eq_false_iff, Bool.and_eq_false_iff, decide_eq_true_eq, decide_eq_false_iff_not, beq_iff_eq, bne_iff_ne, Bool.not_eq_false', beq_eq_false_iff_ne, bne_eq_false_iff_eq, ne_eq, Decidable.not_not, Int.not_lt, Int.not_le] at h
        refine c_skip ?_
        refine x_block ?_
        refine x_then ?_
        refine c_region ?_
        refine o_yield rfl rfl rfl (y_val tok rfl) ?_
        refine o_yield rfl rfl rfl (y_val tok rfl) ?_
        refine o_yield rfl rfl rfl (y_val tok rfl) ?_
        refine o_end [0, 1, 6, 7, 8, 9, 10] rfl ?_
        refine x_then ?_
        have hpc : isPc n k r = false := by
          rw [Bool.eq_false_iff]
          intro hc
          simp only [isPc, Bool.and_eq_true, beq_iff_eq] at hc
          simp [hc.1, hc.2.1, hc.2.2] at h
        rw [hwi]
        refine x_round ((i + 1, p, s)) (⟨by dsimp only; omega, by dsimp only; rw [e1, hpc, hp]; simp, by dsimp only; rw [e2, hpc, hsm]; simp⟩) (by first | omega | (dsimp only; omega)) (by repeat (first | exact SubF.nil | refine SubF.cons rfl ?_)) (by repeat (first | exact SubO.nil | refine SubO.cons rfl ?_)) rfl (Vw.le.refl _)
    ·
      simp only [Bool.and_eq_true, Bool.or_eq_true, Bool.not_eq_true', Bool.or_eq_false_iff, Bool.and_eq_false_iff, decide_eq_true_eq, decide_eq_false_iff_not, beq_iff_eq, bne_iff_ne, Bool.not_eq_false', beq_eq_false_iff_ne, bne_eq_false_iff_eq, ne_eq, Decidable.not_not, Int.not_lt, Int.not_le] at h
      have hil : i = l.length := by omega
      subst hil
      rw [List.take_length] at hp hsm
      subst hp hsm
      have hps := pieceF_size hz n k
      clear h
      refine c_exit ?_
      refine x_then_exit ?_
      refine x_then_exit ?_
      refine x_block_hit ?_
      refine x_then ?_
      refine c_region ?_
      refine o_yield rfl rfl rfl (y_val tok rfl) ?_
      refine o_yield rfl rfl rfl (y_val tok rfl) ?_
      refine o_yield rfl rfl rfl (y_cat rfl (fun hg => by omega)) ?_
      refine o_yield rfl rfl rfl (y_val tok rfl) ?_
      refine o_end [0, 1, 6, 7, 8] rfl ?_
      refine x_block ?_
      refine x_then ?_
      refine c_region ?_
      refine o_yield rfl rfl rfl (y_val tok rfl) ?_
      refine o_yield rfl rfl rfl (y_val tok rfl) ?_
      refine o_yield rfl rfl rfl (y_val tok rfl) ?_
      refine o_end [0, 1, 6, 7, 8] rfl ?_
      refine x_then ?_
      rw [hwk]
      refine x_round (k + 1) (by omega) (by first | omega | (dsimp only; omega)) (by repeat (first | exact SubF.nil | refine SubF.cons rfl ?_)) (by repeat (first | exact SubO.nil | refine SubO.cons rfl ?_)) rfl (Vw.le.refl _)
  ·
    simp only [Bool.and_eq_true, Bool.or_eq_true, Bool.not_eq_true', Bool.or_eq_false_iff, Bool.and_eq_false_iff, decide_eq_true_eq, decide_eq_false_iff_not, beq_iff_eq, bne_iff_ne, Bool.not_eq_false', beq_eq_false_iff_ne, bne_eq_false_iff_eq, ne_eq, Decidable.not_not, Int.not_lt, Int.not_le] at h
    refine c_exit ?_
    refine x_then_exit ?_
    refine x_then_exit ?_
    refine x_block_hit ?_
    refine x_then ?_
    refine c_seq ?_
    refine c_region ?_
    refine o_yield rfl rfl rfl (y_val tok rfl) ?_
    refine o_yield rfl rfl rfl (y_val tok rfl) ?_
    refine o_yield rfl rfl rfl (y_val tok rfl) ?_
    refine o_yield rfl rfl rfl (y_val tok rfl) ?_
    refine o_end [4, 5] rfl ?_
    refine x_then ?_
    refine c_ret ?_
    refine b_ret tok rfl ?_
    have hk8 : k = 8 := by omega
    subst hk8
    intro E w' hm _
    refine ⟨?_, hm.below (Vw.le.refl _)⟩
    rfl

/-! The last transaction's text of a block. -/

def lastG (n : Int) : List Record → List Record → Option ByteArray → Option ByteArray
  | [], _, acc => acc
  | r :: t, cur, acc => if r.count = 0 then lastG n t (cur ++ [r]) acc else lastG n t [] (if (textTo cur n 8).2 = true then some (textTo cur n 8).1 else acc)

def scanB (L : List Record) : List Block := mkF (fun n => lastG n L [] none) 0 64

theorem cut_snoc {l : List Record} {f i : Nat} {r : Record} (hf : f ≤ i) (h : l[i]? = some r) : (l.drop f).take (i + 1 - f) = (l.drop f).take (i - f) ++ [r] := by
  rw [show i + 1 - f = i - f + 1 by omega]
  refine take_succ_at' ?_
  rw [List.getElem?_drop, show f + (i - f) = i by omega, h]

theorem rblocks_c (V : Vw) (sv : Value) (l0 : List Record) (w : World) (hV : V.le (vw w)) (hs0 : SlOf V Record.cells 6 sv l0) (hn0 : l0.length ≤ 1000000) (hz0 : ∀ r ∈ l0, r.text.size ≤ 256) :
    Calls Try.prog 30 #[sv] w (RowB (scanB (l0.take (whole l0))) w) := by
  have hs00 := hs0.mono hV
  refine enter (E := E0) (O := []) (nl := 0) (V := vw w) [.a (.v sv)] Try.func30 rfl rfl (mem0 E0 0 w) rfl rfl ?_
  refine c_seq ?_
  refine c_region ?_
  refine o_yield rfl rfl rfl (y_val tok rfl) ?_
  refine o_end [0] rfl ?_
  refine x_then ?_
  refine c_seq ?_
  refine c_region ?_
  refine o_yield rfl rfl rfl (y_val tok rfl) ?_
  refine o_callV (RowRV (l0.take (whole l0))) rfl rfl fnok105 rfl rfl (fun hg E w1 hm => by exact rowR_V hm.leV (rWhole17_c (vw w) _ l0 _ hm.leV hs00 hn0)) ?_
  rintro x V1 hle1 hx
  obtain ⟨a, m, c, rfl, hs⟩ := hx rfl
  clear hx
  have hz : ∀ r ∈ l0.take (whole l0), r.text.size ≤ 256 := fun r hr => hz0 r (List.mem_of_mem_take hr)
  have hn : (l0.take (whole l0)).length ≤ 1000000 := by rw [List.length_take]; omega
  generalize l0.take (whole l0) = l at *
  refine o_yield rfl rfl rfl (y_val tok rfl) ?_
  refine o_end [0] rfl ?_
  refine x_then ?_
  refine c_seq ?_
  refine c_region ?_
  refine o_yield rfl rfl rfl (y_val tok rfl) ?_
  refine o_end [0, 3] rfl ?_
  refine x_then ?_
  refine c_seq ?_
  refine c_seq ?_
  refine c_region ?_
  refine o_yield rfl rfl rfl (y_val tok rfl) ?_
  refine o_end [0, 3, 4] rfl ?_
  refine x_then ?_
  refine c_block ?_
  refine k_nil 3 139 2 rfl rfl ?_
  generalize hF : (fun n => lastG n l [] none) = f
  have e0 : mkF f 0 0 = [] := rfl
  refine c_loopK [0] [0] rfl rfl (σ := Nat) (fun n => [(3, .a (.row 0)), (4, .a (.v (I n)))]) (fun n => [(0, .row 139 2 (mkF f 0 n).length ((mkF f 0 n).flatMap Block.cells))]) (fun n => n ≤ 64) (fun n => 64 - n) (0) (by omega) (by repeat (first | exact SubF.nil | refine SubF.cons rfl ?_ | refine SubF.cons (by simp only [e0]; first | done | rfl) ?_)) (by repeat (first | exact SubO.nil | refine SubO.cons rfl ?_ | refine SubO.cons (by simp only [e0]; first | done | rfl) ?_)) rfl ?_
  rintro n hn64
  have hml := mkF_len f n 0
  refine c_seq ?_
  refine c_seq ?_
  refine c_region ?_
  refine o_yield rfl rfl rfl (y_val tok rfl) ?_
  refine o_yield rfl rfl rfl (y_val tok rfl) ?_
  refine o_end [0, 3, 4, 14] rfl ?_
  refine x_then ?_
  refine c_cond rfl (fun h => ?_) (fun h => ?_)
  ·
    simp only [Bool.and_eq_true, Bool.or_eq_true, Bool.not_eq_true', Bool.or_eq_false_iff, Bool.and_eq_false_iff, decide_eq_true_eq, decide_eq_false_iff_not, beq_iff_eq, bne_iff_ne, Bool.not_eq_false', beq_eq_false_iff_ne, bne_eq_false_iff_eq, ne_eq, Decidable.not_not, Int.not_lt, Int.not_le] at h
    refine c_skip ?_
    refine x_then ?_
    refine c_seq ?_
    refine c_block ?_
    refine c_seq ?_
    refine c_region ?_
    refine o_yield rfl rfl rfl (y_val tok rfl) ?_
    refine o_yield rfl rfl rfl (y_val tok rfl) ?_
    refine o_new tok rfl rfl rfl rfl ?_
    refine o_store tok rfl rfl rfl (by first | exact ⟨trivial, trivial⟩ | (repeat' first | exact trivial | exact rfl | apply And.intro); done | simp [onesP, oneP, lk, Value.oneCell']) ?_
    refine o_end [0, 3, 4, 5] rfl ?_
    refine x_then ?_
    refine c_seq ?_
    refine c_region ?_
    refine o_yield rfl rfl rfl (y_val tok rfl) ?_
    refine o_end [0, 3, 4, 5, 6] rfl ?_
    refine x_then ?_
    refine c_seq ?_
    refine c_region ?_
    refine o_yield rfl rfl rfl (y_val tok rfl) ?_
    refine o_end [0, 3, 4, 5, 6, 7] rfl ?_
    refine x_then ?_
    refine c_seq ?_
    refine c_seq ?_
    refine c_region ?_
    refine o_yield rfl rfl rfl (y_val tok rfl) ?_
    refine o_end [0, 3, 4, 5, 6, 7, 8] rfl ?_
    refine x_then ?_
    refine c_block ?_
    have hwn : IntKind.i64.wrap ((n : Int) + 1) = ((n + 1 : Nat) : Int) := wrapI (by omega) (by omega)
    have hfn : f n = lastG n l [] none := by rw [← hF]
    have hsn := mkF_snoc f n 0
    rw [Int.zero_add] at hsn
    refine c_loopK [0, 3, 4, 5] [1] rfl rfl (σ := Nat × Nat × Option ByteArray) (fun (i, q, acc) => [(6, .a (.v (.bool acc.isSome))), (7, .a (.v (I q))), (8, .a (.v (I i)))]) (fun (i, q, acc) => [(1, .lit [.v (I n), .v (S (acc.getD ByteArray.empty))] 139)]) (fun (i, q, acc) => i ≤ l.length ∧ q ≤ i ∧ lastG n (l.drop i) ((l.drop q).take (i - q)) acc = f n) (fun (i, q, acc) => l.length - i) ((0, 0, none)) (⟨by omega, by omega, by rw [hfn]; rfl⟩) (by repeat (first | exact SubF.nil | refine SubF.cons rfl ?_)) (by repeat (first | exact SubO.nil | refine SubO.cons rfl ?_)) rfl ?_
    rintro ⟨i, q, acc⟩ ⟨hi, hq, hinv⟩
    dsimp only at hi hq hinv ⊢
    refine c_seq ?_
    refine c_seq ?_
    refine c_region ?_
    refine o_yield rfl rfl rfl (y_val tok rfl) ?_
    refine o_yield rfl rfl rfl (y_val tok rfl) ?_
    refine o_yield rfl rfl rfl (y_len tok rfl (fun hg => hs.sl)) ?_
    refine o_yield rfl rfl rfl (y_val tok rfl) ?_
    refine o_end [0, 3, 4, 5, 6, 7, 8, 22] rfl ?_
    refine x_then ?_
    refine c_cond rfl (fun h => ?_) (fun h => ?_)
    ·
      simp only [Bool.and_eq_true, Bool.or_eq_true, Bool.not_eq_true', Bool.or_eq_false_iff, Bool.and_eq_false_iff, decide_eq_true_eq, decide_eq_false_iff_not, beq_iff_eq, bne_iff_ne, Bool.not_eq_false', beq_eq_false_iff_ne, bne_eq_false_iff_eq, ne_eq, Decidable.not_not, Int.not_lt, Int.not_le] at h
      refine c_skip ?_
      refine x_then ?_
      refine c_seq ?_
      refine c_block ?_
      refine c_seq ?_
      refine c_seq ?_
      refine c_region ?_
      refine o_yield rfl rfl rfl (y_val tok rfl) ?_
      refine o_yield rfl rfl rfl (y_val tok rfl) ?_
      obtain ⟨r, h_r⟩ := hs.at (k := i) (by omega)
      have hwi : IntKind.i64.wrap ((i : Int) + 1) = ((i + 1 : Nat) : Int) := wrapI (by omega) (by omega)
      rw [drop_at h_r, lastG] at hinv
      have hlt_r := lt_of_at h_r
      refine o_yield rfl rfl rfl (y_idx tok rfl (fun hg => hs.sl) (fun hg => ⟨by omega, by omega⟩)) ?_
      refine o_yield rfl rfl rfl (y_fel tok rfl (fun hg => hs.sl) (fun hg => by omega)) ?_
      refine o_yield rfl rfl rfl (y_lel tok (i) 5 (r) rfl (fun hg => hs) (fun hg => h_r) rfl rfl) ?_
      refine o_yield rfl rfl rfl (y_val tok rfl) ?_
      refine o_end [0, 3, 4, 5, 6, 7, 8, 30] rfl ?_
      refine x_then ?_
      refine c_cond rfl (fun h => ?_) (fun h => ?_)
      ·
        simp only [Bool.and_eq_true, Bool.or_eq_true, Bool.not_eq_true', Bool.or_eq_false_iff, Bool.and_eq_false_iff, decide_eq_true_eq, decide_eq_false_iff_not, beq_iff_eq, bne_iff_ne, Bool.not_eq_false', beq_eq_false_iff_ne, bne_eq_false_iff_eq, ne_eq, Decidable.not_not, Int.not_lt, Int.not_le] at h
        refine c_exit ?_
        refine x_then_exit ?_
        refine x_block_hit ?_
        refine x_then ?_
        refine c_region ?_
        refine o_yield rfl rfl rfl (y_val tok rfl) ?_
        refine o_yield rfl rfl rfl (y_val tok rfl) ?_
        refine o_yield rfl rfl rfl (y_val tok rfl) ?_
        refine o_end [0, 3, 4, 5, 6, 7, 8] rfl ?_
        refine x_then ?_
        rw [if_pos h, ← cut_snoc hq h_r] at hinv
        rw [hwi]
        refine x_round ((i + 1, q, acc)) (⟨by dsimp only; omega, by dsimp only; omega, hinv⟩) (by first | omega | (dsimp only; omega)) (by repeat (first | exact SubF.nil | refine SubF.cons rfl ?_)) (by repeat (first | exact SubO.nil | refine SubO.cons rfl ?_)) rfl (Vw.le.refl _)
      ·
        simp only [Bool.and_eq_true, Bool.or_eq_true, Bool.not_eq_true', Bool.or_eq_false_iff, Bool.and_eq_false_iff, decide_eq_true_eq, decide_eq_false_iff_not, beq_iff_eq, bne_iff_ne, Bool.not_eq_false', beq_eq_false_iff_ne, bne_eq_false_iff_eq, ne_eq, Decidable.not_not, Int.not_lt, Int.not_le] at h
        rw [if_neg h] at hinv
        clear h
        have hcut := hs.cut (lo := q) (hi := i) hq (by omega)
        refine c_skip ?_
        refine x_then ?_
        refine c_seq ?_
        refine c_region ?_
        refine o_yield rfl rfl rfl (y_val tok rfl) ?_
        refine o_yield rfl rfl rfl (y_val tok rfl) ?_
        refine o_yield rfl rfl rfl (y_val tok rfl) ?_
        refine o_yield rfl rfl rfl (y_sl tok rfl (fun hg => hs.sl) (fun hg => by dsimp only [Option.getD]; omega)) ?_
        refine o_yield rfl rfl rfl (y_val tok rfl) ?_
        rw [show ((some (q : Int)).getD 0).toNat = q from rfl, show ((some (i : Int)).getD (l.length : Int)).toNat = i from rfl]
        refine o_call (.a (.v _)) rfl rfl fnok107 rfl rfl rfl (fun hg E w1 hm => by exact rtext_c V1 _ ((l.drop q).take (i - q)) n _ hm.leV hcut (by rw [List.length_take, List.length_drop]; omega) (fun r hr => hz r (List.mem_of_mem_drop (List.mem_of_mem_take hr)))) ?_
        refine o_yield rfl rfl rfl (y_val tok rfl) ?_
        refine o_yield rfl rfl rfl (y_val tok rfl) ?_
        refine o_yield rfl rfl rfl (y_val tok rfl) ?_
        refine o_yield rfl rfl rfl (y_val tok rfl) ?_
        refine o_yield rfl rfl rfl (y_val tok rfl) ?_
        refine o_end [0, 3, 4, 5, 6, 8, 9, 10] rfl ?_
        refine x_then ?_
        refine c_seq ?_
        refine c_seq ?_
        refine c_region ?_
        refine o_yield rfl rfl rfl (y_val tok rfl) ?_
        refine o_end [0, 3, 4, 5, 6, 8, 9, 40] rfl ?_
        refine x_then ?_
        refine c_cond rfl (fun h => ?_) (fun h => ?_)
        generalize textTo ((l.drop q).take (i - q)) n 8 = tx at *
        ·
          refine c_seq ?_
          refine c_region ?_
          refine o_yield rfl rfl rfl (y_val tok rfl) ?_
          refine o_yield rfl rfl rfl (y_val tok rfl) ?_
          refine o_store tok rfl rfl rfl (by first | exact ⟨trivial, trivial⟩ | (repeat' first | exact trivial | exact rfl | apply And.intro); done | simp [onesP, oneP, lk, Value.oneCell']) ?_
          refine o_end [0, 3, 4, 5, 8] rfl ?_
          refine x_then ?_
          refine c_region ?_
          refine o_yield rfl rfl rfl (y_val tok rfl) ?_
          refine o_end [0, 3, 4, 5, 6, 8] rfl ?_
          refine x_then ?_
          refine c_region ?_
          refine o_yield rfl rfl rfl (y_val tok rfl) ?_
          refine o_yield rfl rfl rfl (y_val tok rfl) ?_
          refine o_yield rfl rfl rfl (y_val tok rfl) ?_
          refine o_end [0, 3, 4, 5, 6, 7, 8] rfl ?_
          refine x_block ?_
          refine x_then ?_
          refine c_region ?_
          refine o_yield rfl rfl rfl (y_val tok rfl) ?_
          refine o_yield rfl rfl rfl (y_val tok rfl) ?_
          refine o_yield rfl rfl rfl (y_val tok rfl) ?_
          refine o_end [0, 3, 4, 5, 6, 7, 8] rfl ?_
          refine x_then ?_
          rw [if_pos h] at hinv
          rw [hwi]
          refine x_round ((i + 1, i + 1, some tx.1)) (⟨by dsimp only; omega, by dsimp only; omega, by dsimp only; rw [Nat.sub_self, List.take_zero]; exact hinv⟩) (by first | omega | (dsimp only; omega)) (by repeat (first | exact SubF.nil | refine SubF.cons rfl ?_)) (by repeat (first | exact SubO.nil | refine SubO.cons rfl ?_)) rfl (Vw.le.refl _)
        ·
          refine c_skip ?_
          refine x_then ?_
          refine c_region ?_
          refine o_yield rfl rfl rfl (y_val tok rfl) ?_
          refine o_yield rfl rfl rfl (y_val tok rfl) ?_
          refine o_yield rfl rfl rfl (y_val tok rfl) ?_
          refine o_end [0, 3, 4, 5, 6, 7, 8] rfl ?_
          refine x_block ?_
          refine x_then ?_
          refine c_region ?_
          refine o_yield rfl rfl rfl (y_val tok rfl) ?_
          refine o_yield rfl rfl rfl (y_val tok rfl) ?_
          refine o_yield rfl rfl rfl (y_val tok rfl) ?_
          refine o_end [0, 3, 4, 5, 6, 7, 8] rfl ?_
          refine x_then ?_
          rw [if_neg (by simp [h])] at hinv
          rw [hwi]
          refine x_round ((i + 1, i + 1, acc)) (⟨by dsimp only; omega, by dsimp only; omega, by dsimp only; rw [Nat.sub_self, List.take_zero]; exact hinv⟩) (by first | omega | (dsimp only; omega)) (by repeat (first | exact SubF.nil | refine SubF.cons rfl ?_)) (by repeat (first | exact SubO.nil | refine SubO.cons rfl ?_)) rfl (Vw.le.refl _)
    ·
      simp only [Bool.and_eq_true, Bool.or_eq_true, Bool.not_eq_true', Bool.or_eq_false_iff, Bool.and_eq_false_iff, decide_eq_true_eq, decide_eq_false_iff_not, beq_iff_eq, bne_iff_ne, Bool.not_eq_false', beq_eq_false_iff_ne, bne_eq_false_iff_eq, ne_eq, Decidable.not_not, Int.not_lt, Int.not_le] at h
      have hil : i = l.length := by omega
      subst hil
      rw [List.drop_length, lastG] at hinv
      clear h
      rw [← hinv] at hsn
      refine c_exit ?_
      refine x_then_exit ?_
      refine x_then_exit ?_
      refine x_block_hit ?_
      refine x_then ?_
      refine c_seq ?_
      refine c_region ?_
      refine o_yield rfl rfl rfl (y_val tok rfl) ?_
      refine o_end [0, 3, 4, 5, 45] rfl ?_
      refine x_then ?_
      refine c_cond rfl (fun h => ?_) (fun h => ?_)
      ·
        refine c_region ?_
        refine o_yield rfl rfl rfl (y_val tok rfl) ?_
        refine o_yield rfl rfl rfl (y_val tok rfl) ?_
        obtain ⟨t, rfl⟩ := Option.isSome_iff_exists.1 h
        clear h
        dsimp only [Option.getD] at hsn ⊢
        have hx := app_row (mkF f 0 n) ⟨n, t⟩
        rw [← hsn] at hx
        refine o_step rfl rfl rfl rfl rfl (s_bs tok 2 rfl rfl rfl) (fun _ _ => ?_)
        refine o_step rfl rfl rfl rfl rfl (s_app tok (Block.cells ⟨n, t⟩) rfl (fun E w hm => ownsRow_src (hm.row _ _ _ _ _ rfl)) (fun _ _ _ => by simpa using blk_ones [⟨n, t⟩]) (by dsimp only; omega)) (fun _ _ => ?_)
        refine o_yield rfl rfl rfl (y_val tok rfl) ?_
        refine o_end [0, 3, 4] rfl ?_
        refine x_block ?_
        refine x_then ?_
        refine c_region ?_
        refine o_yield rfl rfl rfl (y_val tok rfl) ?_
        refine o_yield rfl rfl rfl (y_val tok rfl) ?_
        refine o_yield rfl rfl rfl (y_val tok rfl) ?_
        refine o_end [0, 3, 4] rfl ?_
        refine x_then ?_
        rw [hx.1, hx.2, hwn]
        refine k_swap 0 3 rfl ?_
        refine x_round (n + 1) (by omega) (by first | omega | (dsimp only; omega)) (by repeat (first | exact SubF.nil | refine SubF.cons rfl ?_)) (by repeat (first | exact SubO.nil | refine SubO.cons rfl ?_)) rfl (Vw.le.refl _)
      ·
        refine c_skip ?_
        refine x_block ?_
        refine x_then ?_
        refine c_region ?_
        refine o_yield rfl rfl rfl (y_val tok rfl) ?_
        refine o_yield rfl rfl rfl (y_val tok rfl) ?_
        refine o_yield rfl rfl rfl (y_val tok rfl) ?_
        refine o_end [0, 3, 4] rfl ?_
        refine x_then ?_
        have hnone : acc = none := by simpa using h
        subst hnone
        rw [List.append_nil] at hsn
        rw [hwn, ← hsn]
        refine x_round (n + 1) (by omega) (by first | omega | (dsimp only; omega)) (by repeat (first | exact SubF.nil | refine SubF.cons rfl ?_)) (by repeat (first | exact SubO.nil | refine SubO.cons rfl ?_)) rfl (Vw.le.refl _)
  ·
    simp only [Bool.and_eq_true, Bool.or_eq_true, Bool.not_eq_true', Bool.or_eq_false_iff, Bool.and_eq_false_iff, decide_eq_true_eq, decide_eq_false_iff_not, beq_iff_eq, bne_iff_ne, Bool.not_eq_false', beq_eq_false_iff_ne, bne_eq_false_iff_eq, ne_eq, Decidable.not_not, Int.not_lt, Int.not_le] at h
    refine c_exit ?_
    refine x_then_exit ?_
    refine x_then_exit ?_
    refine x_block_hit ?_
    refine x_then ?_
    refine c_seq ?_
    refine c_region ?_
    refine o_yield rfl rfl rfl (y_val tok rfl) ?_
    refine o_yield rfl rfl rfl (y_val tok rfl) ?_
    refine o_end [2] rfl ?_
    refine x_then ?_
    refine c_ret ?_
    refine b_ret tok rfl ?_
    have h64 : n = 64 := by omega
    subst h64
    have hsc : mkF f 0 64 = scanB l := by rw [← hF]; rfl
    rw [hsc]
    intro E w' hm _
    exact ⟨⟨E.κ 0, rfl, hm.rowFresh hle1 (l := 0) rfl⟩, hm.below hle1⟩
end Go.Proofs.Ytflimioplnbopaa

/- A slot's journal read: the document's. -/
set_option linter.unusedVariables false
set_option linter.unusedSimpArgs false
set_option maxRecDepth 100000
namespace Go.Proofs.Ytflimioplnbopaa
open Go Go.Eng Go.RowKit

/-- The journal of slot 0 of a device has the records A, and nothing behind them. -/
structure JInv (g : Geo) (key tail : Int) (D : List ByteArray) (A : List Record) : Prop where
  geo : geoB g = true
  len : (D.length : Int) = totV g
  tl0 : 0 ≤ tail
  tl1 : tail ≤ 1073741824
  head : ∃ s, D[(headV g 0).toNat]? = some s ∧ tailOk s = some tail ∧ s.size ≤ 256
  few : (A.length : Int) ≤ g.journal
  good : ∀ (j : Nat) r, A[j]? = some r → recB r = true ∧ r.key = key ∧ r.lsn = tail + j
  at_ : ∀ (j : Nat) r, A[j]? = some r → D[(jourV g 0 (tail + j)).toNat]? = some (recBytes r)
  rest : ∀ j : Nat, A.length ≤ j → (j : Int) < g.journal → D[(jourV g 0 (tail + j)).toNat]? = some ByteArray.empty

abbrev devV (s : Value) : Value := .agg #[s, .slice none 0 0, .slice none 0 0, I 0, .slice none 0 0]

theorem read_empty : readB ByteArray.empty = false := by
  have h : ofB 6 ByteArray.empty = false := by
    unfold ofB openB
    simp
  unfold readB
  simp [fieldsR, h]

theorem isB_empty (key lsn : Int) : isB ByteArray.empty key lsn = false := by rw [isB, read_empty]; rfl

theorem head_nn {g : Geo} (hG : geoB g = true) : 0 ≤ headV g 0 ∧ headV g 0 < totV g := by
  have hf := geo_facts hG
  have hz := geo_sizes hG
  have := head_pos hG (k := 0) (by simp; omega)
  have htt : totV g = dataAt g + g.blocks * g.per := by rw [totV, if_pos hG]
  have hm : 0 ≤ g.blocks * g.per := Int.mul_nonneg (by omega) (by omega)
  simp only [Int.natCast_zero] at this
  omega

theorem rthere_c (V : Vw) (g : Geo) (ok : g.Ok) (hG : geoB g = true) (a : Option Addr) (n c : Nat) (D : List ByteArray) (w : World) (hV : V.le (vw w)) (hs0 : SlOf V encS 1 (.slice a n c) D) (hl : (D.length : Int) = totV g) :
    Calls Try.prog 190 #[g.val, devV (.slice a n c), I 0] w fun e w' => e = .returned (.bool true) ∧ Below w.heap.size w w' := by
  have hs := hs0.mono hV
  have hh := head_nn hG
  refine enter (E := E0) (O := []) (nl := 0) (V := vw w) [.a (.v g.val), .a (.v (devV (.slice a n c))), .a (.v (I 0))] Try.func190 rfl rfl (mem0 E0 0 w) rfl rfl ?_
  refine c_seq ?_
  refine c_region ?_
  refine o_new tok rfl rfl rfl rfl ?_
  refine o_new tok rfl rfl rfl rfl ?_
  refine o_yield rfl rfl rfl (y_val tok rfl) ?_
  refine o_end [2, 3, 4] rfl ?_
  refine x_then ?_
  refine c_seq ?_
  refine c_draw mixed (by kernel_rfl) ?_
  refine d_yield rfl rfl rfl (y_val tok rfl) rfl ?_
  refine d_call (.a (.v _)) rfl rfl fnok14 rfl rfl rfl (fun hg E w1 hm => by exact refMay_c g ok _) ?_
  refine d_yield rfl rfl rfl (y_val tok rfl) rfl ?_
  refine d_yield rfl rfl rfl (y_val tok rfl) rfl ?_
  refine d_yield rfl rfl rfl (y_val tok rfl) rfl ?_
  refine d_yield rfl rfl rfl (y_len tok rfl (fun hg => hs.sl)) rfl ?_
  refine d_yield rfl rfl rfl (y_val tok rfl) rfl ?_
  refine d_call (.a (.v _)) rfl rfl fnok15 rfl rfl rfl (fun hg E w1 hm => by exact refTotal_c g ok _) ?_
  refine d_yield rfl rfl rfl (y_val tok rfl) rfl ?_
  refine d_yield rfl rfl rfl (y_val tok rfl) rfl ?_
  refine d_yield rfl rfl rfl (y_val tok rfl) rfl ?_
  refine d_yield rfl rfl rfl (y_val tok rfl) rfl ?_
  refine d_yield rfl rfl rfl (y_val tok rfl) rfl ?_
  refine d_call (.a (.v _)) rfl rfl fnok20 rfl rfl rfl (fun hg E w1 hm => by exact refHead_c g ok 0 _) ?_
  refine d_yield rfl rfl rfl (y_val tok rfl) rfl ?_
  refine d_yield rfl rfl rfl (y_val tok rfl) rfl ?_
  refine d_yield rfl rfl rfl (y_val tok rfl) rfl ?_
  refine d_end [6] rfl ?_
  refine x_then ?_
  refine c_ret ?_
  refine b_ret tok rfl ?_
  intro E w' hm _
  refine ⟨?_, hm.below (Vw.le.refl _)⟩
  rw [hG, hl]
  simp [hh.1]
  rfl

theorem rtail17_c (V : Vw) (g : Geo) (ok : g.Ok) (key tail : Int) (D : List ByteArray) (A : List Record) (hJ : JInv g key tail D A) (a : Option Addr) (n c : Nat) (w : World) (hV : V.le (vw w)) (hs0 : SlOf V encS 1 (.slice a n c) D) :
    Calls Try.prog 104 #[g.val, devV (.slice a n c), I 0] w fun e w' => e = .returned (.tuple #[I tail, I 0]) ∧ Below w.heap.size w w' := by
  have hs := hs0.mono hV
  have hh := head_nn hJ.geo
  obtain ⟨s, h_s, htl, hsz⟩ := hJ.head
  have hln := hJ.len
  obtain ⟨q, hq⟩ : ∃ q : Nat, headV g 0 = q := ⟨(headV g 0).toNat, by omega⟩
  rw [hq, Int.toNat_natCast] at h_s
  have htv : tailV s = tail ∧ tailE s = 0 := by
    rw [tailV, tailE, htl]; exact ⟨rfl, rfl⟩
  refine enter (E := E0) (O := []) (nl := 0) (V := vw w) [.a (.v g.val), .a (.v (devV (.slice a n c))), .a (.v (I 0))] Try.func104 rfl rfl (mem0 E0 0 w) rfl rfl ?_
  refine c_seq ?_
  refine c_region ?_
  refine o_new tok rfl rfl rfl rfl ?_
  refine o_new tok rfl rfl rfl rfl ?_
  refine o_yield rfl rfl rfl (y_val tok rfl) ?_
  refine o_yield rfl rfl rfl (y_val tok rfl) ?_
  refine o_end [2, 3, 4] rfl ?_
  refine x_then ?_
  refine c_seq ?_
  refine c_seq ?_
  refine c_region ?_
  refine o_yield rfl rfl rfl (y_val tok rfl) ?_
  refine o_yield rfl rfl rfl (y_val tok rfl) ?_
  refine o_yield rfl rfl rfl (y_val tok rfl) ?_
  refine o_call (.a (.v _)) rfl rfl fnok190 rfl rfl rfl (fun hg E w1 hm => by exact rthere_c (vw w) g ok hJ.geo _ _ _ D _ hm.leV hs hJ.len) ?_
  refine o_yield rfl rfl rfl (y_val tok rfl) ?_
  refine o_end [2, 3, 4, 12] rfl ?_
  refine x_then ?_
  refine c_cond rfl (fun h => ?_) (fun h => ?_)
  ·
    refine c_seq ?_
    refine c_region ?_
    refine o_yield rfl rfl rfl (y_val tok rfl) ?_
    refine o_yield rfl rfl rfl (y_val tok rfl) ?_
    refine o_end [6, 7] rfl ?_
    refine x_then ?_
    refine c_ret ?_
    refine x_then_ret ?_
    refine b_ret tok rfl ?_
    exact absurd h (by simp)
  ·
    refine c_skip ?_
    refine x_then ?_
    refine c_seq ?_
    refine c_draw mixed (by kernel_rfl) ?_
    refine d_yield rfl rfl rfl (y_val tok rfl) rfl ?_
    refine d_yield rfl rfl rfl (y_val tok rfl) rfl ?_
    refine d_yield rfl rfl rfl (y_val tok rfl) rfl ?_
    refine d_yield rfl rfl rfl (y_val tok rfl) rfl ?_
    have hrh := fun w => refHead_c g ok 0 w
    rw [hq] at hrh
    refine d_call (.a (.v _)) rfl rfl fnok20 rfl rfl rfl (fun hg E w1 hm => by exact hrh _) ?_
    have hlt_s := lt_of_at h_s
    refine d_yield rfl rfl rfl (y_idx tok rfl (fun hg => hs.sl) (fun hg => ⟨by omega, by omega⟩)) rfl ?_
    refine d_yield rfl rfl rfl (y_lel tok (q) 0 (s) rfl (fun hg => hs) (fun hg => h_s) rfl rfl) rfl ?_
    have hrt := fun w => rstail_c s (by simp only [maxLen]; omega) w
    rw [htv.1, htv.2] at hrt
    refine d_call (.a (.v _)) rfl rfl fnok54 rfl rfl rfl (fun hg E w1 hm => by exact hrt _) ?_
    refine d_yield rfl rfl rfl (y_val tok rfl) rfl ?_
    refine d_yield rfl rfl rfl (y_val tok rfl) rfl ?_
    refine d_yield rfl rfl rfl (y_val tok rfl) rfl ?_
    refine d_yield rfl rfl rfl (y_val tok rfl) rfl ?_
    refine d_end [6, 7] rfl ?_
    refine x_then ?_
    refine c_ret ?_
    refine b_ret tok rfl ?_
    intro E w' hm _
    refine ⟨?_, hm.below (Vw.le.refl _)⟩
    rfl

theorem rrows_c (V : Vw) (g : Geo) (ok : g.Ok) (key tail : Int) (D : List ByteArray) (A : List Record) (hJ : JInv g key tail D A) (a : Option Addr) (n c : Nat) (w : World) (hV : V.le (vw w)) (hs0 : SlOf V encS 1 (.slice a n c) D) :
    Calls Try.prog 106 #[g.val, devV (.slice a n c), I 0, I key, I tail] w (RowR A w) := by
  have hs := hs0.mono hV
  have hf := geo_facts hJ.geo
  have hz := geo_sizes hJ.geo
  have h0 := hJ.tl0
  have h1 := hJ.tl1
  have hfew := hJ.few
  have hln := hJ.len
  refine enter (E := E0) (O := []) (nl := 0) (V := vw w) [.a (.v g.val), .a (.v (devV (.slice a n c))), .a (.v (I 0)), .a (.v (I key)), .a (.v (I tail))] Try.func106 rfl rfl (mem0 E0 0 w) rfl rfl ?_
  refine c_seq ?_
  refine c_region ?_
  refine o_new tok rfl rfl rfl rfl ?_
  refine o_new tok rfl rfl rfl rfl ?_
  refine o_yield rfl rfl rfl (y_val tok rfl) ?_
  refine o_end [2, 3, 4, 5, 6] rfl ?_
  refine x_then ?_
  refine c_seq ?_
  refine c_region ?_
  refine o_yield rfl rfl rfl (y_val tok rfl) ?_
  refine o_end [2, 3, 4, 5, 6, 11] rfl ?_
  refine x_then ?_
  refine c_seq ?_
  refine c_seq ?_
  refine c_region ?_
  refine o_yield rfl rfl rfl (y_val tok rfl) ?_
  refine o_yield rfl rfl rfl (y_val tok rfl) ?_
  refine o_yield rfl rfl rfl (y_val tok rfl) ?_
  refine o_call (.a (.v _)) rfl rfl fnok190 rfl rfl rfl (fun hg E w1 hm => by exact rthere_c (vw w) g ok hJ.geo _ _ _ D _ hm.leV hs hJ.len) ?_
  refine o_yield rfl rfl rfl (y_val tok rfl) ?_
  refine o_yield rfl rfl rfl (y_val tok rfl) ?_
  refine o_yield rfl rfl rfl (y_val tok rfl) ?_
  refine o_yield rfl rfl rfl (y_val tok rfl) ?_
  refine o_yield rfl rfl rfl (y_val tok rfl) ?_
  refine o_yield rfl rfl rfl (y_val tok rfl) ?_
  refine o_yield rfl rfl rfl (y_val tok rfl) ?_
  refine o_yield rfl rfl rfl (y_val tok rfl) ?_
  refine o_yield rfl rfl rfl (y_val tok rfl) ?_
  refine o_end [2, 3, 4, 5, 6, 11, 27] rfl ?_
  refine x_then ?_
  refine c_cond rfl (fun h => ?_) (fun h => ?_)
  ·
    simp only [Bool.and_eq_true, Bool.or_eq_true, Bool.not_eq_true', Bool.or_eq_false_iff, Bool.and_eq_false_iff, decide_eq_true_eq, decide_eq_false_iff_not, beq_iff_eq, bne_iff_ne, Bool.not_eq_false', beq_eq_false_iff_ne, bne_eq_false_iff_eq, ne_eq, Decidable.not_not, Int.not_lt, Int.not_le] at h
    refine c_seq ?_
    refine c_region ?_
    refine o_yield rfl rfl rfl (y_val tok rfl) ?_
    refine o_end [10] rfl ?_
    refine x_then ?_
    refine c_ret ?_
    refine x_then_ret ?_
    refine b_ret tok rfl ?_
    exfalso
    simp at h
    omega
  ·
    simp only [Bool.and_eq_true, Bool.or_eq_true, Bool.not_eq_true', Bool.or_eq_false_iff, Bool.and_eq_false_iff, decide_eq_true_eq, decide_eq_false_iff_not, beq_iff_eq, bne_iff_ne, Bool.not_eq_false', beq_eq_false_iff_ne, bne_eq_false_iff_eq, ne_eq, Decidable.not_not, Int.not_lt, Int.not_le] at h
    clear h
    refine c_skip ?_
    refine x_then ?_
    refine c_seq ?_
    refine c_seq ?_
    refine c_region ?_
    refine o_yield rfl rfl rfl (y_val tok rfl) ?_
    refine o_end [2, 3, 4, 5, 6, 11, 12] rfl ?_
    refine x_then ?_
    refine c_block ?_
    refine k_nil 11 99 6 rfl rfl ?_
    refine c_loopK [2, 3, 4, 5, 6] [2] rfl rfl (σ := Nat) (fun i => [(11, .a (.row 2)), (12, .a (.v (I i)))]) (fun i => [(2, .row 99 6 (A.take i).length ((A.take i).flatMap Record.cells))]) (fun i => i ≤ A.length) (fun i => g.journal.toNat - i) (0) (by omega) (by repeat (first | exact SubF.nil | refine SubF.cons rfl ?_)) (by repeat (first | exact SubO.nil | refine SubO.cons rfl ?_)) rfl ?_
    rintro i hi
    refine c_seq ?_
    refine c_seq ?_
    refine c_region ?_
    refine o_yield rfl rfl rfl (y_val tok rfl) ?_
    refine o_yield rfl rfl rfl (y_val tok rfl) ?_
    refine o_yield rfl rfl rfl (y_val tok rfl) ?_
    refine o_yield rfl rfl rfl (y_val tok rfl) ?_
    refine o_end [2, 3, 4, 5, 6, 11, 12, 31] rfl ?_
    refine x_then ?_
    refine c_cond rfl (fun h => ?_) (fun h => ?_)
    ·
      simp only [Bool.and_eq_true, Bool.or_eq_true, Bool.not_eq_true', Bool.or_eq_false_iff, Bool.and_eq_false_iff, decide_eq_true_eq, decide_eq_false_iff_not, beq_iff_eq, bne_iff_ne, Bool.not_eq_false', beq_eq_false_iff_ne, bne_eq_false_iff_eq, ne_eq, Decidable.not_not, Int.not_lt, Int.not_le] at h
      have hwi : IntKind.i64.wrap ((i : Int) + 1) = ((i + 1 : Nat) : Int) := wrapI (by omega) (by omega)
      have hwt : IntKind.i64.wrap (tail + (i : Int)) = tail + i := wrapI (by omega) (by omega)
      obtain ⟨b, R, s, h_s, hsz, hb, hR, hcase⟩ : ∃ (b : Bool) (R : Record) (s : ByteArray), D[(jourV g 0 (tail + i)).toNat]? = some s ∧ s.size ≤ maxLen ∧ isB s key (tail + i) = b ∧ isV s key (tail + i) = R ∧ ((i < A.length ∧ b = true ∧ A[i]? = some R) ∨ (i = A.length ∧ b = false)) := by
        by_cases hlt : i < A.length
        · obtain ⟨r, hr⟩ : ∃ r, A[i]? = some r := ⟨_, List.getElem?_eq_getElem hlt⟩
          obtain ⟨hrb, hk, hl⟩ := hJ.good i r hr
          have his : isB (recBytes r) key (tail + i) = true := by rw [is_rec hrb, hk, hl, decide_eq_true rfl, decide_eq_true rfl]; rfl
          have hrz := recBytes_size (recOk hrb)
          have hrt := (recOk hrb).text
          exact ⟨true, r, _, hJ.at_ i r hr, by simp only [maxLen]; omega, his, by rw [isV, if_pos his]; exact (read_rec hrb).2.1, .inl ⟨hlt, rfl, hr⟩⟩
        · have hie : isB ByteArray.empty key (tail + i) = false := isB_empty _ _
          exact ⟨false, _, _, hJ.rest i (by omega) (by omega), by simp, hie, rfl, .inr ⟨by omega, rfl⟩⟩
      have hj0 := jour_some (slot := 0) (lsn := tail + i) hJ.geo (by omega) (by omega) (by omega)
      obtain ⟨q, hq⟩ : ∃ q : Nat, jourV g 0 (tail + i) = q := ⟨(jourV g 0 (tail + i)).toNat, by omega⟩
      rw [hq, Int.toNat_natCast] at h_s
      have hqlt := lt_of_at h_s
      have hjc := fun w => refJour_c g ok 0 (tail + i) w
      rw [hq, ← hwt] at hjc
      have hisc := fun w => refIs_c s key (tail + i) hsz w
      rw [hb, hR, ← hwt] at hisc
      refine c_skip ?_
      refine x_then ?_
      refine c_seq ?_
      refine c_block ?_
      refine c_seq ?_
      refine c_heldM (σ := Unit) (fun _ => [(2, .a (.v (I 0))), (3, .a (.v (I key))), (4, .a (.v (I tail))), (5, .a (.ptr 0 0)), (6, .a (.ptr 1 0)), (11, .a (.row 2)), (12, .a (.v (I i))), (13, .a (.ptr 3 0)), (14, .a (.v (.bool b)))]) (fun _ => [(0, .lit (g.cells.map .v) 23), (1, .lit [.v (.slice a n c), .v (.slice none 0 0), .v (.slice none 0 0), .v (I 0), .v (.slice none 0 0)] 40), (2, .row 99 6 (A.take i).length ((A.take i).flatMap Record.cells)), (3, .lit (R.cells.map .v) 99)]) (4) (fun _ => (vw w)) (fun _ => True) mixed ?_ ?_
      ·
        refine t_take 0 rfl (by kernel_rfl) rfl rfl rfl (y_val tok rfl) rfl ?_
        refine t_take 1 rfl (by kernel_rfl) rfl rfl rfl (y_val tok rfl) rfl ?_
        refine t_take 2 rfl (by kernel_rfl) rfl rfl rfl (y_val tok rfl) rfl ?_
        refine t_take 3 rfl (by kernel_rfl) rfl rfl rfl (y_val tok rfl) rfl ?_
        refine t_take 4 rfl (by kernel_rfl) rfl rfl rfl (y_val tok rfl) rfl ?_
        refine t_take 5 rfl (by kernel_rfl) rfl rfl rfl (y_val tok rfl) rfl ?_
        refine t_take 6 rfl (by kernel_rfl) rfl rfl rfl (y_val tok rfl) rfl ?_
        refine t_take 10 rfl (by kernel_rfl) rfl rfl rfl (y_val tok rfl) rfl ?_
        refine t_take 11 rfl (by kernel_rfl) rfl rfl rfl (y_val tok rfl) rfl ?_
        refine t_take 12 rfl (by kernel_rfl) rfl rfl rfl (y_val tok rfl) rfl ?_
        refine t_take 13 rfl (by kernel_rfl) rfl rfl rfl (y_val tok rfl) rfl ?_
        refine t_go ?_
        refine h_two 7 18 (by kernel_rfl) ?_ ?_
        ·
          refine h_call 7 (.a (.v (I (q : Int)))) rfl rfl rfl fnok66 rfl rfl rfl (fun hg E w1 hm => by exact hjc _) ?_
          refine h_two 8 18 (by kernel_rfl) ?_ ?_
          ·
            refine h_yield 8 rfl rfl rfl rfl (y_idxK tok q rfl (by simp) (fun hg => hs.sl) (fun hg => by omega)) ?_
            refine h_two 9 18 (by kernel_rfl) ?_ ?_
            ·
              refine h_yield 9 rfl rfl rfl rfl (y_lel (enc := encS) (l := D) tok q 0 s rfl (fun hg => hs) (fun hg => h_s) (by simp) rfl) ?_
              refine h_two 14 18 (by kernel_rfl) ?_ ?_
              ·
                refine h_call 14 (.a (.v (.tuple #[R.val, .bool b]))) rfl rfl rfl fnok192 rfl rfl rfl (fun hg E w1 hm => by exact hisc _) ?_
                refine h_two 15 18 (by kernel_rfl) ?_ ?_
                ·
                  refine h_yield 15 rfl rfl rfl rfl (y_val tok rfl) ?_
                  refine h_three 16 17 18 (by kernel_rfl) ?_ ?_ ?_
                  ·
                    refine h_yield 16 rfl rfl rfl rfl (y_val tok rfl) ?_
                    refine h_two 17 18 (by kernel_rfl) ?_ ?_
                    ·
                      refine h_yield 17 rfl rfl rfl rfl (y_val tok rfl) ?_
                      refine h_one 18 (by kernel_rfl) ?_
                      refine h_new 18 tok rfl rfl rfl rfl rfl rfl ?_
                      refine h_one 19 (by kernel_rfl) ?_
                      refine h_store 19 tok rfl rfl rfl rfl (by first | exact ⟨trivial, trivial⟩ | (repeat' first | exact trivial | exact rfl | apply And.intro); done | simp [onesP, oneP, lk, Value.oneCell']) (.inr ⟨(by repeat (first | exact SubO.nil | refine SubO.cons rfl ?_)), rfl, (by first | exact Vw.le.refl _ | assumption)⟩) ?_
                      refine h_one 20 (by kernel_rfl) ?_
                      refine h_yield 20 rfl rfl rfl rfl (y_val tok rfl) ?_
                      refine h_done [2, 3, 4, 5, 6, 11, 12, 13, 14] (by kernel_rfl) rfl ?_
                      exact x_meet () trivial (by repeat (first | exact SubF.nil | refine SubF.cons rfl ?_)) (by repeat (first | exact SubO.nil | refine SubO.cons rfl ?_)) rfl (Vw.le.refl _)
                    ·
                      refine h_new 18 tok rfl rfl rfl rfl rfl rfl ?_
                      refine h_two 17 19 (by kernel_rfl) ?_ ?_
                      ·
                        refine h_yield 17 rfl rfl rfl rfl (y_val tok rfl) ?_
                        refine h_one 19 (by kernel_rfl) ?_
                        refine h_store 19 tok rfl rfl rfl rfl (by first | exact ⟨trivial, trivial⟩ | (repeat' first | exact trivial | exact rfl | apply And.intro); done | simp [onesP, oneP, lk, Value.oneCell']) (.inr ⟨(by repeat (first | exact SubO.nil | refine SubO.cons rfl ?_)), rfl, (by first | exact Vw.le.refl _ | assumption)⟩) ?_
                        refine h_one 20 (by kernel_rfl) ?_
                        refine h_yield 20 rfl rfl rfl rfl (y_val tok rfl) ?_
                        refine h_done [2, 3, 4, 5, 6, 11, 12, 13, 14] (by kernel_rfl) rfl ?_
                        exact x_meet () trivial (by repeat (first | exact SubF.nil | refine SubF.cons rfl ?_)) (by repeat (first | exact SubO.nil | refine SubO.cons rfl ?_)) rfl (Vw.le.refl _)
                      ·
                        refine h_store 19 tok rfl rfl rfl rfl (by first | exact ⟨trivial, trivial⟩ | (repeat' first | exact trivial | exact rfl | apply And.intro); done | simp [onesP, oneP, lk, Value.oneCell']) (.inr ⟨(by repeat (first | exact SubO.nil | refine SubO.cons rfl ?_)), rfl, (by first | exact Vw.le.refl _ | assumption)⟩) ?_
                        refine h_one 17 (by kernel_rfl) ?_
                        refine h_yield 17 rfl rfl rfl rfl (y_val tok rfl) ?_
                        refine h_one 20 (by kernel_rfl) ?_
                        refine h_yield 20 rfl rfl rfl rfl (y_val tok rfl) ?_
                        refine h_done [2, 3, 4, 5, 6, 11, 12, 13, 14] (by kernel_rfl) rfl ?_
                        exact x_meet () trivial (by repeat (first | exact SubF.nil | refine SubF.cons rfl ?_)) (by repeat (first | exact SubO.nil | refine SubO.cons rfl ?_)) rfl (Vw.le.refl _)
                  ·
                    refine h_yield 17 rfl rfl rfl rfl (y_val tok rfl) ?_
                    refine h_two 16 18 (by kernel_rfl) ?_ ?_
                    ·
                      refine h_yield 16 rfl rfl rfl rfl (y_val tok rfl) ?_
                      refine h_one 18 (by kernel_rfl) ?_
                      refine h_new 18 tok rfl rfl rfl rfl rfl rfl ?_
                      refine h_one 19 (by kernel_rfl) ?_
                      refine h_store 19 tok rfl rfl rfl rfl (by first | exact ⟨trivial, trivial⟩ | (repeat' first | exact trivial | exact rfl | apply And.intro); done | simp [onesP, oneP, lk, Value.oneCell']) (.inr ⟨(by repeat (first | exact SubO.nil | refine SubO.cons rfl ?_)), rfl, (by first | exact Vw.le.refl _ | assumption)⟩) ?_
                      refine h_one 20 (by kernel_rfl) ?_
                      refine h_yield 20 rfl rfl rfl rfl (y_val tok rfl) ?_
                      refine h_done [2, 3, 4, 5, 6, 11, 12, 13, 14] (by kernel_rfl) rfl ?_
                      exact x_meet () trivial (by repeat (first | exact SubF.nil | refine SubF.cons rfl ?_)) (by repeat (first | exact SubO.nil | refine SubO.cons rfl ?_)) rfl (Vw.le.refl _)
                    ·
                      refine h_new 18 tok rfl rfl rfl rfl rfl rfl ?_
                      refine h_one 16 (by kernel_rfl) ?_
                      refine h_yield 16 rfl rfl rfl rfl (y_val tok rfl) ?_
                      refine h_one 19 (by kernel_rfl) ?_
                      refine h_store 19 tok rfl rfl rfl rfl (by first | exact ⟨trivial, trivial⟩ | (repeat' first | exact trivial | exact rfl | apply And.intro); done | simp [onesP, oneP, lk, Value.oneCell']) (.inr ⟨(by repeat (first | exact SubO.nil | refine SubO.cons rfl ?_)), rfl, (by first | exact Vw.le.refl _ | assumption)⟩) ?_
                      refine h_one 20 (by kernel_rfl) ?_
                      refine h_yield 20 rfl rfl rfl rfl (y_val tok rfl) ?_
                      refine h_done [2, 3, 4, 5, 6, 11, 12, 13, 14] (by kernel_rfl) rfl ?_
                      exact x_meet () trivial (by repeat (first | exact SubF.nil | refine SubF.cons rfl ?_)) (by repeat (first | exact SubO.nil | refine SubO.cons rfl ?_)) rfl (Vw.le.refl _)
                  ·
                    refine h_new 18 tok rfl rfl rfl rfl rfl rfl ?_
                    refine h_two 16 17 (by kernel_rfl) ?_ ?_
                    ·
                      refine h_yield 16 rfl rfl rfl rfl (y_val tok rfl) ?_
                      refine h_two 17 19 (by kernel_rfl) ?_ ?_
                      ·
                        refine h_yield 17 rfl rfl rfl rfl (y_val tok rfl) ?_
                        refine h_one 19 (by kernel_rfl) ?_
                        refine h_store 19 tok rfl rfl rfl rfl (by first | exact ⟨trivial, trivial⟩ | (repeat' first | exact trivial | exact rfl | apply And.intro); done | simp [onesP, oneP, lk, Value.oneCell']) (.inr ⟨(by repeat (first | exact SubO.nil | refine SubO.cons rfl ?_)), rfl, (by first | exact Vw.le.refl _ | assumption)⟩) ?_
                        refine h_one 20 (by kernel_rfl) ?_
                        refine h_yield 20 rfl rfl rfl rfl (y_val tok rfl) ?_
                        refine h_done [2, 3, 4, 5, 6, 11, 12, 13, 14] (by kernel_rfl) rfl ?_
                        exact x_meet () trivial (by repeat (first | exact SubF.nil | refine SubF.cons rfl ?_)) (by repeat (first | exact SubO.nil | refine SubO.cons rfl ?_)) rfl (Vw.le.refl _)
                      ·
                        refine h_store 19 tok rfl rfl rfl rfl (by first | exact ⟨trivial, trivial⟩ | (repeat' first | exact trivial | exact rfl | apply And.intro); done | simp [onesP, oneP, lk, Value.oneCell']) (.inr ⟨(by repeat (first | exact SubO.nil | refine SubO.cons rfl ?_)), rfl, (by first | exact Vw.le.refl _ | assumption)⟩) ?_
                        refine h_one 17 (by kernel_rfl) ?_
                        refine h_yield 17 rfl rfl rfl rfl (y_val tok rfl) ?_
                        refine h_one 20 (by kernel_rfl) ?_
                        refine h_yield 20 rfl rfl rfl rfl (y_val tok rfl) ?_
                        refine h_done [2, 3, 4, 5, 6, 11, 12, 13, 14] (by kernel_rfl) rfl ?_
                        exact x_meet () trivial (by repeat (first | exact SubF.nil | refine SubF.cons rfl ?_)) (by repeat (first | exact SubO.nil | refine SubO.cons rfl ?_)) rfl (Vw.le.refl _)
                    ·
                      refine h_yield 17 rfl rfl rfl rfl (y_val tok rfl) ?_
                      refine h_one 16 (by kernel_rfl) ?_
                      refine h_yield 16 rfl rfl rfl rfl (y_val tok rfl) ?_
                      refine h_one 19 (by kernel_rfl) ?_
                      refine h_store 19 tok rfl rfl rfl rfl (by first | exact ⟨trivial, trivial⟩ | (repeat' first | exact trivial | exact rfl | apply And.intro); done | simp [onesP, oneP, lk, Value.oneCell']) (.inr ⟨(by repeat (first | exact SubO.nil | refine SubO.cons rfl ?_)), rfl, (by first | exact Vw.le.refl _ | assumption)⟩) ?_
                      refine h_one 20 (by kernel_rfl) ?_
                      refine h_yield 20 rfl rfl rfl rfl (y_val tok rfl) ?_
                      refine h_done [2, 3, 4, 5, 6, 11, 12, 13, 14] (by kernel_rfl) rfl ?_
                      exact x_meet () trivial (by repeat (first | exact SubF.nil | refine SubF.cons rfl ?_)) (by repeat (first | exact SubO.nil | refine SubO.cons rfl ?_)) rfl (Vw.le.refl _)
                ·
                  refine h_new 18 tok rfl rfl rfl rfl rfl rfl ?_
                  refine h_one 15 (by kernel_rfl) ?_
                  refine h_yield 15 rfl rfl rfl rfl (y_val tok rfl) ?_
                  refine h_two 16 17 (by kernel_rfl) ?_ ?_
                  ·
                    refine h_yield 16 rfl rfl rfl rfl (y_val tok rfl) ?_
                    refine h_two 17 19 (by kernel_rfl) ?_ ?_
                    ·
                      refine h_yield 17 rfl rfl rfl rfl (y_val tok rfl) ?_
                      refine h_one 19 (by kernel_rfl) ?_
                      refine h_store 19 tok rfl rfl rfl rfl (by first | exact ⟨trivial, trivial⟩ | (repeat' first | exact trivial | exact rfl | apply And.intro); done | simp [onesP, oneP, lk, Value.oneCell']) (.inr ⟨(by repeat (first | exact SubO.nil | refine SubO.cons rfl ?_)), rfl, (by first | exact Vw.le.refl _ | assumption)⟩) ?_
                      refine h_one 20 (by kernel_rfl) ?_
                      refine h_yield 20 rfl rfl rfl rfl (y_val tok rfl) ?_
                      refine h_done [2, 3, 4, 5, 6, 11, 12, 13, 14] (by kernel_rfl) rfl ?_
                      exact x_meet () trivial (by repeat (first | exact SubF.nil | refine SubF.cons rfl ?_)) (by repeat (first | exact SubO.nil | refine SubO.cons rfl ?_)) rfl (Vw.le.refl _)
                    ·
                      refine h_store 19 tok rfl rfl rfl rfl (by first | exact ⟨trivial, trivial⟩ | (repeat' first | exact trivial | exact rfl | apply And.intro); done | simp [onesP, oneP, lk, Value.oneCell']) (.inr ⟨(by repeat (first | exact SubO.nil | refine SubO.cons rfl ?_)), rfl, (by first | exact Vw.le.refl _ | assumption)⟩) ?_
                      refine h_one 17 (by kernel_rfl) ?_
                      refine h_yield 17 rfl rfl rfl rfl (y_val tok rfl) ?_
                      refine h_one 20 (by kernel_rfl) ?_
                      refine h_yield 20 rfl rfl rfl rfl (y_val tok rfl) ?_
                      refine h_done [2, 3, 4, 5, 6, 11, 12, 13, 14] (by kernel_rfl) rfl ?_
                      exact x_meet () trivial (by repeat (first | exact SubF.nil | refine SubF.cons rfl ?_)) (by repeat (first | exact SubO.nil | refine SubO.cons rfl ?_)) rfl (Vw.le.refl _)
                  ·
                    refine h_yield 17 rfl rfl rfl rfl (y_val tok rfl) ?_
                    refine h_one 16 (by kernel_rfl) ?_
                    refine h_yield 16 rfl rfl rfl rfl (y_val tok rfl) ?_
                    refine h_one 19 (by kernel_rfl) ?_
                    refine h_store 19 tok rfl rfl rfl rfl (by first | exact ⟨trivial, trivial⟩ | (repeat' first | exact trivial | exact rfl | apply And.intro); done | simp [onesP, oneP, lk, Value.oneCell']) (.inr ⟨(by repeat (first | exact SubO.nil | refine SubO.cons rfl ?_)), rfl, (by first | exact Vw.le.refl _ | assumption)⟩) ?_
                    refine h_one 20 (by kernel_rfl) ?_
                    refine h_yield 20 rfl rfl rfl rfl (y_val tok rfl) ?_
                    refine h_done [2, 3, 4, 5, 6, 11, 12, 13, 14] (by kernel_rfl) rfl ?_
                    exact x_meet () trivial (by repeat (first | exact SubF.nil | refine SubF.cons rfl ?_)) (by repeat (first | exact SubO.nil | refine SubO.cons rfl ?_)) rfl (Vw.le.refl _)
              ·
                refine h_new 18 tok rfl rfl rfl rfl rfl rfl ?_
                refine h_one 14 (by kernel_rfl) ?_
                refine h_call 14 (.a (.v (.tuple #[R.val, .bool b]))) rfl rfl rfl fnok192 rfl rfl rfl (fun hg E w1 hm => by exact hisc _) ?_
                refine h_one 15 (by kernel_rfl) ?_
                refine h_yield 15 rfl rfl rfl rfl (y_val tok rfl) ?_
                refine h_two 16 17 (by kernel_rfl) ?_ ?_
                ·
                  refine h_yield 16 rfl rfl rfl rfl (y_val tok rfl) ?_
                  refine h_two 17 19 (by kernel_rfl) ?_ ?_
                  ·
                    refine h_yield 17 rfl rfl rfl rfl (y_val tok rfl) ?_
                    refine h_one 19 (by kernel_rfl) ?_
                    refine h_store 19 tok rfl rfl rfl rfl (by first | exact ⟨trivial, trivial⟩ | (repeat' first | exact trivial | exact rfl | apply And.intro); done | simp [onesP, oneP, lk, Value.oneCell']) (.inr ⟨(by repeat (first | exact SubO.nil | refine SubO.cons rfl ?_)), rfl, (by first | exact Vw.le.refl _ | assumption)⟩) ?_
                    refine h_one 20 (by kernel_rfl) ?_
                    refine h_yield 20 rfl rfl rfl rfl (y_val tok rfl) ?_
                    refine h_done [2, 3, 4, 5, 6, 11, 12, 13, 14] (by kernel_rfl) rfl ?_
                    exact x_meet () trivial (by repeat (first | exact SubF.nil | refine SubF.cons rfl ?_)) (by repeat (first | exact SubO.nil | refine SubO.cons rfl ?_)) rfl (Vw.le.refl _)
                  ·
                    refine h_store 19 tok rfl rfl rfl rfl (by first | exact ⟨trivial, trivial⟩ | (repeat' first | exact trivial | exact rfl | apply And.intro); done | simp [onesP, oneP, lk, Value.oneCell']) (.inr ⟨(by repeat (first | exact SubO.nil | refine SubO.cons rfl ?_)), rfl, (by first | exact Vw.le.refl _ | assumption)⟩) ?_
                    refine h_one 17 (by kernel_rfl) ?_
                    refine h_yield 17 rfl rfl rfl rfl (y_val tok rfl) ?_
                    refine h_one 20 (by kernel_rfl) ?_
                    refine h_yield 20 rfl rfl rfl rfl (y_val tok rfl) ?_
                    refine h_done [2, 3, 4, 5, 6, 11, 12, 13, 14] (by kernel_rfl) rfl ?_
                    exact x_meet () trivial (by repeat (first | exact SubF.nil | refine SubF.cons rfl ?_)) (by repeat (first | exact SubO.nil | refine SubO.cons rfl ?_)) rfl (Vw.le.refl _)
                ·
                  refine h_yield 17 rfl rfl rfl rfl (y_val tok rfl) ?_
                  refine h_one 16 (by kernel_rfl) ?_
                  refine h_yield 16 rfl rfl rfl rfl (y_val tok rfl) ?_
                  refine h_one 19 (by kernel_rfl) ?_
                  refine h_store 19 tok rfl rfl rfl rfl (by first | exact ⟨trivial, trivial⟩ | (repeat' first | exact trivial | exact rfl | apply And.intro); done | simp [onesP, oneP, lk, Value.oneCell']) (.inr ⟨(by repeat (first | exact SubO.nil | refine SubO.cons rfl ?_)), rfl, (by first | exact Vw.le.refl _ | assumption)⟩) ?_
                  refine h_one 20 (by kernel_rfl) ?_
                  refine h_yield 20 rfl rfl rfl rfl (y_val tok rfl) ?_
                  refine h_done [2, 3, 4, 5, 6, 11, 12, 13, 14] (by kernel_rfl) rfl ?_
                  exact x_meet () trivial (by repeat (first | exact SubF.nil | refine SubF.cons rfl ?_)) (by repeat (first | exact SubO.nil | refine SubO.cons rfl ?_)) rfl (Vw.le.refl _)
            ·
              refine h_new 18 tok rfl rfl rfl rfl rfl rfl ?_
              refine h_one 9 (by kernel_rfl) ?_
              refine h_yield 9 rfl rfl rfl rfl (y_lel (enc := encS) (l := D) tok q 0 s rfl (fun hg => hs) (fun hg => h_s) (by simp) rfl) ?_
              refine h_one 14 (by kernel_rfl) ?_
              refine h_call 14 (.a (.v (.tuple #[R.val, .bool b]))) rfl rfl rfl fnok192 rfl rfl rfl (fun hg E w1 hm => by exact hisc _) ?_
              refine h_one 15 (by kernel_rfl) ?_
              refine h_yield 15 rfl rfl rfl rfl (y_val tok rfl) ?_
              refine h_two 16 17 (by kernel_rfl) ?_ ?_
              ·
                refine h_yield 16 rfl rfl rfl rfl (y_val tok rfl) ?_
                refine h_two 17 19 (by kernel_rfl) ?_ ?_
                ·
                  refine h_yield 17 rfl rfl rfl rfl (y_val tok rfl) ?_
                  refine h_one 19 (by kernel_rfl) ?_
                  refine h_store 19 tok rfl rfl rfl rfl (by first | exact ⟨trivial, trivial⟩ | (repeat' first | exact trivial | exact rfl | apply And.intro); done | simp [onesP, oneP, lk, Value.oneCell']) (.inr ⟨(by repeat (first | exact SubO.nil | refine SubO.cons rfl ?_)), rfl, (by first | exact Vw.le.refl _ | assumption)⟩) ?_
                  refine h_one 20 (by kernel_rfl) ?_
                  refine h_yield 20 rfl rfl rfl rfl (y_val tok rfl) ?_
                  refine h_done [2, 3, 4, 5, 6, 11, 12, 13, 14] (by kernel_rfl) rfl ?_
                  exact x_meet () trivial (by repeat (first | exact SubF.nil | refine SubF.cons rfl ?_)) (by repeat (first | exact SubO.nil | refine SubO.cons rfl ?_)) rfl (Vw.le.refl _)
                ·
                  refine h_store 19 tok rfl rfl rfl rfl (by first | exact ⟨trivial, trivial⟩ | (repeat' first | exact trivial | exact rfl | apply And.intro); done | simp [onesP, oneP, lk, Value.oneCell']) (.inr ⟨(by repeat (first | exact SubO.nil | refine SubO.cons rfl ?_)), rfl, (by first | exact Vw.le.refl _ | assumption)⟩) ?_
                  refine h_one 17 (by kernel_rfl) ?_
                  refine h_yield 17 rfl rfl rfl rfl (y_val tok rfl) ?_
                  refine h_one 20 (by kernel_rfl) ?_
                  refine h_yield 20 rfl rfl rfl rfl (y_val tok rfl) ?_
                  refine h_done [2, 3, 4, 5, 6, 11, 12, 13, 14] (by kernel_rfl) rfl ?_
                  exact x_meet () trivial (by repeat (first | exact SubF.nil | refine SubF.cons rfl ?_)) (by repeat (first | exact SubO.nil | refine SubO.cons rfl ?_)) rfl (Vw.le.refl _)
              ·
                refine h_yield 17 rfl rfl rfl rfl (y_val tok rfl) ?_
                refine h_one 16 (by kernel_rfl) ?_
                refine h_yield 16 rfl rfl rfl rfl (y_val tok rfl) ?_
                refine h_one 19 (by kernel_rfl) ?_
                refine h_store 19 tok rfl rfl rfl rfl (by first | exact ⟨trivial, trivial⟩ | (repeat' first | exact trivial | exact rfl | apply And.intro); done | simp [onesP, oneP, lk, Value.oneCell']) (.inr ⟨(by repeat (first | exact SubO.nil | refine SubO.cons rfl ?_)), rfl, (by first | exact Vw.le.refl _ | assumption)⟩) ?_
                refine h_one 20 (by kernel_rfl) ?_
                refine h_yield 20 rfl rfl rfl rfl (y_val tok rfl) ?_
                refine h_done [2, 3, 4, 5, 6, 11, 12, 13, 14] (by kernel_rfl) rfl ?_
                exact x_meet () trivial (by repeat (first | exact SubF.nil | refine SubF.cons rfl ?_)) (by repeat (first | exact SubO.nil | refine SubO.cons rfl ?_)) rfl (Vw.le.refl _)
          ·
            refine h_new 18 tok rfl rfl rfl rfl rfl rfl ?_
            refine h_one 8 (by kernel_rfl) ?_
            refine h_yield 8 rfl rfl rfl rfl (y_idxK tok q rfl (by simp) (fun hg => hs.sl) (fun hg => by omega)) ?_
            refine h_one 9 (by kernel_rfl) ?_
            refine h_yield 9 rfl rfl rfl rfl (y_lel (enc := encS) (l := D) tok q 0 s rfl (fun hg => hs) (fun hg => h_s) (by simp) rfl) ?_
            refine h_one 14 (by kernel_rfl) ?_
            refine h_call 14 (.a (.v (.tuple #[R.val, .bool b]))) rfl rfl rfl fnok192 rfl rfl rfl (fun hg E w1 hm => by exact hisc _) ?_
            refine h_one 15 (by kernel_rfl) ?_
            refine h_yield 15 rfl rfl rfl rfl (y_val tok rfl) ?_
            refine h_two 16 17 (by kernel_rfl) ?_ ?_
            ·
              refine h_yield 16 rfl rfl rfl rfl (y_val tok rfl) ?_
              refine h_two 17 19 (by kernel_rfl) ?_ ?_
              ·
                refine h_yield 17 rfl rfl rfl rfl (y_val tok rfl) ?_
                refine h_one 19 (by kernel_rfl) ?_
                refine h_store 19 tok rfl rfl rfl rfl (by first | exact ⟨trivial, trivial⟩ | (repeat' first | exact trivial | exact rfl | apply And.intro); done | simp [onesP, oneP, lk, Value.oneCell']) (.inr ⟨(by repeat (first | exact SubO.nil | refine SubO.cons rfl ?_)), rfl, (by first | exact Vw.le.refl _ | assumption)⟩) ?_
                refine h_one 20 (by kernel_rfl) ?_
                refine h_yield 20 rfl rfl rfl rfl (y_val tok rfl) ?_
                refine h_done [2, 3, 4, 5, 6, 11, 12, 13, 14] (by kernel_rfl) rfl ?_
                exact x_meet () trivial (by repeat (first | exact SubF.nil | refine SubF.cons rfl ?_)) (by repeat (first | exact SubO.nil | refine SubO.cons rfl ?_)) rfl (Vw.le.refl _)
              ·
                refine h_store 19 tok rfl rfl rfl rfl (by first | exact ⟨trivial, trivial⟩ | (repeat' first | exact trivial | exact rfl | apply And.intro); done | simp [onesP, oneP, lk, Value.oneCell']) (.inr ⟨(by repeat (first | exact SubO.nil | refine SubO.cons rfl ?_)), rfl, (by first | exact Vw.le.refl _ | assumption)⟩) ?_
                refine h_one 17 (by kernel_rfl) ?_
                refine h_yield 17 rfl rfl rfl rfl (y_val tok rfl) ?_
                refine h_one 20 (by kernel_rfl) ?_
                refine h_yield 20 rfl rfl rfl rfl (y_val tok rfl) ?_
                refine h_done [2, 3, 4, 5, 6, 11, 12, 13, 14] (by kernel_rfl) rfl ?_
                exact x_meet () trivial (by repeat (first | exact SubF.nil | refine SubF.cons rfl ?_)) (by repeat (first | exact SubO.nil | refine SubO.cons rfl ?_)) rfl (Vw.le.refl _)
            ·
              refine h_yield 17 rfl rfl rfl rfl (y_val tok rfl) ?_
              refine h_one 16 (by kernel_rfl) ?_
              refine h_yield 16 rfl rfl rfl rfl (y_val tok rfl) ?_
              refine h_one 19 (by kernel_rfl) ?_
              refine h_store 19 tok rfl rfl rfl rfl (by first | exact ⟨trivial, trivial⟩ | (repeat' first | exact trivial | exact rfl | apply And.intro); done | simp [onesP, oneP, lk, Value.oneCell']) (.inr ⟨(by repeat (first | exact SubO.nil | refine SubO.cons rfl ?_)), rfl, (by first | exact Vw.le.refl _ | assumption)⟩) ?_
              refine h_one 20 (by kernel_rfl) ?_
              refine h_yield 20 rfl rfl rfl rfl (y_val tok rfl) ?_
              refine h_done [2, 3, 4, 5, 6, 11, 12, 13, 14] (by kernel_rfl) rfl ?_
              exact x_meet () trivial (by repeat (first | exact SubF.nil | refine SubF.cons rfl ?_)) (by repeat (first | exact SubO.nil | refine SubO.cons rfl ?_)) rfl (Vw.le.refl _)
        ·
          refine h_new 18 tok rfl rfl rfl rfl rfl rfl ?_
          refine h_one 7 (by kernel_rfl) ?_
          refine h_call 7 (.a (.v (I (q : Int)))) rfl rfl rfl fnok66 rfl rfl rfl (fun hg E w1 hm => by exact hjc _) ?_
          refine h_one 8 (by kernel_rfl) ?_
          refine h_yield 8 rfl rfl rfl rfl (y_idxK tok q rfl (by simp) (fun hg => hs.sl) (fun hg => by omega)) ?_
          refine h_one 9 (by kernel_rfl) ?_
          refine h_yield 9 rfl rfl rfl rfl (y_lel (enc := encS) (l := D) tok q 0 s rfl (fun hg => hs) (fun hg => h_s) (by simp) rfl) ?_
          refine h_one 14 (by kernel_rfl) ?_
          refine h_call 14 (.a (.v (.tuple #[R.val, .bool b]))) rfl rfl rfl fnok192 rfl rfl rfl (fun hg E w1 hm => by exact hisc _) ?_
          refine h_one 15 (by kernel_rfl) ?_
          refine h_yield 15 rfl rfl rfl rfl (y_val tok rfl) ?_
          refine h_two 16 17 (by kernel_rfl) ?_ ?_
          ·
            refine h_yield 16 rfl rfl rfl rfl (y_val tok rfl) ?_
            refine h_two 17 19 (by kernel_rfl) ?_ ?_
            ·
              refine h_yield 17 rfl rfl rfl rfl (y_val tok rfl) ?_
              refine h_one 19 (by kernel_rfl) ?_
              refine h_store 19 tok rfl rfl rfl rfl (by first | exact ⟨trivial, trivial⟩ | (repeat' first | exact trivial | exact rfl | apply And.intro); done | simp [onesP, oneP, lk, Value.oneCell']) (.inr ⟨(by repeat (first | exact SubO.nil | refine SubO.cons rfl ?_)), rfl, (by first | exact Vw.le.refl _ | assumption)⟩) ?_
              refine h_one 20 (by kernel_rfl) ?_
              refine h_yield 20 rfl rfl rfl rfl (y_val tok rfl) ?_
              refine h_done [2, 3, 4, 5, 6, 11, 12, 13, 14] (by kernel_rfl) rfl ?_
              exact x_meet () trivial (by repeat (first | exact SubF.nil | refine SubF.cons rfl ?_)) (by repeat (first | exact SubO.nil | refine SubO.cons rfl ?_)) rfl (Vw.le.refl _)
            ·
              refine h_store 19 tok rfl rfl rfl rfl (by first | exact ⟨trivial, trivial⟩ | (repeat' first | exact trivial | exact rfl | apply And.intro); done | simp [onesP, oneP, lk, Value.oneCell']) (.inr ⟨(by repeat (first | exact SubO.nil | refine SubO.cons rfl ?_)), rfl, (by first | exact Vw.le.refl _ | assumption)⟩) ?_
              refine h_one 17 (by kernel_rfl) ?_
              refine h_yield 17 rfl rfl rfl rfl (y_val tok rfl) ?_
              refine h_one 20 (by kernel_rfl) ?_
              refine h_yield 20 rfl rfl rfl rfl (y_val tok rfl) ?_
              refine h_done [2, 3, 4, 5, 6, 11, 12, 13, 14] (by kernel_rfl) rfl ?_
              exact x_meet () trivial (by repeat (first | exact SubF.nil | refine SubF.cons rfl ?_)) (by repeat (first | exact SubO.nil | refine SubO.cons rfl ?_)) rfl (Vw.le.refl _)
          ·
            refine h_yield 17 rfl rfl rfl rfl (y_val tok rfl) ?_
            refine h_one 16 (by kernel_rfl) ?_
            refine h_yield 16 rfl rfl rfl rfl (y_val tok rfl) ?_
            refine h_one 19 (by kernel_rfl) ?_
            refine h_store 19 tok rfl rfl rfl rfl (by first | exact ⟨trivial, trivial⟩ | (repeat' first | exact trivial | exact rfl | apply And.intro); done | simp [onesP, oneP, lk, Value.oneCell']) (.inr ⟨(by repeat (first | exact SubO.nil | refine SubO.cons rfl ?_)), rfl, (by first | exact Vw.le.refl _ | assumption)⟩) ?_
            refine h_one 20 (by kernel_rfl) ?_
            refine h_yield 20 rfl rfl rfl rfl (y_val tok rfl) ?_
            refine h_done [2, 3, 4, 5, 6, 11, 12, 13, 14] (by kernel_rfl) rfl ?_
            exact x_meet () trivial (by repeat (first | exact SubF.nil | refine SubF.cons rfl ?_)) (by repeat (first | exact SubO.nil | refine SubO.cons rfl ?_)) rfl (Vw.le.refl _)
      rintro ⟨⟩ -
      refine x_then ?_
      refine c_seq ?_
      refine c_seq ?_
      refine c_region ?_
      refine o_yield rfl rfl rfl (y_val tok rfl) ?_
      refine o_yield rfl rfl rfl (y_val tok rfl) ?_
      refine o_end [2, 3, 4, 5, 6, 11, 12, 13, 53] rfl ?_
      refine x_then ?_
      refine c_cond rfl (fun h => ?_) (fun h => ?_)
      ·
        refine c_exit ?_
        refine x_then_exit ?_
        refine x_block_miss rfl ?_
        refine x_then_exit ?_
        refine x_then_exit ?_
        refine x_block_hit ?_
        refine x_then ?_
        refine c_seq ?_
        refine c_region ?_
        refine o_yield rfl rfl rfl (y_val tok rfl) ?_
        refine o_yield rfl rfl rfl (y_val tok rfl) ?_
        refine o_end [10] rfl ?_
        refine x_then ?_
        refine c_ret ?_
        refine b_ret tok rfl ?_
        rcases hcase with ⟨_, hb2, _⟩ | ⟨hiA, _⟩
        · rw [hb2] at h; simp at h
        · have hA : A.take i = A := List.take_of_length_le (by omega)
          rw [hA]
          intro E w' hm _
          exact ⟨⟨E.κ 2, rfl, hm.rowFresh (Vw.le.refl _) (l := 2) rfl⟩, hm.below (Vw.le.refl _)⟩
      ·
        rcases hcase with ⟨hlt, hb2, hRA⟩ | ⟨_, hb2⟩
        · have htk := take_succ_at' hRA
          have hx : (A.take i).length + 1 = (A.take (i + 1)).length ∧ (A.take i).flatMap Record.cells ++ R.cells = (A.take (i + 1)).flatMap Record.cells := by rw [htk]; simp
          have hti : (A.take i).length = i := by rw [List.length_take]; omega
          refine c_skip ?_
          refine x_then ?_
          refine c_region ?_
          refine o_yield rfl rfl rfl (y_val tok rfl) ?_
          refine o_yield rfl rfl rfl (y_val tok rfl) ?_
          refine o_step rfl rfl rfl rfl rfl (s_bs tok 6 rfl rfl rfl) (fun _ _ => ?_)
          refine o_step rfl rfl rfl rfl rfl (s_app tok R.cells rfl (fun E w hm => ownsRow_src (hm.row _ _ _ _ _ rfl)) (fun _ _ _ => by simpa using rec_ones [R]) (by dsimp only; omega)) (fun _ _ => ?_)
          refine o_yield rfl rfl rfl (y_val tok rfl) ?_
          refine o_end [2, 3, 4, 5, 6, 11, 12] rfl ?_
          refine x_block ?_
          refine x_then ?_
          refine c_region ?_
          refine o_yield rfl rfl rfl (y_val tok rfl) ?_
          refine o_yield rfl rfl rfl (y_val tok rfl) ?_
          refine o_yield rfl rfl rfl (y_val tok rfl) ?_
          refine o_end [2, 3, 4, 5, 6, 11, 12] rfl ?_
          refine x_then ?_
          rw [hx.1, hx.2, hwi]
          refine k_swap 2 5 rfl ?_
          refine x_round (i + 1) (by omega) (by first | omega | (dsimp only; omega)) (by repeat (first | exact SubF.nil | refine SubF.cons rfl ?_)) (by repeat (first | exact SubO.nil | refine SubO.cons rfl ?_)) rfl (Vw.le.refl _)
        · rw [hb2] at h; simp at h
    ·
      simp only [Bool.and_eq_true, Bool.or_eq_true, Bool.not_eq_true', Bool.or_eq_false_iff, Bool.and_eq_false_iff, decide_eq_true_eq, decide_eq_false_iff_not, beq_iff_eq, bne_iff_ne, Bool.not_eq_false', beq_eq_false_iff_ne, bne_eq_false_iff_eq, ne_eq, Decidable.not_not, Int.not_lt, Int.not_le] at h
      refine c_exit ?_
      refine x_then_exit ?_
      refine x_then_exit ?_
      refine x_block_hit ?_
      refine x_then ?_
      refine c_seq ?_
      refine c_region ?_
      refine o_yield rfl rfl rfl (y_val tok rfl) ?_
      refine o_yield rfl rfl rfl (y_val tok rfl) ?_
      refine o_end [10] rfl ?_
      refine x_then ?_
      refine c_ret ?_
      refine b_ret tok rfl ?_
      have hA : A.take i = A := List.take_of_length_le (by omega)
      rw [hA]
      intro E w' hm _
      exact ⟨⟨E.κ 2, rfl, hm.rowFresh (Vw.le.refl _) (l := 2) rfl⟩, hm.below (Vw.le.refl _)⟩

def JourP (tail : Int) (L : List Record) (w : World) (e : Ending) (w' : World) : Prop :=
  (∃ v, e = .returned (.tuple #[v, I tail, I 0]) ∧ w'.ownsRow w.heap.size 99 6 v L.length (L.flatMap Record.cells)) ∧ Below w.heap.size w w'

theorem rjournal_c (V : Vw) (g : Geo) (ok : g.Ok) (key tail : Int) (D : List ByteArray) (A : List Record) (hJ : JInv g key tail D A) (a : Option Addr) (n c : Nat) (w : World) (hV : V.le (vw w)) (hs0 : SlOf V encS 1 (.slice a n c) D) :
    Calls Try.prog 28 #[g.val, devV (.slice a n c), I 0, I key] w (JourP tail (A.take (whole A)) w) := by
  have hs := hs0.mono hV
  have hf := geo_facts hJ.geo
  have hfew := hJ.few
  have hz := geo_sizes hJ.geo
  refine enter (E := E0) (O := []) (nl := 0) (V := vw w) [.a (.v g.val), .a (.v (devV (.slice a n c))), .a (.v (I 0)), .a (.v (I key))] Try.func28 rfl rfl (mem0 E0 0 w) rfl rfl ?_
  refine c_seq ?_
  refine c_region ?_
  refine o_new tok rfl rfl rfl rfl ?_
  refine o_new tok rfl rfl rfl rfl ?_
  refine o_yield rfl rfl rfl (y_val tok rfl) ?_
  refine o_yield rfl rfl rfl (y_val tok rfl) ?_
  refine o_yield rfl rfl rfl (y_val tok rfl) ?_
  refine o_end [2, 3, 4, 5] rfl ?_
  refine x_then ?_
  refine c_seq ?_
  refine c_region ?_
  refine o_yield rfl rfl rfl (y_val tok rfl) ?_
  refine o_yield rfl rfl rfl (y_val tok rfl) ?_
  refine o_yield rfl rfl rfl (y_val tok rfl) ?_
  refine o_call (.a (.v _)) rfl rfl fnok104 rfl rfl rfl (fun hg E w1 hm => by exact rtail17_c (vw w) g ok key tail D A hJ _ _ _ _ hm.leV hs) ?_
  refine o_yield rfl rfl rfl (y_val tok rfl) ?_
  refine o_yield rfl rfl rfl (y_val tok rfl) ?_
  refine o_yield rfl rfl rfl (y_val tok rfl) ?_
  refine o_yield rfl rfl rfl (y_val tok rfl) ?_
  refine o_yield rfl rfl rfl (y_val tok rfl) ?_
  refine o_end [2, 3, 4, 5, 11, 12] rfl ?_
  refine x_then ?_
  refine c_seq ?_
  refine c_seq ?_
  refine c_region ?_
  refine o_yield rfl rfl rfl (y_val tok rfl) ?_
  refine o_yield rfl rfl rfl (y_val tok rfl) ?_
  refine o_end [2, 3, 4, 5, 11, 12, 21] rfl ?_
  refine x_then ?_
  refine c_cond rfl (fun h => ?_) (fun h => ?_)
  ·
    refine c_seq ?_
    refine c_region ?_
    refine o_yield rfl rfl rfl (y_val tok rfl) ?_
    refine o_yield rfl rfl rfl (y_val tok rfl) ?_
    refine o_yield rfl rfl rfl (y_val tok rfl) ?_
    refine o_yield rfl rfl rfl (y_val tok rfl) ?_
    refine o_end [8, 9, 10] rfl ?_
    refine x_then ?_
    refine c_ret ?_
    refine x_then_ret ?_
    refine b_ret tok rfl ?_
    exact absurd h (by simp)
  ·
    refine c_skip ?_
    refine x_then ?_
    refine c_seq ?_
    refine c_region ?_
    refine o_yield rfl rfl rfl (y_val tok rfl) ?_
    refine o_yield rfl rfl rfl (y_val tok rfl) ?_
    refine o_yield rfl rfl rfl (y_val tok rfl) ?_
    refine o_yield rfl rfl rfl (y_val tok rfl) ?_
    refine o_yield rfl rfl rfl (y_val tok rfl) ?_
    refine o_step rfl rfl rfl rfl rfl (s_callRow 99 6 A.length (A.flatMap Record.cells) rfl fnok106 (fun E w1 hm => (rrows_c (vw w) g ok key tail D A hJ _ _ _ w1 hm.leV hs).mono (fun e w' ⟨⟨v, he, ho⟩, hb⟩ => ⟨v, he, ho, hb⟩))) (fun _ _ => ?_)
    refine o_step rfl rfl rfl rfl rfl (s_callRow 99 6 (A.take (whole A)).length ((A.take (whole A)).flatMap Record.cells) rfl fnok105 (fun E w1 hm => (rWhole17_c (vw w1) _ A w1 (Vw.le.refl _) (hm.rowOf 2 rfl (fun _ => rfl)) (by omega)).mono (fun e w' ⟨⟨v, he, ho⟩, hb⟩ => ⟨v, he, ho, hb⟩))) (fun _ _ => ?_)
    refine o_yield rfl rfl rfl (y_val tok rfl) ?_
    refine o_yield rfl rfl rfl (y_val tok rfl) ?_
    refine o_yield rfl rfl rfl (y_val tok rfl) ?_
    refine o_yield rfl rfl rfl (y_val tok rfl) ?_
    refine o_end [8, 9, 10] rfl ?_
    refine x_then ?_
    refine c_ret ?_
    refine b_ret tok rfl ?_
    intro E w' hm _
    exact ⟨⟨E.κ 3, rfl, hm.rowFresh (Vw.le.refl _) (l := 3) rfl⟩, hm.below (Vw.le.refl _)⟩
end Go.Proofs.Ytflimioplnbopaa

/- Transactions put where they belong are scanned as they are: plain law. -/
set_option linter.unusedVariables false
set_option linter.unusedSimpArgs false
set_option maxRecDepth 100000
namespace Go.Proofs.Ytflimioplnbopaa
open Go Go.Eng Go.RowKit

theorem headS_small (n : Int) : (headS n).1.size ≤ 256 := by
  unfold headS
  split
  · simp only [strOf_size, sealL_len, leB, leTake_len]; decide
  · simp

theorem headR0 : ∃ hd : ByteArray, tailOk hd = some 0 ∧ hd.size ≤ 256 ∧ ∀ w, Calls Try.prog 19 #[I 0] w fun e w' => e = .returned (.tuple #[S hd, I 0]) ∧ Below w.heap.size w w' := by
  have h7 : fitsB 0 6 = true := by decide
  have e : headS 0 = (strOf (sealL 2 (leB 6 0)), 0) := by rw [headS, if_pos h7]
  have ht := tail_head h7
  rw [e] at ht
  refine ⟨strOf (sealL 2 (leB 6 0)), ht, ?_, fun w => ?_⟩
  · simp only [strOf_size, sealL_len]
    have : (leB 6 0).length = 6 := by simp [leB, leTake_len]
    omega
  · have := refHeadS_c 0 w
    rwa [e] at this

theorem jour_pos {g : Geo} (hG : geoB g = true) {l : Int} (hl : 0 ≤ l) : jourV g 0 l = headV g 0 + 1 + l % g.journal ∧ 0 ≤ l % g.journal ∧ l % g.journal < g.journal ∧ headV g 0 + 1 + l % g.journal < totV g ∧ 1 ≤ headV g 0 := by
  have hf := geo_facts hG
  have h1 := head_eq hG (i := 0) (by omega)
  have h2 := jour_eq hG (i := 0) (by omega) hl
  have h3 := Int.emod_nonneg l (b := g.journal) (by omega)
  have h4 := Int.emod_lt_of_pos l (b := g.journal) (by omega)
  have h5 : 1 * (1 + g.journal) ≤ g.slots * (1 + g.journal) := Int.mul_le_mul_of_nonneg_right (by omega) (by omega)
  have hd : dataAt g = 1 + 2 * g.nodes + g.log + g.slots * (1 + g.journal) := rfl
  have htt : totV g = dataAt g + g.blocks * g.per := by rw [totV, if_pos hG]
  have hm : 0 ≤ g.blocks * g.per := Int.mul_nonneg (by omega) (by omega)
  simp only [Int.natCast_zero, Int.zero_mul, Int.add_zero] at h1 h2
  omega

theorem emod_inj {t J : Int} {i j : Nat} (hi : (i : Int) < J) (hj : (j : Int) < J) (h : (t + i) % J = (t + j) % J) : i = j := by
  have h1 := (Int.emod_eq_emod_iff_emod_sub_eq_zero).1 h
  obtain ⟨c, hc⟩ := Int.dvd_of_emod_eq_zero h1
  have h2 : (i : Int) - j = J * c := by omega
  rcases Int.lt_trichotomy c 0 with h3 | h3 | h3
  · have := Int.mul_le_mul_of_nonneg_left (c := J) (show c ≤ -1 by omega) (by omega)
    rw [Int.mul_neg_one] at this
    omega
  · subst h3; omega
  · have := Int.mul_le_mul_of_nonneg_left (c := J) (show 1 ≤ c by omega) (by omega)
    rw [Int.mul_one] at this
    omega

theorem jinv_start {g : Geo} (hG : geoB g = true) (key : Int) {top hd : ByteArray} {tail : Int} (h0 : 0 ≤ tail) (h1 : tail ≤ 1073741824) :
    JInv g key tail ((fmtTo g top hd g.slots.toNat).set (headV g 0).toNat (headS tail).1) [] := by
  have hf := geo_facts hG
  have hl := fmtTo_len g top hd g.slots.toNat
  have hn := head_nn hG
  refine ⟨hG, by rw [List.length_set, hl]; omega, h0, h1, ⟨_, List.getElem?_set_self (by rw [hl]; omega), (headS_tail tail).2 ((headS_tail tail).1.2 ⟨h0, by omega⟩), headS_small tail⟩, by simp; omega, by simp, by simp, fun j _ hj => ?_⟩
  have hp := jour_pos hG (l := tail + j) (by omega)
  rw [List.getElem?_set_ne (by omega)]
  refine fmt_other hG top hd _ (by omega) _ (by omega) (by omega) fun k hk he => ?_
  have := head_jour hG (i := k) (k := 0) (l := tail + j) (by omega) (by omega) (by omega)
  simp only [Int.natCast_zero] at this
  omega

theorem JInv.step {g : Geo} {key tail : Int} {D : List ByteArray} {A : List Record} (h : JInv g key tail D A) (hlt : (A.length : Int) < g.journal) {r : Record} (hr : recB r = true) (hk : r.key = key) (hl : r.lsn = tail + A.length) :
    JInv g key tail (D.set (jourV g 0 (tail + A.length)).toNat (recBytes r)) (A ++ [r]) := by
  have h0 := h.tl0
  have hp := jour_pos h.geo (l := tail + A.length) (by omega)
  have hn := h.len
  refine ⟨h.geo, by rw [List.length_set, hn], h.tl0, h.tl1, ?_, by simp; omega, fun j r' hj => ?_, fun j r' hj => ?_, fun j h1 h2 => ?_⟩
  · obtain ⟨s, hs1, hs2⟩ := h.head
    exact ⟨s, by rw [List.getElem?_set_ne (by omega)]; exact hs1, hs2⟩
  · by_cases hc : j < A.length
    · rw [List.getElem?_append_left hc] at hj
      exact h.good j r' hj
    · have hlt := lt_of_at hj
      rw [List.length_append, List.length_singleton] at hlt
      have : j = A.length := by omega
      subst this
      rw [List.getElem?_append_right (Nat.le_refl _), Nat.sub_self] at hj
      simp at hj
      subst hj
      exact ⟨hr, hk, hl⟩
  · have hpj := jour_pos h.geo (l := tail + j) (by omega)
    by_cases hc : j < A.length
    · rw [List.getElem?_append_left hc] at hj
      have hne : jourV g 0 (tail + A.length) ≠ jourV g 0 (tail + j) := fun he => by
        have := emod_inj (J := g.journal) (t := tail) (i := A.length) (j := j) (by omega) (by omega) (by omega)
        omega
      rw [List.getElem?_set_ne (by omega)]
      exact h.at_ j r' hj
    · have hlt2 := lt_of_at hj
      rw [List.length_append, List.length_singleton] at hlt2
      have : j = A.length := by omega
      subst this
      rw [List.getElem?_append_right (Nat.le_refl _), Nat.sub_self] at hj
      simp at hj
      subst hj
      exact List.getElem?_set_self (by omega)
  · rw [List.length_append, List.length_singleton] at h1
    have hpj := jour_pos h.geo (l := tail + j) (by omega)
    have hne : jourV g 0 (tail + A.length) ≠ jourV g 0 (tail + j) := fun he => by
      have := emod_inj (J := g.journal) (t := tail) (i := A.length) (j := j) (by omega) (by omega) (by omega)
      omega
    rw [List.getElem?_set_ne (by omega)]
    exact h.rest j (by omega) h2

/-! Which text a transaction's data have. -/

theorem fold_none {n k : Int} : ∀ (l : List Record) (p : ByteArray), (∀ r ∈ l, isPc n k r = false) → l.foldl (fun p r => if isPc n k r = true then r.text else p) p = p
  | [], _, _ => rfl
  | r :: t, p, h => by
    rw [List.foldl_cons, h r (by simp), if_neg (by simp)]
    exact fold_none t p (fun x hx => h x (by simp [hx]))

theorem pieceF_none {l : List Record} {n k : Int} (h : ∀ r ∈ l, isPc n k r = false) : pieceF l n k = ByteArray.empty ∧ someF l n k = false :=
  ⟨fold_none l _ h, by rw [someF, List.any_eq_false]; exact fun r hr => by simp [h r hr]⟩

theorem pieceF_one {l : List Record} {n k : Int} {j : Nat} {r : Record} (hj : l[j]? = some r) (hr : isPc n k r = true) (hu : ∀ j' r', l[j']? = some r' → isPc n k r' = true → j' = j) : pieceF l n k = r.text ∧ someF l n k = true := by
  have hmem := List.mem_of_getElem? hj
  refine ⟨?_, by rw [someF, List.any_eq_true]; exact ⟨r, hmem, hr⟩⟩
  have hlt := lt_of_at hj
  have hsplit : l = l.take j ++ r :: l.drop (j + 1) := by rw [← drop_at hj, List.take_append_drop]
  rw [pieceF, hsplit, List.foldl_append, List.foldl_cons, hr, if_pos rfl]
  refine fold_none _ _ fun x hx => ?_
  obtain ⟨i, hi⟩ := List.mem_iff_getElem?.1 hx
  rw [List.getElem?_drop] at hi
  cases hq : isPc n k x with
  | false => rfl
  | true => have := hu _ _ hi hq; omega

theorem recs_at {key lsn : Int} {per : Nat} {l : List Block} {m j : Nat} {r : Record} (h : (recs key lsn per l m)[j]? = some r) : j < m ∧ r = recAt key lsn per l j := by
  have hlt := lt_of_at h
  rw [recs_len] at hlt
  have : (recs key lsn per l m)[j]? = some (recAt key lsn per l j) := by simp [recs, hlt]
  rw [this] at h
  exact ⟨hlt, (Option.some.inj h).symm⟩

theorem recs_get {key lsn : Int} {per : Nat} {l : List Block} {m j : Nat} (h : j < m) : (recs key lsn per l m)[j]? = some (recAt key lsn per l j) := by simp [recs, h]

theorem blk_asc {g : Geo} {l : List Block} (h : ∀ i b, l[i]? = some b → BlkOk g l i b) : ∀ (j : Nat) (b : Block), l[j]? = some b → 0 ≤ b.n ∧ ∀ (i : Nat) (a : Block), i < j → l[i]? = some a → a.n < b.n
  | 0, b, hb => by
    have := (h 0 b hb).last
    simp only [lastN] at this
    exact ⟨by omega, fun i a hi => by omega⟩
  | j + 1, b, hb => by
    have h1 := (h (j + 1) b hb).last
    obtain ⟨c, hc⟩ : ∃ c, l[j]? = some c := ⟨_, List.getElem?_eq_getElem (by have := lt_of_at hb; omega)⟩
    rw [lastN, blkAt_eq hc] at h1
    have ih := blk_asc h j c hc
    refine ⟨by omega, fun i a hi ha => ?_⟩
    by_cases he : i = j
    · subst he; rw [hc] at ha; cases ha; omega
    · have := ih.2 i a (by omega) ha
      omega

theorem blk_uniq {g : Geo} {l : List Block} (h : ∀ i b, l[i]? = some b → BlkOk g l i b) {i j : Nat} {a b : Block} (ha : l[i]? = some a) (hb : l[j]? = some b) (he : a.n = b.n) : i = j := by
  rcases Nat.lt_trichotomy i j with h1 | h1 | h1
  · have := (blk_asc h j b hb).2 i a h1 ha; omega
  · exact h1
  · have := (blk_asc h i a ha).2 j b h1 hb; omega

theorem isPc_at {key lsn : Int} {per : Nat} {l : List Block} {j : Nat} {n k : Int} : isPc n k (recAt key lsn per l j) = true ↔ (blkAt l (j / per)).n = n ∧ ((j % per : Nat) : Int) = k := by
  simp [isPc, recAt]

theorem text_in {g : Geo} {key lsn : Int} {l : List Block} (hok : OfOk g key lsn l) {i : Nat} {b : Block} (hb : l[i]? = some b) : textTo (recs key lsn g.per.toNat l (l.length * g.per.toNat)) b.n 8 = (b.text, true) := by
  have hf := geo_facts hok.geo
  obtain ⟨per, hper⟩ : ∃ p, g.per.toNat = p := ⟨_, rfl⟩
  have hp1 : 1 ≤ per ∧ per ≤ 8 := by omega
  have hsz := (hok.blks i b hb).size
  have hilt := lt_of_at hb
  rw [hper]
  have key' : ∀ k : Nat, k ≤ 8 → textTo (recs key lsn per l (l.length * per)) b.n k = (catTo b.text (min k per), decide (0 < k)) := by
    intro k
    induction k with
    | zero => intro _; simp [textTo, catTo]
    | succ k ih =>
      intro hk
      rw [textTo, ih (by omega)]
      by_cases hkp : k < per
      · have hjm : i * per + k < l.length * per := by
          have := Nat.mul_le_mul_right per (show i + 1 ≤ l.length by omega)
          rw [Nat.add_mul, Nat.one_mul] at this
          omega
        have hat := recAt_at key lsn per l hb hkp
        obtain ⟨h1, h2⟩ := pieceF_one (n := b.n) (k := k) (recs_get hjm) (by rw [hat]; simp [isPc]) (fun j' r' hj' hr' => by
          obtain ⟨hlt, rfl⟩ := recs_at hj'
          rw [isPc_at] at hr'
          have hq : j' / per < l.length := Nat.div_lt_of_lt_mul (by rw [Nat.mul_comm]; exact hlt)
          obtain ⟨c, hc⟩ : ∃ c, l[j' / per]? = some c := ⟨_, List.getElem?_eq_getElem hq⟩
          rw [blkAt_eq hc] at hr'
          have := blk_uniq hok.blks hc hb hr'.1
          have h3 := Nat.div_add_mod j' per
          rw [this, Nat.mul_comm] at h3
          have h4 : j' % per = k := by omega
          omega)
        rw [h1, h2, hat]
        rw [show min (k + 1) per = min k per + 1 by omega, catTo, show min k per = k by omega]
        simp
      · obtain ⟨h1, h2⟩ := pieceF_none (l := recs key lsn per l (l.length * per)) (n := b.n) (k := k) (fun r hr => by
          obtain ⟨j', hj'⟩ := List.mem_iff_getElem?.1 hr
          obtain ⟨hlt, rfl⟩ := recs_at hj'
          cases hq : isPc b.n k (recAt key lsn per l j') with
          | false => rfl
          | true =>
            rw [isPc_at] at hq
            have := Nat.mod_lt j' (show 0 < per by omega)
            omega)
        rw [h1, h2, show min (k + 1) per = min k per by omega]
        simp
        omega
  rw [key' 8 (by omega), show min 8 per = per by omega, cat_all (by omega)]
  rfl

theorem text_out {key lsn : Int} {per : Nat} {l : List Block} {n : Int} (hp : 0 < per) (h : ∀ b ∈ l, b.n ≠ n) : ∀ k, textTo (recs key lsn per l (l.length * per)) n k = (ByteArray.empty, false)
  | 0 => rfl
  | k + 1 => by
    rw [textTo, text_out hp h k]
    obtain ⟨h1, h2⟩ := pieceF_none (l := recs key lsn per l (l.length * per)) (n := n) (k := k) (fun r hr => by
      obtain ⟨j', hj'⟩ := List.mem_iff_getElem?.1 hr
      obtain ⟨hlt, rfl⟩ := recs_at hj'
      cases hq : isPc n k (recAt key lsn per l j') with
      | false => rfl
      | true =>
        rw [isPc_at] at hq
        have hq2 : j' / per < l.length := Nat.div_lt_of_lt_mul (by rw [Nat.mul_comm]; exact hlt)
        obtain ⟨c, hc⟩ : ∃ c, l[j' / per]? = some c := ⟨_, List.getElem?_eq_getElem hq2⟩
        rw [blkAt_eq hc] at hq
        exact absurd hq.1 (h c (List.mem_of_getElem? hc)))
    rw [h1, h2]; simp

/-! Rows that end at a transaction's end. -/

theorem lastG_data {n : Int} : ∀ (ds B cur : List Record) (acc : Option ByteArray), (∀ x ∈ ds, x.count = 0) → lastG n (ds ++ B) cur acc = lastG n B (cur ++ ds) acc
  | [], B, cur, acc, _ => by simp
  | x :: ds, B, cur, acc, h => by
    rw [List.cons_append, lastG, if_pos (h x (by simp)), lastG_data ds B _ acc (fun y hy => h y (by simp [hy]))]
    simp

def Ends (A : List Record) : Prop := ∀ n B acc, lastG n (A ++ B) [] acc = lastG n B [] (lastG n A [] acc)

theorem ends_nil : Ends [] := fun _ _ _ => rfl

theorem lastG_txn {n : Int} {ds : List Record} {c : Record} (hz : ∀ x ∈ ds, x.count = 0) (hc : c.count ≠ 0) (B : List Record) (acc : Option ByteArray) :
    lastG n ((ds ++ [c]) ++ B) [] acc = lastG n B [] (if (textTo ds n 8).2 = true then some (textTo ds n 8).1 else acc) := by
  rw [List.append_assoc, lastG_data ds _ _ _ hz, List.nil_append, List.singleton_append, lastG, if_neg hc]

theorem ends_txn {A t : List Record} (hA : Ends A) (ht : Txn t) : Ends (A ++ t) := by
  obtain ⟨ds, c, rfl, hz, hc, h1⟩ := ht
  intro n B acc
  have e1 := lastG_txn (n := n) hz (show c.count ≠ 0 by omega) B (lastG n A [] acc)
  have e2 := lastG_txn (n := n) hz (show c.count ≠ 0 by omega) [] (lastG n A [] acc)
  rw [List.append_nil] at e2
  rw [List.append_assoc, hA, hA, e1, e2]
  rfl

theorem fold_out {n : Int} : ∀ (l : List Block) (f : Int → Option ByteArray), (∀ b ∈ l, b.n ≠ n) → l.foldl updF f n = f n
  | [], _, _ => rfl
  | x :: r, f, h => by
    rw [List.foldl_cons, fold_out r _ (fun b hb => h b (by simp [hb])), updF, if_neg]
    exact fun e => h x (by simp) e.symm

theorem fold_in {b : Block} : ∀ (l : List Block) (f : Int → Option ByteArray) (i : Nat), l[i]? = some b → (∀ j a, i < j → l[j]? = some a → a.n ≠ b.n) → l.foldl updF f b.n = some b.text
  | [], _, _, h, _ => by simp at h
  | x :: r, f, 0, h, hu => by
    simp at h
    subst h
    rw [List.foldl_cons, fold_out r _ fun a ha => ?_]
    · rw [updF, if_pos rfl]
    · obtain ⟨j, hj⟩ := List.mem_iff_getElem?.1 ha
      exact hu (j + 1) a (by omega) (by simpa using hj)
  | x :: r, f, i + 1, h, hu => by
    rw [List.foldl_cons]
    exact fold_in r _ i (by simpa using h) (fun j a hj ha => hu (j + 1) a (by omega) (by simpa using ha))

theorem txn_recs {g : Geo} {key lsn : Int} {l : List Block} (hok : OfOk g key lsn l) : (∀ x ∈ recs key lsn g.per.toNat l (l.length * g.per.toNat), x.count = 0) ∧ (commitOf key lsn (l.length * g.per.toNat)).count ≠ 0 ∧ 1 ≤ l.length * g.per.toNat := by
  have hf := geo_facts hok.geo
  have hne : l.length ≠ 0 := fun h => hok.some_ (List.eq_nil_of_length_eq_zero h)
  have h1 : 1 ≤ l.length * g.per.toNat := Nat.mul_pos (by omega) (by omega)
  refine ⟨fun x hx => ?_, ?_, h1⟩
  · obtain ⟨j, hj⟩ := List.mem_iff_getElem?.1 hx
    obtain ⟨_, rfl⟩ := recs_at hj
    rfl
  · simp only [commitOf]; omega

/-- What is scanned behind one transaction more: the blocks put into those ahead. -/
theorem scan_more {g : Geo} {key lsn : Int} {l : List Block} {A : List Record} (hA : Ends A) (hok : OfOk g key lsn l) : insAll (scanB A) l = scanB (A ++ allRecs g key lsn l) := by
  have hf := geo_facts hok.geo
  obtain ⟨hz, hc, h1⟩ := txn_recs hok
  have hb : ∀ x ∈ l, 0 ≤ x.n ∧ x.n < (64 : Nat) := fun x hx => by
    obtain ⟨j, hj⟩ := List.mem_iff_getElem?.1 hx
    have := (hok.blks j x hj).blocks
    exact ⟨(blk_asc hok.blks j x hj).1, by omega⟩
  rw [scanB, insAllF l _ hb, scanB]
  refine mkF_congr 64 0 fun n h2 h3 => ?_
  rw [hA, allRecs]
  have e := lastG_txn (n := n) hz hc [] (lastG n A [] none)
  rw [List.append_nil] at e
  rw [e, lastG]
  by_cases hex : ∃ b ∈ l, b.n = n
  · obtain ⟨b, hbm, rfl⟩ := hex
    obtain ⟨i, hi⟩ := List.mem_iff_getElem?.1 hbm
    rw [text_in hok hi, if_pos rfl]
    exact fold_in l _ i hi fun j a hj ha he => by have := blk_uniq hok.blks ha hi he; omega
  · have hno : ∀ b ∈ l, b.n ≠ n := fun b hb he => hex ⟨b, hb, he⟩
    rw [text_out (by omega) hno 8, if_neg (by simp)]
    exact fold_out l _ hno

theorem scan_nil : scanB [] = [] := by
  rw [scanB]; exact mkF_none 64 0

theorem take_data {g : Geo} {key lsn : Int} {l : List Block} (hok : OfOk g key lsn l) {k : Nat} (hk : k < (allRecs g key lsn l).length) : ∀ x ∈ (allRecs g key lsn l).take k, x.count = 0 := by
  intro x hx
  obtain ⟨hz, _, _⟩ := txn_recs hok
  rw [all_len] at hk
  rw [allRecs, List.take_append_of_le_length (by rw [recs_len]; omega)] at hx
  exact hz x (List.mem_of_mem_take hx)

theorem fmt_set {L : List ByteArray} {q : Nat} (s : ByteArray) (hq : q < L.length) : overL (q * 1) [.string s] (L.flatMap encS) = (L.set q s).flatMap encS :=
  overL_set (enc := encS) (sz := 1) (fun _ => rfl) L q s hq
end Go.Proofs.Ytflimioplnbopaa
