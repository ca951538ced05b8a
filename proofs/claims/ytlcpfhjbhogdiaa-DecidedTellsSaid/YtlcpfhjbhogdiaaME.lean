import Derived.Test.YtlcpfhjbhogdiaaMD
/- A sealed sector's numbers, and what is left. -/
set_option linter.unusedVariables false
set_option linter.unusedSimpArgs false
set_option maxRecDepth 100000
namespace Go.Proofs.Ytlcpfhjbhogdiaa
open Go Go.Eng Go.RowKit

def restOf (s : ByteArray) (k : Nat) : ByteArray := s.extract k s.size

theorem restOf_list (s : ByteArray) (k : Nat) : (restOf s k).data.toList = s.data.toList.drop k := by
  rw [restOf, ByteArray.data_extract, Array.toList_extract, List.extract_eq_take_drop]
  rw [List.take_of_length_le (by rw [List.length_drop, size_list]; omega)]

theorem restOf_size (s : ByteArray) (k : Nat) : (restOf s k).size = s.size - k := by
  rw [← size_list, restOf_list, List.length_drop, size_list]

theorem restOf_add (s : ByteArray) (a b : Nat) : restOf (restOf s a) b = restOf s (a + b) := by
  apply str_ext
  rw [restOf_list, restOf_list, restOf_list, List.drop_drop]

theorem restOf_zero (s : ByteArray) : restOf s 0 = s := by
  apply str_ext
  rw [restOf_list, List.drop_zero]

theorem digit_rest (s : ByteArray) (a j : Nat) : digit (restOf s a) 0 j = digit s a j := by
  rw [digit, digit, byteAt_list, byteAt_list, restOf_list]
  simp [List.getD]

theorem leTo_congr {f g : Nat → Nat} (h : ∀ j, f j = g j) (k : Nat) : leTo f k = leTo g k := by
  rw [funext h]

theorem getSpec_rest (s : ByteArray) {a : Nat} (ha : a ≤ s.size) (k : Int) : getSpec (restOf s a) 0 k = getSpec s a k := by
  have hd : leTo (digit (restOf s a) (0 : Int).toNat) k.toNat = leTo (digit s ((a : Int)).toNat) k.toNat := leTo_congr (fun j => by rw [Int.toNat_natCast]; exact digit_rest s a j) _
  unfold getSpec
  rw [hd, restOf_size]
  by_cases h : widthB k = false
  · rw [if_pos h, if_pos h]
  · rw [if_neg h, if_neg h]
    by_cases h2 : (s.size : Int) - a < k
    · rw [if_pos (by omega), if_pos (by omega)]
    · rw [if_neg (show ¬ ((0 : Int) < 0 ∨ ((s.size - a : Nat) : Int) < 0 ∨ ((s.size - a : Nat) : Int) - 0 < k) by omega), if_neg (show ¬ ((a : Int) < 0 ∨ (s.size : Int) < a ∨ (s.size : Int) - a < k) by omega)]

theorem getSpec_ok {s : ByteArray} {a k : Int} (h : (getSpec s a k).2 = 0) : widthB k = true ∧ 0 ≤ a ∧ a + k ≤ s.size := by
  unfold getSpec at h
  split at h
  · simp at h
  · rename_i hw
    split at h
    · simp at h
    · exact ⟨by simpa using hw, by omega, by omega⟩

theorem getSpec_64 (s : ByteArray) (a k : Int) : 0 ≤ (getSpec s a k).1 ∧ (getSpec s a k).1 ≤ 1099511627776 := by
  unfold getSpec
  split
  · simp
  · split
    · simp
    · split
      · simp
      · simp only; omega

/-- The numbers that stand one behind the other, and what is left. -/
def fldA (acc : List Int) (rest : ByteArray) : List Int → Option (List Int × ByteArray)
  | [] => some (acc, rest)
  | k :: ks => if (getSpec rest 0 k).2 ≠ 0 then none else fldA (acc ++ [(getSpec rest 0 k).1]) (restOf rest k.toNat) ks

def fieldsR (kind : Int) (s : ByteArray) (ks : List Int) : Option (List Int × ByteArray) := if ofB kind s = true then fldA [] (loadOf s) ks else none

def FPost (kind : Int) (s : ByteArray) (ks : List Int) (w : World) (e : Ending) (w' : World) : Prop :=
  ((∃ l r v, fieldsR kind s ks = some (l, r) ∧ e = .returned (.tuple #[v, S r, I 0]) ∧ w'.ownsRow w.heap.size 3 1 v l.length (l.flatMap encI64)) ∨
    (fieldsR kind s ks = none ∧ e = .returned (.tuple #[.slice none 0 0, S ByteArray.empty, I 30]))) ∧ Below w.heap.size w w'

theorem int_ones (l : List Int) : ∀ u ∈ l.flatMap encI64, u.oneCell' = true := by
  intro u hu
  obtain ⟨x, _, hx⟩ := List.mem_flatMap.1 hu
  simp only [List.mem_singleton] at hx
  subst hx
  rfl

theorem load_size (s : ByteArray) (h : openB s = true) : (loadOf s).size ≤ 505 ∧ (loadOf s).size = s.size - 7 := by
  simp only [openB, Bool.and_eq_true, decide_eq_true_eq] at h
  rw [loadOf, ByteArray.size_extract]; omega

theorem ofB_open {kind : Int} {s : ByteArray} (h : ofB kind s = true) : openB s = true := by
  rw [ofB, Bool.and_eq_true] at h; exact h.1

structure FInv (ks acc : List Int) (load rest : ByteArray) (i : Nat) : Prop where
  le : i ≤ ks.length
  eq : fldA [] load ks = fldA acc rest (ks.drop i)
  len : acc.length = i
  size : rest.size ≤ 505

theorem fields_c (kind : Int) (s : ByteArray) (V : Vw) (kv : Value) (ks : List Int) (w : World) (hs : s.size ≤ maxLen) (hV : V.le (vw w)) (hk : SlOf V encI64 1 kv ks) (hn : ks.length ≤ 1000) :
    Calls Try.prog 74 #[I8 kind, S s, kv] w (FPost kind s ks w) := by
  have hk' := hk.mono hV
  refine enter (E := E0) (O := []) (nl := 0) (V := vw w) [.a (.v (I8 kind)), .a (.v (S s)), .a (.v kv)] Try.func74 rfl rfl (mem0 E0 0 w) rfl rfl ?_
  refine c_seq ?_
  refine c_region ?_
  refine o_yield rfl rfl rfl (y_val tok rfl) ?_
  refine o_yield rfl rfl rfl (y_val tok rfl) ?_
  refine o_yield rfl rfl rfl (y_val tok rfl) ?_
  refine o_end [0, 1, 2, 6] rfl ?_
  refine x_then ?_
  refine c_seq ?_
  refine c_region ?_
  refine o_yield rfl rfl rfl (y_val tok rfl) ?_
  refine o_yield rfl rfl rfl (y_val tok rfl) ?_
  refine o_call (.a (.v _)) rfl rfl fnok126 rfl rfl rfl (fun hg E w1 hm => by exact sealOf_c kind s hs _) ?_
  refine o_yield rfl rfl rfl (y_val tok rfl) ?_
  refine o_yield rfl rfl rfl (y_val tok rfl) ?_
  refine o_yield rfl rfl rfl (y_val tok rfl) ?_
  refine o_yield rfl rfl rfl (y_val tok rfl) ?_
  refine o_yield rfl rfl rfl (y_val tok rfl) ?_
  refine o_end [2, 6, 7, 8] rfl ?_
  refine x_then ?_
  refine c_seq ?_
  refine c_seq ?_
  refine c_region ?_
  refine o_yield rfl rfl rfl (y_val tok rfl) ?_
  refine o_yield rfl rfl rfl (y_len tok rfl (fun hg => hk'.sl)) ?_
  refine o_yield rfl rfl rfl (y_val tok rfl) ?_
  refine o_end [6, 7, 8, 19, 20, 21] rfl ?_
  refine x_then ?_
  refine c_block ?_
  have hsz0 : (ofL kind s).size ≤ 505 := by
    unfold ofL
    cases ho : ofB kind s with
    | false => simp
    | true => rw [if_pos rfl]; exact (load_size s (ofB_open ho)).1
  have hno : ofE kind s ≠ 0 → fieldsR kind s ks = none := fun hc => by
    rw [fieldsR, if_neg]
    intro hq
    exact hc (by rw [ofE, if_pos hq])
  have hE30 : ofE kind s ≠ 0 → ofE kind s = 30 := fun hc => by
    unfold ofE at hc ⊢
    split
    · rename_i hq; rw [if_pos hq] at hc; exact absurd rfl hc
    · rfl
  refine k_nil 6 3 1 rfl rfl ?_
  refine c_loopK [19, 20] [0] rfl rfl (σ := Nat × List Int × ByteArray) (fun (i, acc, rest) => [(6, .a (.row 0)), (7, .a (.v (S rest))), (8, .a (.v (I (ofE kind s)))), (21, .a (.v (I i)))]) (fun (i, acc, rest) => [(0, .row 3 1 acc.length (acc.flatMap encI64))]) (fun (i, acc, rest) => FInv ks acc (ofL kind s) rest i) (fun (i, acc, rest) => ks.length - i) ((0, [], ofL kind s)) (⟨by omega, rfl, rfl, hsz0⟩) (by repeat (first | exact SubF.nil | refine SubF.cons rfl ?_)) (by repeat (first | exact SubO.nil | refine SubO.cons rfl ?_)) rfl ?_
  rintro ⟨i, acc, rest⟩ ⟨hi, heq, hacc, hsz⟩
  refine c_seq ?_
  refine c_region ?_
  refine o_yield rfl rfl rfl (y_val tok rfl) ?_
  refine o_end [6, 7, 8, 19, 20, 21, 22] rfl ?_
  refine x_then ?_
  refine c_seq ?_
  refine c_cond rfl (fun h => ?_) (fun h => ?_)
  ·
    simp only [Bool.and_eq_true, Bool.or_eq_true, Bool.not_eq_true', Bool.or_eq_false_iff, Bool.and_eq_false_iff, decide_eq_true_eq, decide_eq_false_iff_not, beq_iff_eq, bne_iff_ne, Bool.not_eq_false', beq_eq_false_iff_ne, bne_eq_false_iff_eq, ne_eq, Decidable.not_not, Int.not_lt, Int.not_le] at h
    refine c_skip ?_
    refine x_then ?_
    refine c_seq ?_
    refine c_block ?_
    refine c_seq ?_
    refine c_region ?_
    obtain ⟨k, h_k⟩ := hk'.at (k := i) (by omega)
    have hlt_k := lt_of_at h_k
    refine o_yield rfl rfl rfl (y_idx tok rfl (fun hg => hk'.sl) (fun hg => ⟨by omega, by omega⟩)) ?_
    refine o_yield rfl rfl rfl (y_lel tok (i) 0 (k) rfl (fun hg => hk') (fun hg => h_k) rfl rfl) ?_
    refine o_yield rfl rfl rfl (y_val tok rfl) ?_
    refine o_end [6, 7, 8, 10, 19, 20, 21] rfl ?_
    refine x_then ?_
    refine c_seq ?_
    refine c_seq ?_
    refine c_region ?_
    refine o_yield rfl rfl rfl (y_val tok rfl) ?_
    refine o_yield rfl rfl rfl (y_val tok rfl) ?_
    refine o_end [6, 7, 8, 10, 19, 20, 21, 26] rfl ?_
    refine x_then ?_
    refine c_cond rfl (fun h => ?_) (fun h => ?_)
    ·
      simp only [Bool.and_eq_true, Bool.or_eq_true, Bool.not_eq_true', Bool.or_eq_false_iff, Bool.and_eq_false_iff, decide_eq_true_eq, decide_eq_false_iff_not, beq_iff_eq, bne_iff_ne, Bool.not_eq_false', beq_eq_false_iff_ne, bne_eq_false_iff_eq, ne_eq, Decidable.not_not, Int.not_lt, Int.not_le] at h
      refine c_exit ?_
      refine x_then_exit ?_
      refine x_block_miss rfl ?_
      refine x_then_exit ?_
      refine x_then_exit ?_
      refine x_block_hit ?_
      refine x_then ?_
      refine c_seq ?_
      refine c_seq ?_
      refine c_region ?_
      refine o_yield rfl rfl rfl (y_val tok rfl) ?_
      refine o_yield rfl rfl rfl (y_val tok rfl) ?_
      refine o_end [6, 7, 8, 44] rfl ?_
      refine x_then ?_
      refine c_cond rfl (fun h => ?_) (fun h => ?_)
      ·
        simp only [Bool.and_eq_true, Bool.or_eq_true, Bool.not_eq_true', Bool.or_eq_false_iff, Bool.and_eq_false_iff, decide_eq_true_eq, decide_eq_false_iff_not, beq_iff_eq, bne_iff_ne, Bool.not_eq_false', beq_eq_false_iff_ne, bne_eq_false_iff_eq, ne_eq, Decidable.not_not, Int.not_lt, Int.not_le] at h
        refine c_seq ?_
        refine c_region ?_
        refine o_yield rfl rfl rfl (y_val tok rfl) ?_
        refine o_yield rfl rfl rfl (y_val tok rfl) ?_
        refine o_yield rfl rfl rfl (y_val tok rfl) ?_
        refine o_yield rfl rfl rfl (y_val tok rfl) ?_
        refine o_end [6, 7, 8] rfl ?_
        refine x_then ?_
        refine c_ret ?_
        refine x_then_ret ?_
        refine b_ret tok rfl ?_
        rw [hE30 h]
        intro E w' hm _
        exact ⟨.inr ⟨hno h, rfl⟩, hm.below (Vw.le.refl _)⟩
      ·
        simp only [Bool.and_eq_true, Bool.or_eq_true, Bool.not_eq_true', Bool.or_eq_false_iff, Bool.and_eq_false_iff, decide_eq_true_eq, decide_eq_false_iff_not, beq_iff_eq, bne_iff_ne, Bool.not_eq_false', beq_eq_false_iff_ne, bne_eq_false_iff_eq, ne_eq, Decidable.not_not, Int.not_lt, Int.not_le] at h
        refine c_skip ?_
        refine x_then ?_
        refine c_seq ?_
        refine c_region ?_
        refine o_yield rfl rfl rfl (y_val tok rfl) ?_
        refine o_yield rfl rfl rfl (y_val tok rfl) ?_
        refine o_yield rfl rfl rfl (y_val tok rfl) ?_
        refine o_yield rfl rfl rfl (y_val tok rfl) ?_
        refine o_yield rfl rfl rfl (y_val tok rfl) ?_
        refine o_end [6, 7, 8] rfl ?_
        refine x_then ?_
        refine c_ret ?_
        refine b_ret tok rfl ?_
        contradiction
    ·
      simp only [Bool.and_eq_true, Bool.or_eq_true, Bool.not_eq_true', Bool.or_eq_false_iff, Bool.and_eq_false_iff, decide_eq_true_eq, decide_eq_false_iff_not, beq_iff_eq, bne_iff_ne, Bool.not_eq_false', beq_eq_false_iff_ne, bne_eq_false_iff_eq, ne_eq, Decidable.not_not, Int.not_lt, Int.not_le] at h
      refine c_skip ?_
      refine x_then ?_
      refine c_seq ?_
      refine c_region ?_
      refine o_yield rfl rfl rfl (y_val tok rfl) ?_
      refine o_yield rfl rfl rfl (y_val tok rfl) ?_
      have hE := h
      clear h
      rw [List.drop_eq_getElem_cons hlt_k] at heq
      have hkk : ks[i] = k := by
        have := h_k
        rw [List.getElem?_eq_getElem hlt_k] at this
        exact Option.some.inj this
      rw [hkk, fldA] at heq
      have hR : fieldsR kind s ks = fldA [] (ofL kind s) ks := by
        have ho : ofB kind s = true := by
          cases hq : ofB kind s with
          | true => rfl
          | false => rw [ofE, if_neg (by simp [hq])] at hE; cases hE
        rw [fieldsR, if_pos ho, ofL, if_pos ho]
      refine o_call (.a (.v _)) rfl rfl fnok127 rfl rfl rfl (fun hg E w1 hm => by exact numGet_c rest 0 k (by simp only [maxLen]; omega) _) ?_
      refine o_yield rfl rfl rfl (y_val tok rfl) ?_
      refine o_yield rfl rfl rfl (y_val tok rfl) ?_
      refine o_yield rfl rfl rfl (y_val tok rfl) ?_
      refine o_yield rfl rfl rfl (y_val tok rfl) ?_
      refine o_yield rfl rfl rfl (y_val tok rfl) ?_
      refine o_end [6, 7, 8, 10, 11, 12, 19, 20, 21] rfl ?_
      refine x_then ?_
      refine c_seq ?_
      refine c_seq ?_
      refine c_region ?_
      refine o_yield rfl rfl rfl (y_val tok rfl) ?_
      refine o_yield rfl rfl rfl (y_val tok rfl) ?_
      refine o_end [6, 7, 8, 10, 11, 19, 20, 21, 34] rfl ?_
      refine x_then ?_
      refine c_cond rfl (fun h => ?_) (fun h => ?_)
      ·
        simp only [Bool.and_eq_true, Bool.or_eq_true, Bool.not_eq_true', Bool.or_eq_false_iff, Bool.and_eq_false_iff, decide_eq_true_eq, decide_eq_false_iff_not, beq_iff_eq, bne_iff_ne, Bool.not_eq_false', beq_eq_false_iff_ne, bne_eq_false_iff_eq, ne_eq, Decidable.not_not, Int.not_lt, Int.not_le] at h
        refine c_seq ?_
        refine c_region ?_
        refine o_yield rfl rfl rfl (y_val tok rfl) ?_
        refine o_yield rfl rfl rfl (y_val tok rfl) ?_
        refine o_yield rfl rfl rfl (y_val tok rfl) ?_
        refine o_end [6, 7, 8] rfl ?_
        refine x_then ?_
        refine c_ret ?_
        refine x_then_ret ?_
        refine x_block_ret ?_
        refine x_then_ret ?_
        refine x_then_ret ?_
        refine x_block_ret ?_
        refine x_then_ret ?_
        refine b_ret tok rfl ?_
        intro E w' hm _
        exact ⟨.inr ⟨by rw [hR, heq, if_pos h], rfl⟩, hm.below (Vw.le.refl _)⟩
      ·
        simp only [Bool.and_eq_true, Bool.or_eq_true, Bool.not_eq_true', Bool.or_eq_false_iff, Bool.and_eq_false_iff, decide_eq_true_eq, decide_eq_false_iff_not, beq_iff_eq, bne_iff_ne, Bool.not_eq_false', beq_eq_false_iff_ne, bne_eq_false_iff_eq, ne_eq, Decidable.not_not, Int.not_lt, Int.not_le] at h
        rw [if_neg (by simp [h])] at heq
        obtain ⟨hw, _, hle⟩ := getSpec_ok h
        simp only [widthB, Bool.and_eq_true, decide_eq_true_eq] at hw
        refine c_skip ?_
        refine x_then ?_
        refine c_held [] ([]) mixed (by repeat (first | exact SubO.nil | refine SubO.cons rfl ?_)) rfl ?_
        refine t_take 0 rfl (by kernel_rfl) rfl rfl rfl (y_val tok rfl) rfl ?_
        refine t_take 1 rfl (by kernel_rfl) rfl rfl rfl (y_val tok rfl) rfl ?_
        refine t_take 4 rfl (by kernel_rfl) rfl rfl rfl (y_val tok rfl) rfl ?_
        refine t_take 5 rfl (by kernel_rfl) rfl rfl rfl (y_val tok rfl) rfl ?_
        obtain ⟨q, rfl⟩ : ∃ q : Nat, k = q := ⟨k.toNat, by omega⟩
        refine t_take 6 rfl (by kernel_rfl) rfl rfl rfl (y_ss tok rfl (fun hg => by simp only [Option.getD]; omega)) rfl ?_
        refine t_go ?_
        refine h_one 2 (by kernel_rfl) ?_
        rw [show rest.extract ((some (q : Int)).getD 0).toNat ((none : Option Int).getD (rest.size : Int)).toNat = restOf rest q from rfl]
        refine h_to 2 rfl rfl rfl rfl rfl rfl (s_bs tok 1 rfl rfl rfl) (.inr fun _ _ => ⟨(by repeat (first | exact SubO.nil | refine SubO.cons rfl ?_)), rfl, Vw.le.refl _⟩) (fun _ _ => ?_)
        refine h_one 3 (by kernel_rfl) ?_
        refine h_to 3 rfl rfl rfl rfl rfl rfl (s_app tok ([(getSpec rest 0 q).1].flatMap encI64) rfl (fun E w hm => ownsRow_src (hm.row 1 _ _ _ _ rfl)) (fun _ _ _ => int_ones _) (by dsimp only; omega)) (.inr fun _ _ => ⟨(by repeat (first | exact SubO.nil | refine SubO.cons rfl ?_)), rfl, Vw.le.refl _⟩) (fun _ _ => ?_)
        refine h_one 7 (by kernel_rfl) ?_
        refine h_yield 7 rfl rfl rfl rfl (y_val tok rfl) ?_
        refine h_one 8 (by kernel_rfl) ?_
        refine h_yield 8 rfl rfl rfl rfl (y_val tok rfl) ?_
        refine h_done [6, 7, 8, 19, 20, 21] (by kernel_rfl) rfl ?_
        refine x_block ?_
        refine x_then ?_
        refine c_region ?_
        refine o_yield rfl rfl rfl (y_val tok rfl) ?_
        refine o_yield rfl rfl rfl (y_val tok rfl) ?_
        refine o_end [6, 7, 8, 19, 20, 21] rfl ?_
        refine x_then ?_
        rw [← List.flatMap_append, show acc.length + 1 = (acc ++ [(getSpec rest 0 q).1]).length by simp, wrapI (n := (i : Int) + 1) (by omega) (by omega)]
        refine k_swap 0 2 rfl ?_
        have hrs := restOf_size rest q
        refine x_round ((i + 1, acc ++ [(getSpec rest 0 q).1], restOf rest q)) (⟨by omega, heq, by simp [hacc], by omega⟩) (by first | omega | (dsimp only; omega)) (by repeat (first | exact SubF.nil | refine SubF.cons rfl ?_)) (by repeat (first | exact SubO.nil | refine SubO.cons rfl ?_)) rfl (Vw.le.refl _)
  ·
    simp only [Bool.and_eq_true, Bool.or_eq_true, Bool.not_eq_true', Bool.or_eq_false_iff, Bool.and_eq_false_iff, decide_eq_true_eq, decide_eq_false_iff_not, beq_iff_eq, bne_iff_ne, Bool.not_eq_false', beq_eq_false_iff_ne, bne_eq_false_iff_eq, ne_eq, Decidable.not_not, Int.not_lt, Int.not_le] at h
    have hil : i = ks.length := by omega
    subst hil
    rw [List.drop_length] at heq
    refine c_exit ?_
    refine x_then_exit ?_
    refine x_then_exit ?_
    refine x_block_hit ?_
    refine x_then ?_
    refine c_seq ?_
    refine c_seq ?_
    refine c_region ?_
    refine o_yield rfl rfl rfl (y_val tok rfl) ?_
    refine o_yield rfl rfl rfl (y_val tok rfl) ?_
    refine o_end [6, 7, 8, 44] rfl ?_
    refine x_then ?_
    refine c_cond rfl (fun h => ?_) (fun h => ?_)
    ·
      simp only [Bool.and_eq_true, Bool.or_eq_true, Bool.not_eq_true', Bool.or_eq_false_iff, Bool.and_eq_false_iff, decide_eq_true_eq, decide_eq_false_iff_not, beq_iff_eq, bne_iff_ne, Bool.not_eq_false', beq_eq_false_iff_ne, bne_eq_false_iff_eq, ne_eq, Decidable.not_not, Int.not_lt, Int.not_le] at h
      refine c_seq ?_
      refine c_region ?_
      refine o_yield rfl rfl rfl (y_val tok rfl) ?_
      refine o_yield rfl rfl rfl (y_val tok rfl) ?_
      refine o_yield rfl rfl rfl (y_val tok rfl) ?_
      refine o_yield rfl rfl rfl (y_val tok rfl) ?_
      refine o_end [6, 7, 8] rfl ?_
      refine x_then ?_
      refine c_ret ?_
      refine x_then_ret ?_
      refine b_ret tok rfl ?_
      rw [hE30 h]
      intro E w' hm _
      exact ⟨.inr ⟨hno h, rfl⟩, hm.below (Vw.le.refl _)⟩
    ·
      simp only [Bool.and_eq_true, Bool.or_eq_true, Bool.not_eq_true', Bool.or_eq_false_iff, Bool.and_eq_false_iff, decide_eq_true_eq, decide_eq_false_iff_not, beq_iff_eq, bne_iff_ne, Bool.not_eq_false', beq_eq_false_iff_ne, bne_eq_false_iff_eq, ne_eq, Decidable.not_not, Int.not_lt, Int.not_le] at h
      refine c_skip ?_
      refine x_then ?_
      refine c_seq ?_
      refine c_region ?_
      refine o_yield rfl rfl rfl (y_val tok rfl) ?_
      refine o_yield rfl rfl rfl (y_val tok rfl) ?_
      refine o_yield rfl rfl rfl (y_val tok rfl) ?_
      refine o_yield rfl rfl rfl (y_val tok rfl) ?_
      refine o_yield rfl rfl rfl (y_val tok rfl) ?_
      refine o_end [6, 7, 8] rfl ?_
      refine x_then ?_
      refine c_ret ?_
      refine b_ret tok rfl ?_
      have hR : fieldsR kind s ks = some (acc, rest) := by
        have ho : ofB kind s = true := by
          cases hq : ofB kind s with
          | true => rfl
          | false => rw [ofE, if_neg (by simp [hq])] at h; cases h
        rw [ofL, if_pos ho] at heq
        rw [fieldsR, if_pos ho, heq]
        rfl
      intro E w' hm _
      exact ⟨.inl ⟨acc, rest, E.κ 0, hR, rfl, hm.rowFresh (Vw.le.refl _) (l := 0) rfl⟩, hm.below (Vw.le.refl _)⟩

theorem refFields_c (kind : Int) (s : ByteArray) (V : Vw) (kv : Value) (ks : List Int) (w : World) (hs : s.size ≤ maxLen) (hV : V.le (vw w)) (hk : SlOf V encI64 1 kv ks) (hn : ks.length ≤ 1000) :
    Calls Try.prog 77 #[I8 kind, S s, kv] w (FPost kind s ks w) := by
  have hk' := hk.mono hV
  refine enter (E := E0) (O := []) (nl := 0) (V := vw w) [.a (.v (I8 kind)), .a (.v (S s)), .a (.v kv)] Try.func77 rfl rfl (mem0 E0 0 w) rfl rfl ?_
  refine c_seq ?_
  refine c_region ?_
  refine o_yield rfl rfl rfl (y_val tok rfl) ?_
  refine o_yield rfl rfl rfl (y_val tok rfl) ?_
  refine o_yield rfl rfl rfl (y_val tok rfl) ?_
  refine o_end [0, 1, 2] rfl ?_
  refine x_then ?_
  refine c_seq ?_
  refine c_region ?_
  refine o_yield rfl rfl rfl (y_val tok rfl) ?_
  refine o_yield rfl rfl rfl (y_val tok rfl) ?_
  refine o_call (.a (.v _)) rfl rfl fnok96 rfl rfl rfl (fun hg E w1 hm => by exact refOf_c kind s hs _) ?_
  refine o_yield rfl rfl rfl (y_val tok rfl) ?_
  refine o_yield rfl rfl rfl (y_val tok rfl) ?_
  refine o_yield rfl rfl rfl (y_val tok rfl) ?_
  refine o_yield rfl rfl rfl (y_val tok rfl) ?_
  refine o_yield rfl rfl rfl (y_val tok rfl) ?_
  refine o_end [2, 9, 10] rfl ?_
  refine x_then ?_
  refine c_seq ?_
  refine c_seq ?_
  refine c_region ?_
  refine o_yield rfl rfl rfl (y_val tok rfl) ?_
  refine o_yield rfl rfl rfl (y_val tok rfl) ?_
  refine o_end [2, 9, 10, 23] rfl ?_
  refine x_then ?_
  refine c_cond rfl (fun h => ?_) (fun h => ?_)
  ·
    simp only [Bool.and_eq_true, Bool.or_eq_true, Bool.not_eq_true', Bool.or_eq_false_iff, Bool.and_eq_false_iff, decide_eq_true_eq, decide_eq_false_iff_not, beq_iff_eq, bne_iff_ne, Bool.not_eq_false', beq_eq_false_iff_ne, bne_eq_false_iff_eq, ne_eq, Decidable.not_not, Int.not_lt, Int.not_le] at h
    refine c_seq ?_
    refine c_region ?_
    refine o_yield rfl rfl rfl (y_val tok rfl) ?_
    refine o_yield rfl rfl rfl (y_val tok rfl) ?_
    refine o_yield rfl rfl rfl (y_val tok rfl) ?_
    refine o_yield rfl rfl rfl (y_val tok rfl) ?_
    refine o_end [6, 7, 8] rfl ?_
    refine x_then ?_
    refine c_ret ?_
    refine x_then_ret ?_
    refine b_ret tok rfl ?_
    have hE : ofE kind s = 30 := by
      unfold ofE at h ⊢
      split
      · rename_i hq; rw [if_pos hq] at h; exact absurd rfl h
      · rfl
    have hR : fieldsR kind s ks = none := by
      rw [fieldsR, if_neg]
      intro hq
      exact h (by rw [ofE, if_pos hq])
    rw [hE]
    intro E w' hm _
    exact ⟨.inr ⟨hR, rfl⟩, hm.below (Vw.le.refl _)⟩
  ·
    simp only [Bool.and_eq_true, Bool.or_eq_true, Bool.not_eq_true', Bool.or_eq_false_iff, Bool.and_eq_false_iff, decide_eq_true_eq, decide_eq_false_iff_not, beq_iff_eq, bne_iff_ne, Bool.not_eq_false', beq_eq_false_iff_ne, bne_eq_false_iff_eq, ne_eq, Decidable.not_not, Int.not_lt, Int.not_le] at h
    refine c_skip ?_
    refine x_then ?_
    refine c_seq ?_
    refine c_region ?_
    refine o_yield rfl rfl rfl (y_val tok rfl) ?_
    refine o_end [2, 9, 11] rfl ?_
    refine x_then ?_
    refine c_seq ?_
    refine c_region ?_
    refine o_yield rfl rfl rfl (y_val tok rfl) ?_
    refine o_end [2, 9, 11, 12] rfl ?_
    refine x_then ?_
    refine c_seq ?_
    refine c_seq ?_
    refine c_region ?_
    refine o_yield rfl rfl rfl (y_val tok rfl) ?_
    refine o_end [2, 9, 11, 12, 13] rfl ?_
    refine x_then ?_
    refine c_block ?_
    have ho : ofB kind s = true := by
      cases hq : ofB kind s with
      | true => rfl
      | false => rw [ofE, if_neg (by simp [hq])] at h; cases h
    have hsz0 := (load_size s (ofB_open ho)).1
    rw [show ofL kind s = loadOf s by rw [ofL, if_pos ho]]
    obtain ⟨L, hL⟩ : ∃ L, loadOf s = L := ⟨_, rfl⟩
    have hR : fieldsR kind s ks = fldA [] L ks := by rw [fieldsR, if_pos ho, hL]
    rw [hL] at hsz0 ⊢
    refine k_nil 11 3 1 rfl rfl ?_
    refine c_loopK [2, 9] [0] rfl rfl (σ := Nat × List Int × Nat) (fun (i, acc, a) => [(11, .a (.row 0)), (12, .a (.v (I a))), (13, .a (.v (I i)))]) (fun (i, acc, a) => [(0, .row 3 1 acc.length (acc.flatMap encI64))]) (fun (i, acc, a) => FInv ks acc L (restOf L a) i ∧ a ≤ L.size) (fun (i, acc, a) => ks.length - i) ((0, [], 0)) (⟨⟨by omega, by rw [restOf_zero]; rfl, rfl, by rw [restOf_zero]; exact hsz0⟩, by omega⟩) (by repeat (first | exact SubF.nil | refine SubF.cons rfl ?_)) (by repeat (first | exact SubO.nil | refine SubO.cons rfl ?_)) rfl ?_
    rintro ⟨i, acc, a⟩ ⟨⟨hi, heq, hacc, hsz⟩, ha⟩
    refine c_seq ?_
    refine c_seq ?_
    refine c_region ?_
    refine o_yield rfl rfl rfl (y_val tok rfl) ?_
    refine o_yield rfl rfl rfl (y_val tok rfl) ?_
    refine o_yield rfl rfl rfl (y_len tok rfl (fun hg => hk'.sl)) ?_
    refine o_yield rfl rfl rfl (y_val tok rfl) ?_
    refine o_end [2, 9, 11, 12, 13, 28] rfl ?_
    refine x_then ?_
    refine c_cond rfl (fun h => ?_) (fun h => ?_)
    ·
      simp only [Bool.and_eq_true, Bool.or_eq_true, Bool.not_eq_true', Bool.or_eq_false_iff, Bool.and_eq_false_iff, decide_eq_true_eq, decide_eq_false_iff_not, beq_iff_eq, bne_iff_ne, Bool.not_eq_false', beq_eq_false_iff_ne, bne_eq_false_iff_eq, ne_eq, Decidable.not_not, Int.not_lt, Int.not_le] at h
      refine c_skip ?_
      refine x_then ?_
      refine c_seq ?_
      refine c_block ?_
      refine c_seq ?_
      refine c_region ?_
      refine o_yield rfl rfl rfl (y_val tok rfl) ?_
      refine o_yield rfl rfl rfl (y_val tok rfl) ?_
      refine o_yield rfl rfl rfl (y_val tok rfl) ?_
      refine o_yield rfl rfl rfl (y_val tok rfl) ?_
      obtain ⟨k, h_k⟩ := hk'.at (k := i) (by omega)
      have hlt_k := lt_of_at h_k
      refine o_yield rfl rfl rfl (y_idx tok rfl (fun hg => hk'.sl) (fun hg => ⟨by omega, by omega⟩)) ?_
      refine o_yield rfl rfl rfl (y_lel tok (i) 0 (k) rfl (fun hg => hk') (fun hg => h_k) rfl rfl) ?_
      rw [List.drop_eq_getElem_cons hlt_k] at heq
      have hkk : ks[i] = k := by
        have := h_k
        rw [List.getElem?_eq_getElem hlt_k] at this
        exact Option.some.inj this
      rw [hkk, fldA, getSpec_rest L ha] at heq
      refine o_call (.a (.v _)) rfl rfl fnok130 rfl rfl rfl (fun hg E w1 hm => by exact refGet_c L a k (by simp only [maxLen]; omega) _) ?_
      refine o_yield rfl rfl rfl (y_val tok rfl) ?_
      refine o_yield rfl rfl rfl (y_val tok rfl) ?_
      refine o_yield rfl rfl rfl (y_val tok rfl) ?_
      refine o_yield rfl rfl rfl (y_val tok rfl) ?_
      refine o_yield rfl rfl rfl (y_val tok rfl) ?_
      refine o_end [2, 9, 11, 12, 13, 14, 15] rfl ?_
      refine x_then ?_
      refine c_seq ?_
      refine c_seq ?_
      refine c_region ?_
      refine o_yield rfl rfl rfl (y_val tok rfl) ?_
      refine o_yield rfl rfl rfl (y_val tok rfl) ?_
      refine o_end [2, 9, 11, 12, 13, 14, 42] rfl ?_
      refine x_then ?_
      refine c_cond rfl (fun h => ?_) (fun h => ?_)
      ·
        simp only [Bool.and_eq_true, Bool.or_eq_true, Bool.not_eq_true', Bool.or_eq_false_iff, Bool.and_eq_false_iff, decide_eq_true_eq, decide_eq_false_iff_not, beq_iff_eq, bne_iff_ne, Bool.not_eq_false', beq_eq_false_iff_ne, bne_eq_false_iff_eq, ne_eq, Decidable.not_not, Int.not_lt, Int.not_le] at h
        refine c_seq ?_
        refine c_region ?_
        refine o_yield rfl rfl rfl (y_val tok rfl) ?_
        refine o_yield rfl rfl rfl (y_val tok rfl) ?_
        refine o_yield rfl rfl rfl (y_val tok rfl) ?_
        refine o_end [6, 7, 8] rfl ?_
        refine x_then ?_
        refine c_ret ?_
        refine x_then_ret ?_
        refine x_block_ret ?_
        refine x_then_ret ?_
        refine x_then_ret ?_
        refine x_block_ret ?_
        refine x_then_ret ?_
        refine b_ret tok rfl ?_
        intro E w' hm _
        exact ⟨.inr ⟨by rw [hR, heq, if_pos h], rfl⟩, hm.below (Vw.le.refl _)⟩
      ·
        simp only [Bool.and_eq_true, Bool.or_eq_true, Bool.not_eq_true', Bool.or_eq_false_iff, Bool.and_eq_false_iff, decide_eq_true_eq, decide_eq_false_iff_not, beq_iff_eq, bne_iff_ne, Bool.not_eq_false', beq_eq_false_iff_ne, bne_eq_false_iff_eq, ne_eq, Decidable.not_not, Int.not_lt, Int.not_le] at h
        rw [if_neg (by simp [h])] at heq
        obtain ⟨hw, _, hle⟩ := getSpec_ok h
        simp only [widthB, Bool.and_eq_true, decide_eq_true_eq] at hw
        obtain ⟨q, rfl⟩ : ∃ q : Nat, k = q := ⟨k.toNat, by omega⟩
        refine c_skip ?_
        refine x_then ?_
        refine c_seq ?_
        refine c_region ?_
        refine o_yield rfl rfl rfl (y_val tok rfl) ?_
        refine o_yield rfl rfl rfl (y_val tok rfl) ?_
        refine o_step rfl rfl rfl rfl rfl (s_bs tok 1 rfl rfl rfl) (fun _ _ => ?_)
        refine o_step rfl rfl rfl rfl rfl (s_app tok ([(getSpec L a q).1].flatMap encI64) rfl (fun E w hm => ownsRow_src (hm.row 1 _ _ _ _ rfl)) (fun _ _ _ => int_ones _) (by dsimp only; omega)) (fun _ _ => ?_)
        refine o_yield rfl rfl rfl (y_val tok rfl) ?_
        refine o_end [2, 9, 11, 12, 13] rfl ?_
        refine x_then ?_
        refine c_region ?_
        refine o_yield rfl rfl rfl (y_val tok rfl) ?_
        refine o_yield rfl rfl rfl (y_val tok rfl) ?_
        refine o_yield rfl rfl rfl (y_val tok rfl) ?_
        rw [← List.flatMap_append, show acc.length + 1 = (acc ++ [(getSpec L a q).1]).length by simp]
        have hlt__q___Int_ := lt_of_at h_k
        refine o_yield rfl rfl rfl (y_idx tok rfl (fun hg => hk'.sl) (fun hg => ⟨by omega, by omega⟩)) ?_
        refine o_yield rfl rfl rfl (y_lel tok (i) 0 ((q : Int)) rfl (fun hg => hk') (fun hg => h_k) rfl rfl) ?_
        refine o_yield rfl rfl rfl (y_val tok rfl) ?_
        refine o_yield rfl rfl rfl (y_val tok rfl) ?_
        refine o_end [2, 9, 11, 12, 13] rfl ?_
        refine x_block ?_
        refine x_then ?_
        refine c_region ?_
        refine o_yield rfl rfl rfl (y_val tok rfl) ?_
        refine o_yield rfl rfl rfl (y_val tok rfl) ?_
        refine o_yield rfl rfl rfl (y_val tok rfl) ?_
        refine o_end [2, 9, 11, 12, 13] rfl ?_
        refine x_then ?_
        rw [wrapI (n := (i : Int) + 1) (by omega) (by omega), show IntKind.i64.wrap ((a : Int) + q) = ((a + q : Nat) : Int) by rw [wrapI (by omega) (by omega)]; omega]
        refine k_swap 0 2 rfl ?_
        rw [Int.toNat_natCast, restOf_add] at heq
        have hrs := restOf_size L (a + q)
        refine x_round ((i + 1, acc ++ [(getSpec L a q).1], a + q)) (⟨⟨by omega, heq, by simp [hacc], by omega⟩, by omega⟩) (by first | omega | (dsimp only; omega)) (by repeat (first | exact SubF.nil | refine SubF.cons rfl ?_)) (by repeat (first | exact SubO.nil | refine SubO.cons rfl ?_)) rfl (Vw.le.refl _)
    ·
      simp only [Bool.and_eq_true, Bool.or_eq_true, Bool.not_eq_true', Bool.or_eq_false_iff, Bool.and_eq_false_iff, decide_eq_true_eq, decide_eq_false_iff_not, beq_iff_eq, bne_iff_ne, Bool.not_eq_false', beq_eq_false_iff_ne, bne_eq_false_iff_eq, ne_eq, Decidable.not_not, Int.not_lt, Int.not_le] at h
      refine c_exit ?_
      refine x_then_exit ?_
      refine x_then_exit ?_
      refine x_block_hit ?_
      refine x_then ?_
      refine c_seq ?_
      refine c_draw mixed (by kernel_rfl) ?_
      refine d_yield rfl rfl rfl (y_val tok rfl) rfl ?_
      refine d_yield rfl rfl rfl (y_val tok rfl) rfl ?_
      refine d_yield rfl rfl rfl (y_val tok rfl) rfl ?_
      have hil : i = ks.length := by omega
      subst hil
      rw [List.drop_length] at heq
      refine d_yield rfl rfl rfl (y_ss tok rfl (fun hg => by simp only [Option.getD]; omega)) rfl ?_
      refine d_yield rfl rfl rfl (y_val tok rfl) rfl ?_
      refine d_yield rfl rfl rfl (y_val tok rfl) rfl ?_
      refine d_yield rfl rfl rfl (y_val tok rfl) rfl ?_
      refine d_end [6, 7, 8] rfl ?_
      refine x_then ?_
      refine c_ret ?_
      refine b_ret tok rfl ?_
      intro E w' hm _
      exact ⟨.inl ⟨acc, restOf L a, E.κ 0, by rw [hR, heq]; rfl, rfl, hm.rowFresh (Vw.le.refl _) (l := 0) rfl⟩, hm.below (Vw.le.refl _)⟩

/-- The fields' rows as ones that nobody writes. -/
def FVal (kind : Int) (s : ByteArray) (ks : List Int) (x : Value) (V' : Vw) : Prop :=
  (∃ l r v, fieldsR kind s ks = some (l, r) ∧ x = .tuple #[v, S r, I 0] ∧ SlOf V' encI64 1 v l) ∨ (fieldsR kind s ks = none ∧ x = .tuple #[.slice none 0 0, S ByteArray.empty, I 30])

theorem fval_of {P : Program} {f : Nat} {args : Array Value} {kind : Int} {s : ByteArray} {ks : List Int} {V : Vw} {w : World} (hV : V.le (vw w)) (h : Calls P f args w (FPost kind s ks w)) :
    Calls P f args w fun e w' => ∃ x V', e = .returned x ∧ Below w.heap.size w w' ∧ Vext w.heap.size V V' w' ∧ FVal kind s ks x V' := by
  refine h.mono ?_
  rintro e w' ⟨⟨l, r, v, h1, rfl, hown⟩ | ⟨h1, rfl⟩, hb⟩
  · obtain ⟨V', hx, hsl⟩ := ownsRow_vext hV hb hown
    exact ⟨_, V', rfl, hb, hx, .inl ⟨l, r, v, h1, rfl, hsl, fun _ => rfl⟩⟩
  · exact ⟨_, V, rfl, hb, Vext.same hV hb, .inr ⟨h1, rfl⟩⟩
end Go.Proofs.Ytlcpfhjbhogdiaa

/- Records that are read: the program and the document agree; the law RecordReads. -/
set_option linter.unusedVariables false
set_option linter.unusedSimpArgs false
set_option maxRecDepth 100000
namespace Go.Proofs.Ytlcpfhjbhogdiaa
open Go Go.Eng Go.RowKit

theorem refKey_c (n : Int) (w : World) : Calls Try.prog 99 #[I n] w fun e w' => e = .returned (.bool (keyB n)) ∧ Below w.heap.size w w' := by
  refine enter (E := E0) (O := []) (nl := 0) (V := vw w) [.a (.v (I n))] Try.func99 rfl rfl (mem0 E0 0 w) rfl rfl ?_
  refine c_seq ?_
  refine c_region ?_
  refine o_yield rfl rfl rfl (y_val tok rfl) ?_
  refine o_end [0] rfl ?_
  refine x_then ?_
  refine c_seq ?_
  refine c_region ?_
  refine o_yield rfl rfl rfl (y_val tok rfl) ?_
  refine o_yield rfl rfl rfl (y_val tok rfl) ?_
  refine o_yield rfl rfl rfl (y_val tok rfl) ?_
  refine o_yield rfl rfl rfl (y_val tok rfl) ?_
  refine o_yield rfl rfl rfl (y_val tok rfl) ?_
  refine o_yield rfl rfl rfl (y_val tok rfl) ?_
  refine o_yield rfl rfl rfl (y_val tok rfl) ?_
  refine o_end [2] rfl ?_
  refine x_then ?_
  refine c_ret ?_
  refine b_ret tok rfl ?_
  intro E w' hm _
  exact ⟨rfl, hm.below (Vw.le.refl _)⟩

theorem empty_beq (s : ByteArray) : (s.toList == ByteArray.empty.toList) = decide (s.size = 0) := by
  rw [str_beq, Bool.eq_iff_iff, decide_eq_true_eq, decide_eq_true_eq]
  constructor
  · intro h; rw [← size_list, h]; rfl
  · intro h; rw [size_zero h]

theorem refRecMay_c (r : Record) (w : World) : Calls Try.prog 78 #[r.val] w fun e w' => e = .returned (.bool (recB r)) ∧ Below w.heap.size w w' := by
  refine enter (E := E0) (O := []) (nl := 0) (V := vw w) [.a (.v r.val)] Try.func78 rfl rfl (mem0 E0 0 w) rfl rfl ?_
  refine c_seq ?_
  refine c_region ?_
  refine o_new tok rfl rfl rfl rfl ?_
  refine o_yield rfl rfl rfl (y_val tok rfl) ?_
  refine o_end [1] rfl ?_
  refine x_then ?_
  refine c_seq ?_
  refine c_seq ?_
  refine c_region ?_
  refine o_yield rfl rfl rfl (y_val tok rfl) ?_
  refine o_yield rfl rfl rfl (y_val tok rfl) ?_
  refine o_call (.a (.v _)) rfl rfl fnok99 rfl rfl rfl (fun hg E w1 hm => by exact refKey_c _ _) ?_
  refine o_yield rfl rfl rfl (y_val tok rfl) ?_
  refine o_yield rfl rfl rfl (y_val tok rfl) ?_
  refine o_yield rfl rfl rfl (y_val tok rfl) ?_
  refine o_yield rfl rfl rfl (y_val tok rfl) ?_
  refine o_yield rfl rfl rfl (y_val tok rfl) ?_
  refine o_yield rfl rfl rfl (y_val tok rfl) ?_
  refine o_yield rfl rfl rfl (y_val tok rfl) ?_
  refine o_yield rfl rfl rfl (y_val tok rfl) ?_
  refine o_yield rfl rfl rfl (y_val tok rfl) ?_
  refine o_yield rfl rfl rfl (y_val tok rfl) ?_
  refine o_yield rfl rfl rfl (y_val tok rfl) ?_
  refine o_yield rfl rfl rfl (y_val tok rfl) ?_
  refine o_yield rfl rfl rfl (y_val tok rfl) ?_
  refine o_yield rfl rfl rfl (y_val tok rfl) ?_
  refine o_yield rfl rfl rfl (y_val tok rfl) ?_
  refine o_yield rfl rfl rfl (y_val tok rfl) ?_
  refine o_yield rfl rfl rfl (y_val tok rfl) ?_
  refine o_yield rfl rfl rfl (y_val tok rfl) ?_
  refine o_yield rfl rfl rfl (y_val tok rfl) ?_
  refine o_yield rfl rfl rfl (y_val tok rfl) ?_
  refine o_yield rfl rfl rfl (y_val tok rfl) ?_
  refine o_end [1, 26] rfl ?_
  refine x_then ?_
  refine c_cond rfl (fun h => ?_) (fun h => ?_)
  ·
    simp only [Bool.and_eq_true, Bool.or_eq_true, Bool.not_eq_true', Bool.or_eq_false_iff, Bool.and_eq_false_iff, decide_eq_true_eq, decide_eq_false_iff_not, beq_iff_eq, bne_iff_ne, Bool.not_eq_false', beq_eq_false_iff_ne, bne_eq_false_iff_eq, ne_eq, Decidable.not_not, Int.not_lt, Int.not_le] at h
    refine c_seq ?_
    refine c_region ?_
    refine o_yield rfl rfl rfl (y_val tok rfl) ?_
    refine o_end [2] rfl ?_
    refine x_then ?_
    refine c_ret ?_
    refine x_then_ret ?_
    refine b_ret tok rfl ?_
    intro E w' hm _
    refine ⟨?_, hm.below (Vw.le.refl _)⟩
    rw [show recB r = false by
      rw [Bool.eq_false_iff]
      intro hc
      simp only [recB, Bool.and_eq_true, decide_eq_true_eq, belowB] at hc
      rcases h with (((h | h) | h) | h) | h
      · rw [h] at hc; simp at hc
      all_goals omega]
    rfl
  ·
    simp only [Bool.and_eq_true, Bool.or_eq_true, Bool.not_eq_true', Bool.or_eq_false_iff, Bool.and_eq_false_iff, decide_eq_true_eq, decide_eq_false_iff_not, beq_iff_eq, bne_iff_ne, Bool.not_eq_false', beq_eq_false_iff_ne, bne_eq_false_iff_eq, ne_eq, Decidable.not_not, Int.not_lt, Int.not_le] at h
    obtain ⟨⟨⟨⟨h1, h2⟩, h3⟩, h4⟩, h5⟩ := h
    have hpre : (keyB r.key && belowB r.lsn 1099511627777 && belowB r.count 64) = true := by
      simp [belowB, h1]; omega
    refine c_skip ?_
    refine x_then ?_
    refine c_seq ?_
    refine c_seq ?_
    refine c_region ?_
    refine o_yield rfl rfl rfl (y_val tok rfl) ?_
    refine o_yield rfl rfl rfl (y_val tok rfl) ?_
    refine o_yield rfl rfl rfl (y_val tok rfl) ?_
    refine o_end [1, 29] rfl ?_
    refine x_then ?_
    refine c_cond rfl (fun h => ?_) (fun h => ?_)
    ·
      simp only [Bool.and_eq_true, Bool.or_eq_true, Bool.not_eq_true', Bool.or_eq_false_iff, Bool.and_eq_false_iff, decide_eq_true_eq, decide_eq_false_iff_not, beq_iff_eq, bne_iff_ne, Bool.not_eq_false', beq_eq_false_iff_ne, bne_eq_false_iff_eq, ne_eq, Decidable.not_not, Int.not_lt, Int.not_le] at h
      refine c_seq ?_
      refine c_region ?_
      refine o_yield rfl rfl rfl (y_val tok rfl) ?_
      refine o_yield rfl rfl rfl (y_val tok rfl) ?_
      refine o_yield rfl rfl rfl (y_val tok rfl) ?_
      refine o_yield rfl rfl rfl (y_val tok rfl) ?_
      refine o_yield rfl rfl rfl (y_val tok rfl) ?_
      refine o_yield rfl rfl rfl (y_val tok rfl) ?_
      refine o_yield rfl rfl rfl (y_val tok rfl) ?_
      refine o_yield rfl rfl rfl (y_val tok rfl) ?_
      refine o_yield rfl rfl rfl (y_val tok rfl) ?_
      refine o_yield rfl rfl rfl (y_val tok rfl) ?_
      refine o_yield rfl rfl rfl (y_val tok rfl) ?_
      refine o_yield rfl rfl rfl (y_val tok rfl) ?_
      refine o_yield rfl rfl rfl (y_val tok rfl) ?_
      refine o_yield rfl rfl rfl (y_val tok rfl) ?_
      refine o_end [2] rfl ?_
      refine x_then ?_
      refine c_ret ?_
      refine x_then_ret ?_
      refine b_ret tok rfl ?_
      intro E w' hm _
      refine ⟨?_, hm.below (Vw.le.refl _)⟩
      show Ending.returned (.bool ((r.block == 0 && r.k == 0) && (r.text.toList == ByteArray.empty.toList))) = _
      rw [recB, hpre, if_pos h, empty_beq, Bool.true_and]
      congr 2
    ·
      simp only [Bool.and_eq_true, Bool.or_eq_true, Bool.not_eq_true', Bool.or_eq_false_iff, Bool.and_eq_false_iff, decide_eq_true_eq, decide_eq_false_iff_not, beq_iff_eq, bne_iff_ne, Bool.not_eq_false', beq_eq_false_iff_ne, bne_eq_false_iff_eq, ne_eq, Decidable.not_not, Int.not_lt, Int.not_le] at h
      refine c_skip ?_
      refine x_then ?_
      refine c_seq ?_
      refine c_region ?_
      refine o_yield rfl rfl rfl (y_val tok rfl) ?_
      refine o_yield rfl rfl rfl (y_val tok rfl) ?_
      refine o_yield rfl rfl rfl (y_val tok rfl) ?_
      refine o_yield rfl rfl rfl (y_val tok rfl) ?_
      refine o_yield rfl rfl rfl (y_val tok rfl) ?_
      refine o_yield rfl rfl rfl (y_val tok rfl) ?_
      refine o_yield rfl rfl rfl (y_val tok rfl) ?_
      refine o_yield rfl rfl rfl (y_val tok rfl) ?_
      refine o_yield rfl rfl rfl (y_val tok rfl) ?_
      refine o_yield rfl rfl rfl (y_val tok rfl) ?_
      refine o_yield rfl rfl rfl (y_val tok rfl) ?_
      refine o_yield rfl rfl rfl (y_val tok rfl) ?_
      refine o_yield rfl rfl rfl (y_val tok rfl) ?_
      refine o_yield rfl rfl rfl (y_val tok rfl) ?_
      refine o_yield rfl rfl rfl (y_val tok rfl) ?_
      refine o_yield rfl rfl rfl (y_val tok rfl) ?_
      refine o_yield rfl rfl rfl (y_val tok rfl) ?_
      refine o_yield rfl rfl rfl (y_val tok rfl) ?_
      refine o_yield rfl rfl rfl (y_val tok rfl) ?_
      refine o_yield rfl rfl rfl (y_val tok rfl) ?_
      refine o_yield rfl rfl rfl (y_val tok rfl) ?_
      refine o_yield rfl rfl rfl (y_val tok rfl) ?_
      refine o_yield rfl rfl rfl (y_val tok rfl) ?_
      refine o_yield rfl rfl rfl (y_val tok rfl) ?_
      refine o_yield rfl rfl rfl (y_val tok rfl) ?_
      refine o_end [2] rfl ?_
      refine x_then ?_
      refine c_ret ?_
      refine b_ret tok rfl ?_
      intro E w' hm _
      refine ⟨?_, hm.below (Vw.le.refl _)⟩
      show Ending.returned (.bool ((((decide (0 ≤ r.block) && decide (r.block < 64)) && decide (0 ≤ r.k)) && decide (r.k < 8)) && decide ((r.text.size : Int) ≤ 256))) = _
      rw [recB, hpre, if_neg (by omega), Bool.true_and]
      congr 2
      rw [Bool.eq_iff_iff]
      simp only [belowB, Bool.and_eq_true, decide_eq_true_eq]
      omega

theorem fldA_len : ∀ (ks acc : List Int) (r : ByteArray) {l : List Int} {q : ByteArray}, fldA acc r ks = some (l, q) → l.length = acc.length + ks.length
  | [], acc, r, l, q, h => by
    simp only [fldA, Option.some.injEq, Prod.mk.injEq] at h
    rw [← h.1]; rfl
  | k :: ks, acc, r, l, q, h => by
    rw [fldA] at h
    split at h
    · cases h
    · have := fldA_len ks _ _ h
      rw [this, List.length_append, List.length_singleton, List.length_cons] <;> omega

def rWidths : List Int := [6, 6, 2, 1, 2]
abbrev recNo : Record := ⟨0, 0, 0, 0, ByteArray.empty, 0⟩

def recOfL : List Int → ByteArray → Record
  | [a, b, c, d, e], t => ⟨a, b, c, d, t, e⟩
  | _, _ => recNo

/-- A sector as a record. -/
def readB (s : ByteArray) : Bool := match fieldsR 6 s rWidths with
  | some (l, t) => recB (recOfL l t)
  | none => false
def readV (s : ByteArray) : Record := if readB s = true then (match fieldsR 6 s rWidths with
  | some (l, t) => recOfL l t
  | none => recNo) else recNo
def readE (s : ByteArray) : Int := if readB s = true then 0 else 50

theorem five {l : List Int} (h : l.length = 5) : ∃ a b c d e, l = [a, b, c, d, e] := by
  match l, h with
  | [a, b, c, d, e], _ => exact ⟨a, b, c, d, e, rfl⟩

theorem fields_len {kind : Int} {s : ByteArray} {ks l : List Int} {q : ByteArray} (h : fieldsR kind s ks = some (l, q)) : l.length = ks.length := by
  rw [fieldsR] at h
  split at h
  · rw [fldA_len ks [] _ h]; simp
  · cases h

theorem widths_cR (b : Nat) (w : World) : Calls Try.prog 75 #[.pointer (some ⟨b, 0, none⟩)] w fun e w' => ∃ v, e = .returned v ∧ w'.ownsRow w.heap.size 3 1 v rWidths.length (rWidths.flatMap encI64) ∧ Below w.heap.size w w' := by
  refine enter (E := E0) (O := []) (nl := 0) (V := vw w) [.a (.v (.pointer (some ⟨b, 0, none⟩)))] Try.func75 rfl rfl (mem0 E0 0 w) rfl rfl ?_
  refine c_seq ?_
  refine c_region ?_
  refine o_yield rfl rfl rfl (y_val tok rfl) ?_
  refine o_end [] rfl ?_
  refine x_then ?_
  refine c_seq ?_
  refine c_region ?_
  refine o_step rfl rfl rfl rfl rfl (s_bs tok 1 rfl rfl rfl) (fun _ _ => ?_)
  refine o_yield rfl rfl rfl (y_val tok rfl) ?_
  refine o_end [2] rfl ?_
  refine x_then ?_
  refine c_ret ?_
  refine b_ret tok rfl ?_
  intro E w' hm _
  exact ⟨_, rfl, hm.rowFresh (Vw.le.refl _) (l := 0) rfl, hm.below (Vw.le.refl _)⟩

theorem widths_cV (V : Vw) (b : Nat) (w : World) (hV : V.le (vw w)) : Calls Try.prog 75 #[.pointer (some ⟨b, 0, none⟩)] w fun e w' => ∃ x V', e = .returned x ∧ Below w.heap.size w w' ∧ Vext w.heap.size V V' w' ∧ SlOf V' encI64 1 x rWidths := by
  refine (widths_cR b w).mono ?_
  rintro e w' ⟨v, rfl, hown, hb⟩
  obtain ⟨V', hx, hsl⟩ := ownsRow_vext hV hb hown
  exact ⟨_, V', rfl, hb, hx, ⟨hsl, fun _ => rfl⟩⟩

theorem recRead_c (s : ByteArray) (hs : s.size ≤ maxLen) (w : World) : Calls Try.prog 21 #[S s] w fun e w' => e = .returned (.tuple #[(readV s).val, I (readE s)]) ∧ Below w.heap.size w w' := by
  refine enter (E := E0) (O := []) (nl := 0) (V := vw w) [.a (.v (S s))] Try.func21 rfl rfl (mem0 E0 0 w) rfl rfl ?_
  refine c_seq ?_
  refine c_region ?_
  refine o_new tok rfl rfl rfl rfl ?_
  refine o_yield rfl rfl rfl (y_val tok rfl) ?_
  refine o_end [0, 2] rfl ?_
  refine x_then ?_
  refine c_seq ?_
  refine c_region ?_
  refine o_yield rfl rfl rfl (y_val tok rfl) ?_
  refine o_new tok rfl rfl rfl rfl ?_
  refine o_yield rfl rfl rfl (y_val tok rfl) ?_
  refine o_end [0, 2, 4] rfl ?_
  refine x_then ?_
  refine c_seq ?_
  refine c_region ?_
  refine o_yield rfl rfl rfl (y_val tok rfl) ?_
  refine o_yield rfl rfl rfl (y_val tok rfl) ?_
  refine o_callV ((fun x V' => SlOf V' encI64 1 x rWidths)) rfl rfl fnok75 rfl rfl (fun hg E w1 hm => by exact widths_cV (vw w) _ _ hm.leV) ?_
  rintro x V1 hle1 hx
  have hx1 := hx rfl
  refine o_callV (FVal 6 s rWidths) rfl rfl fnok74 rfl rfl (fun hg E w1 hm => by exact fval_of hm.leV (fields_c 6 s V1 x rWidths _ hs hm.leV hx1 (by decide))) ?_
  rintro y V2 hle2 hy
  have hle := hle1.trans hle2
  rcases hy rfl with ⟨l, t, v, hR, rfl, hsl⟩ | ⟨hR, rfl⟩
  rotate_left
  ·
    refine o_yield rfl rfl rfl (y_val tok rfl) ?_
    refine o_yield rfl rfl rfl (y_val tok rfl) ?_
    refine o_yield rfl rfl rfl (y_val tok rfl) ?_
    refine o_yield rfl rfl rfl (y_val tok rfl) ?_
    refine o_yield rfl rfl rfl (y_val tok rfl) ?_
    refine o_yield rfl rfl rfl (y_val tok rfl) ?_
    refine o_yield rfl rfl rfl (y_val tok rfl) ?_
    refine o_end [2, 4, 5, 6, 7] rfl ?_
    refine x_then ?_
    refine c_seq ?_
    refine c_seq ?_
    refine c_region ?_
    refine o_yield rfl rfl rfl (y_val tok rfl) ?_
    refine o_yield rfl rfl rfl (y_val tok rfl) ?_
    refine o_end [2, 4, 5, 6, 19] rfl ?_
    refine x_then ?_
    refine c_cond rfl (fun h => ?_) (fun h => ?_)
    ·
      refine c_seq ?_
      refine c_region ?_
      refine o_yield rfl rfl rfl (y_val tok rfl) ?_
      refine o_store tok rfl rfl rfl (by first | exact ⟨trivial, trivial⟩ | simp [onesP, oneP, lk, Value.oneCell']) ?_
      refine o_yield rfl rfl rfl (y_val tok rfl) ?_
      refine o_end [2, 3] rfl ?_
      refine x_then ?_
      refine c_ret ?_
      refine x_then_ret ?_
      refine b_ret tok rfl ?_
      intro E w' hm _
      refine ⟨?_, hm.below (hle)⟩
      have h1 : readB s = false := by rw [readB, hR]
      rw [readV, readE, if_neg (by simp [h1]), if_neg (by simp [h1])]
      rfl
    ·
      refine c_skip ?_
      refine x_then ?_
      refine c_seq ?_
      refine c_held [] ([]) mixed (by repeat (first | exact SubO.nil | refine SubO.cons rfl ?_)) rfl ?_
      refine t_take 0 rfl (by kernel_rfl) rfl rfl rfl (y_val tok rfl) rfl ?_
      refine t_take 1 rfl (by kernel_rfl) rfl rfl rfl (y_val tok rfl) rfl ?_
      refine t_take 2 rfl (by kernel_rfl) rfl rfl rfl (y_val tok rfl) rfl ?_
      refine t_take 3 rfl (by kernel_rfl) rfl rfl rfl (y_val tok rfl) rfl ?_
      refine t_take 4 rfl (by kernel_rfl) rfl rfl rfl (y_val tok rfl) rfl ?_
      refine t_take 5 rfl (by kernel_rfl) rfl rfl rfl (y_val tok rfl) rfl ?_
      refine t_take 6 rfl (by kernel_rfl) rfl rfl rfl (y_val tok rfl) rfl ?_
      exact absurd h (by decide)
  refine o_yield rfl rfl rfl (y_val tok rfl) ?_
  refine o_yield rfl rfl rfl (y_val tok rfl) ?_
  refine o_yield rfl rfl rfl (y_val tok rfl) ?_
  refine o_yield rfl rfl rfl (y_val tok rfl) ?_
  refine o_yield rfl rfl rfl (y_val tok rfl) ?_
  refine o_yield rfl rfl rfl (y_val tok rfl) ?_
  refine o_yield rfl rfl rfl (y_val tok rfl) ?_
  refine o_end [2, 4, 5, 6, 7] rfl ?_
  refine x_then ?_
  refine c_seq ?_
  refine c_seq ?_
  refine c_region ?_
  refine o_yield rfl rfl rfl (y_val tok rfl) ?_
  refine o_yield rfl rfl rfl (y_val tok rfl) ?_
  refine o_end [2, 4, 5, 6, 19] rfl ?_
  refine x_then ?_
  refine c_cond rfl (fun h => ?_) (fun h => ?_)
  ·
    refine c_seq ?_
    refine c_region ?_
    refine o_yield rfl rfl rfl (y_val tok rfl) ?_
    refine o_store tok rfl rfl rfl (by first | exact ⟨trivial, trivial⟩ | simp [onesP, oneP, lk, Value.oneCell']) ?_
    refine o_yield rfl rfl rfl (y_val tok rfl) ?_
    refine o_end [2, 3] rfl ?_
    refine x_then ?_
    refine c_ret ?_
    refine x_then_ret ?_
    refine b_ret tok rfl ?_
    exact absurd h (by decide)
  ·
    refine c_skip ?_
    refine x_then ?_
    refine c_seq ?_
    refine c_held [] ([]) mixed (by repeat (first | exact SubO.nil | refine SubO.cons rfl ?_)) rfl ?_
    refine t_take 0 rfl (by kernel_rfl) rfl rfl rfl (y_val tok rfl) rfl ?_
    refine t_take 1 rfl (by kernel_rfl) rfl rfl rfl (y_val tok rfl) rfl ?_
    refine t_take 2 rfl (by kernel_rfl) rfl rfl rfl (y_val tok rfl) rfl ?_
    refine t_take 3 rfl (by kernel_rfl) rfl rfl rfl (y_val tok rfl) rfl ?_
    refine t_take 4 rfl (by kernel_rfl) rfl rfl rfl (y_val tok rfl) rfl ?_
    refine t_take 5 rfl (by kernel_rfl) rfl rfl rfl (y_val tok rfl) rfl ?_
    refine t_take 6 rfl (by kernel_rfl) rfl rfl rfl (y_val tok rfl) rfl ?_
    clear h
    obtain ⟨a, b, c, d, e, rfl⟩ := five (fields_len hR)
    have hlt_a := lt_of_at (show [a, b, c, d, e][0]? = some a from rfl)
    refine t_take 7 rfl (by kernel_rfl) rfl rfl rfl (y_idx tok rfl (fun hg => hsl.sl) (fun hg => ⟨by omega, by omega⟩)) rfl ?_
    refine t_take 8 rfl (by kernel_rfl) rfl rfl rfl (y_lel tok (0) 0 (a) rfl (fun hg => hsl) (fun hg => (show [a, b, c, d, e][0]? = some a from rfl)) rfl rfl) rfl ?_
    refine t_take 9 rfl (by kernel_rfl) rfl rfl rfl (y_val tok rfl) rfl ?_
    have hlt_b := lt_of_at (show [a, b, c, d, e][1]? = some b from rfl)
    refine t_take 10 rfl (by kernel_rfl) rfl rfl rfl (y_idx tok rfl (fun hg => hsl.sl) (fun hg => ⟨by omega, by omega⟩)) rfl ?_
    refine t_take 11 rfl (by kernel_rfl) rfl rfl rfl (y_lel tok (1) 0 (b) rfl (fun hg => hsl) (fun hg => (show [a, b, c, d, e][1]? = some b from rfl)) rfl rfl) rfl ?_
    refine t_take 12 rfl (by kernel_rfl) rfl rfl rfl (y_val tok rfl) rfl ?_
    have hlt_c := lt_of_at (show [a, b, c, d, e][2]? = some c from rfl)
    refine t_take 13 rfl (by kernel_rfl) rfl rfl rfl (y_idx tok rfl (fun hg => hsl.sl) (fun hg => ⟨by omega, by omega⟩)) rfl ?_
    refine t_take 14 rfl (by kernel_rfl) rfl rfl rfl (y_lel tok (2) 0 (c) rfl (fun hg => hsl) (fun hg => (show [a, b, c, d, e][2]? = some c from rfl)) rfl rfl) rfl ?_
    refine t_take 15 rfl (by kernel_rfl) rfl rfl rfl (y_val tok rfl) rfl ?_
    have hlt_d := lt_of_at (show [a, b, c, d, e][3]? = some d from rfl)
    refine t_take 16 rfl (by kernel_rfl) rfl rfl rfl (y_idx tok rfl (fun hg => hsl.sl) (fun hg => ⟨by omega, by omega⟩)) rfl ?_
    refine t_take 17 rfl (by kernel_rfl) rfl rfl rfl (y_lel tok (3) 0 (d) rfl (fun hg => hsl) (fun hg => (show [a, b, c, d, e][3]? = some d from rfl)) rfl rfl) rfl ?_
    refine t_take 18 rfl (by kernel_rfl) rfl rfl rfl (y_val tok rfl) rfl ?_
    have hlt_e := lt_of_at (show [a, b, c, d, e][4]? = some e from rfl)
    refine t_take 19 rfl (by kernel_rfl) rfl rfl rfl (y_idx tok rfl (fun hg => hsl.sl) (fun hg => ⟨by omega, by omega⟩)) rfl ?_
    refine t_take 20 rfl (by kernel_rfl) rfl rfl rfl (y_lel tok (4) 0 (e) rfl (fun hg => hsl) (fun hg => (show [a, b, c, d, e][4]? = some e from rfl)) rfl rfl) rfl ?_
    refine t_take 21 rfl (by kernel_rfl) rfl rfl rfl (y_val tok rfl) rfl ?_
    refine t_take 22 rfl (by kernel_rfl) rfl rfl rfl (y_val tok rfl) rfl ?_
    refine t_take 23 rfl (by kernel_rfl) rfl rfl rfl (y_val tok rfl) rfl ?_
    refine t_take 24 rfl (by kernel_rfl) rfl rfl rfl (y_val tok rfl) rfl ?_
    refine t_go ?_
    refine h_one 25 (by kernel_rfl) ?_
    refine h_store 25 tok rfl rfl rfl rfl (by first | exact ⟨trivial, trivial⟩ | simp [onesP, oneP, lk, Value.oneCell']) (.inr ⟨(by repeat (first | exact SubO.nil | refine SubO.cons rfl ?_)), rfl, Vw.le.refl _⟩) ?_
    refine h_one 26 (by kernel_rfl) ?_
    refine h_yield 26 rfl rfl rfl rfl (y_val tok rfl) ?_
    refine h_one 27 (by kernel_rfl) ?_
    refine h_yield 27 rfl rfl rfl rfl (y_val tok rfl) ?_
    refine h_one 28 (by kernel_rfl) ?_
    refine h_yield 28 rfl rfl rfl rfl (y_val tok rfl) ?_
    refine h_one 29 (by kernel_rfl) ?_
    refine h_store 29 tok rfl rfl rfl rfl (by first | exact ⟨trivial, trivial⟩ | simp [onesP, oneP, lk, Value.oneCell']) (.inr ⟨(by repeat (first | exact SubO.nil | refine SubO.cons rfl ?_)), rfl, Vw.le.refl _⟩) ?_
    refine h_one 30 (by kernel_rfl) ?_
    refine h_yield 30 rfl rfl rfl rfl (y_val tok rfl) ?_
    refine h_one 31 (by kernel_rfl) ?_
    refine h_yield 31 rfl rfl rfl rfl (y_val tok rfl) ?_
    refine h_one 32 (by kernel_rfl) ?_
    refine h_yield 32 rfl rfl rfl rfl (y_val tok rfl) ?_
    refine h_one 33 (by kernel_rfl) ?_
    refine h_store 33 tok rfl rfl rfl rfl (by first | exact ⟨trivial, trivial⟩ | simp [onesP, oneP, lk, Value.oneCell']) (.inr ⟨(by repeat (first | exact SubO.nil | refine SubO.cons rfl ?_)), rfl, Vw.le.refl _⟩) ?_
    refine h_one 34 (by kernel_rfl) ?_
    refine h_yield 34 rfl rfl rfl rfl (y_val tok rfl) ?_
    refine h_one 35 (by kernel_rfl) ?_
    refine h_yield 35 rfl rfl rfl rfl (y_val tok rfl) ?_
    refine h_one 36 (by kernel_rfl) ?_
    refine h_yield 36 rfl rfl rfl rfl (y_val tok rfl) ?_
    refine h_one 37 (by kernel_rfl) ?_
    refine h_store 37 tok rfl rfl rfl rfl (by first | exact ⟨trivial, trivial⟩ | simp [onesP, oneP, lk, Value.oneCell']) (.inr ⟨(by repeat (first | exact SubO.nil | refine SubO.cons rfl ?_)), rfl, Vw.le.refl _⟩) ?_
    refine h_one 38 (by kernel_rfl) ?_
    refine h_yield 38 rfl rfl rfl rfl (y_val tok rfl) ?_
    refine h_one 39 (by kernel_rfl) ?_
    refine h_yield 39 rfl rfl rfl rfl (y_val tok rfl) ?_
    refine h_one 40 (by kernel_rfl) ?_
    refine h_yield 40 rfl rfl rfl rfl (y_val tok rfl) ?_
    refine h_one 41 (by kernel_rfl) ?_
    refine h_store 41 tok rfl rfl rfl rfl (by first | exact ⟨trivial, trivial⟩ | simp [onesP, oneP, lk, Value.oneCell']) (.inr ⟨(by repeat (first | exact SubO.nil | refine SubO.cons rfl ?_)), rfl, Vw.le.refl _⟩) ?_
    refine h_one 42 (by kernel_rfl) ?_
    refine h_yield 42 rfl rfl rfl rfl (y_val tok rfl) ?_
    refine h_one 43 (by kernel_rfl) ?_
    refine h_yield 43 rfl rfl rfl rfl (y_val tok rfl) ?_
    refine h_one 44 (by kernel_rfl) ?_
    refine h_yield 44 rfl rfl rfl rfl (y_val tok rfl) ?_
    refine h_one 45 (by kernel_rfl) ?_
    refine h_store 45 tok rfl rfl rfl rfl (by first | exact ⟨trivial, trivial⟩ | simp [onesP, oneP, lk, Value.oneCell']) (.inr ⟨(by repeat (first | exact SubO.nil | refine SubO.cons rfl ?_)), rfl, Vw.le.refl _⟩) ?_
    refine h_done [2, 4] (by kernel_rfl) rfl ?_
    refine x_then ?_
    refine c_seq ?_
    refine c_seq ?_
    refine c_region ?_
    refine o_yield rfl rfl rfl (y_val tok rfl) ?_
    have h0 : fieldsR 6 s rWidths = some ([a, b, c, d, e], t) := hR
    have hr : readB s = recB ⟨a, b, c, d, t, e⟩ := by rw [readB, h0]; rfl
    refine o_call (.a (.v _)) rfl rfl fnok76 rfl rfl rfl (fun hg E w1 hm => by exact entryMay_c ⟨a, b, c, d, t, e⟩ _ _ (hm.lit 1 _ _ rfl)) ?_
    refine o_yield rfl rfl rfl (y_val tok rfl) ?_
    refine o_end [2, 4, 63] rfl ?_
    refine x_then ?_
    refine c_cond rfl (fun h => ?_) (fun h => ?_)
    ·
      simp only [Bool.and_eq_true, Bool.or_eq_true, Bool.not_eq_true', Bool.or_eq_false_iff, Bool.and_eq_false_iff, decide_eq_true_eq, decide_eq_false_iff_not, beq_iff_eq, bne_iff_ne, Bool.not_eq_false', beq_eq_false_iff_ne, bne_eq_false_iff_eq, ne_eq, Decidable.not_not, Int.not_lt, Int.not_le] at h
      refine c_seq ?_
      refine c_region ?_
      refine o_yield rfl rfl rfl (y_val tok rfl) ?_
      refine o_store tok rfl rfl rfl (by first | exact ⟨trivial, trivial⟩ | simp [onesP, oneP, lk, Value.oneCell']) ?_
      refine o_yield rfl rfl rfl (y_val tok rfl) ?_
      refine o_end [2, 3] rfl ?_
      refine x_then ?_
      refine c_ret ?_
      refine x_then_ret ?_
      refine b_ret tok rfl ?_
      intro E w' hm _
      refine ⟨?_, hm.below (hle)⟩
      rw [readV, readE, if_neg (by simp [hr, h]), if_neg (by simp [hr, h])]
      rfl
    ·
      simp only [Bool.and_eq_true, Bool.or_eq_true, Bool.not_eq_true', Bool.or_eq_false_iff, Bool.and_eq_false_iff, decide_eq_true_eq, decide_eq_false_iff_not, beq_iff_eq, bne_iff_ne, Bool.not_eq_false', beq_eq_false_iff_ne, bne_eq_false_iff_eq, ne_eq, Decidable.not_not, Int.not_lt, Int.not_le] at h
      refine c_skip ?_
      refine x_then ?_
      refine c_seq ?_
      refine c_region ?_
      refine o_yield rfl rfl rfl (y_val tok rfl) ?_
      refine o_yield rfl rfl rfl (y_val tok rfl) ?_
      refine o_yield rfl rfl rfl (y_val tok rfl) ?_
      refine o_yield rfl rfl rfl (y_val tok rfl) ?_
      refine o_store tok rfl rfl rfl (by first | exact ⟨trivial, trivial⟩ | simp [onesP, oneP, lk, Value.oneCell']) ?_
      refine o_yield rfl rfl rfl (y_val tok rfl) ?_
      refine o_end [2, 3] rfl ?_
      refine x_then ?_
      refine c_ret ?_
      refine b_ret tok rfl ?_
      intro E w' hm _
      refine ⟨?_, hm.below (hle)⟩
      rw [readV, readE, if_pos (by rw [hr, h]), if_pos (by rw [hr, h]), h0]
      rfl

theorem refRead_c (s : ByteArray) (hs : s.size ≤ maxLen) (w : World) : Calls Try.prog 22 #[S s] w fun e w' => e = .returned (.tuple #[(readV s).val, I (readE s)]) ∧ Below w.heap.size w w' := by
  refine enter (E := E0) (O := []) (nl := 0) (V := vw w) [.a (.v (S s))] Try.func22 rfl rfl (mem0 E0 0 w) rfl rfl ?_
  refine c_seq ?_
  refine c_region ?_
  refine o_new tok rfl rfl rfl rfl ?_
  refine o_yield rfl rfl rfl (y_val tok rfl) ?_
  refine o_end [0, 2] rfl ?_
  refine x_then ?_
  refine c_seq ?_
  refine c_region ?_
  refine o_yield rfl rfl rfl (y_val tok rfl) ?_
  refine o_bs tok rfl rfl rfl rfl (fun b1 V1 hle1 hb1 => ?_)
  refine o_callV (FVal 6 s rWidths) rfl rfl fnok77 rfl rfl (fun hg E w1 hm => by exact fval_of hm.leV (refFields_c 6 s V1 _ rWidths _ hs hm.leV (SlOf.ofBlock (enc := encI64) (sz := 1) (l := rWidths) (hb1 rfl) rfl (fun _ => rfl) (Nat.le_refl _)) (by decide))) ?_
  rintro y V2 hle2 hy
  have hle := hle1.trans hle2
  rcases hy rfl with ⟨l, t, v, hR, rfl, hsl⟩ | ⟨hR, rfl⟩
  rotate_left
  ·
    refine o_yield rfl rfl rfl (y_val tok rfl) ?_
    refine o_yield rfl rfl rfl (y_val tok rfl) ?_
    refine o_yield rfl rfl rfl (y_val tok rfl) ?_
    refine o_yield rfl rfl rfl (y_val tok rfl) ?_
    refine o_yield rfl rfl rfl (y_val tok rfl) ?_
    refine o_yield rfl rfl rfl (y_val tok rfl) ?_
    refine o_yield rfl rfl rfl (y_val tok rfl) ?_
    refine o_end [2, 4, 5, 6] rfl ?_
    refine x_then ?_
    refine c_seq ?_
    refine c_seq ?_
    refine c_region ?_
    refine o_yield rfl rfl rfl (y_val tok rfl) ?_
    refine o_yield rfl rfl rfl (y_val tok rfl) ?_
    refine o_end [2, 4, 5, 16] rfl ?_
    refine x_then ?_
    refine c_cond rfl (fun h => ?_) (fun h => ?_)
    ·
      refine c_seq ?_
      refine c_region ?_
      refine o_yield rfl rfl rfl (y_val tok rfl) ?_
      refine o_store tok rfl rfl rfl (by first | exact ⟨trivial, trivial⟩ | simp [onesP, oneP, lk, Value.oneCell']) ?_
      refine o_yield rfl rfl rfl (y_val tok rfl) ?_
      refine o_end [2, 3] rfl ?_
      refine x_then ?_
      refine c_ret ?_
      refine x_then_ret ?_
      refine b_ret tok rfl ?_
      intro E w' hm _
      refine ⟨?_, hm.below (hle)⟩
      have h1 : readB s = false := by rw [readB, hR]
      rw [readV, readE, if_neg (by simp [h1]), if_neg (by simp [h1])]
      rfl
    ·
      refine c_skip ?_
      refine x_then ?_
      refine c_seq ?_
      refine c_heldR mixed rfl (by repeat (first | exact SubO.nil | refine SubO.cons rfl ?_)) rfl ?_
      refine t_take 0 rfl (by kernel_rfl) rfl rfl rfl (y_val tok rfl) rfl ?_
      exact absurd h (by decide)
  refine o_yield rfl rfl rfl (y_val tok rfl) ?_
  refine o_yield rfl rfl rfl (y_val tok rfl) ?_
  refine o_yield rfl rfl rfl (y_val tok rfl) ?_
  refine o_yield rfl rfl rfl (y_val tok rfl) ?_
  refine o_yield rfl rfl rfl (y_val tok rfl) ?_
  refine o_yield rfl rfl rfl (y_val tok rfl) ?_
  refine o_yield rfl rfl rfl (y_val tok rfl) ?_
  refine o_end [2, 4, 5, 6] rfl ?_
  refine x_then ?_
  refine c_seq ?_
  refine c_seq ?_
  refine c_region ?_
  refine o_yield rfl rfl rfl (y_val tok rfl) ?_
  refine o_yield rfl rfl rfl (y_val tok rfl) ?_
  refine o_end [2, 4, 5, 16] rfl ?_
  refine x_then ?_
  refine c_cond rfl (fun h => ?_) (fun h => ?_)
  ·
    refine c_seq ?_
    refine c_region ?_
    refine o_yield rfl rfl rfl (y_val tok rfl) ?_
    refine o_store tok rfl rfl rfl (by first | exact ⟨trivial, trivial⟩ | simp [onesP, oneP, lk, Value.oneCell']) ?_
    refine o_yield rfl rfl rfl (y_val tok rfl) ?_
    refine o_end [2, 3] rfl ?_
    refine x_then ?_
    refine c_ret ?_
    refine x_then_ret ?_
    refine b_ret tok rfl ?_
    exact absurd h (by decide)
  ·
    refine c_skip ?_
    refine x_then ?_
    refine c_seq ?_
    refine c_heldR mixed rfl (by repeat (first | exact SubO.nil | refine SubO.cons rfl ?_)) rfl ?_
    refine t_take 0 rfl (by kernel_rfl) rfl rfl rfl (y_val tok rfl) rfl ?_
    clear h
    obtain ⟨a, b, c, d, e, rfl⟩ := five (fields_len hR)
    have hlt_a := lt_of_at (show [a, b, c, d, e][0]? = some a from rfl)
    refine t_take 1 rfl (by kernel_rfl) rfl rfl rfl (y_idx tok rfl (fun hg => hsl.sl) (fun hg => ⟨by omega, by omega⟩)) rfl ?_
    refine t_take 2 rfl (by kernel_rfl) rfl rfl rfl (y_lel tok (0) 0 (a) rfl (fun hg => hsl) (fun hg => (show [a, b, c, d, e][0]? = some a from rfl)) rfl rfl) rfl ?_
    refine t_take 3 rfl (by kernel_rfl) rfl rfl rfl (y_val tok rfl) rfl ?_
    have hlt_b := lt_of_at (show [a, b, c, d, e][1]? = some b from rfl)
    refine t_take 4 rfl (by kernel_rfl) rfl rfl rfl (y_idx tok rfl (fun hg => hsl.sl) (fun hg => ⟨by omega, by omega⟩)) rfl ?_
    refine t_take 5 rfl (by kernel_rfl) rfl rfl rfl (y_lel tok (1) 0 (b) rfl (fun hg => hsl) (fun hg => (show [a, b, c, d, e][1]? = some b from rfl)) rfl rfl) rfl ?_
    refine t_take 6 rfl (by kernel_rfl) rfl rfl rfl (y_val tok rfl) rfl ?_
    have hlt_c := lt_of_at (show [a, b, c, d, e][2]? = some c from rfl)
    refine t_take 7 rfl (by kernel_rfl) rfl rfl rfl (y_idx tok rfl (fun hg => hsl.sl) (fun hg => ⟨by omega, by omega⟩)) rfl ?_
    refine t_take 8 rfl (by kernel_rfl) rfl rfl rfl (y_lel tok (2) 0 (c) rfl (fun hg => hsl) (fun hg => (show [a, b, c, d, e][2]? = some c from rfl)) rfl rfl) rfl ?_
    refine t_take 9 rfl (by kernel_rfl) rfl rfl rfl (y_val tok rfl) rfl ?_
    have hlt_d := lt_of_at (show [a, b, c, d, e][3]? = some d from rfl)
    refine t_take 10 rfl (by kernel_rfl) rfl rfl rfl (y_idx tok rfl (fun hg => hsl.sl) (fun hg => ⟨by omega, by omega⟩)) rfl ?_
    refine t_take 11 rfl (by kernel_rfl) rfl rfl rfl (y_lel tok (3) 0 (d) rfl (fun hg => hsl) (fun hg => (show [a, b, c, d, e][3]? = some d from rfl)) rfl rfl) rfl ?_
    refine t_take 12 rfl (by kernel_rfl) rfl rfl rfl (y_val tok rfl) rfl ?_
    have hlt_e := lt_of_at (show [a, b, c, d, e][4]? = some e from rfl)
    refine t_take 13 rfl (by kernel_rfl) rfl rfl rfl (y_idx tok rfl (fun hg => hsl.sl) (fun hg => ⟨by omega, by omega⟩)) rfl ?_
    refine t_take 14 rfl (by kernel_rfl) rfl rfl rfl (y_lel tok (4) 0 (e) rfl (fun hg => hsl) (fun hg => (show [a, b, c, d, e][4]? = some e from rfl)) rfl rfl) rfl ?_
    refine t_take 15 rfl (by kernel_rfl) rfl rfl rfl (y_val tok rfl) rfl ?_
    refine t_take 16 rfl (by kernel_rfl) rfl rfl rfl (y_val tok rfl) rfl ?_
    refine t_go ?_
    refine h_one 17 (by kernel_rfl) ?_
    refine h_new 17 tok rfl rfl rfl rfl rfl rfl ?_
    refine h_one 18 (by kernel_rfl) ?_
    refine h_store 18 tok rfl rfl rfl rfl (by first | exact ⟨trivial, trivial⟩ | simp [onesP, oneP, lk, Value.oneCell']) (.inr ⟨(by repeat (first | exact SubO.nil | refine SubO.cons rfl ?_)), rfl, Vw.le.refl _⟩) ?_
    refine h_done [2, 7] (by kernel_rfl) rfl ?_
    refine x_then ?_
    refine c_seq ?_
    refine c_seq ?_
    refine c_region ?_
    refine o_yield rfl rfl rfl (y_val tok rfl) ?_
    have h0 : fieldsR 6 s rWidths = some ([a, b, c, d, e], t) := hR
    have hr : readB s = recB ⟨a, b, c, d, t, e⟩ := by rw [readB, h0]; rfl
    refine o_call (.a (.v _)) rfl rfl fnok78 rfl rfl rfl (fun hg E w1 hm => by exact refRecMay_c ⟨a, b, c, d, t, e⟩ _) ?_
    refine o_yield rfl rfl rfl (y_val tok rfl) ?_
    refine o_end [2, 7, 37] rfl ?_
    refine x_then ?_
    refine c_cond rfl (fun h => ?_) (fun h => ?_)
    ·
      simp only [Bool.and_eq_true, Bool.or_eq_true, Bool.not_eq_true', Bool.or_eq_false_iff, Bool.and_eq_false_iff, decide_eq_true_eq, decide_eq_false_iff_not, beq_iff_eq, bne_iff_ne, Bool.not_eq_false', beq_eq_false_iff_ne, bne_eq_false_iff_eq, ne_eq, Decidable.not_not, Int.not_lt, Int.not_le] at h
      refine c_seq ?_
      refine c_region ?_
      refine o_yield rfl rfl rfl (y_val tok rfl) ?_
      refine o_store tok rfl rfl rfl (by first | exact ⟨trivial, trivial⟩ | simp [onesP, oneP, lk, Value.oneCell']) ?_
      refine o_yield rfl rfl rfl (y_val tok rfl) ?_
      refine o_end [2, 3] rfl ?_
      refine x_then ?_
      refine c_ret ?_
      refine x_then_ret ?_
      refine b_ret tok rfl ?_
      intro E w' hm _
      refine ⟨?_, hm.below (hle)⟩
      rw [readV, readE, if_neg (by simp [hr, h]), if_neg (by simp [hr, h])]
      rfl
    ·
      simp only [Bool.and_eq_true, Bool.or_eq_true, Bool.not_eq_true', Bool.or_eq_false_iff, Bool.and_eq_false_iff, decide_eq_true_eq, decide_eq_false_iff_not, beq_iff_eq, bne_iff_ne, Bool.not_eq_false', beq_eq_false_iff_ne, bne_eq_false_iff_eq, ne_eq, Decidable.not_not, Int.not_lt, Int.not_le] at h
      refine c_skip ?_
      refine x_then ?_
      refine c_seq ?_
      refine c_region ?_
      refine o_yield rfl rfl rfl (y_val tok rfl) ?_
      refine o_store tok rfl rfl rfl (by first | exact ⟨trivial, trivial⟩ | simp [onesP, oneP, lk, Value.oneCell']) ?_
      refine o_yield rfl rfl rfl (y_val tok rfl) ?_
      refine o_end [2, 3] rfl ?_
      refine x_then ?_
      refine c_ret ?_
      refine b_ret tok rfl ?_
      intro E w' hm _
      refine ⟨?_, hm.below (hle)⟩
      rw [readV, readE, if_pos (by rw [hr, h]), if_pos (by rw [hr, h]), h0]
      rfl

def isB (s : ByteArray) (key lsn : Int) : Bool := readB s && decide ((readV s).key = key) && decide ((readV s).lsn = lsn)
def isV (s : ByteArray) (key lsn : Int) : Record := if isB s key lsn = true then readV s else recNo

theorem isB_iff (s : ByteArray) (key lsn : Int) : ((readE s != 0) || ((readV s).key != key) || ((readV s).lsn != lsn)) = !isB s key lsn := by
  unfold isB readE
  cases readB s with
  | true => rw [Bool.eq_iff_iff]; simp [or_assoc]
  | false => rfl

theorem recIs_c (s : ByteArray) (key lsn : Int) (hs : s.size ≤ maxLen) (w : World) : Calls Try.prog 23 #[S s, I key, I lsn] w fun e w' => e = .returned (.tuple #[(isV s key lsn).val, .bool (isB s key lsn)]) ∧ Below w.heap.size w w' := by
  refine enter (E := E0) (O := []) (nl := 0) (V := vw w) [.a (.v (S s)), .a (.v (I key)), .a (.v (I lsn))] Try.func23 rfl rfl (mem0 E0 0 w) rfl rfl ?_
  refine c_seq ?_
  refine c_region ?_
  refine o_new tok rfl rfl rfl rfl ?_
  refine o_yield rfl rfl rfl (y_val tok rfl) ?_
  refine o_end [0, 1, 2, 6] rfl ?_
  refine x_then ?_
  refine c_seq ?_
  refine c_region ?_
  refine o_yield rfl rfl rfl (y_val tok rfl) ?_
  refine o_call (.a (.v _)) rfl rfl fnok21 rfl rfl rfl (fun hg E w1 hm => by exact recRead_c s hs _) ?_
  refine o_yield rfl rfl rfl (y_val tok rfl) ?_
  refine o_yield rfl rfl rfl (y_val tok rfl) ?_
  refine o_yield rfl rfl rfl (y_val tok rfl) ?_
  refine o_new tok rfl rfl rfl rfl ?_
  refine o_store tok rfl rfl rfl (by first | exact ⟨trivial, trivial⟩ | simp [onesP, oneP, lk, Value.oneCell']) ?_
  refine o_yield rfl rfl rfl (y_val tok rfl) ?_
  refine o_end [1, 2, 6, 8, 9] rfl ?_
  refine x_then ?_
  refine c_seq ?_
  refine c_seq ?_
  refine c_region ?_
  refine o_yield rfl rfl rfl (y_val tok rfl) ?_
  refine o_yield rfl rfl rfl (y_val tok rfl) ?_
  refine o_yield rfl rfl rfl (y_val tok rfl) ?_
  refine o_yield rfl rfl rfl (y_val tok rfl) ?_
  refine o_yield rfl rfl rfl (y_val tok rfl) ?_
  refine o_yield rfl rfl rfl (y_val tok rfl) ?_
  refine o_yield rfl rfl rfl (y_val tok rfl) ?_
  refine o_yield rfl rfl rfl (y_val tok rfl) ?_
  refine o_yield rfl rfl rfl (y_val tok rfl) ?_
  refine o_yield rfl rfl rfl (y_val tok rfl) ?_
  refine o_yield rfl rfl rfl (y_val tok rfl) ?_
  refine o_yield rfl rfl rfl (y_val tok rfl) ?_
  refine o_yield rfl rfl rfl (y_val tok rfl) ?_
  refine o_yield rfl rfl rfl (y_val tok rfl) ?_
  refine o_end [6, 8, 28] rfl ?_
  refine x_then ?_
  refine c_cond rfl (fun h => ?_) (fun h => ?_)
  ·
    refine c_seq ?_
    refine c_region ?_
    refine o_yield rfl rfl rfl (y_val tok rfl) ?_
    refine o_store tok rfl rfl rfl (by first | exact ⟨trivial, trivial⟩ | simp [onesP, oneP, lk, Value.oneCell']) ?_
    refine o_yield rfl rfl rfl (y_val tok rfl) ?_
    refine o_end [6, 7] rfl ?_
    refine x_then ?_
    refine c_ret ?_
    refine x_then_ret ?_
    refine b_ret tok rfl ?_
    rw [isB_iff] at h
    simp at h
    intro E w' hm _
    refine ⟨?_, hm.below (Vw.le.refl _)⟩
    rw [isV, h]
    rfl
  ·
    refine c_skip ?_
    refine x_then ?_
    refine c_seq ?_
    refine c_region ?_
    refine o_yield rfl rfl rfl (y_val tok rfl) ?_
    refine o_store tok rfl rfl rfl (by first | exact ⟨trivial, trivial⟩ | simp [onesP, oneP, lk, Value.oneCell']) ?_
    refine o_yield rfl rfl rfl (y_val tok rfl) ?_
    refine o_end [6, 7] rfl ?_
    refine x_then ?_
    refine c_ret ?_
    refine b_ret tok rfl ?_
    rw [isB_iff] at h
    simp at h
    intro E w' hm _
    refine ⟨?_, hm.below (Vw.le.refl _)⟩
    rw [isV, h]
    rfl

theorem refIs_c (s : ByteArray) (key lsn : Int) (hs : s.size ≤ maxLen) (w : World) : Calls Try.prog 24 #[S s, I key, I lsn] w fun e w' => e = .returned (.tuple #[(isV s key lsn).val, .bool (isB s key lsn)]) ∧ Below w.heap.size w w' := by
  refine enter (E := E0) (O := []) (nl := 0) (V := vw w) [.a (.v (S s)), .a (.v (I key)), .a (.v (I lsn))] Try.func24 rfl rfl (mem0 E0 0 w) rfl rfl ?_
  refine c_seq ?_
  refine c_region ?_
  refine o_new tok rfl rfl rfl rfl ?_
  refine o_yield rfl rfl rfl (y_val tok rfl) ?_
  refine o_end [0, 1, 2, 6] rfl ?_
  refine x_then ?_
  refine c_seq ?_
  refine c_region ?_
  refine o_yield rfl rfl rfl (y_val tok rfl) ?_
  refine o_call (.a (.v _)) rfl rfl fnok22 rfl rfl rfl (fun hg E w1 hm => by exact refRead_c s hs _) ?_
  refine o_yield rfl rfl rfl (y_val tok rfl) ?_
  refine o_yield rfl rfl rfl (y_val tok rfl) ?_
  refine o_yield rfl rfl rfl (y_val tok rfl) ?_
  refine o_new tok rfl rfl rfl rfl ?_
  refine o_store tok rfl rfl rfl (by first | exact ⟨trivial, trivial⟩ | simp [onesP, oneP, lk, Value.oneCell']) ?_
  refine o_yield rfl rfl rfl (y_val tok rfl) ?_
  refine o_end [1, 2, 6, 8, 9] rfl ?_
  refine x_then ?_
  refine c_seq ?_
  refine c_seq ?_
  refine c_region ?_
  refine o_yield rfl rfl rfl (y_val tok rfl) ?_
  refine o_yield rfl rfl rfl (y_val tok rfl) ?_
  refine o_yield rfl rfl rfl (y_val tok rfl) ?_
  refine o_yield rfl rfl rfl (y_val tok rfl) ?_
  refine o_yield rfl rfl rfl (y_val tok rfl) ?_
  refine o_yield rfl rfl rfl (y_val tok rfl) ?_
  refine o_yield rfl rfl rfl (y_val tok rfl) ?_
  refine o_yield rfl rfl rfl (y_val tok rfl) ?_
  refine o_yield rfl rfl rfl (y_val tok rfl) ?_
  refine o_yield rfl rfl rfl (y_val tok rfl) ?_
  refine o_yield rfl rfl rfl (y_val tok rfl) ?_
  refine o_yield rfl rfl rfl (y_val tok rfl) ?_
  refine o_yield rfl rfl rfl (y_val tok rfl) ?_
  refine o_yield rfl rfl rfl (y_val tok rfl) ?_
  refine o_end [6, 8, 28] rfl ?_
  refine x_then ?_
  refine c_cond rfl (fun h => ?_) (fun h => ?_)
  ·
    refine c_seq ?_
    refine c_region ?_
    refine o_yield rfl rfl rfl (y_val tok rfl) ?_
    refine o_store tok rfl rfl rfl (by first | exact ⟨trivial, trivial⟩ | simp [onesP, oneP, lk, Value.oneCell']) ?_
    refine o_yield rfl rfl rfl (y_val tok rfl) ?_
    refine o_end [6, 7] rfl ?_
    refine x_then ?_
    refine c_ret ?_
    refine x_then_ret ?_
    refine b_ret tok rfl ?_
    rw [isB_iff] at h
    simp at h
    intro E w' hm _
    refine ⟨?_, hm.below (Vw.le.refl _)⟩
    rw [isV, h]
    rfl
  ·
    refine c_skip ?_
    refine x_then ?_
    refine c_seq ?_
    refine c_region ?_
    refine o_yield rfl rfl rfl (y_val tok rfl) ?_
    refine o_store tok rfl rfl rfl (by first | exact ⟨trivial, trivial⟩ | simp [onesP, oneP, lk, Value.oneCell']) ?_
    refine o_yield rfl rfl rfl (y_val tok rfl) ?_
    refine o_end [6, 7] rfl ?_
    refine x_then ?_
    refine c_ret ?_
    refine b_ret tok rfl ?_
    rw [isB_iff] at h
    simp at h
    intro E w' hm _
    refine ⟨?_, hm.below (Vw.le.refl _)⟩
    rw [isV, h]
    rfl

theorem eqB_refl (r : Record) : r.eqB r = true := (Record.eqB_iff r r).2 rfl

theorem recordReads_law (w : World) {v0 v1 v2 : Value} (R0 : ∃ s : ByteArray, v0 = .string s ∧ s.size ≤ maxLen) (R1 : ∃ n : Int, v1 = I n ∧ R64 n) (R2 : ∃ n : Int, v2 = I n ∧ R64 n) :
    Calls Try.prog 5 #[v0, v1, v2] w fun e w' => e = .returned (.bool true) ∧ Below w.heap.size w w' := by
  obtain ⟨s, rfl, hs⟩ := R0
  obtain ⟨key, rfl, _⟩ := R1
  obtain ⟨lsn, rfl, _⟩ := R2
  refine enter (E := E0) (O := []) (nl := 0) (V := vw w) [.a (.v (S s)), .a (.v (I key)), .a (.v (I lsn))] Try.func5 rfl rfl (mem0 E0 0 w) rfl rfl ?_
  refine c_seq ?_
  refine c_region ?_
  refine o_yield rfl rfl rfl (y_val tok rfl) ?_
  refine o_end [0, 1, 2] rfl ?_
  refine x_then ?_
  refine c_seq ?_
  refine c_seq ?_
  refine c_region ?_
  refine o_yield rfl rfl rfl (y_val tok rfl) ?_
  refine o_yield rfl rfl rfl (y_val tok rfl) ?_
  refine o_yield rfl rfl rfl (y_val tok rfl) ?_
  refine o_end [0, 1, 2, 17] rfl ?_
  refine x_then ?_
  refine c_cond rfl (fun h => ?_) (fun h => ?_)
  ·
    simp only [Bool.and_eq_true, Bool.or_eq_true, Bool.not_eq_true', Bool.or_eq_false_iff, Bool.and_eq_false_iff, decide_eq_true_eq, decide_eq_false_iff_not, beq_iff_eq, bne_iff_ne, Bool.not_eq_false', beq_eq_false_iff_ne, bne_eq_false_iff_eq, ne_eq, Decidable.not_not, Int.not_lt, Int.not_le] at h
    refine c_seq ?_
    refine c_region ?_
    refine o_call (.a (.v _)) rfl rfl fnok16 rfl rfl rfl (fun hg E w1 hm => by exact wakes16_c _) ?_
    refine o_yield rfl rfl rfl (y_val tok rfl) ?_
    refine o_end [6] rfl ?_
    refine x_then ?_
    refine c_ret ?_
    refine x_then_ret ?_
    refine b_ret tok rfl ?_
    intro E w' hm _
    refine ⟨?_, hm.below (Vw.le.refl _)⟩
    rfl
  ·
    simp only [Bool.and_eq_true, Bool.or_eq_true, Bool.not_eq_true', Bool.or_eq_false_iff, Bool.and_eq_false_iff, decide_eq_true_eq, decide_eq_false_iff_not, beq_iff_eq, bne_iff_ne, Bool.not_eq_false', beq_eq_false_iff_ne, bne_eq_false_iff_eq, ne_eq, Decidable.not_not, Int.not_lt, Int.not_le] at h
    refine c_skip ?_
    refine x_then ?_
    refine c_seq ?_
    refine c_region ?_
    refine o_yield rfl rfl rfl (y_val tok rfl) ?_
    refine o_call (.a (.v _)) rfl rfl fnok21 rfl rfl rfl (fun hg E w1 hm => by exact recRead_c s hs _) ?_
    refine o_yield rfl rfl rfl (y_val tok rfl) ?_
    refine o_yield rfl rfl rfl (y_val tok rfl) ?_
    refine o_yield rfl rfl rfl (y_val tok rfl) ?_
    refine o_new tok rfl rfl rfl rfl ?_
    refine o_store tok rfl rfl rfl (by first | exact ⟨trivial, trivial⟩ | simp [onesP, oneP, lk, Value.oneCell']) ?_
    refine o_yield rfl rfl rfl (y_val tok rfl) ?_
    refine o_end [0, 1, 2, 7, 8] rfl ?_
    refine x_then ?_
    refine c_seq ?_
    refine c_region ?_
    refine o_yield rfl rfl rfl (y_val tok rfl) ?_
    refine o_call (.a (.v _)) rfl rfl fnok22 rfl rfl rfl (fun hg E w1 hm => by exact refRead_c s hs _) ?_
    refine o_yield rfl rfl rfl (y_val tok rfl) ?_
    refine o_yield rfl rfl rfl (y_val tok rfl) ?_
    refine o_yield rfl rfl rfl (y_val tok rfl) ?_
    refine o_new tok rfl rfl rfl rfl ?_
    refine o_store tok rfl rfl rfl (by first | exact ⟨trivial, trivial⟩ | simp [onesP, oneP, lk, Value.oneCell']) ?_
    refine o_yield rfl rfl rfl (y_val tok rfl) ?_
    refine o_end [0, 1, 2, 7, 8, 9, 10] rfl ?_
    refine x_then ?_
    refine c_seq ?_
    refine c_region ?_
    refine o_yield rfl rfl rfl (y_val tok rfl) ?_
    refine o_yield rfl rfl rfl (y_val tok rfl) ?_
    refine o_yield rfl rfl rfl (y_val tok rfl) ?_
    refine o_call (.a (.v _)) rfl rfl fnok23 rfl rfl rfl (fun hg E w1 hm => by exact recIs_c s key lsn hs _) ?_
    refine o_yield rfl rfl rfl (y_val tok rfl) ?_
    refine o_yield rfl rfl rfl (y_val tok rfl) ?_
    refine o_yield rfl rfl rfl (y_val tok rfl) ?_
    refine o_new tok rfl rfl rfl rfl ?_
    refine o_store tok rfl rfl rfl (by first | exact ⟨trivial, trivial⟩ | simp [onesP, oneP, lk, Value.oneCell']) ?_
    refine o_yield rfl rfl rfl (y_val tok rfl) ?_
    refine o_end [0, 1, 2, 7, 8, 9, 10, 11, 12] rfl ?_
    refine x_then ?_
    refine c_seq ?_
    refine c_region ?_
    refine o_yield rfl rfl rfl (y_val tok rfl) ?_
    refine o_yield rfl rfl rfl (y_val tok rfl) ?_
    refine o_yield rfl rfl rfl (y_val tok rfl) ?_
    refine o_call (.a (.v _)) rfl rfl fnok24 rfl rfl rfl (fun hg E w1 hm => by exact refIs_c s key lsn hs _) ?_
    refine o_yield rfl rfl rfl (y_val tok rfl) ?_
    refine o_yield rfl rfl rfl (y_val tok rfl) ?_
    refine o_yield rfl rfl rfl (y_val tok rfl) ?_
    refine o_new tok rfl rfl rfl rfl ?_
    refine o_store tok rfl rfl rfl (by first | exact ⟨trivial, trivial⟩ | simp [onesP, oneP, lk, Value.oneCell']) ?_
    refine o_yield rfl rfl rfl (y_val tok rfl) ?_
    refine o_end [7, 8, 9, 10, 11, 12, 13, 14] rfl ?_
    refine x_then ?_
    refine c_seq ?_
    refine c_region ?_
    refine o_yield rfl rfl rfl (y_val tok rfl) ?_
    refine o_yield rfl rfl rfl (y_val tok rfl) ?_
    refine o_yield rfl rfl rfl (y_seq (.bool ((readV s).eqB (readV s))) rfl (fun E w => recEq (readV s) (readV s) w (.inl rfl))) ?_
    refine o_yield rfl rfl rfl (y_val tok rfl) ?_
    refine o_yield rfl rfl rfl (y_val tok rfl) ?_
    refine o_yield rfl rfl rfl (y_val tok rfl) ?_
    refine o_yield rfl rfl rfl (y_val tok rfl) ?_
    refine o_yield rfl rfl rfl (y_val tok rfl) ?_
    refine o_yield rfl rfl rfl (y_val tok rfl) ?_
    refine o_yield rfl rfl rfl (y_val tok rfl) ?_
    refine o_yield rfl rfl rfl (y_val tok rfl) ?_
    refine o_yield rfl rfl rfl (y_seq (.bool ((isV s key lsn).eqB (isV s key lsn))) rfl (fun E w => recEq (isV s key lsn) (isV s key lsn) w (.inl rfl))) ?_
    refine o_yield rfl rfl rfl (y_val tok rfl) ?_
    refine o_yield rfl rfl rfl (y_val tok rfl) ?_
    refine o_yield rfl rfl rfl (y_val tok rfl) ?_
    refine o_yield rfl rfl rfl (y_val tok rfl) ?_
    refine o_yield rfl rfl rfl (y_val tok rfl) ?_
    refine o_yield rfl rfl rfl (y_val tok rfl) ?_
    refine o_yield rfl rfl rfl (y_val tok rfl) ?_
    refine o_call (.a (.v _)) rfl rfl fnok16 rfl rfl rfl (fun hg E w1 hm => by exact wakes16_c _) ?_
    refine o_yield rfl rfl rfl (y_val tok rfl) ?_
    refine o_yield rfl rfl rfl (y_val tok rfl) ?_
    refine o_end [6] rfl ?_
    refine x_then ?_
    refine c_ret ?_
    refine b_ret tok rfl ?_
    intro E w' hm _
    refine ⟨?_, hm.below (Vw.le.refl _)⟩
    show Ending.returned (.bool (((((readV s).eqB (readV s) && (readE s == readE s)) && (isV s key lsn).eqB (isV s key lsn)) && (isB s key lsn == isB s key lsn)) && true)) = _
    rw [eqB_refl, eqB_refl]
    simp
end Go.Proofs.Ytlcpfhjbhogdiaa
