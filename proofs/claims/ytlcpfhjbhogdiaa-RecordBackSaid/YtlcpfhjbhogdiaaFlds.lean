/- A sealed sector's numbers, and what is left. -/
import Derived.Test.YtlcpfhjbhogdiaaSeal
set_option linter.unusedVariables false
set_option linter.unusedSimpArgs false
set_option maxRecDepth 100000
namespace Go.Proofs.Ytlcpfhjbhogdiaa
open Go Go.Eng Go.RowKit

def restOf (s : ByteArray) (k : Nat) : ByteArray := s.extract k s.size

theorem restOf_list (s : ByteArray) (k : Nat) : (restOf s k).data.toList = s.data.toList.drop k := by
  rw [restOf, ByteArray.data_extract, Array.toList_extract, List.extract_eq_take_drop]
  rw [List.take_of_length_le (by rw [List.length_drop, size_list]; omega)]

theorem restOf_size (s : ByteArray) (k : Nat) : (restOf s k).size = s.size - k := by
  rw [← size_list, restOf_list, List.length_drop, size_list]

theorem restOf_add (s : ByteArray) (a b : Nat) : restOf (restOf s a) b = restOf s (a + b) := by
  apply str_ext
  rw [restOf_list, restOf_list, restOf_list, List.drop_drop]

theorem restOf_zero (s : ByteArray) : restOf s 0 = s := by
  apply str_ext
  rw [restOf_list, List.drop_zero]

theorem digit_rest (s : ByteArray) (a j : Nat) : digit (restOf s a) 0 j = digit s a j := by
  rw [digit, digit, byteAt_list, byteAt_list, restOf_list]
  simp [List.getD]

theorem leTo_congr {f g : Nat → Nat} (h : ∀ j, f j = g j) (k : Nat) : leTo f k = leTo g k := by
  rw [funext h]

theorem getSpec_rest (s : ByteArray) {a : Nat} (ha : a ≤ s.size) (k : Int) : getSpec (restOf s a) 0 k = getSpec s a k := by
  have hd : leTo (digit (restOf s a) (0 : Int).toNat) k.toNat = leTo (digit s ((a : Int)).toNat) k.toNat := leTo_congr (fun j => by rw [Int.toNat_natCast]; exact digit_rest s a j) _
  unfold getSpec
  rw [hd, restOf_size]
  by_cases h : widthB k = false
  · rw [if_pos h, if_pos h]
  · rw [if_neg h, if_neg h]
    by_cases h2 : (s.size : Int) - a < k
    · rw [if_pos (by omega), if_pos (by omega)]
    · rw [if_neg (show ¬ ((0 : Int) < 0 ∨ ((s.size - a : Nat) : Int) < 0 ∨ ((s.size - a : Nat) : Int) - 0 < k) by omega), if_neg (show ¬ ((a : Int) < 0 ∨ (s.size : Int) < a ∨ (s.size : Int) - a < k) by omega)]

theorem getSpec_ok {s : ByteArray} {a k : Int} (h : (getSpec s a k).2 = 0) : widthB k = true ∧ 0 ≤ a ∧ a + k ≤ s.size := by
  unfold getSpec at h
  split at h
  · simp at h
  · rename_i hw
    split at h
    · simp at h
    · exact ⟨by simpa using hw, by omega, by omega⟩

theorem getSpec_64 (s : ByteArray) (a k : Int) : 0 ≤ (getSpec s a k).1 ∧ (getSpec s a k).1 ≤ 1099511627776 := by
  unfold getSpec
  split
  · simp
  · split
    · simp
    · split
      · simp
      · simp only; omega

/-- The numbers that stand one behind the other, and what is left. -/
def fldA (acc : List Int) (rest : ByteArray) : List Int → Option (List Int × ByteArray)
  | [] => some (acc, rest)
  | k :: ks => if (getSpec rest 0 k).2 ≠ 0 then none else fldA (acc ++ [(getSpec rest 0 k).1]) (restOf rest k.toNat) ks

def fieldsR (kind : Int) (s : ByteArray) (ks : List Int) : Option (List Int × ByteArray) := if ofB kind s = true then fldA [] (loadOf s) ks else none

def FPost (kind : Int) (s : ByteArray) (ks : List Int) (w : World) (e : Ending) (w' : World) : Prop :=
  ((∃ l r v, fieldsR kind s ks = some (l, r) ∧ e = .returned (.tuple #[v, S r, I 0]) ∧ w'.ownsRow w.heap.size 3 1 v l.length (l.flatMap encI64)) ∨
    (fieldsR kind s ks = none ∧ e = .returned (.tuple #[.slice none 0 0, S ByteArray.empty, I 30]))) ∧ Below w.heap.size w w'

theorem int_ones (l : List Int) : ∀ u ∈ l.flatMap encI64, u.oneCell' = true := by
  intro u hu
  obtain ⟨x, _, hx⟩ := List.mem_flatMap.1 hu
  simp only [List.mem_singleton] at hx
  subst hx
  rfl

theorem load_size (s : ByteArray) (h : openB s = true) : (loadOf s).size ≤ 505 ∧ (loadOf s).size = s.size - 7 := by
  simp only [openB, Bool.and_eq_true, decide_eq_true_eq] at h
  rw [loadOf, ByteArray.size_extract]; omega

theorem ofB_open {kind : Int} {s : ByteArray} (h : ofB kind s = true) : openB s = true := by
  rw [ofB, Bool.and_eq_true] at h; exact h.1

structure FInv (ks acc : List Int) (load rest : ByteArray) (i : Nat) : Prop where
  le : i ≤ ks.length
  eq : fldA [] load ks = fldA acc rest (ks.drop i)
  len : acc.length = i
  size : rest.size ≤ 505

theorem fields_c (kind : Int) (s : ByteArray) (V : Vw) (kv : Value) (ks : List Int) (w : World) (hs : s.size ≤ maxLen) (hV : V.le (vw w)) (hk : SlOf V encI64 1 kv ks) (hn : ks.length ≤ 1000) :
    Calls Try.prog 74 #[I8 kind, S s, kv] w (FPost kind s ks w) := by
  have hk' := hk.mono hV
  refine enter (E := E0) (O := []) (nl := 0) (V := vw w) [.a (.v (I8 kind)), .a (.v (S s)), .a (.v kv)] Try.func74 rfl rfl (mem0 E0 0 w) rfl rfl ?_
  refine c_seq ?_
  refine c_region ?_
  refine o_yield rfl rfl rfl (y_val tok rfl) ?_
  refine o_yield rfl rfl rfl (y_val tok rfl) ?_
  refine o_yield rfl rfl rfl (y_val tok rfl) ?_
  refine o_end [0, 1, 2, 6] rfl ?_
  refine x_then ?_
  refine c_seq ?_
  refine c_region ?_
  refine o_yield rfl rfl rfl (y_val tok rfl) ?_
  refine o_yield rfl rfl rfl (y_val tok rfl) ?_
  refine o_call (.a (.v _)) rfl rfl fnok126 rfl rfl rfl (fun hg E w1 hm => by exact sealOf_c kind s hs _) ?_
  refine o_yield rfl rfl rfl (y_val tok rfl) ?_
  refine o_yield rfl rfl rfl (y_val tok rfl) ?_
  refine o_yield rfl rfl rfl (y_val tok rfl) ?_
  refine o_yield rfl rfl rfl (y_val tok rfl) ?_
  refine o_yield rfl rfl rfl (y_val tok rfl) ?_
  refine o_end [2, 6, 7, 8] rfl ?_
  refine x_then ?_
  refine c_seq ?_
  refine c_seq ?_
  refine c_region ?_
  refine o_yield rfl rfl rfl (y_val tok rfl) ?_
  refine o_yield rfl rfl rfl (y_len tok rfl (fun hg => hk'.sl)) ?_
  refine o_yield rfl rfl rfl (y_val tok rfl) ?_
  refine o_end [6, 7, 8, 19, 20, 21] rfl ?_
  refine x_then ?_
  refine c_block ?_
  have hsz0 : (ofL kind s).size ≤ 505 := by
    unfold ofL
    cases ho : ofB kind s with
    | false => simp
    | true => rw [if_pos rfl]; exact (load_size s (ofB_open ho)).1
  have hno : ofE kind s ≠ 0 → fieldsR kind s ks = none := fun hc => by
    rw [fieldsR, if_neg]
    intro hq
    exact hc (by rw [ofE, if_pos hq])
  have hE30 : ofE kind s ≠ 0 → ofE kind s = 30 := fun hc => by
    unfold ofE at hc ⊢
    split
    · rename_i hq; rw [if_pos hq] at hc; exact absurd rfl hc
    · rfl
  refine k_nil 6 3 1 rfl rfl ?_
  refine c_loopK [19, 20] [0] rfl rfl (σ := Nat × List Int × ByteArray) (fun (i, acc, rest) => [(6, .a (.row 0)), (7, .a (.v (S rest))), (8, .a (.v (I (ofE kind s)))), (21, .a (.v (I i)))]) (fun (i, acc, rest) => [(0, .row 3 1 acc.length (acc.flatMap encI64))]) (fun (i, acc, rest) => FInv ks acc (ofL kind s) rest i) (fun (i, acc, rest) => ks.length - i) ((0, [], ofL kind s)) (⟨by omega, rfl, rfl, hsz0⟩) (by repeat (first | exact SubF.nil | refine SubF.cons rfl ?_)) (by repeat (first | exact SubO.nil | refine SubO.cons rfl ?_)) rfl ?_
  rintro ⟨i, acc, rest⟩ ⟨hi, heq, hacc, hsz⟩
  refine c_seq ?_
  refine c_region ?_
  refine o_yield rfl rfl rfl (y_val tok rfl) ?_
  refine o_end [6, 7, 8, 19, 20, 21, 22] rfl ?_
  refine x_then ?_
  refine c_seq ?_
  refine c_cond rfl (fun h => ?_) (fun h => ?_)
  ·
    simp only [Bool.and_eq_true, Bool.or_eq_true, Bool.not_eq_true', Bool.or_eq_false_iff, Bool.and_eq_false_iff, decide_eq_true_eq, decide_eq_false_iff_not, beq_iff_eq, bne_iff_ne, Bool.not_eq_false', beq_eq_false_iff_ne, bne_eq_false_iff_eq, ne_eq, Decidable.not_not, Int.not_lt, Int.not_le] at h
    refine c_skip ?_
    refine x_then ?_
    refine c_seq ?_
    refine c_block ?_
    refine c_seq ?_
    refine c_region ?_
    obtain ⟨k, h_k⟩ := hk'.at (k := i) (by omega)
    have hlt_k := lt_of_at h_k
    refine o_yield rfl rfl rfl (y_idx tok rfl (fun hg => hk'.sl) (fun hg => ⟨by omega, by omega⟩)) ?_
    refine o_yield rfl rfl rfl (y_lel tok (i) 0 (k) rfl (fun hg => hk') (fun hg => h_k) rfl rfl) ?_
    refine o_yield rfl rfl rfl (y_val tok rfl) ?_
    refine o_end [6, 7, 8, 10, 19, 20, 21] rfl ?_
    refine x_then ?_
    refine c_seq ?_
    refine c_seq ?_
    refine c_region ?_
    refine o_yield rfl rfl rfl (y_val tok rfl) ?_
    refine o_yield rfl rfl rfl (y_val tok rfl) ?_
    refine o_end [6, 7, 8, 10, 19, 20, 21, 26] rfl ?_
    refine x_then ?_
    refine c_cond rfl (fun h => ?_) (fun h => ?_)
    ·
      simp only [Bool.and_eq_true, Bool.or_eq_true, Bool.not_eq_true', Bool.or_eq_false_iff, Bool.and_eq_false_iff, decide_eq_true_eq, decide_eq_false_iff_not, beq_iff_eq, bne_iff_ne, Bool.not_eq_false', beq_eq_false_iff_ne, bne_eq_false_iff_eq, ne_eq, Decidable.not_not, Int.not_lt, Int.not_le] at h
      refine c_exit ?_
      refine x_then_exit ?_
      refine x_block_miss rfl ?_
      refine x_then_exit ?_
      refine x_then_exit ?_
      refine x_block_hit ?_
      refine x_then ?_
      refine c_seq ?_
      refine c_seq ?_
      refine c_region ?_
      refine o_yield rfl rfl rfl (y_val tok rfl) ?_
      refine o_yield rfl rfl rfl (y_val tok rfl) ?_
      refine o_end [6, 7, 8, 44] rfl ?_
      refine x_then ?_
      refine c_cond rfl (fun h => ?_) (fun h => ?_)
      ·
        simp only [Bool.and_eq_true, Bool.or_eq_true, Bool.not_eq_true', Bool.or_eq_false_iff, Bool.and_eq_false_iff, decide_eq_true_eq, decide_eq_false_iff_not, beq_iff_eq, bne_iff_ne, Bool.not_eq_false', beq_eq_false_iff_ne, bne_eq_false_iff_eq, ne_eq, Decidable.not_not, Int.not_lt, Int.not_le] at h
        refine c_seq ?_
        refine c_region ?_
        refine o_yield rfl rfl rfl (y_val tok rfl) ?_
        refine o_yield rfl rfl rfl (y_val tok rfl) ?_
        refine o_yield rfl rfl rfl (y_val tok rfl) ?_
        refine o_yield rfl rfl rfl (y_val tok rfl) ?_
        refine o_end [6, 7, 8] rfl ?_
        refine x_then ?_
        refine c_ret ?_
        refine x_then_ret ?_
        refine b_ret tok rfl ?_
        rw [hE30 h]
        intro E w' hm _
        exact ⟨.inr ⟨hno h, rfl⟩, hm.below (Vw.le.refl _)⟩
      ·
        simp only [Bool.and_eq_true, Bool.or_eq_true, Bool.not_eq_true', Bool.or_eq_false_iff, Bool.and_eq_false_iff, decide_eq_true_eq, decide_eq_false_iff_not, beq_iff_eq, bne_iff_ne, Bool.not_eq_false', beq_eq_false_iff_ne, bne_eq_false_iff_eq, ne_eq, Decidable.not_not, Int.not_lt, Int.not_le] at h
        refine c_skip ?_
        refine x_then ?_
        refine c_seq ?_
        refine c_region ?_
        refine o_yield rfl rfl rfl (y_val tok rfl) ?_
        refine o_yield rfl rfl rfl (y_val tok rfl) ?_
        refine o_yield rfl rfl rfl (y_val tok rfl) ?_
        refine o_yield rfl rfl rfl (y_val tok rfl) ?_
        refine o_yield rfl rfl rfl (y_val tok rfl) ?_
        refine o_end [6, 7, 8] rfl ?_
        refine x_then ?_
        refine c_ret ?_
        refine b_ret tok rfl ?_
        contradiction
    ·
      simp only [Bool.and_eq_true, Bool.or_eq_true, Bool.not_eq_true', Bool.or_eq_false_iff, Bool.and_eq_false_iff, decide_eq_true_eq, decide_eq_false_iff_not, beq_iff_eq, bne_iff_ne, Bool.not_eq_false', beq_eq_false_iff_ne, bne_eq_false_iff_eq, ne_eq, Decidable.not_not, Int.not_lt, Int.not_le] at h
      refine c_skip ?_
      refine x_then ?_
      refine c_seq ?_
      refine c_region ?_
      refine o_yield rfl rfl rfl (y_val tok rfl) ?_
      refine o_yield rfl rfl rfl (y_val tok rfl) ?_
      have hE := h
      clear h
      rw [List.drop_eq_getElem_cons hlt_k] at heq
      have hkk : ks[i] = k := by
        have := h_k
        rw [List.getElem?_eq_getElem hlt_k] at this
        exact Option.some.inj this
      rw [hkk, fldA] at heq
      have hR : fieldsR kind s ks = fldA [] (ofL kind s) ks := by
        have ho : ofB kind s = true := by
          cases hq : ofB kind s with
          | true => rfl
          | false => rw [ofE, if_neg (by simp [hq])] at hE; cases hE
        rw [fieldsR, if_pos ho, ofL, if_pos ho]
      refine o_call (.a (.v _)) rfl rfl fnok127 rfl rfl rfl (fun hg E w1 hm => by exact numGet_c rest 0 k (by simp only [maxLen]; omega) _) ?_
      refine o_yield rfl rfl rfl (y_val tok rfl) ?_
      refine o_yield rfl rfl rfl (y_val tok rfl) ?_
      refine o_yield rfl rfl rfl (y_val tok rfl) ?_
      refine o_yield rfl rfl rfl (y_val tok rfl) ?_
      refine o_yield rfl rfl rfl (y_val tok rfl) ?_
      refine o_end [6, 7, 8, 10, 11, 12, 19, 20, 21] rfl ?_
      refine x_then ?_
      refine c_seq ?_
      refine c_seq ?_
      refine c_region ?_
      refine o_yield rfl rfl rfl (y_val tok rfl) ?_
      refine o_yield rfl rfl rfl (y_val tok rfl) ?_
      refine o_end [6, 7, 8, 10, 11, 19, 20, 21, 34] rfl ?_
      refine x_then ?_
      refine c_cond rfl (fun h => ?_) (fun h => ?_)
      ·
        simp only [Bool.and_eq_true, Bool.or_eq_true, Bool.not_eq_true', Bool.or_eq_false_iff, Bool.and_eq_false_iff, decide_eq_true_eq, decide_eq_false_iff_not, beq_iff_eq, bne_iff_ne, Bool.not_eq_false', beq_eq_false_iff_ne, bne_eq_false_iff_eq, ne_eq, Decidable.not_not, Int.not_lt, Int.not_le] at h
        refine c_seq ?_
        refine c_region ?_
        refine o_yield rfl rfl rfl (y_val tok rfl) ?_
        refine o_yield rfl rfl rfl (y_val tok rfl) ?_
        refine o_yield rfl rfl rfl (y_val tok rfl) ?_
        refine o_end [6, 7, 8] rfl ?_
        refine x_then ?_
        refine c_ret ?_
        refine x_then_ret ?_
        refine x_block_ret ?_
        refine x_then_ret ?_
        refine x_then_ret ?_
        refine x_block_ret ?_
        refine x_then_ret ?_
        refine b_ret tok rfl ?_
        intro E w' hm _
        exact ⟨.inr ⟨by rw [hR, heq, if_pos h], rfl⟩, hm.below (Vw.le.refl _)⟩
      ·
        simp only [Bool.and_eq_true, Bool.or_eq_true, Bool.not_eq_true', Bool.or_eq_false_iff, Bool.and_eq_false_iff, decide_eq_true_eq, decide_eq_false_iff_not, beq_iff_eq, bne_iff_ne, Bool.not_eq_false', beq_eq_false_iff_ne, bne_eq_false_iff_eq, ne_eq, Decidable.not_not, Int.not_lt, Int.not_le] at h
        rw [if_neg (by simp [h])] at heq
        obtain ⟨hw, _, hle⟩ := getSpec_ok h
        simp only [widthB, Bool.and_eq_true, decide_eq_true_eq] at hw
        refine c_skip ?_
        refine x_then ?_
        refine c_held [] ([]) mixed (by repeat (first | exact SubO.nil | refine SubO.cons rfl ?_)) rfl ?_
        refine t_take 0 rfl (by kernel_rfl) rfl rfl rfl (y_val tok rfl) rfl ?_
        refine t_take 1 rfl (by kernel_rfl) rfl rfl rfl (y_val tok rfl) rfl ?_
        refine t_take 4 rfl (by kernel_rfl) rfl rfl rfl (y_val tok rfl) rfl ?_
        refine t_take 5 rfl (by kernel_rfl) rfl rfl rfl (y_val tok rfl) rfl ?_
        obtain ⟨q, rfl⟩ : ∃ q : Nat, k = q := ⟨k.toNat, by omega⟩
        refine t_take 6 rfl (by kernel_rfl) rfl rfl rfl (y_ss tok rfl (fun hg => by simp only [Option.getD]; omega)) rfl ?_
        refine t_go ?_
        refine h_one 2 (by kernel_rfl) ?_
        rw [show rest.extract ((some (q : Int)).getD 0).toNat ((none : Option Int).getD (rest.size : Int)).toNat = restOf rest q from rfl]
        refine h_to 2 rfl rfl rfl rfl rfl rfl (s_bs tok 1 rfl rfl rfl) (.inr fun _ _ => ⟨(by repeat (first | exact SubO.nil | refine SubO.cons rfl ?_)), rfl, Vw.le.refl _⟩) (fun _ _ => ?_)
        refine h_one 3 (by kernel_rfl) ?_
        refine h_to 3 rfl rfl rfl rfl rfl rfl (s_app tok ([(getSpec rest 0 q).1].flatMap encI64) rfl (fun E w hm => ownsRow_src (hm.row 1 _ _ _ _ rfl)) (fun _ _ _ => int_ones _) (by dsimp only; omega)) (.inr fun _ _ => ⟨(by repeat (first | exact SubO.nil | refine SubO.cons rfl ?_)), rfl, Vw.le.refl _⟩) (fun _ _ => ?_)
        refine h_one 7 (by kernel_rfl) ?_
        refine h_yield 7 rfl rfl rfl rfl (y_val tok rfl) ?_
        refine h_one 8 (by kernel_rfl) ?_
        refine h_yield 8 rfl rfl rfl rfl (y_val tok rfl) ?_
        refine h_done [6, 7, 8, 19, 20, 21] (by kernel_rfl) rfl ?_
        refine x_block ?_
        refine x_then ?_
        refine c_region ?_
        refine o_yield rfl rfl rfl (y_val tok rfl) ?_
        refine o_yield rfl rfl rfl (y_val tok rfl) ?_
        refine o_end [6, 7, 8, 19, 20, 21] rfl ?_
        refine x_then ?_
        rw [← List.flatMap_append, show acc.length + 1 = (acc ++ [(getSpec rest 0 q).1]).length by simp, wrapI (n := (i : Int) + 1) (by omega) (by omega)]
        refine k_swap 0 2 rfl ?_
        have hrs := restOf_size rest q
        refine x_round ((i + 1, acc ++ [(getSpec rest 0 q).1], restOf rest q)) (⟨by omega, heq, by simp [hacc], by omega⟩) (by first | omega | (dsimp only; omega)) (by repeat (first | exact SubF.nil | refine SubF.cons rfl ?_)) (by repeat (first | exact SubO.nil | refine SubO.cons rfl ?_)) rfl (Vw.le.refl _)
  ·
    simp only [Bool.and_eq_true, Bool.or_eq_true, Bool.not_eq_true', Bool.or_eq_false_iff, Bool.and_eq_false_iff, decide_eq_true_eq, decide_eq_false_iff_not, beq_iff_eq, bne_iff_ne, Bool.not_eq_false', beq_eq_false_iff_ne, bne_eq_false_iff_eq, ne_eq, Decidable.not_not, Int.not_lt, Int.not_le] at h
    have hil : i = ks.length := by omega
    subst hil
    rw [List.drop_length] at heq
    refine c_exit ?_
    refine x_then_exit ?_
    refine x_then_exit ?_
    refine x_block_hit ?_
    refine x_then ?_
    refine c_seq ?_
    refine c_seq ?_
    refine c_region ?_
    refine o_yield rfl rfl rfl (y_val tok rfl) ?_
    refine o_yield rfl rfl rfl (y_val tok rfl) ?_
    refine o_end [6, 7, 8, 44] rfl ?_
    refine x_then ?_
    refine c_cond rfl (fun h => ?_) (fun h => ?_)
    ·
      simp only [Bool.and_eq_true, Bool.or_eq_true, Bool.not_eq_true', Bool.or_eq_false_iff, Bool.and_eq_false_iff, decide_eq_true_eq, decide_eq_false_iff_not, beq_iff_eq, bne_iff_ne, Bool.not_eq_false', beq_eq_false_iff_ne, bne_eq_false_iff_eq, ne_eq, Decidable.not_not, Int.not_lt, Int.not_le] at h
      refine c_seq ?_
      refine c_region ?_
      refine o_yield rfl rfl rfl (y_val tok rfl) ?_
      refine o_yield rfl rfl rfl (y_val tok rfl) ?_
      refine o_yield rfl rfl rfl (y_val tok rfl) ?_
      refine o_yield rfl rfl rfl (y_val tok rfl) ?_
      refine o_end [6, 7, 8] rfl ?_
      refine x_then ?_
      refine c_ret ?_
      refine x_then_ret ?_
      refine b_ret tok rfl ?_
      rw [hE30 h]
      intro E w' hm _
      exact ⟨.inr ⟨hno h, rfl⟩, hm.below (Vw.le.refl _)⟩
    ·
      simp only [Bool.and_eq_true, Bool.or_eq_true, Bool.not_eq_true', Bool.or_eq_false_iff, Bool.and_eq_false_iff, decide_eq_true_eq, decide_eq_false_iff_not, beq_iff_eq, bne_iff_ne, Bool.not_eq_false', beq_eq_false_iff_ne, bne_eq_false_iff_eq, ne_eq, Decidable.not_not, Int.not_lt, Int.not_le] at h
      refine c_skip ?_
      refine x_then ?_
      refine c_seq ?_
      refine c_region ?_
      refine o_yield rfl rfl rfl (y_val tok rfl) ?_
      refine o_yield rfl rfl rfl (y_val tok rfl) ?_
      refine o_yield rfl rfl rfl (y_val tok rfl) ?_
      refine o_yield rfl rfl rfl (y_val tok rfl) ?_
      refine o_yield rfl rfl rfl (y_val tok rfl) ?_
      refine o_end [6, 7, 8] rfl ?_
      refine x_then ?_
      refine c_ret ?_
      refine b_ret tok rfl ?_
      have hR : fieldsR kind s ks = some (acc, rest) := by
        have ho : ofB kind s = true := by
          cases hq : ofB kind s with
          | true => rfl
          | false => rw [ofE, if_neg (by simp [hq])] at h; cases h
        rw [ofL, if_pos ho] at heq
        rw [fieldsR, if_pos ho, heq]
        rfl
      intro E w' hm _
      exact ⟨.inl ⟨acc, rest, E.κ 0, hR, rfl, hm.rowFresh (Vw.le.refl _) (l := 0) rfl⟩, hm.below (Vw.le.refl _)⟩

theorem refFields_c (kind : Int) (s : ByteArray) (V : Vw) (kv : Value) (ks : List Int) (w : World) (hs : s.size ≤ maxLen) (hV : V.le (vw w)) (hk : SlOf V encI64 1 kv ks) (hn : ks.length ≤ 1000) :
    Calls Try.prog 77 #[I8 kind, S s, kv] w (FPost kind s ks w) := by
  have hk' := hk.mono hV
  refine enter (E := E0) (O := []) (nl := 0) (V := vw w) [.a (.v (I8 kind)), .a (.v (S s)), .a (.v kv)] Try.func77 rfl rfl (mem0 E0 0 w) rfl rfl ?_
  refine c_seq ?_
  refine c_region ?_
  refine o_yield rfl rfl rfl (y_val tok rfl) ?_
  refine o_yield rfl rfl rfl (y_val tok rfl) ?_
  refine o_yield rfl rfl rfl (y_val tok rfl) ?_
  refine o_end [0, 1, 2] rfl ?_
  refine x_then ?_
  refine c_seq ?_
  refine c_region ?_
  refine o_yield rfl rfl rfl (y_val tok rfl) ?_
  refine o_yield rfl rfl rfl (y_val tok rfl) ?_
  refine o_call (.a (.v _)) rfl rfl fnok96 rfl rfl rfl (fun hg E w1 hm => by exact refOf_c kind s hs _) ?_
  refine o_yield rfl rfl rfl (y_val tok rfl) ?_
  refine o_yield rfl rfl rfl (y_val tok rfl) ?_
  refine o_yield rfl rfl rfl (y_val tok rfl) ?_
  refine o_yield rfl rfl rfl (y_val tok rfl) ?_
  refine o_yield rfl rfl rfl (y_val tok rfl) ?_
  refine o_end [2, 9, 10] rfl ?_
  refine x_then ?_
  refine c_seq ?_
  refine c_seq ?_
  refine c_region ?_
  refine o_yield rfl rfl rfl (y_val tok rfl) ?_
  refine o_yield rfl rfl rfl (y_val tok rfl) ?_
  refine o_end [2, 9, 10, 23] rfl ?_
  refine x_then ?_
  refine c_cond rfl (fun h => ?_) (fun h => ?_)
  ·
    simp only [Bool.and_eq_true, Bool.or_eq_true, Bool.not_eq_true', Bool.or_eq_false_iff, Bool.and_eq_false_iff, decide_eq_true_eq, decide_eq_false_iff_not, beq_iff_eq, bne_iff_ne, Bool.not_eq_false', beq_eq_false_iff_ne, bne_eq_false_iff_eq, ne_eq, Decidable.not_not, Int.not_lt, Int.not_le] at h
    refine c_seq ?_
    refine c_region ?_
    refine o_yield rfl rfl rfl (y_val tok rfl) ?_
    refine o_yield rfl rfl rfl (y_val tok rfl) ?_
    refine o_yield rfl rfl rfl (y_val tok rfl) ?_
    refine o_yield rfl rfl rfl (y_val tok rfl) ?_
    refine o_end [6, 7, 8] rfl ?_
    refine x_then ?_
    refine c_ret ?_
    refine x_then_ret ?_
    refine b_ret tok rfl ?_
    have hE : ofE kind s = 30 := by
      unfold ofE at h ⊢
      split
      · rename_i hq; rw [if_pos hq] at h; exact absurd rfl h
      · rfl
    have hR : fieldsR kind s ks = none := by
      rw [fieldsR, if_neg]
      intro hq
      exact h (by rw [ofE, if_pos hq])
    rw [hE]
    intro E w' hm _
    exact ⟨.inr ⟨hR, rfl⟩, hm.below (Vw.le.refl _)⟩
  ·
    simp only [Bool.and_eq_true, Bool.or_eq_true, Bool.not_eq_true', Bool.or_eq_false_iff, Bool.and_eq_false_iff, decide_eq_true_eq, decide_eq_false_iff_not, beq_iff_eq, bne_iff_ne, Bool.not_eq_false', beq_eq_false_iff_ne, bne_eq_false_iff_eq, ne_eq, Decidable.not_not, Int.not_lt, Int.not_le] at h
    refine c_skip ?_
    refine x_then ?_
    refine c_seq ?_
    refine c_region ?_
    refine o_yield rfl rfl rfl (y_val tok rfl) ?_
    refine o_end [2, 9, 11] rfl ?_
    refine x_then ?_
    refine c_seq ?_
    refine c_region ?_
    refine o_yield rfl rfl rfl (y_val tok rfl) ?_
    refine o_end [2, 9, 11, 12] rfl ?_
    refine x_then ?_
    refine c_seq ?_
    refine c_seq ?_
    refine c_region ?_
    refine o_yield rfl rfl rfl (y_val tok rfl) ?_
    refine o_end [2, 9, 11, 12, 13] rfl ?_
    refine x_then ?_
    refine c_block ?_
    have ho : ofB kind s = true := by
      cases hq : ofB kind s with
      | true => rfl
      | false => rw [ofE, if_neg (by simp [hq])] at h; cases h
    have hsz0 := (load_size s (ofB_open ho)).1
    rw [show ofL kind s = loadOf s by rw [ofL, if_pos ho]]
    obtain ⟨L, hL⟩ : ∃ L, loadOf s = L := ⟨_, rfl⟩
    have hR : fieldsR kind s ks = fldA [] L ks := by rw [fieldsR, if_pos ho, hL]
    rw [hL] at hsz0 ⊢
    refine k_nil 11 3 1 rfl rfl ?_
    refine c_loopK [2, 9] [0] rfl rfl (σ := Nat × List Int × Nat) (fun (i, acc, a) => [(11, .a (.row 0)), (12, .a (.v (I a))), (13, .a (.v (I i)))]) (fun (i, acc, a) => [(0, .row 3 1 acc.length (acc.flatMap encI64))]) (fun (i, acc, a) => FInv ks acc L (restOf L a) i ∧ a ≤ L.size) (fun (i, acc, a) => ks.length - i) ((0, [], 0)) (⟨⟨by omega, by rw [restOf_zero]; rfl, rfl, by rw [restOf_zero]; exact hsz0⟩, by omega⟩) (by repeat (first | exact SubF.nil | refine SubF.cons rfl ?_)) (by repeat (first | exact SubO.nil | refine SubO.cons rfl ?_)) rfl ?_
    rintro ⟨i, acc, a⟩ ⟨⟨hi, heq, hacc, hsz⟩, ha⟩
    refine c_seq ?_
    refine c_seq ?_
    refine c_region ?_
    refine o_yield rfl rfl rfl (y_val tok rfl) ?_
    refine o_yield rfl rfl rfl (y_val tok rfl) ?_
    refine o_yield rfl rfl rfl (y_len tok rfl (fun hg => hk'.sl)) ?_
    refine o_yield rfl rfl rfl (y_val tok rfl) ?_
    refine o_end [2, 9, 11, 12, 13, 28] rfl ?_
    refine x_then ?_
    refine c_cond rfl (fun h => ?_) (fun h => ?_)
    ·
      simp only [Bool.and_eq_true, Bool.or_eq_true, Bool.not_eq_true', Bool.or_eq_false_iff, Bool.and_eq_false_iff, decide_eq_true_eq, decide_eq_false_iff_not, beq_iff_eq, bne_iff_ne, Bool.not_eq_false', beq_eq_false_iff_ne, bne_eq_false_iff_eq, ne_eq, Decidable.not_not, Int.not_lt, Int.not_le] at h
      refine c_skip ?_
      refine x_then ?_
      refine c_seq ?_
      refine c_block ?_
      refine c_seq ?_
      refine c_region ?_
      refine o_yield rfl rfl rfl (y_val tok rfl) ?_
      refine o_yield rfl rfl rfl (y_val tok rfl) ?_
      refine o_yield rfl rfl rfl (y_val tok rfl) ?_
      refine o_yield rfl rfl rfl (y_val tok rfl) ?_
      obtain ⟨k, h_k⟩ := hk'.at (k := i) (by omega)
      have hlt_k := lt_of_at h_k
      refine o_yield rfl rfl rfl (y_idx tok rfl (fun hg => hk'.sl) (fun hg => ⟨by omega, by omega⟩)) ?_
      refine o_yield rfl rfl rfl (y_lel tok (i) 0 (k) rfl (fun hg => hk') (fun hg => h_k) rfl rfl) ?_
      rw [List.drop_eq_getElem_cons hlt_k] at heq
      have hkk : ks[i] = k := by
        have := h_k
        rw [List.getElem?_eq_getElem hlt_k] at this
        exact Option.some.inj this
      rw [hkk, fldA, getSpec_rest L ha] at heq
      refine o_call (.a (.v _)) rfl rfl fnok130 rfl rfl rfl (fun hg E w1 hm => by exact refGet_c L a k (by simp only [maxLen]; omega) _) ?_
      refine o_yield rfl rfl rfl (y_val tok rfl) ?_
      refine o_yield rfl rfl rfl (y_val tok rfl) ?_
      refine o_yield rfl rfl rfl (y_val tok rfl) ?_
      refine o_yield rfl rfl rfl (y_val tok rfl) ?_
      refine o_yield rfl rfl rfl (y_val tok rfl) ?_
      refine o_end [2, 9, 11, 12, 13, 14, 15] rfl ?_
      refine x_then ?_
      refine c_seq ?_
      refine c_seq ?_
      refine c_region ?_
      refine o_yield rfl rfl rfl (y_val tok rfl) ?_
      refine o_yield rfl rfl rfl (y_val tok rfl) ?_
      refine o_end [2, 9, 11, 12, 13, 14, 42] rfl ?_
      refine x_then ?_
      refine c_cond rfl (fun h => ?_) (fun h => ?_)
      ·
        simp only [Bool.and_eq_true, Bool.or_eq_true, Bool.not_eq_true', Bool.or_eq_false_iff, Bool.and_eq_false_iff, decide_eq_true_eq, decide_eq_false_iff_not, beq_iff_eq, bne_iff_ne, Bool.not_eq_false', beq_eq_false_iff_ne, bne_eq_false_iff_eq, ne_eq, Decidable.not_not, Int.not_lt, Int.not_le] at h
        refine c_seq ?_
        refine c_region ?_
        refine o_yield rfl rfl rfl (y_val tok rfl) ?_
        refine o_yield rfl rfl rfl (y_val tok rfl) ?_
        refine o_yield rfl rfl rfl (y_val tok rfl) ?_
        refine o_end [6, 7, 8] rfl ?_
        refine x_then ?_
        refine c_ret ?_
        refine x_then_ret ?_
        refine x_block_ret ?_
        refine x_then_ret ?_
        refine x_then_ret ?_
        refine x_block_ret ?_
        refine x_then_ret ?_
        refine b_ret tok rfl ?_
        intro E w' hm _
        exact ⟨.inr ⟨by rw [hR, heq, if_pos h], rfl⟩, hm.below (Vw.le.refl _)⟩
      ·
        simp only [Bool.and_eq_true, Bool.or_eq_true, Bool.not_eq_true', Bool.or_eq_false_iff, Bool.and_eq_false_iff, decide_eq_true_eq, decide_eq_false_iff_not, beq_iff_eq, bne_iff_ne, Bool.not_eq_false', beq_eq_false_iff_ne, bne_eq_false_iff_eq, ne_eq, Decidable.not_not, Int.not_lt, Int.not_le] at h
        rw [if_neg (by simp [h])] at heq
        obtain ⟨hw, _, hle⟩ := getSpec_ok h
        simp only [widthB, Bool.and_eq_true, decide_eq_true_eq] at hw
        obtain ⟨q, rfl⟩ : ∃ q : Nat, k = q := ⟨k.toNat, by omega⟩
        refine c_skip ?_
        refine x_then ?_
        refine c_seq ?_
        refine c_region ?_
        refine o_yield rfl rfl rfl (y_val tok rfl) ?_
        refine o_yield rfl rfl rfl (y_val tok rfl) ?_
        refine o_step rfl rfl rfl rfl rfl (s_bs tok 1 rfl rfl rfl) (fun _ _ => ?_)
        refine o_step rfl rfl rfl rfl rfl (s_app tok ([(getSpec L a q).1].flatMap encI64) rfl (fun E w hm => ownsRow_src (hm.row 1 _ _ _ _ rfl)) (fun _ _ _ => int_ones _) (by dsimp only; omega)) (fun _ _ => ?_)
        refine o_yield rfl rfl rfl (y_val tok rfl) ?_
        refine o_end [2, 9, 11, 12, 13] rfl ?_
        refine x_then ?_
        refine c_region ?_
        refine o_yield rfl rfl rfl (y_val tok rfl) ?_
        refine o_yield rfl rfl rfl (y_val tok rfl) ?_
        refine o_yield rfl rfl rfl (y_val tok rfl) ?_
        rw [← List.flatMap_append, show acc.length + 1 = (acc ++ [(getSpec L a q).1]).length by simp]
        have hlt__q___Int_ := lt_of_at h_k
        refine o_yield rfl rfl rfl (y_idx tok rfl (fun hg => hk'.sl) (fun hg => ⟨by omega, by omega⟩)) ?_
        refine o_yield rfl rfl rfl (y_lel tok (i) 0 ((q : Int)) rfl (fun hg => hk') (fun hg => h_k) rfl rfl) ?_
        refine o_yield rfl rfl rfl (y_val tok rfl) ?_
        refine o_yield rfl rfl rfl (y_val tok rfl) ?_
        refine o_end [2, 9, 11, 12, 13] rfl ?_
        refine x_block ?_
        refine x_then ?_
        refine c_region ?_
        refine o_yield rfl rfl rfl (y_val tok rfl) ?_
        refine o_yield rfl rfl rfl (y_val tok rfl) ?_
        refine o_yield rfl rfl rfl (y_val tok rfl) ?_
        refine o_end [2, 9, 11, 12, 13] rfl ?_
        refine x_then ?_
        rw [wrapI (n := (i : Int) + 1) (by omega) (by omega), show IntKind.i64.wrap ((a : Int) + q) = ((a + q : Nat) : Int) by rw [wrapI (by omega) (by omega)]; omega]
        refine k_swap 0 2 rfl ?_
        rw [Int.toNat_natCast, restOf_add] at heq
        have hrs := restOf_size L (a + q)
        refine x_round ((i + 1, acc ++ [(getSpec L a q).1], a + q)) (⟨⟨by omega, heq, by simp [hacc], by omega⟩, by omega⟩) (by first | omega | (dsimp only; omega)) (by repeat (first | exact SubF.nil | refine SubF.cons rfl ?_)) (by repeat (first | exact SubO.nil | refine SubO.cons rfl ?_)) rfl (Vw.le.refl _)
    ·
      simp only [Bool.and_eq_true, Bool.or_eq_true, Bool.not_eq_true', Bool.or_eq_false_iff, Bool.and_eq_false_iff, decide_eq_true_eq, decide_eq_false_iff_not, beq_iff_eq, bne_iff_ne, Bool.not_eq_false', beq_eq_false_iff_ne, bne_eq_false_iff_eq, ne_eq, Decidable.not_not, Int.not_lt, Int.not_le] at h
      refine c_exit ?_
      refine x_then_exit ?_
      refine x_then_exit ?_
      refine x_block_hit ?_
      refine x_then ?_
      refine c_seq ?_
      refine c_draw mixed (by kernel_rfl) ?_
      refine d_yield rfl rfl rfl (y_val tok rfl) rfl ?_
      refine d_yield rfl rfl rfl (y_val tok rfl) rfl ?_
      refine d_yield rfl rfl rfl (y_val tok rfl) rfl ?_
      have hil : i = ks.length := by omega
      subst hil
      rw [List.drop_length] at heq
      refine d_yield rfl rfl rfl (y_ss tok rfl (fun hg => by simp only [Option.getD]; omega)) rfl ?_
      refine d_yield rfl rfl rfl (y_val tok rfl) rfl ?_
      refine d_yield rfl rfl rfl (y_val tok rfl) rfl ?_
      refine d_yield rfl rfl rfl (y_val tok rfl) rfl ?_
      refine d_end [6, 7, 8] rfl ?_
      refine x_then ?_
      refine c_ret ?_
      refine b_ret tok rfl ?_
      intro E w' hm _
      exact ⟨.inl ⟨acc, restOf L a, E.κ 0, by rw [hR, heq]; rfl, rfl, hm.rowFresh (Vw.le.refl _) (l := 0) rfl⟩, hm.below (Vw.le.refl _)⟩

/-- The fields' rows as ones that nobody writes. -/
def FVal (kind : Int) (s : ByteArray) (ks : List Int) (x : Value) (V' : Vw) : Prop :=
  (∃ l r v, fieldsR kind s ks = some (l, r) ∧ x = .tuple #[v, S r, I 0] ∧ SlOf V' encI64 1 v l) ∨ (fieldsR kind s ks = none ∧ x = .tuple #[.slice none 0 0, S ByteArray.empty, I 30])

theorem fval_of {P : Program} {f : Nat} {args : Array Value} {kind : Int} {s : ByteArray} {ks : List Int} {V : Vw} {w : World} (hV : V.le (vw w)) (h : Calls P f args w (FPost kind s ks w)) :
    Calls P f args w fun e w' => ∃ x V', e = .returned x ∧ Below w.heap.size w w' ∧ Vext w.heap.size V V' w' ∧ FVal kind s ks x V' := by
  refine h.mono ?_
  rintro e w' ⟨⟨l, r, v, h1, rfl, hown⟩ | ⟨h1, rfl⟩, hb⟩
  · obtain ⟨V', hx, hsl⟩ := ownsRow_vext hV hb hown
    exact ⟨_, V', rfl, hb, hx, .inl ⟨l, r, v, h1, rfl, hsl, fun _ => rfl⟩⟩
  · exact ⟨_, V, rfl, hb, Vext.same hV hb, .inr ⟨h1, rfl⟩⟩
end Go.Proofs.Ytlcpfhjbhogdiaa
