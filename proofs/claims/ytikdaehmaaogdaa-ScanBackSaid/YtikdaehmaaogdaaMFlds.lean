import Derived.Test.YtikdaehmaaogdaaMGeo
/- A sealed sector's numbers, and what is left. -/
set_option linter.unusedVariables false
set_option linter.unusedSimpArgs false
set_option maxRecDepth 100000
namespace Go.Proofs.Ytikdaehmaaogdaa
open Go Go.Eng Go.RowKit

def restOf (s : ByteArray) (k : Nat) : ByteArray := s.extract k s.size

theorem restOf_list (s : ByteArray) (k : Nat) : (restOf s k).data.toList = s.data.toList.drop k := by
  rw [restOf, ByteArray.data_extract, Array.toList_extract, List.extract_eq_take_drop]
  rw [List.take_of_length_le (by rw [List.length_drop, size_list]; omega)]

theorem restOf_size (s : ByteArray) (k : Nat) : (restOf s k).size = s.size - k := by
  rw [← size_list, restOf_list, List.length_drop, size_list]

theorem getSpec_ok {s : ByteArray} {a k : Int} (h : (getSpec s a k).2 = 0) : widthB k = true ∧ 0 ≤ a ∧ a + k ≤ s.size := by
  unfold getSpec at h
  split at h
  · simp at h
  · rename_i hw
    split at h
    · simp at h
    · exact ⟨by simpa using hw, by omega, by omega⟩

/-- The numbers that stand one behind the other, and what is left. -/
def fldA (acc : List Int) (rest : ByteArray) : List Int → Option (List Int × ByteArray)
  | [] => some (acc, rest)
  | k :: ks => if (getSpec rest 0 k).2 ≠ 0 then none else fldA (acc ++ [(getSpec rest 0 k).1]) (restOf rest k.toNat) ks

def fieldsR (kind : Int) (s : ByteArray) (ks : List Int) : Option (List Int × ByteArray) := if ofB kind s = true then fldA [] (loadOf s) ks else none

def FPost (kind : Int) (s : ByteArray) (ks : List Int) (w : World) (e : Ending) (w' : World) : Prop :=
  ((∃ l r v, fieldsR kind s ks = some (l, r) ∧ e = .returned (.tuple #[v, S r, I 0]) ∧ w'.ownsRow w.heap.size 3 1 v l.length (l.flatMap encI64)) ∨
    (fieldsR kind s ks = none ∧ e = .returned (.tuple #[.slice none 0 0, S ByteArray.empty, I 30]))) ∧ Below w.heap.size w w'

theorem int_ones (l : List Int) : ∀ u ∈ l.flatMap encI64, u.oneCell' = true := by
  intro u hu
  obtain ⟨x, _, hx⟩ := List.mem_flatMap.1 hu
  simp only [List.mem_singleton] at hx
  subst hx
  rfl

theorem load_size (s : ByteArray) (h : openB s = true) : (loadOf s).size ≤ 505 ∧ (loadOf s).size = s.size - 7 := by
  simp only [openB, Bool.and_eq_true, decide_eq_true_eq] at h
  rw [loadOf, ByteArray.size_extract]; omega

theorem ofB_open {kind : Int} {s : ByteArray} (h : ofB kind s = true) : openB s = true := by
  rw [ofB, Bool.and_eq_true] at h; exact h.1

structure FInv (ks acc : List Int) (load rest : ByteArray) (i : Nat) : Prop where
  le : i ≤ ks.length
  eq : fldA [] load ks = fldA acc rest (ks.drop i)
  len : acc.length = i
  size : rest.size ≤ 505

theorem fields_c (kind : Int) (s : ByteArray) (V : Vw) (kv : Value) (ks : List Int) (w : World) (hs : s.size ≤ maxLen) (hV : V.le (vw w)) (hk : SlOf V encI64 1 kv ks) (hn : ks.length ≤ 1000) :
    Calls Try.prog 124 #[I8 kind, S s, kv] w (FPost kind s ks w) := by
  have hk' := hk.mono hV
  refine enter (E := E0) (O := []) (nl := 0) (V := vw w) [.a (.v (I8 kind)), .a (.v (S s)), .a (.v kv)] Try.func124 rfl rfl (mem0 E0 0 w) rfl rfl ?_
  refine c_seq ?_
  refine c_region ?_
  refine o_yield rfl rfl rfl (y_val tok rfl) ?_
  refine o_yield rfl rfl rfl (y_val tok rfl) ?_
  refine o_yield rfl rfl rfl (y_val tok rfl) ?_
  refine o_end [0, 1, 2, 6] rfl ?_
  refine x_then ?_
  refine c_seq ?_
  refine c_region ?_
  refine o_yield rfl rfl rfl (y_val tok rfl) ?_
  refine o_yield rfl rfl rfl (y_val tok rfl) ?_
  refine o_call (.a (.v _)) rfl rfl fnok140 rfl rfl rfl (fun hg E w1 hm => by exact sealOf_c kind s hs _) ?_
  refine o_yield rfl rfl rfl (y_val tok rfl) ?_
  refine o_yield rfl rfl rfl (y_val tok rfl) ?_
  refine o_yield rfl rfl rfl (y_val tok rfl) ?_
  refine o_yield rfl rfl rfl (y_val tok rfl) ?_
  refine o_yield rfl rfl rfl (y_val tok rfl) ?_
  refine o_end [2, 6, 7, 8] rfl ?_
  refine x_then ?_
  refine c_seq ?_
  refine c_seq ?_
  refine c_region ?_
  refine o_yield rfl rfl rfl (y_val tok rfl) ?_
  refine o_yield rfl rfl rfl (y_len tok rfl (fun hg => hk'.sl)) ?_
  refine o_yield rfl rfl rfl (y_val tok rfl) ?_
  refine o_end [6, 7, 8, 19, 20, 21] rfl ?_
  refine x_then ?_
  refine c_block ?_
  have hsz0 : (ofL kind s).size ≤ 505 := by
    unfold ofL
    cases ho : ofB kind s with
    | false => simp
    | true => rw [if_pos rfl]; exact (load_size s (ofB_open ho)).1
  have hno : ofE kind s ≠ 0 → fieldsR kind s ks = none := fun hc => by
    rw [fieldsR, if_neg]
    intro hq
    exact hc (by rw [ofE, if_pos hq])
  have hE30 : ofE kind s ≠ 0 → ofE kind s = 30 := fun hc => by
    unfold ofE at hc ⊢
    split
    · rename_i hq; rw [if_pos hq] at hc; exact absurd rfl hc
    · rfl
  refine k_nil 6 3 1 rfl rfl ?_
  refine c_loopK [19, 20] [0] rfl rfl (σ := Nat × List Int × ByteArray) (fun (i, acc, rest) => [(6, .a (.row 0)), (7, .a (.v (S rest))), (8, .a (.v (I (ofE kind s)))), (21, .a (.v (I i)))]) (fun (i, acc, rest) => [(0, .row 3 1 acc.length (acc.flatMap encI64))]) (fun (i, acc, rest) => FInv ks acc (ofL kind s) rest i) (fun (i, acc, rest) => ks.length - i) ((0, [], ofL kind s)) (⟨by omega, rfl, rfl, hsz0⟩) (by repeat (first | exact SubF.nil | refine SubF.cons rfl ?_)) (by repeat (first | exact SubO.nil | refine SubO.cons rfl ?_)) rfl ?_
  rintro ⟨i, acc, rest⟩ ⟨hi, heq, hacc, hsz⟩
  refine c_seq ?_
  refine c_region ?_
  refine o_yield rfl rfl rfl (y_val tok rfl) ?_
  refine o_end [6, 7, 8, 19, 20, 21, 22] rfl ?_
  refine x_then ?_
  refine c_seq ?_
  refine c_cond rfl (fun h => ?_) (fun h => ?_)
  ·
    simp only [Bool.and_eq_true, Bool.or_eq_true, Bool.not_eq_true', Bool.or_eq_false_iff, Bool.and_eq_false_iff, decide_eq_true_eq, decide_eq_false_iff_not, beq_iff_eq, bne_iff_ne, Bool.not_eq_false', beq_eq_false_iff_ne, bne_eq_false_iff_eq, ne_eq, Decidable.not_not, Int.not_lt, Int.not_le] at h
    refine c_skip ?_
    refine x_then ?_
    refine c_seq ?_
    refine c_block ?_
    refine c_seq ?_
    refine c_region ?_
    obtain ⟨k, h_k⟩ := hk'.at (k := i) (by omega)
    have hlt_k := lt_of_at h_k
    refine o_yield rfl rfl rfl (y_idx tok rfl (fun hg => hk'.sl) (fun hg => ⟨by omega, by omega⟩)) ?_
    refine o_yield rfl rfl rfl (y_lel tok (i) 0 (k) rfl (fun hg => hk') (fun hg => h_k) rfl rfl) ?_
    refine o_yield rfl rfl rfl (y_val tok rfl) ?_
    refine o_end [6, 7, 8, 10, 19, 20, 21] rfl ?_
    refine x_then ?_
    refine c_seq ?_
    refine c_seq ?_
    refine c_region ?_
    refine o_yield rfl rfl rfl (y_val tok rfl) ?_
    refine o_yield rfl rfl rfl (y_val tok rfl) ?_
    refine o_end [6, 7, 8, 10, 19, 20, 21, 26] rfl ?_
    refine x_then ?_
    refine c_cond rfl (fun h => ?_) (fun h => ?_)
    ·
      simp only [Bool.and_eq_true, Bool.or_eq_true, Bool.not_eq_true', Bool.or_eq_false_iff, Bool.and_eq_false_iff, decide_eq_true_eq, decide_eq_false_iff_not, beq_iff_eq, bne_iff_ne, Bool.not_eq_false', beq_eq_false_iff_ne, bne_eq_false_iff_eq, ne_eq, Decidable.not_not, Int.not_lt, Int.not_le] at h
      refine c_exit ?_
      refine x_then_exit ?_
      refine x_block_miss rfl ?_
      refine x_then_exit ?_
      refine x_then_exit ?_
      refine x_block_hit ?_
      refine x_then ?_
      refine c_seq ?_
      refine c_seq ?_
      refine c_region ?_
      refine o_yield rfl rfl rfl (y_val tok rfl) ?_
      refine o_yield rfl rfl rfl (y_val tok rfl) ?_
      refine o_end [6, 7, 8, 44] rfl ?_
      refine x_then ?_
      refine c_cond rfl (fun h => ?_) (fun h => ?_)
      ·
        simp only [Bool.and_eq_true, Bool.or_eq_true, Bool.not_eq_true', Bool.or_eq_false_iff, Bool.and_eq_false_iff, decide_eq_true_eq, decide_eq_false_iff_not, beq_iff_eq, bne_iff_ne, Bool.not_eq_false', beq_eq_false_iff_ne, bne_eq_false_iff_eq, ne_eq, Decidable.not_not, Int.not_lt, Int.not_le] at h
        refine c_seq ?_
        refine c_region ?_
        refine o_yield rfl rfl rfl (y_val tok rfl) ?_
        refine o_yield rfl rfl rfl (y_val tok rfl) ?_
        refine o_yield rfl rfl rfl (y_val tok rfl) ?_
        refine o_yield rfl rfl rfl (y_val tok rfl) ?_
        refine o_end [6, 7, 8] rfl ?_
        refine x_then ?_
        refine c_ret ?_
        refine x_then_ret ?_
        refine b_ret tok rfl ?_
        rw [hE30 h]
        intro E w' hm _
        exact ⟨.inr ⟨hno h, rfl⟩, hm.below (Vw.le.refl _)⟩
      ·
        simp only [Bool.and_eq_true, Bool.or_eq_true, Bool.not_eq_true', Bool.or_eq_false_iff, Bool.and_eq_false_iff, decide_eq_true_eq, decide_eq_false_iff_not, beq_iff_eq, bne_iff_ne, Bool.not_eq_false', beq_eq_false_iff_ne, bne_eq_false_iff_eq, ne_eq, Decidable.not_not, Int.not_lt, Int.not_le] at h
        refine c_skip ?_
        refine x_then ?_
        refine c_seq ?_
        refine c_region ?_
        refine o_yield rfl rfl rfl (y_val tok rfl) ?_
        refine o_yield rfl rfl rfl (y_val tok rfl) ?_
        refine o_yield rfl rfl rfl (y_val tok rfl) ?_
        refine o_yield rfl rfl rfl (y_val tok rfl) ?_
        refine o_yield rfl rfl rfl (y_val tok rfl) ?_
        refine o_end [6, 7, 8] rfl ?_
        refine x_then ?_
        refine c_ret ?_
        refine b_ret tok rfl ?_
        contradiction
    ·
      simp only [Bool.and_eq_true, Bool.or_eq_true, Bool.not_eq_true', Bool.or_eq_false_iff, Bool.and_eq_false_iff, decide_eq_true_eq, decide_eq_false_iff_not, beq_iff_eq, bne_iff_ne, Bool.not_eq_false', beq_eq_false_iff_ne, bne_eq_false_iff_eq, ne_eq, Decidable.not_not, Int.not_lt, Int.not_le] at h
      refine c_skip ?_
      refine x_then ?_
      refine c_seq ?_
      refine c_region ?_
      refine o_yield rfl rfl rfl (y_val tok rfl) ?_
      refine o_yield rfl rfl rfl (y_val tok rfl) ?_
      have hE := h
      clear h
      rw [List.drop_eq_getElem_cons hlt_k] at heq
      have hkk : ks[i] = k := by
        have := h_k
        rw [List.getElem?_eq_getElem hlt_k] at this
        exact Option.some.inj this
      rw [hkk, fldA] at heq
      have hR : fieldsR kind s ks = fldA [] (ofL kind s) ks := by
        have ho : ofB kind s = true := by
          cases hq : ofB kind s with
          | true => rfl
          | false => rw [ofE, if_neg (by simp [hq])] at hE; cases hE
        rw [fieldsR, if_pos ho, ofL, if_pos ho]
      refine o_call (.a (.v _)) rfl rfl fnok141 rfl rfl rfl (fun hg E w1 hm => by exact numGet_c rest 0 k (by simp only [maxLen]; omega) _) ?_
      refine o_yield rfl rfl rfl (y_val tok rfl) ?_
      refine o_yield rfl rfl rfl (y_val tok rfl) ?_
      refine o_yield rfl rfl rfl (y_val tok rfl) ?_
      refine o_yield rfl rfl rfl (y_val tok rfl) ?_
      refine o_yield rfl rfl rfl (y_val tok rfl) ?_
      refine o_end [6, 7, 8, 10, 11, 12, 19, 20, 21] rfl ?_
      refine x_then ?_
      refine c_seq ?_
      refine c_seq ?_
      refine c_region ?_
      refine o_yield rfl rfl rfl (y_val tok rfl) ?_
      refine o_yield rfl rfl rfl (y_val tok rfl) ?_
      refine o_end [6, 7, 8, 10, 11, 19, 20, 21, 34] rfl ?_
      refine x_then ?_
      refine c_cond rfl (fun h => ?_) (fun h => ?_)
      ·
        simp only [Bool.and_eq_true, Bool.or_eq_true, Bool.not_eq_true', Bool.or_eq_false_iff, Bool.and_eq_false_iff, decide_eq_true_eq, decide_eq_false_iff_not, beq_iff_eq, bne_iff_ne, Bool.not_eq_false', beq_eq_false_iff_ne, bne_eq_false_iff_eq, ne_eq, Decidable.not_not, Int.not_lt, Int.not_le] at h
        refine c_seq ?_
        refine c_region ?_
        refine o_yield rfl rfl rfl (y_val tok rfl) ?_
        refine o_yield rfl rfl rfl (y_val tok rfl) ?_
        refine o_yield rfl rfl rfl (y_val tok rfl) ?_
        refine o_end [6, 7, 8] rfl ?_
        refine x_then ?_
        refine c_ret ?_
        refine x_then_ret ?_
        refine x_block_ret ?_
        refine x_then_ret ?_
        refine x_then_ret ?_
        refine x_block_ret ?_
        refine x_then_ret ?_
        refine b_ret tok rfl ?_
        intro E w' hm _
        exact ⟨.inr ⟨by rw [hR, heq, if_pos h], rfl⟩, hm.below (Vw.le.refl _)⟩
      ·
        simp only [Bool.and_eq_true, Bool.or_eq_true, Bool.not_eq_true', Bool.or_eq_false_iff, Bool.and_eq_false_iff, decide_eq_true_eq, decide_eq_false_iff_not, beq_iff_eq, bne_iff_ne, Bool.not_eq_false', beq_eq_false_iff_ne, bne_eq_false_iff_eq, ne_eq, Decidable.not_not, Int.not_lt, Int.not_le] at h
        rw [if_neg (by simp [h])] at heq
        obtain ⟨hw, _, hle⟩ := getSpec_ok h
        simp only [widthB, Bool.and_eq_true, decide_eq_true_eq] at hw
        refine c_skip ?_
        refine x_then ?_
        refine c_held [] ([]) mixed (by repeat (first | exact SubO.nil | refine SubO.cons rfl ?_)) (by first | rfl | simp [okCels, allOk_plain]) ?_
        refine t_take 0 rfl (by kernel_rfl) rfl rfl rfl (y_val tok rfl) rfl ?_
        refine t_take 1 rfl (by kernel_rfl) rfl rfl rfl (y_val tok rfl) rfl ?_
        refine t_take 4 rfl (by kernel_rfl) rfl rfl rfl (y_val tok rfl) rfl ?_
        refine t_take 5 rfl (by kernel_rfl) rfl rfl rfl (y_val tok rfl) rfl ?_
        obtain ⟨q, rfl⟩ : ∃ q : Nat, k = q := ⟨k.toNat, by omega⟩
        refine t_take 6 rfl (by kernel_rfl) rfl rfl rfl (y_ss tok rfl (fun hg => by simp only [Option.getD]; omega)) rfl ?_
        refine t_go ?_
        refine h_one 2 (by kernel_rfl) ?_
        rw [show rest.extract ((some (q : Int)).getD 0).toNat ((none : Option Int).getD (rest.size : Int)).toNat = restOf rest q from rfl]
        refine h_to 2 rfl rfl rfl rfl rfl rfl (s_bs tok 1 rfl rfl rfl) (.inr fun _ _ => ⟨(by repeat (first | exact SubO.nil | refine SubO.cons rfl ?_)), rfl, (by first | exact Vw.le.refl _ | assumption)⟩) (fun _ _ => ?_)
        refine h_one 3 (by kernel_rfl) ?_
        refine h_to 3 rfl rfl rfl rfl rfl rfl (s_app tok ([(getSpec rest 0 q).1].flatMap encI64) rfl (fun E w hm => ownsRow_src (hm.row 1 _ _ _ _ rfl)) (fun _ _ _ => int_ones _) (by dsimp only; omega)) (.inr fun _ _ => ⟨(by repeat (first | exact SubO.nil | refine SubO.cons rfl ?_)), rfl, (by first | exact Vw.le.refl _ | assumption)⟩) (fun _ _ => ?_)
        refine h_one 7 (by kernel_rfl) ?_
        refine h_yield 7 rfl rfl rfl rfl (y_val tok rfl) ?_
        refine h_one 8 (by kernel_rfl) ?_
        refine h_yield 8 rfl rfl rfl rfl (y_val tok rfl) ?_
        refine h_done [6, 7, 8, 19, 20, 21] (by kernel_rfl) rfl ?_
        refine x_block ?_
        refine x_then ?_
        refine c_region ?_
        refine o_yield rfl rfl rfl (y_val tok rfl) ?_
        refine o_yield rfl rfl rfl (y_val tok rfl) ?_
        refine o_end [6, 7, 8, 19, 20, 21] rfl ?_
        refine x_then ?_
        rw [← List.flatMap_append, show acc.length + 1 = (acc ++ [(getSpec rest 0 q).1]).length by simp, wrapI (n := (i : Int) + 1) (by omega) (by omega)]
        refine k_swap 0 2 rfl ?_
        have hrs := restOf_size rest q
        refine x_round ((i + 1, acc ++ [(getSpec rest 0 q).1], restOf rest q)) (⟨by omega, heq, by simp [hacc], by omega⟩) (by first | omega | (dsimp only; omega)) (by repeat (first | exact SubF.nil | refine SubF.cons rfl ?_)) (by repeat (first | exact SubO.nil | refine SubO.cons rfl ?_)) rfl (Vw.le.refl _)
  ·
    simp only [Bool.and_eq_true, Bool.or_eq_true, Bool.not_eq_true', Bool.or_eq_false_iff, Bool.and_eq_false_iff, decide_eq_true_eq, decide_eq_false_iff_not, beq_iff_eq, bne_iff_ne, Bool.not_eq_false', beq_eq_false_iff_ne, bne_eq_false_iff_eq, ne_eq, Decidable.not_not, Int.not_lt, Int.not_le] at h
    have hil : i = ks.length := by omega
    subst hil
    rw [List.drop_length] at heq
    refine c_exit ?_
    refine x_then_exit ?_
    refine x_then_exit ?_
    refine x_block_hit ?_
    refine x_then ?_
    refine c_seq ?_
    refine c_seq ?_
    refine c_region ?_
    refine o_yield rfl rfl rfl (y_val tok rfl) ?_
    refine o_yield rfl rfl rfl (y_val tok rfl) ?_
    refine o_end [6, 7, 8, 44] rfl ?_
    refine x_then ?_
    refine c_cond rfl (fun h => ?_) (fun h => ?_)
    ·
      simp only [Bool.and_eq_true, Bool.or_eq_true, Bool.not_eq_true', Bool.or_eq_false_iff, Bool.and_eq_false_iff, decide_eq_true_eq, decide_eq_false_iff_not, beq_iff_eq, bne_iff_ne, Bool.not_eq_false', beq_eq_false_iff_ne, bne_eq_false_iff_eq, ne_eq, Decidable.not_not, Int.not_lt, Int.not_le] at h
      refine c_seq ?_
      refine c_region ?_
      refine o_yield rfl rfl rfl (y_val tok rfl) ?_
      refine o_yield rfl rfl rfl (y_val tok rfl) ?_
      refine o_yield rfl rfl rfl (y_val tok rfl) ?_
      refine o_yield rfl rfl rfl (y_val tok rfl) ?_
      refine o_end [6, 7, 8] rfl ?_
      refine x_then ?_
      refine c_ret ?_
      refine x_then_ret ?_
      refine b_ret tok rfl ?_
      rw [hE30 h]
      intro E w' hm _
      exact ⟨.inr ⟨hno h, rfl⟩, hm.below (Vw.le.refl _)⟩
    ·
      simp only [Bool.and_eq_true, Bool.or_eq_true, Bool.not_eq_true', Bool.or_eq_false_iff, Bool.and_eq_false_iff, decide_eq_true_eq, decide_eq_false_iff_not, beq_iff_eq, bne_iff_ne, Bool.not_eq_false', beq_eq_false_iff_ne, bne_eq_false_iff_eq, ne_eq, Decidable.not_not, Int.not_lt, Int.not_le] at h
      refine c_skip ?_
      refine x_then ?_
      refine c_seq ?_
      refine c_region ?_
      refine o_yield rfl rfl rfl (y_val tok rfl) ?_
      refine o_yield rfl rfl rfl (y_val tok rfl) ?_
      refine o_yield rfl rfl rfl (y_val tok rfl) ?_
      refine o_yield rfl rfl rfl (y_val tok rfl) ?_
      refine o_yield rfl rfl rfl (y_val tok rfl) ?_
      refine o_end [6, 7, 8] rfl ?_
      refine x_then ?_
      refine c_ret ?_
      refine b_ret tok rfl ?_
      have hR : fieldsR kind s ks = some (acc, rest) := by
        have ho : ofB kind s = true := by
          cases hq : ofB kind s with
          | true => rfl
          | false => rw [ofE, if_neg (by simp [hq])] at h; cases h
        rw [ofL, if_pos ho] at heq
        rw [fieldsR, if_pos ho, heq]
        rfl
      intro E w' hm _
      exact ⟨.inl ⟨acc, rest, E.κ 0, hR, rfl, hm.rowFresh (Vw.le.refl _) (l := 0) rfl⟩, hm.below (Vw.le.refl _)⟩

/-- The fields' rows as ones that nobody writes. -/
def FVal (kind : Int) (s : ByteArray) (ks : List Int) (x : Value) (V' : Vw) : Prop :=
  (∃ l r v, fieldsR kind s ks = some (l, r) ∧ x = .tuple #[v, S r, I 0] ∧ SlOf V' encI64 1 v l) ∨ (fieldsR kind s ks = none ∧ x = .tuple #[.slice none 0 0, S ByteArray.empty, I 30])

theorem fval_of {P : Program} {f : Nat} {args : Array Value} {kind : Int} {s : ByteArray} {ks : List Int} {V : Vw} {w : World} (hV : V.le (vw w)) (h : Calls P f args w (FPost kind s ks w)) :
    Calls P f args w fun e w' => ∃ x V', e = .returned x ∧ Below w.heap.size w w' ∧ Vext w.heap.size V V' w' ∧ FVal kind s ks x V' := by
  refine h.mono ?_
  rintro e w' ⟨⟨l, r, v, h1, rfl, hown⟩ | ⟨h1, rfl⟩, hb⟩
  · obtain ⟨V', hx, hsl⟩ := ownsRow_vext hV hb hown
    exact ⟨_, V', rfl, hb, hx, .inl ⟨l, r, v, h1, rfl, hsl, fun _ => rfl⟩⟩
  · exact ⟨_, V, rfl, hb, Vext.same hV hb, .inr ⟨h1, rfl⟩⟩
end Go.Proofs.Ytikdaehmaaogdaa

/- Records that are read: the program and the document agree; the law RecordReads. -/
set_option linter.unusedVariables false
set_option linter.unusedSimpArgs false
set_option maxRecDepth 100000
namespace Go.Proofs.Ytikdaehmaaogdaa
open Go Go.Eng Go.RowKit

theorem refKey_c (n : Int) (w : World) : Calls Try.prog 94 #[I n] w fun e w' => e = .returned (.bool (keyB n)) ∧ Below w.heap.size w w' := by
  refine enter (E := E0) (O := []) (nl := 0) (V := vw w) [.a (.v (I n))] Try.func94 rfl rfl (mem0 E0 0 w) rfl rfl ?_
  refine c_seq ?_
  refine c_region ?_
  refine o_yield rfl rfl rfl (y_val tok rfl) ?_
  refine o_end [0] rfl ?_
  refine x_then ?_
  refine c_seq ?_
  refine c_region ?_
  refine o_yield rfl rfl rfl (y_val tok rfl) ?_
  refine o_yield rfl rfl rfl (y_val tok rfl) ?_
  refine o_yield rfl rfl rfl (y_val tok rfl) ?_
  refine o_yield rfl rfl rfl (y_val tok rfl) ?_
  refine o_yield rfl rfl rfl (y_val tok rfl) ?_
  refine o_yield rfl rfl rfl (y_val tok rfl) ?_
  refine o_yield rfl rfl rfl (y_val tok rfl) ?_
  refine o_end [2] rfl ?_
  refine x_then ?_
  refine c_ret ?_
  refine b_ret tok rfl ?_
  intro E w' hm _
  exact ⟨rfl, hm.below (Vw.le.refl _)⟩

theorem empty_beq (s : ByteArray) : (s.toList == ByteArray.empty.toList) = decide (s.size = 0) := by
  rw [str_beq, Bool.eq_iff_iff, decide_eq_true_eq, decide_eq_true_eq]
  constructor
  · intro h; rw [← size_list, h]; rfl
  · intro h; rw [size_zero h]

theorem refRecMay_c (r : Record) (w : World) : Calls Try.prog 55 #[r.val] w fun e w' => e = .returned (.bool (recB r)) ∧ Below w.heap.size w w' := by
  refine enter (E := E0) (O := []) (nl := 0) (V := vw w) [.a (.v r.val)] Try.func55 rfl rfl (mem0 E0 0 w) rfl rfl ?_
  refine c_seq ?_
  refine c_region ?_
  refine o_new tok rfl rfl rfl rfl ?_
  refine o_yield rfl rfl rfl (y_val tok rfl) ?_
  refine o_end [1] rfl ?_
  refine x_then ?_
  refine c_seq ?_
  refine c_seq ?_
  refine c_region ?_
  refine o_yield rfl rfl rfl (y_val tok rfl) ?_
  refine o_yield rfl rfl rfl (y_val tok rfl) ?_
  refine o_call (.a (.v _)) rfl rfl fnok94 rfl rfl rfl (fun hg E w1 hm => by exact refKey_c _ _) ?_
  refine o_yield rfl rfl rfl (y_val tok rfl) ?_
  refine o_yield rfl rfl rfl (y_val tok rfl) ?_
  refine o_yield rfl rfl rfl (y_val tok rfl) ?_
  refine o_yield rfl rfl rfl (y_val tok rfl) ?_
  refine o_yield rfl rfl rfl (y_val tok rfl) ?_
  refine o_yield rfl rfl rfl (y_val tok rfl) ?_
  refine o_yield rfl rfl rfl (y_val tok rfl) ?_
  refine o_yield rfl rfl rfl (y_val tok rfl) ?_
  refine o_yield rfl rfl rfl (y_val tok rfl) ?_
  refine o_yield rfl rfl rfl (y_val tok rfl) ?_
  refine o_yield rfl rfl rfl (y_val tok rfl) ?_
  refine o_yield rfl rfl rfl (y_val tok rfl) ?_
  refine o_yield rfl rfl rfl (y_val tok rfl) ?_
  refine o_yield rfl rfl rfl (y_val tok rfl) ?_
  refine o_yield rfl rfl rfl (y_val tok rfl) ?_
  refine o_yield rfl rfl rfl (y_val tok rfl) ?_
  refine o_yield rfl rfl rfl (y_val tok rfl) ?_
  refine o_yield rfl rfl rfl (y_val tok rfl) ?_
  refine o_yield rfl rfl rfl (y_val tok rfl) ?_
  refine o_yield rfl rfl rfl (y_val tok rfl) ?_
  refine o_yield rfl rfl rfl (y_val tok rfl) ?_
  refine o_end [1, 26] rfl ?_
  refine x_then ?_
  refine c_cond rfl (fun h => ?_) (fun h => ?_)
  ·
    simp only [Bool.and_eq_true, Bool.or_eq_true, Bool.not_eq_true', Bool.or_eq_false_iff, Bool.and_eq_false_iff, decide_eq_true_eq, decide_eq_false_iff_not, beq_iff_eq, bne_iff_ne, Bool.not_eq_false', beq_eq_false_iff_ne, bne_eq_false_iff_eq, ne_eq, Decidable.not_not, Int.not_lt, Int.not_le] at h
    refine c_seq ?_
    refine c_region ?_
    refine o_yield rfl rfl rfl (y_val tok rfl) ?_
    refine o_end [2] rfl ?_
    refine x_then ?_
    refine c_ret ?_
    refine x_then_ret ?_
    refine b_ret tok rfl ?_
    intro E w' hm _
    refine ⟨?_, hm.below (Vw.le.refl _)⟩
    rw [show recB r = false by
      rw [Bool.eq_false_iff]
      intro hc
      simp only [recB, Bool.and_eq_true, decide_eq_true_eq, belowB] at hc
      rcases h with (((h | h) | h) | h) | h
      · rw [h] at hc; simp at hc
      all_goals omega]
    rfl
  ·
    simp only [Bool.and_eq_true, Bool.or_eq_true, Bool.not_eq_true', Bool.or_eq_false_iff, Bool.and_eq_false_iff, decide_eq_true_eq, decide_eq_false_iff_not, beq_iff_eq, bne_iff_ne, Bool.not_eq_false', beq_eq_false_iff_ne, bne_eq_false_iff_eq, ne_eq, Decidable.not_not, Int.not_lt, Int.not_le] at h
    obtain ⟨⟨⟨⟨h1, h2⟩, h3⟩, h4⟩, h5⟩ := h
    have hpre : (keyB r.key && belowB r.lsn 1099511627777 && belowB r.count 64) = true := by
      simp [belowB, h1]; omega
    refine c_skip ?_
    refine x_then ?_
    refine c_seq ?_
    refine c_seq ?_
    refine c_region ?_
    refine o_yield rfl rfl rfl (y_val tok rfl) ?_
    refine o_yield rfl rfl rfl (y_val tok rfl) ?_
    refine o_yield rfl rfl rfl (y_val tok rfl) ?_
    refine o_end [1, 29] rfl ?_
    refine x_then ?_
    refine c_cond rfl (fun h => ?_) (fun h => ?_)
    ·
      simp only [Bool.and_eq_true, Bool.or_eq_true, Bool.not_eq_true', Bool.or_eq_false_iff, Bool.and_eq_false_iff, decide_eq_true_eq, decide_eq_false_iff_not, beq_iff_eq, bne_iff_ne, Bool.not_eq_false', beq_eq_false_iff_ne, bne_eq_false_iff_eq, ne_eq, Decidable.not_not, Int.not_lt, Int.not_le] at h
      refine c_seq ?_
      refine c_region ?_
      refine o_yield rfl rfl rfl (y_val tok rfl) ?_
      refine o_yield rfl rfl rfl (y_val tok rfl) ?_
      refine o_yield rfl rfl rfl (y_val tok rfl) ?_
      refine o_yield rfl rfl rfl (y_val tok rfl) ?_
      refine o_yield rfl rfl rfl (y_val tok rfl) ?_
      refine o_yield rfl rfl rfl (y_val tok rfl) ?_
      refine o_yield rfl rfl rfl (y_val tok rfl) ?_
      refine o_yield rfl rfl rfl (y_val tok rfl) ?_
      refine o_yield rfl rfl rfl (y_val tok rfl) ?_
      refine o_yield rfl rfl rfl (y_val tok rfl) ?_
      refine o_yield rfl rfl rfl (y_val tok rfl) ?_
      refine o_yield rfl rfl rfl (y_val tok rfl) ?_
      refine o_yield rfl rfl rfl (y_val tok rfl) ?_
      refine o_yield rfl rfl rfl (y_val tok rfl) ?_
      refine o_end [2] rfl ?_
      refine x_then ?_
      refine c_ret ?_
      refine x_then_ret ?_
      refine b_ret tok rfl ?_
      intro E w' hm _
      refine ⟨?_, hm.below (Vw.le.refl _)⟩
      show Ending.returned (.bool ((r.block == 0 && r.k == 0) && (r.text.toList == ByteArray.empty.toList))) = _
      rw [recB, hpre, if_pos h, empty_beq, Bool.true_and]
      congr 2
    ·
      simp only [Bool.and_eq_true, Bool.or_eq_true, Bool.not_eq_true', Bool.or_eq_false_iff, Bool.and_eq_false_iff, decide_eq_true_eq, decide_eq_false_iff_not, beq_iff_eq, bne_iff_ne, Bool.not_eq_false', beq_eq_false_iff_ne, bne_eq_false_iff_eq, ne_eq, Decidable.not_not, Int.not_lt, Int.not_le] at h
      refine c_skip ?_
      refine x_then ?_
      refine c_seq ?_
      refine c_region ?_
      refine o_yield rfl rfl rfl (y_val tok rfl) ?_
      refine o_yield rfl rfl rfl (y_val tok rfl) ?_
      refine o_yield rfl rfl rfl (y_val tok rfl) ?_
      refine o_yield rfl rfl rfl (y_val tok rfl) ?_
      refine o_yield rfl rfl rfl (y_val tok rfl) ?_
      refine o_yield rfl rfl rfl (y_val tok rfl) ?_
      refine o_yield rfl rfl rfl (y_val tok rfl) ?_
      refine o_yield rfl rfl rfl (y_val tok rfl) ?_
      refine o_yield rfl rfl rfl (y_val tok rfl) ?_
      refine o_yield rfl rfl rfl (y_val tok rfl) ?_
      refine o_yield rfl rfl rfl (y_val tok rfl) ?_
      refine o_yield rfl rfl rfl (y_val tok rfl) ?_
      refine o_yield rfl rfl rfl (y_val tok rfl) ?_
      refine o_yield rfl rfl rfl (y_val tok rfl) ?_
      refine o_yield rfl rfl rfl (y_val tok rfl) ?_
      refine o_yield rfl rfl rfl (y_val tok rfl) ?_
      refine o_yield rfl rfl rfl (y_val tok rfl) ?_
      refine o_yield rfl rfl rfl (y_val tok rfl) ?_
      refine o_yield rfl rfl rfl (y_val tok rfl) ?_
      refine o_yield rfl rfl rfl (y_val tok rfl) ?_
      refine o_yield rfl rfl rfl (y_val tok rfl) ?_
      refine o_yield rfl rfl rfl (y_val tok rfl) ?_
      refine o_yield rfl rfl rfl (y_val tok rfl) ?_
      refine o_yield rfl rfl rfl (y_val tok rfl) ?_
      refine o_yield rfl rfl rfl (y_val tok rfl) ?_
      refine o_end [2] rfl ?_
      refine x_then ?_
      refine c_ret ?_
      refine b_ret tok rfl ?_
      intro E w' hm _
      refine ⟨?_, hm.below (Vw.le.refl _)⟩
      show Ending.returned (.bool ((((decide (0 ≤ r.block) && decide (r.block < 64)) && decide (0 ≤ r.k)) && decide (r.k < 8)) && decide ((r.text.size : Int) ≤ 256))) = _
      rw [recB, hpre, if_neg (by omega), Bool.true_and]
      congr 2
      rw [Bool.eq_iff_iff]
      simp only [belowB, Bool.and_eq_true, decide_eq_true_eq]
      omega

theorem fldA_len : ∀ (ks acc : List Int) (r : ByteArray) {l : List Int} {q : ByteArray}, fldA acc r ks = some (l, q) → l.length = acc.length + ks.length
  | [], acc, r, l, q, h => by
    simp only [fldA, Option.some.injEq, Prod.mk.injEq] at h
    rw [← h.1]; rfl
  | k :: ks, acc, r, l, q, h => by
    rw [fldA] at h
    split at h
    · cases h
    · have := fldA_len ks _ _ h
      rw [this, List.length_append, List.length_singleton, List.length_cons] <;> omega

def rWidths : List Int := [6, 6, 2, 1, 2]
abbrev recNo : Record := ⟨0, 0, 0, 0, ByteArray.empty, 0⟩

def recOfL : List Int → ByteArray → Record
  | [a, b, c, d, e], t => ⟨a, b, c, d, t, e⟩
  | _, _ => recNo

/-- A sector as a record. -/
def readB (s : ByteArray) : Bool := match fieldsR 6 s rWidths with
  | some (l, t) => recB (recOfL l t)
  | none => false
def readV (s : ByteArray) : Record := if readB s = true then (match fieldsR 6 s rWidths with
  | some (l, t) => recOfL l t
  | none => recNo) else recNo
def readE (s : ByteArray) : Int := if readB s = true then 0 else 50

theorem five {l : List Int} (h : l.length = 5) : ∃ a b c d e, l = [a, b, c, d, e] := by
  match l, h with
  | [a, b, c, d, e], _ => exact ⟨a, b, c, d, e, rfl⟩

theorem fields_len {kind : Int} {s : ByteArray} {ks l : List Int} {q : ByteArray} (h : fieldsR kind s ks = some (l, q)) : l.length = ks.length := by
  rw [fieldsR] at h
  split at h
  · rw [fldA_len ks [] _ h]; simp
  · cases h

theorem widths_cR (b : Nat) (w : World) : Calls Try.prog 138 #[.pointer (some ⟨b, 0, none⟩)] w fun e w' => ∃ v, e = .returned v ∧ w'.ownsRow w.heap.size 3 1 v rWidths.length (rWidths.flatMap encI64) ∧ Below w.heap.size w w' := by
  refine enter (E := E0) (O := []) (nl := 0) (V := vw w) [.a (.v (.pointer (some ⟨b, 0, none⟩)))] Try.func138 rfl rfl (mem0 E0 0 w) rfl rfl ?_
  refine c_seq ?_
  refine c_region ?_
  refine o_yield rfl rfl rfl (y_val tok rfl) ?_
  refine o_end [] rfl ?_
  refine x_then ?_
  refine c_seq ?_
  refine c_region ?_
  refine o_step rfl rfl rfl rfl rfl (s_bs tok 1 rfl rfl rfl) (fun _ _ => ?_)
  refine o_yield rfl rfl rfl (y_val tok rfl) ?_
  refine o_end [2] rfl ?_
  refine x_then ?_
  refine c_ret ?_
  refine b_ret tok rfl ?_
  intro E w' hm _
  exact ⟨_, rfl, hm.rowFresh (Vw.le.refl _) (l := 0) rfl, hm.below (Vw.le.refl _)⟩

theorem widths_cV (V : Vw) (b : Nat) (w : World) (hV : V.le (vw w)) : Calls Try.prog 138 #[.pointer (some ⟨b, 0, none⟩)] w fun e w' => ∃ x V', e = .returned x ∧ Below w.heap.size w w' ∧ Vext w.heap.size V V' w' ∧ SlOf V' encI64 1 x rWidths := by
  refine (widths_cR b w).mono ?_
  rintro e w' ⟨v, rfl, hown, hb⟩
  obtain ⟨V', hx, hsl⟩ := ownsRow_vext hV hb hown
  exact ⟨_, V', rfl, hb, hx, ⟨hsl, fun _ => rfl⟩⟩

theorem recRead_c (s : ByteArray) (hs : s.size ≤ maxLen) (w : World) : Calls Try.prog 123 #[S s] w fun e w' => e = .returned (.tuple #[(readV s).val, I (readE s)]) ∧ Below w.heap.size w w' := by
  refine enter (E := E0) (O := []) (nl := 0) (V := vw w) [.a (.v (S s))] Try.func123 rfl rfl (mem0 E0 0 w) rfl rfl ?_
  refine c_seq ?_
  refine c_region ?_
  refine o_new tok rfl rfl rfl rfl ?_
  refine o_yield rfl rfl rfl (y_val tok rfl) ?_
  refine o_end [0, 2] rfl ?_
  refine x_then ?_
  refine c_seq ?_
  refine c_region ?_
  refine o_yield rfl rfl rfl (y_val tok rfl) ?_
  refine o_new tok rfl rfl rfl rfl ?_
  refine o_yield rfl rfl rfl (y_val tok rfl) ?_
  refine o_end [0, 2, 4] rfl ?_
  refine x_then ?_
  refine c_seq ?_
  refine c_region ?_
  refine o_yield rfl rfl rfl (y_val tok rfl) ?_
  refine o_yield rfl rfl rfl (y_val tok rfl) ?_
  refine o_callV ((fun x V' => SlOf V' encI64 1 x rWidths)) rfl rfl fnok138 rfl rfl (fun hg E w1 hm => by exact widths_cV (vw w) _ _ hm.leV) ?_
  rintro x V1 hle1 hx
  have hx1 := hx rfl
  refine o_callV (FVal 6 s rWidths) rfl rfl fnok124 rfl rfl (fun hg E w1 hm => by exact fval_of hm.leV (fields_c 6 s V1 x rWidths _ hs hm.leV hx1 (by decide))) ?_
  rintro y V2 hle2 hy
  have hle := hle1.trans hle2
  rcases hy rfl with ⟨l, t, v, hR, rfl, hsl⟩ | ⟨hR, rfl⟩
  rotate_left
  ·
    refine o_yield rfl rfl rfl (y_val tok rfl) ?_
    refine o_yield rfl rfl rfl (y_val tok rfl) ?_
    refine o_yield rfl rfl rfl (y_val tok rfl) ?_
    refine o_yield rfl rfl rfl (y_val tok rfl) ?_
    refine o_yield rfl rfl rfl (y_val tok rfl) ?_
    refine o_yield rfl rfl rfl (y_val tok rfl) ?_
    refine o_yield rfl rfl rfl (y_val tok rfl) ?_
    refine o_end [2, 4, 5, 6, 7] rfl ?_
    refine x_then ?_
    refine c_seq ?_
    refine c_seq ?_
    refine c_region ?_
    refine o_yield rfl rfl rfl (y_val tok rfl) ?_
    refine o_yield rfl rfl rfl (y_val tok rfl) ?_
    refine o_end [2, 4, 5, 6, 19] rfl ?_
    refine x_then ?_
    refine c_cond rfl (fun h => ?_) (fun h => ?_)
    ·
      refine c_seq ?_
      refine c_region ?_
      refine o_yield rfl rfl rfl (y_val tok rfl) ?_
      refine o_store tok rfl rfl rfl (by first | exact ⟨trivial, trivial⟩ | (repeat' first | exact trivial | exact rfl | apply And.intro); done | simp [onesP, oneP, lk, Value.oneCell']) ?_
      refine o_yield rfl rfl rfl (y_val tok rfl) ?_
      refine o_end [2, 3] rfl ?_
      refine x_then ?_
      refine c_ret ?_
      refine x_then_ret ?_
      refine b_ret tok rfl ?_
      intro E w' hm _
      refine ⟨?_, hm.below (hle)⟩
      have h1 : readB s = false := by rw [readB, hR]
      rw [readV, readE, if_neg (by simp [h1]), if_neg (by simp [h1])]
      rfl
    ·
      refine c_skip ?_
      refine x_then ?_
      refine c_seq ?_
      refine c_held [] ([]) mixed (by repeat (first | exact SubO.nil | refine SubO.cons rfl ?_)) (by first | rfl | simp [okCels, allOk_plain]) ?_
      refine t_take 0 rfl (by kernel_rfl) rfl rfl rfl (y_val tok rfl) rfl ?_
      refine t_take 1 rfl (by kernel_rfl) rfl rfl rfl (y_val tok rfl) rfl ?_
      refine t_take 2 rfl (by kernel_rfl) rfl rfl rfl (y_val tok rfl) rfl ?_
      refine t_take 3 rfl (by kernel_rfl) rfl rfl rfl (y_val tok rfl) rfl ?_
      refine t_take 4 rfl (by kernel_rfl) rfl rfl rfl (y_val tok rfl) rfl ?_
      refine t_take 5 rfl (by kernel_rfl) rfl rfl rfl (y_val tok rfl) rfl ?_
      refine t_take 6 rfl (by kernel_rfl) rfl rfl rfl (y_val tok rfl) rfl ?_
      exact absurd h (by decide)
  refine o_yield rfl rfl rfl (y_val tok rfl) ?_
  refine o_yield rfl rfl rfl (y_val tok rfl) ?_
  refine o_yield rfl rfl rfl (y_val tok rfl) ?_
  refine o_yield rfl rfl rfl (y_val tok rfl) ?_
  refine o_yield rfl rfl rfl (y_val tok rfl) ?_
  refine o_yield rfl rfl rfl (y_val tok rfl) ?_
  refine o_yield rfl rfl rfl (y_val tok rfl) ?_
  refine o_end [2, 4, 5, 6, 7] rfl ?_
  refine x_then ?_
  refine c_seq ?_
  refine c_seq ?_
  refine c_region ?_
  refine o_yield rfl rfl rfl (y_val tok rfl) ?_
  refine o_yield rfl rfl rfl (y_val tok rfl) ?_
  refine o_end [2, 4, 5, 6, 19] rfl ?_
  refine x_then ?_
  refine c_cond rfl (fun h => ?_) (fun h => ?_)
  ·
    refine c_seq ?_
    refine c_region ?_
    refine o_yield rfl rfl rfl (y_val tok rfl) ?_
    refine o_store tok rfl rfl rfl (by first | exact ⟨trivial, trivial⟩ | (repeat' first | exact trivial | exact rfl | apply And.intro); done | simp [onesP, oneP, lk, Value.oneCell']) ?_
    refine o_yield rfl rfl rfl (y_val tok rfl) ?_
    refine o_end [2, 3] rfl ?_
    refine x_then ?_
    refine c_ret ?_
    refine x_then_ret ?_
    refine b_ret tok rfl ?_
    exact absurd h (by decide)
  ·
    refine c_skip ?_
    refine x_then ?_
    refine c_seq ?_
    refine c_held [] ([]) mixed (by repeat (first | exact SubO.nil | refine SubO.cons rfl ?_)) (by first | rfl | simp [okCels, allOk_plain]) ?_
    refine t_take 0 rfl (by kernel_rfl) rfl rfl rfl (y_val tok rfl) rfl ?_
    refine t_take 1 rfl (by kernel_rfl) rfl rfl rfl (y_val tok rfl) rfl ?_
    refine t_take 2 rfl (by kernel_rfl) rfl rfl rfl (y_val tok rfl) rfl ?_
    refine t_take 3 rfl (by kernel_rfl) rfl rfl rfl (y_val tok rfl) rfl ?_
    refine t_take 4 rfl (by kernel_rfl) rfl rfl rfl (y_val tok rfl) rfl ?_
    refine t_take 5 rfl (by kernel_rfl) rfl rfl rfl (y_val tok rfl) rfl ?_
    refine t_take 6 rfl (by kernel_rfl) rfl rfl rfl (y_val tok rfl) rfl ?_
    clear h
    obtain ⟨a, b, c, d, e, rfl⟩ := five (fields_len hR)
    have hlt_a := lt_of_at (show [a, b, c, d, e][0]? = some a from rfl)
    refine t_take 7 rfl (by kernel_rfl) rfl rfl rfl (y_idx tok rfl (fun hg => hsl.sl) (fun hg => ⟨by omega, by omega⟩)) rfl ?_
    refine t_take 8 rfl (by kernel_rfl) rfl rfl rfl (y_lel tok (0) 0 (a) rfl (fun hg => hsl) (fun hg => (show [a, b, c, d, e][0]? = some a from rfl)) rfl rfl) rfl ?_
    refine t_take 9 rfl (by kernel_rfl) rfl rfl rfl (y_val tok rfl) rfl ?_
    have hlt_b := lt_of_at (show [a, b, c, d, e][1]? = some b from rfl)
    refine t_take 10 rfl (by kernel_rfl) rfl rfl rfl (y_idx tok rfl (fun hg => hsl.sl) (fun hg => ⟨by omega, by omega⟩)) rfl ?_
    refine t_take 11 rfl (by kernel_rfl) rfl rfl rfl (y_lel tok (1) 0 (b) rfl (fun hg => hsl) (fun hg => (show [a, b, c, d, e][1]? = some b from rfl)) rfl rfl) rfl ?_
    refine t_take 12 rfl (by kernel_rfl) rfl rfl rfl (y_val tok rfl) rfl ?_
    have hlt_c := lt_of_at (show [a, b, c, d, e][2]? = some c from rfl)
    refine t_take 13 rfl (by kernel_rfl) rfl rfl rfl (y_idx tok rfl (fun hg => hsl.sl) (fun hg => ⟨by omega, by omega⟩)) rfl ?_
    refine t_take 14 rfl (by kernel_rfl) rfl rfl rfl (y_lel tok (2) 0 (c) rfl (fun hg => hsl) (fun hg => (show [a, b, c, d, e][2]? = some c from rfl)) rfl rfl) rfl ?_
    refine t_take 15 rfl (by kernel_rfl) rfl rfl rfl (y_val tok rfl) rfl ?_
    have hlt_d := lt_of_at (show [a, b, c, d, e][3]? = some d from rfl)
    refine t_take 16 rfl (by kernel_rfl) rfl rfl rfl (y_idx tok rfl (fun hg => hsl.sl) (fun hg => ⟨by omega, by omega⟩)) rfl ?_
    refine t_take 17 rfl (by kernel_rfl) rfl rfl rfl (y_lel tok (3) 0 (d) rfl (fun hg => hsl) (fun hg => (show [a, b, c, d, e][3]? = some d from rfl)) rfl rfl) rfl ?_
    refine t_take 18 rfl (by kernel_rfl) rfl rfl rfl (y_val tok rfl) rfl ?_
    have hlt_e := lt_of_at (show [a, b, c, d, e][4]? = some e from rfl)
    refine t_take 19 rfl (by kernel_rfl) rfl rfl rfl (y_idx tok rfl (fun hg => hsl.sl) (fun hg => ⟨by omega, by omega⟩)) rfl ?_
    refine t_take 20 rfl (by kernel_rfl) rfl rfl rfl (y_lel tok (4) 0 (e) rfl (fun hg => hsl) (fun hg => (show [a, b, c, d, e][4]? = some e from rfl)) rfl rfl) rfl ?_
    refine t_take 21 rfl (by kernel_rfl) rfl rfl rfl (y_val tok rfl) rfl ?_
    refine t_take 22 rfl (by kernel_rfl) rfl rfl rfl (y_val tok rfl) rfl ?_
    refine t_take 23 rfl (by kernel_rfl) rfl rfl rfl (y_val tok rfl) rfl ?_
    refine t_take 24 rfl (by kernel_rfl) rfl rfl rfl (y_val tok rfl) rfl ?_
    refine t_go ?_
    refine h_one 25 (by kernel_rfl) ?_
    refine h_store 25 tok rfl rfl rfl rfl (by first | exact ⟨trivial, trivial⟩ | (repeat' first | exact trivial | exact rfl | apply And.intro); done | simp [onesP, oneP, lk, Value.oneCell']) (.inr ⟨(by repeat (first | exact SubO.nil | refine SubO.cons rfl ?_)), rfl, (by first | exact Vw.le.refl _ | assumption)⟩) ?_
    refine h_one 26 (by kernel_rfl) ?_
    refine h_yield 26 rfl rfl rfl rfl (y_val tok rfl) ?_
    refine h_one 27 (by kernel_rfl) ?_
    refine h_yield 27 rfl rfl rfl rfl (y_val tok rfl) ?_
    refine h_one 28 (by kernel_rfl) ?_
    refine h_yield 28 rfl rfl rfl rfl (y_val tok rfl) ?_
    refine h_one 29 (by kernel_rfl) ?_
    refine h_store 29 tok rfl rfl rfl rfl (by first | exact ⟨trivial, trivial⟩ | (repeat' first | exact trivial | exact rfl | apply And.intro); done | simp [onesP, oneP, lk, Value.oneCell']) (.inr ⟨(by repeat (first | exact SubO.nil | refine SubO.cons rfl ?_)), rfl, (by first | exact Vw.le.refl _ | assumption)⟩) ?_
    refine h_one 30 (by kernel_rfl) ?_
    refine h_yield 30 rfl rfl rfl rfl (y_val tok rfl) ?_
    refine h_one 31 (by kernel_rfl) ?_
    refine h_yield 31 rfl rfl rfl rfl (y_val tok rfl) ?_
    refine h_one 32 (by kernel_rfl) ?_
    refine h_yield 32 rfl rfl rfl rfl (y_val tok rfl) ?_
    refine h_one 33 (by kernel_rfl) ?_
    refine h_store 33 tok rfl rfl rfl rfl (by first | exact ⟨trivial, trivial⟩ | (repeat' first | exact trivial | exact rfl | apply And.intro); done | simp [onesP, oneP, lk, Value.oneCell']) (.inr ⟨(by repeat (first | exact SubO.nil | refine SubO.cons rfl ?_)), rfl, (by first | exact Vw.le.refl _ | assumption)⟩) ?_
    refine h_one 34 (by kernel_rfl) ?_
    refine h_yield 34 rfl rfl rfl rfl (y_val tok rfl) ?_
    refine h_one 35 (by kernel_rfl) ?_
    refine h_yield 35 rfl rfl rfl rfl (y_val tok rfl) ?_
    refine h_one 36 (by kernel_rfl) ?_
    refine h_yield 36 rfl rfl rfl rfl (y_val tok rfl) ?_
    refine h_one 37 (by kernel_rfl) ?_
    refine h_store 37 tok rfl rfl rfl rfl (by first | exact ⟨trivial, trivial⟩ | (repeat' first | exact trivial | exact rfl | apply And.intro); done | simp [onesP, oneP, lk, Value.oneCell']) (.inr ⟨(by repeat (first | exact SubO.nil | refine SubO.cons rfl ?_)), rfl, (by first | exact Vw.le.refl _ | assumption)⟩) ?_
    refine h_one 38 (by kernel_rfl) ?_
    refine h_yield 38 rfl rfl rfl rfl (y_val tok rfl) ?_
    refine h_one 39 (by kernel_rfl) ?_
    refine h_yield 39 rfl rfl rfl rfl (y_val tok rfl) ?_
    refine h_one 40 (by kernel_rfl) ?_
    refine h_yield 40 rfl rfl rfl rfl (y_val tok rfl) ?_
    refine h_one 41 (by kernel_rfl) ?_
    refine h_store 41 tok rfl rfl rfl rfl (by first | exact ⟨trivial, trivial⟩ | (repeat' first | exact trivial | exact rfl | apply And.intro); done | simp [onesP, oneP, lk, Value.oneCell']) (.inr ⟨(by repeat (first | exact SubO.nil | refine SubO.cons rfl ?_)), rfl, (by first | exact Vw.le.refl _ | assumption)⟩) ?_
    refine h_one 42 (by kernel_rfl) ?_
    refine h_yield 42 rfl rfl rfl rfl (y_val tok rfl) ?_
    refine h_one 43 (by kernel_rfl) ?_
    refine h_yield 43 rfl rfl rfl rfl (y_val tok rfl) ?_
    refine h_one 44 (by kernel_rfl) ?_
    refine h_yield 44 rfl rfl rfl rfl (y_val tok rfl) ?_
    refine h_one 45 (by kernel_rfl) ?_
    refine h_store 45 tok rfl rfl rfl rfl (by first | exact ⟨trivial, trivial⟩ | (repeat' first | exact trivial | exact rfl | apply And.intro); done | simp [onesP, oneP, lk, Value.oneCell']) (.inr ⟨(by repeat (first | exact SubO.nil | refine SubO.cons rfl ?_)), rfl, (by first | exact Vw.le.refl _ | assumption)⟩) ?_
    refine h_done [2, 4] (by kernel_rfl) rfl ?_
    refine x_then ?_
    refine c_seq ?_
    refine c_seq ?_
    refine c_region ?_
    refine o_yield rfl rfl rfl (y_val tok rfl) ?_
    have h0 : fieldsR 6 s rWidths = some ([a, b, c, d, e], t) := hR
    have hr : readB s = recB ⟨a, b, c, d, t, e⟩ := by rw [readB, h0]; rfl
    refine o_call (.a (.v _)) rfl rfl fnok139 rfl rfl rfl (fun hg E w1 hm => by exact entryMay_c ⟨a, b, c, d, t, e⟩ _ _ (hm.lit 1 _ _ rfl)) ?_
    refine o_yield rfl rfl rfl (y_val tok rfl) ?_
    refine o_end [2, 4, 63] rfl ?_
    refine x_then ?_
    refine c_cond rfl (fun h => ?_) (fun h => ?_)
    ·
      simp only [Bool.and_eq_true, Bool.or_eq_true, Bool.not_eq_true', Bool.or_eq_false_iff, Bool.and_eq_false_iff, decide_eq_true_eq, decide_eq_false_iff_not, beq_iff_eq, bne_iff_ne, Bool.not_eq_false', beq_eq_false_iff_ne, bne_eq_false_iff_eq, ne_eq, Decidable.not_not, Int.not_lt, Int.not_le] at h
      refine c_seq ?_
      refine c_region ?_
      refine o_yield rfl rfl rfl (y_val tok rfl) ?_
      refine o_store tok rfl rfl rfl (by first | exact ⟨trivial, trivial⟩ | (repeat' first | exact trivial | exact rfl | apply And.intro); done | simp [onesP, oneP, lk, Value.oneCell']) ?_
      refine o_yield rfl rfl rfl (y_val tok rfl) ?_
      refine o_end [2, 3] rfl ?_
      refine x_then ?_
      refine c_ret ?_
      refine x_then_ret ?_
      refine b_ret tok rfl ?_
      intro E w' hm _
      refine ⟨?_, hm.below (hle)⟩
      rw [readV, readE, if_neg (by simp [hr, h]), if_neg (by simp [hr, h])]
      rfl
    ·
      simp only [Bool.and_eq_true, Bool.or_eq_true, Bool.not_eq_true', Bool.or_eq_false_iff, Bool.and_eq_false_iff, decide_eq_true_eq, decide_eq_false_iff_not, beq_iff_eq, bne_iff_ne, Bool.not_eq_false', beq_eq_false_iff_ne, bne_eq_false_iff_eq, ne_eq, Decidable.not_not, Int.not_lt, Int.not_le] at h
      refine c_skip ?_
      refine x_then ?_
      refine c_seq ?_
      refine c_region ?_
      refine o_yield rfl rfl rfl (y_val tok rfl) ?_
      refine o_yield rfl rfl rfl (y_val tok rfl) ?_
      refine o_yield rfl rfl rfl (y_val tok rfl) ?_
      refine o_yield rfl rfl rfl (y_val tok rfl) ?_
      refine o_store tok rfl rfl rfl (by first | exact ⟨trivial, trivial⟩ | (repeat' first | exact trivial | exact rfl | apply And.intro); done | simp [onesP, oneP, lk, Value.oneCell']) ?_
      refine o_yield rfl rfl rfl (y_val tok rfl) ?_
      refine o_end [2, 3] rfl ?_
      refine x_then ?_
      refine c_ret ?_
      refine b_ret tok rfl ?_
      intro E w' hm _
      refine ⟨?_, hm.below (hle)⟩
      rw [readV, readE, if_pos (by rw [hr, h]), if_pos (by rw [hr, h]), h0]
      rfl

def isB (s : ByteArray) (key lsn : Int) : Bool := readB s && decide ((readV s).key = key) && decide ((readV s).lsn = lsn)
def isV (s : ByteArray) (key lsn : Int) : Record := if isB s key lsn = true then readV s else recNo

theorem isB_iff (s : ByteArray) (key lsn : Int) : ((readE s != 0) || ((readV s).key != key) || ((readV s).lsn != lsn)) = !isB s key lsn := by
  unfold isB readE
  cases readB s with
  | true => rw [Bool.eq_iff_iff]; simp [or_assoc]
  | false => rfl

theorem recIs_c (s : ByteArray) (key lsn : Int) (hs : s.size ≤ maxLen) (w : World) : Calls Try.prog 96 #[S s, I key, I lsn] w fun e w' => e = .returned (.tuple #[(isV s key lsn).val, .bool (isB s key lsn)]) ∧ Below w.heap.size w w' := by
  refine enter (E := E0) (O := []) (nl := 0) (V := vw w) [.a (.v (S s)), .a (.v (I key)), .a (.v (I lsn))] Try.func96 rfl rfl (mem0 E0 0 w) rfl rfl ?_
  refine c_seq ?_
  refine c_region ?_
  refine o_new tok rfl rfl rfl rfl ?_
  refine o_yield rfl rfl rfl (y_val tok rfl) ?_
  refine o_end [0, 1, 2, 6] rfl ?_
  refine x_then ?_
  refine c_seq ?_
  refine c_region ?_
  refine o_yield rfl rfl rfl (y_val tok rfl) ?_
  refine o_call (.a (.v _)) rfl rfl fnok123 rfl rfl rfl (fun hg E w1 hm => by exact recRead_c s hs _) ?_
  refine o_yield rfl rfl rfl (y_val tok rfl) ?_
  refine o_yield rfl rfl rfl (y_val tok rfl) ?_
  refine o_yield rfl rfl rfl (y_val tok rfl) ?_
  refine o_new tok rfl rfl rfl rfl ?_
  refine o_store tok rfl rfl rfl (by first | exact ⟨trivial, trivial⟩ | (repeat' first | exact trivial | exact rfl | apply And.intro); done | simp [onesP, oneP, lk, Value.oneCell']) ?_
  refine o_yield rfl rfl rfl (y_val tok rfl) ?_
  refine o_end [1, 2, 6, 8, 9] rfl ?_
  refine x_then ?_
  refine c_seq ?_
  refine c_seq ?_
  refine c_region ?_
  refine o_yield rfl rfl rfl (y_val tok rfl) ?_
  refine o_yield rfl rfl rfl (y_val tok rfl) ?_
  refine o_yield rfl rfl rfl (y_val tok rfl) ?_
  refine o_yield rfl rfl rfl (y_val tok rfl) ?_
  refine o_yield rfl rfl rfl (y_val tok rfl) ?_
  refine o_yield rfl rfl rfl (y_val tok rfl) ?_
  refine o_yield rfl rfl rfl (y_val tok rfl) ?_
  refine o_yield rfl rfl rfl (y_val tok rfl) ?_
  refine o_yield rfl rfl rfl (y_val tok rfl) ?_
  refine o_yield rfl rfl rfl (y_val tok rfl) ?_
  refine o_yield rfl rfl rfl (y_val tok rfl) ?_
  refine o_yield rfl rfl rfl (y_val tok rfl) ?_
  refine o_yield rfl rfl rfl (y_val tok rfl) ?_
  refine o_yield rfl rfl rfl (y_val tok rfl) ?_
  refine o_end [6, 8, 28] rfl ?_
  refine x_then ?_
  refine c_cond rfl (fun h => ?_) (fun h => ?_)
  ·
    refine c_seq ?_
    refine c_region ?_
    refine o_yield rfl rfl rfl (y_val tok rfl) ?_
    refine o_store tok rfl rfl rfl (by first | exact ⟨trivial, trivial⟩ | (repeat' first | exact trivial | exact rfl | apply And.intro); done | simp [onesP, oneP, lk, Value.oneCell']) ?_
    refine o_yield rfl rfl rfl (y_val tok rfl) ?_
    refine o_end [6, 7] rfl ?_
    refine x_then ?_
    refine c_ret ?_
    refine x_then_ret ?_
    refine b_ret tok rfl ?_
    rw [isB_iff] at h
    simp at h
    intro E w' hm _
    refine ⟨?_, hm.below (Vw.le.refl _)⟩
    rw [isV, h]
    rfl
  ·
    refine c_skip ?_
    refine x_then ?_
    refine c_seq ?_
    refine c_region ?_
    refine o_yield rfl rfl rfl (y_val tok rfl) ?_
    refine o_store tok rfl rfl rfl (by first | exact ⟨trivial, trivial⟩ | (repeat' first | exact trivial | exact rfl | apply And.intro); done | simp [onesP, oneP, lk, Value.oneCell']) ?_
    refine o_yield rfl rfl rfl (y_val tok rfl) ?_
    refine o_end [6, 7] rfl ?_
    refine x_then ?_
    refine c_ret ?_
    refine b_ret tok rfl ?_
    rw [isB_iff] at h
    simp at h
    intro E w' hm _
    refine ⟨?_, hm.below (Vw.le.refl _)⟩
    rw [isV, h]
    rfl

end Go.Proofs.Ytikdaehmaaogdaa

/- The program's putting of numbers' bytes. -/
set_option linter.unusedVariables false
set_option linter.unusedSimpArgs false
set_option maxRecDepth 100000
namespace Go.Proofs.Ytikdaehmaaogdaa
open Go Go.Eng Go.RowKit

section
variable {o : Oper} {n : Nat} {F : Frame0} {C : List Nat} {O : Go.Eng.Own} {nl : Nat} {V : Vw}

end
end Go.Proofs.Ytikdaehmaaogdaa

/- Sectors that are sealed: the program's. -/
set_option linter.unusedVariables false
set_option linter.unusedSimpArgs false
set_option maxRecDepth 100000
namespace Go.Proofs.Ytikdaehmaaogdaa
open Go Go.Eng Go.RowKit

section
variable {o : Oper} {n : Nat} {F : Frame0} {C : List Nat} {O : Go.Eng.Own} {nl : Nat} {V : Vw}

end

theorem putL_one (bl : List UInt8) (k : Int) (n : Int) : putL bl k [n] = bl ++ leB k n := by simp [putL]

/-- Numbers put one behind the other. -/
def packL : List Int → List Int → List UInt8
  | k :: ks, n :: ns => leB k n ++ packL ks ns
  | _, _ => []

theorem packL_succ : ∀ {ks ns : List Int} {i : Nat} {k n : Int}, ks[i]? = some k → ns[i]? = some n → packL (ks.take (i + 1)) (ns.take (i + 1)) = packL (ks.take i) (ns.take i) ++ leB k n
  | k0 :: ks, n0 :: ns, 0, k, n, hk, hn => by
    simp at hk hn
    subst hk hn
    simp [packL]
  | k0 :: ks, n0 :: ns, i + 1, k, n, hk, hn => by
    simp only [List.getElem?_cons_succ] at hk hn
    have := packL_succ hk hn
    simp only [List.take_succ_cons, packL, this, List.append_assoc]
  | [], _, _, _, _, hk, _ => by simp at hk
  | _ :: _, [], _, _, _, _, hn => by simp at hn

def rNums (r : Record) : List Int := [r.key, r.lsn, r.block, r.k, r.count]
def recBytes (r : Record) : ByteArray := strOf (sealL 6 (packL rWidths (rNums r) ++ r.text.data.toList))
def bytesV (r : Record) : ByteArray := if recB r = true then recBytes r else ByteArray.empty
def bytesE (r : Record) : Int := if recB r = true then 0 else 2

structure RecOk (r : Record) : Prop where
  key : 16 ≤ r.key ∧ r.key ≤ 1099511627776
  lsn : 0 ≤ r.lsn ∧ r.lsn ≤ 1099511627776
  block : 0 ≤ r.block ∧ r.block < 64
  k : 0 ≤ r.k ∧ r.k < 8
  count : 0 ≤ r.count ∧ r.count < 64
  text : r.text.size ≤ 256

theorem recOk {r : Record} (h : recB r = true) : RecOk r := by
  simp only [recB, keyB, belowB, Bool.and_eq_true, decide_eq_true_eq] at h
  obtain ⟨⟨⟨h1, h2⟩, h3⟩, h4⟩ := h
  split at h4
  · simp only [Bool.and_eq_true, decide_eq_true_eq, beq_iff_eq] at h4
    exact ⟨h1, by omega, by omega, by omega, h3, by omega⟩
  · simp only [Bool.and_eq_true, decide_eq_true_eq, belowB] at h4
    exact ⟨h1, by omega, h4.1.1, h4.1.2, h3, by omega⟩

theorem putOk_of {k n : Int} (h : fitsB n k = true) : putOk k [n] = true := by
  have hw : widthB k = true := by
    simp only [fitsB, Bool.and_eq_true] at h; exact h.1.1
  simp [putOk, hw, h]

theorem rec_fits {r : Record} (ok : RecOk r) : ∀ (i : Nat) (k n : Int), rWidths[i]? = some k → (rNums r)[i]? = some n → fitsB n k = true := by
  have m6 : mostN (6 : Int).toNat = 1099511627776 := by decide
  have m2 : mostN (2 : Int).toNat = 65535 := by decide
  have m1 : mostN (1 : Int).toNat = 255 := by decide
  obtain ⟨a1, a2, a3, a4, a5, _⟩ := ok
  intro i k n hk hn
  match i with
  | 0 => cases hk; cases hn; rw [fitsB, m6]; simp [widthB]; omega
  | 1 => cases hk; cases hn; rw [fitsB, m6]; simp [widthB]; omega
  | 2 => cases hk; cases hn; rw [fitsB, m2]; simp [widthB]; omega
  | 3 => cases hk; cases hn; rw [fitsB, m1]; simp [widthB]; omega
  | 4 => cases hk; cases hn; rw [fitsB, m2]; simp [widthB]; omega
  | i + 5 => simp [rWidths] at hk

theorem pack_len : ∀ (ks ns : List Int), (packL ks ns).length ≤ (ks.map Int.toNat).sum
  | k :: ks, n :: ns => by
    have := pack_len ks ns
    simp only [packL, leB, List.length_append, leTake_len, List.map_cons, List.sum_cons]; omega
  | [], _ => by simp [packL]
  | _ :: _, [] => by simp [packL]

theorem rec_pack17 (r : Record) : (packL rWidths (rNums r)).length = 17 := by
  simp [packL, rWidths, rNums, leB, leTake_len]

theorem seal_rec {r : Record} (ok : RecOk r) : sealS 6 (strOf (packL rWidths (rNums r)) ++ r.text) = (recBytes r, 0) := by
  have h17 := rec_pack17 r
  have ht := ok.text
  rw [sealS, if_neg (by rw [ByteArray.size_append, strOf_size]; omega), recBytes]
  congr 3

def mkRec (r : Record) : ByteArray × Int := sealS 6 (strOf (packL rWidths (rNums r)) ++ r.text)

end Go.Proofs.Ytikdaehmaaogdaa

/- Sealed numbers are read back; a sector of which one byte was turned is none: plain law. -/
set_option linter.unusedVariables false
set_option linter.unusedSimpArgs false
set_option maxRecDepth 100000
namespace Go.Proofs.Ytikdaehmaaogdaa
open Go Go.Eng Go.RowKit

theorem leTo_congr_lt {f g : Nat → Nat} : ∀ {k : Nat}, (∀ j, j < k → f j = g j) → leTo f k = leTo g k
  | 0, _ => rfl
  | k + 1, h => by rw [leTo, leTo, leTo_congr_lt (fun j hj => h j (by omega)), h k (by omega)]

theorem leTo_digits (q : Nat) : ∀ k, leTo (fun j => q / pw j % 256) k = q % pw k
  | 0 => by simp [leTo, pw, Nat.mod_one]
  | k + 1 => by
    rw [leTo, leTo_digits q k, pw_succ, Nat.mod_mul, Nat.mul_comm (pw k)]

theorem fits_nat {n k : Int} (h : fitsB n k = true) : ∃ q m : Nat, n = q ∧ k = m ∧ 1 ≤ m ∧ m ≤ 6 ∧ q < pw m ∧ q ≤ 1099511627776 := by
  simp only [fitsB, widthB, Bool.and_eq_true, decide_eq_true_eq] at h
  obtain ⟨⟨⟨h1, h2⟩, h3⟩, h4⟩ := h
  refine ⟨n.toNat, k.toNat, by omega, by omega, by omega, by omega, ?_, ?_⟩
  · have := pw_pos k.toNat
    unfold mostN at h4
    unfold pw
    unfold pw at this
    omega
  · unfold mostN at h4; omega

/-- A number that fits is read back. -/
theorem getSpec_pack {n k : Int} (h : fitsB n k = true) (R : List UInt8) : getSpec (strOf (leB k n ++ R)) 0 k = (n, 0) := by
  have hw : widthB k = true := by
    simp only [fitsB, Bool.and_eq_true] at h; exact h.1.1
  obtain ⟨q, m, rfl, rfl, h1, h2, h3, h4⟩ := fits_nat h
  have hd : leTo (digit (strOf (leB m q ++ R)) (0 : Int).toNat) (m : Int).toNat = q := by
    rw [Int.toNat_natCast, leTo_congr_lt (g := fun j => q / pw j % 256) (fun j hj => ?_), leTo_digits, Nat.mod_eq_of_lt h3]
    rw [digit, byteAt_list, strOf_list]
    have hlen : j < (leB (m : Int) (q : Int)).length := by rw [leB, leTake_len]; exact hj
    rw [List.getD, List.getElem?_append_left (by simpa using hlen)]
    simp only [leB, leTake, Int.toNat_natCast, Int.toNat_zero, Nat.zero_add, List.getElem?_map, List.getElem?_range hj, Option.map_some, Option.getD_some]
    exact ofNat_mod _
  rw [getSpec, if_neg (by simp [hw]), hd, if_neg (by rw [strOf_size, List.length_append, leB, leTake_len]; omega), if_neg (by omega)]

theorem restOf_pack (n k : Int) (R : List UInt8) : restOf (strOf (leB k n ++ R)) k.toNat = strOf R := by
  apply str_ext
  rw [restOf_list, strOf_list, strOf_list, List.drop_left']
  rw [leB, leTake_len]

theorem fldA_pack : ∀ (ks ns acc : List Int) (R : List UInt8), ks.length = ns.length → (∀ (i : Nat) (k n : Int), ks[i]? = some k → ns[i]? = some n → fitsB n k = true) → fldA acc (strOf (packL ks ns ++ R)) ks = some (acc ++ ns, strOf R)
  | [], [], acc, R, _, _ => by simp [fldA, packL]
  | k :: ks, n :: ns, acc, R, hl, h => by
    have h0 := h 0 k n rfl rfl
    rw [packL, List.append_assoc, fldA, getSpec_pack h0, if_neg (by simp), restOf_pack, fldA_pack ks ns (acc ++ [n]) R (by simpa using hl) (fun i k n hk hn => h (i + 1) k n (by simpa using hk) (by simpa using hn))]
    simp
  | [], _ :: _, _, _, hl, _ => by simp at hl
  | _ :: _, [], _, _, hl, _ => by simp at hl

theorem seal_shape (k : UInt8) (load : List UInt8) : ∃ b1 b2 T, sealL k load = k :: b1 :: b2 :: (load ++ T) ∧ T.length = 4 := by
  refine ⟨UInt8.ofNat (load.length / pw 0 % 256), UInt8.ofNat (load.length / pw 1 % 256), leTake (crcOf (body k load)) 4, ?_, leTake_len _ _⟩
  obtain ⟨c, hc⟩ : ∃ c, leTake (crcOf (body k load)) 4 = c := ⟨_, rfl⟩
  rw [sealL, hc, body_eq]
  rfl

theorem loadOf_seal (k : UInt8) (load : List UInt8) : loadOf (strOf (sealL k load)) = strOf load := by
  obtain ⟨b1, b2, T, h1, h2⟩ := seal_shape k load
  have hsz : (strOf (sealL k load)).size = 7 + load.length := by rw [strOf_size, sealL_len]
  apply str_ext
  rw [loadOf, ByteArray.data_extract, Array.toList_extract, List.extract_eq_take_drop, hsz, strOf_list, strOf_list, h1, show 7 + load.length - 4 - 3 = load.length by omega]
  simp

theorem byteAt_seal (k : UInt8) (load : List UInt8) : byteAt (strOf (sealL k load)) 0 = k := by
  obtain ⟨b1, b2, T, h1, _⟩ := seal_shape k load
  rw [byteAt_list, strOf_list, h1]
  rfl

theorem openB_seal {k : UInt8} {load : List UInt8} (h1 : 1 ≤ k.toNat) (h2 : k.toNat ≤ 127) (h3 : load.length ≤ 505) : openB (strOf (sealL k load)) = true := by
  have hsz : (strOf (sealL k load)).size = 7 + load.length := by rw [strOf_size, sealL_len]
  simp only [openB, Bool.and_eq_true, decide_eq_true_eq]
  rw [byteAt_seal, loadOf_seal, strOf_list, strOf_list, hsz]
  exact ⟨⟨⟨⟨by omega, by omega⟩, h1⟩, h2⟩, rfl⟩

/-- A record's sector is read as it. -/
theorem fields_rec {r : Record} (ok : RecOk r) : fieldsR 6 (recBytes r) rWidths = some (rNums r, r.text) := by
  have h17 := rec_pack17 r
  have ht := ok.text
  have hl : (packL rWidths (rNums r) ++ r.text.data.toList).length ≤ 505 := by rw [List.length_append, size_list]; omega
  have ho : openB (recBytes r) = true := openB_seal (by decide) (by decide) hl
  have hof : ofB 6 (recBytes r) = true := by
    rw [ofB, ho, recBytes, byteAt_seal]; rfl
  rw [fieldsR, if_pos hof, recBytes, loadOf_seal, fldA_pack rWidths (rNums r) [] r.text.data.toList rfl (rec_fits ok), strOf_data]
  rfl

theorem read_rec {r : Record} (h : recB r = true) : readB (recBytes r) = true ∧ readV (recBytes r) = r ∧ readE (recBytes r) = 0 := by
  have hf := fields_rec (recOk h)
  have h1 : readB (recBytes r) = true := by
    rw [readB, hf]; exact h
  refine ⟨h1, ?_, by rw [readE, if_pos h1]⟩
  rw [readV, if_pos h1, hf]
  rfl

end Go.Proofs.Ytikdaehmaaogdaa

/- The law RecordBack from what comes in. -/
set_option linter.unusedVariables false
set_option linter.unusedSimpArgs false
set_option maxRecDepth 100000
namespace Go.Proofs.Ytikdaehmaaogdaa
open Go Go.Eng Go.RowKit

theorem is_rec {r : Record} (h : recB r = true) (key lsn : Int) : isB (recBytes r) key lsn = (decide (r.key = key) && decide (r.lsn = lsn)) := by
  obtain ⟨h1, h2, _⟩ := read_rec h
  rw [isB, h1, h2, Bool.true_and]

theorem recBytes_size {r : Record} (ok : RecOk r) : (recBytes r).size = 24 + r.text.size := by
  rw [recBytes, strOf_size, sealL_len, List.length_append, rec_pack17, size_list]; omega

end Go.Proofs.Ytikdaehmaaogdaa
