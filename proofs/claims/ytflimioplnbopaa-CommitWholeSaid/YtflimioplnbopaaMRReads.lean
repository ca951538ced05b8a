import Derived.Test.YtflimioplnbopaaMCrc
/- Records that are read: the program and the document agree; the law RecordReads. -/
set_option linter.unusedVariables false
set_option linter.unusedSimpArgs false
set_option maxRecDepth 100000
namespace Go.Proofs.Ytflimioplnbopaa
open Go Go.Eng Go.RowKit

theorem refKey_c (n : Int) (w : World) : Calls Try.prog 150 #[I n] w fun e w' => e = .returned (.bool (keyB n)) ∧ Below w.heap.size w w' := by
  refine enter (E := E0) (O := []) (nl := 0) (V := vw w) [.a (.v (I n))] Try.func150 rfl rfl (mem0 E0 0 w) rfl rfl ?_
  refine c_seq ?_
  refine c_region ?_
  refine o_yield rfl rfl rfl (y_val tok rfl) ?_
  refine o_end [0] rfl ?_
  refine x_then ?_
  refine c_seq ?_
  refine c_region ?_
  refine o_yield rfl rfl rfl (y_val tok rfl) ?_
  refine o_yield rfl rfl rfl (y_val tok rfl) ?_
  refine o_yield rfl rfl rfl (y_val tok rfl) ?_
  refine o_yield rfl rfl rfl (y_val tok rfl) ?_
  refine o_yield rfl rfl rfl (y_val tok rfl) ?_
  refine o_yield rfl rfl rfl (y_val tok rfl) ?_
  refine o_yield rfl rfl rfl (y_val tok rfl) ?_
  refine o_end [2] rfl ?_
  refine x_then ?_
  refine c_ret ?_
  refine b_ret tok rfl ?_
  intro E w' hm _
  exact ⟨rfl, hm.below (Vw.le.refl _)⟩

theorem empty_beq (s : ByteArray) : (s.toList == ByteArray.empty.toList) = decide (s.size = 0) := by
  rw [str_beq, Bool.eq_iff_iff, decide_eq_true_eq, decide_eq_true_eq]
  constructor
  · intro h; rw [← size_list, h]; rfl
  · intro h; rw [size_zero h]

theorem refRecMay_c (r : Record) (w : World) : Calls Try.prog 141 #[r.val] w fun e w' => e = .returned (.bool (recB r)) ∧ Below w.heap.size w w' := by
  refine enter (E := E0) (O := []) (nl := 0) (V := vw w) [.a (.v r.val)] Try.func141 rfl rfl (mem0 E0 0 w) rfl rfl ?_
  refine c_seq ?_
  refine c_region ?_
  refine o_new tok rfl rfl rfl rfl ?_
  refine o_yield rfl rfl rfl (y_val tok rfl) ?_
  refine o_end [1] rfl ?_
  refine x_then ?_
  refine c_seq ?_
  refine c_seq ?_
  refine c_region ?_
  refine o_yield rfl rfl rfl (y_val tok rfl) ?_
  refine o_yield rfl rfl rfl (y_val tok rfl) ?_
  refine o_call (.a (.v _)) rfl rfl fnok150 rfl rfl rfl (fun hg E w1 hm => by exact refKey_c _ _) ?_
  refine o_yield rfl rfl rfl (y_val tok rfl) ?_
  refine o_yield rfl rfl rfl (y_val tok rfl) ?_
  refine o_yield rfl rfl rfl (y_val tok rfl) ?_
  refine o_yield rfl rfl rfl (y_val tok rfl) ?_
  refine o_yield rfl rfl rfl (y_val tok rfl) ?_
  refine o_yield rfl rfl rfl (y_val tok rfl) ?_
  refine o_yield rfl rfl rfl (y_val tok rfl) ?_
  refine o_yield rfl rfl rfl (y_val tok rfl) ?_
  refine o_yield rfl rfl rfl (y_val tok rfl) ?_
  refine o_yield rfl rfl rfl (y_val tok rfl) ?_
  refine o_yield rfl rfl rfl (y_val tok rfl) ?_
  refine o_yield rfl rfl rfl (y_val tok rfl) ?_
  refine o_yield rfl rfl rfl (y_val tok rfl) ?_
  refine o_yield rfl rfl rfl (y_val tok rfl) ?_
  refine o_yield rfl rfl rfl (y_val tok rfl) ?_
  refine o_yield rfl rfl rfl (y_val tok rfl) ?_
  refine o_yield rfl rfl rfl (y_val tok rfl) ?_
  refine o_yield rfl rfl rfl (y_val tok rfl) ?_
  refine o_yield rfl rfl rfl (y_val tok rfl) ?_
  refine o_yield rfl rfl rfl (y_val tok rfl) ?_
  refine o_yield rfl rfl rfl (y_val tok rfl) ?_
  refine o_end [1, 26] rfl ?_
  refine x_then ?_
  refine c_cond rfl (fun h => ?_) (fun h => ?_)
  ·
    simp only [Bool.and_eq_true, Bool.or_eq_true, Bool.not_eq_true', Bool.or_eq_false_iff, Bool.and_eq_false_iff, decide_eq_true_eq, decide_eq_false_iff_not, beq_iff_eq, bne_iff_ne, Bool.not_eq_false', beq_eq_false_iff_ne, bne_eq_false_iff_eq, ne_eq, Decidable.not_not, Int.not_lt, Int.not_le] at h
    refine c_seq ?_
    refine c_region ?_
    refine o_yield rfl rfl rfl (y_val tok rfl) ?_
    refine o_end [2] rfl ?_
    refine x_then ?_
    refine c_ret ?_
    refine x_then_ret ?_
    refine b_ret tok rfl ?_
    intro E w' hm _
    refine ⟨?_, hm.below (Vw.le.refl _)⟩
    rw [show recB r = false by
      rw [Bool.eq_false_iff]
      intro hc
      simp only [recB, Bool.and_eq_true, decide_eq_true_eq, belowB] at hc
      rcases h with (((h | h) | h) | h) | h
      · rw [h] at hc; simp at hc
      all_goals omega]
    rfl
  ·
    simp only [Bool.and_eq_true, Bool.or_eq_true, Bool.not_eq_true', Bool.or_eq_false_iff, Bool.and_eq_false_iff, decide_eq_true_eq, decide_eq_false_iff_not, beq_iff_eq, bne_iff_ne, Bool.not_eq_false', beq_eq_false_iff_ne, bne_eq_false_iff_eq, ne_eq, Decidable.not_not, Int.not_lt, Int.not_le] at h
    obtain ⟨⟨⟨⟨h1, h2⟩, h3⟩, h4⟩, h5⟩ := h
    have hpre : (keyB r.key && belowB r.lsn 1099511627777 && belowB r.count 64) = true := by
      simp [belowB, h1]; omega
    refine c_skip ?_
    refine x_then ?_
    refine c_seq ?_
    refine c_seq ?_
    refine c_region ?_
    refine o_yield rfl rfl rfl (y_val tok rfl) ?_
    refine o_yield rfl rfl rfl (y_val tok rfl) ?_
    refine o_yield rfl rfl rfl (y_val tok rfl) ?_
    refine o_end [1, 29] rfl ?_
    refine x_then ?_
    refine c_cond rfl (fun h => ?_) (fun h => ?_)
    ·
      simp only [Bool.and_eq_true, Bool.or_eq_true, Bool.not_eq_true', Bool.or_eq_false_iff, Bool.and_eq_false_iff, decide_eq_true_eq, decide_eq_false_iff_not, beq_iff_eq, bne_iff_ne, Bool.not_eq_false', beq_eq_false_iff_ne, bne_eq_false_iff_eq, ne_eq, Decidable.not_not, Int.not_lt, Int.not_le] at h
      refine c_seq ?_
      refine c_region ?_
      refine o_yield rfl rfl rfl (y_val tok rfl) ?_
      refine o_yield rfl rfl rfl (y_val tok rfl) ?_
      refine o_yield rfl rfl rfl (y_val tok rfl) ?_
      refine o_yield rfl rfl rfl (y_val tok rfl) ?_
      refine o_yield rfl rfl rfl (y_val tok rfl) ?_
      refine o_yield rfl rfl rfl (y_val tok rfl) ?_
      refine o_yield rfl rfl rfl (y_val tok rfl) ?_
      refine o_yield rfl rfl rfl (y_val tok rfl) ?_
      refine o_yield rfl rfl rfl (y_val tok rfl) ?_
      refine o_yield rfl rfl rfl (y_val tok rfl) ?_
      refine o_yield rfl rfl rfl (y_val tok rfl) ?_
      refine o_yield rfl rfl rfl (y_val tok rfl) ?_
      refine o_yield rfl rfl rfl (y_val tok rfl) ?_
      refine o_yield rfl rfl rfl (y_val tok rfl) ?_
      refine o_end [2] rfl ?_
      refine x_then ?_
      refine c_ret ?_
      refine x_then_ret ?_
      refine b_ret tok rfl ?_
      intro E w' hm _
      refine ⟨?_, hm.below (Vw.le.refl _)⟩
      show Ending.returned (.bool ((r.block == 0 && r.k == 0) && (r.text.toList == ByteArray.empty.toList))) = _
      rw [recB, hpre, if_pos h, empty_beq, Bool.true_and]
      congr 2
    ·
      simp only [Bool.and_eq_true, Bool.or_eq_true, Bool.not_eq_true', Bool.or_eq_false_iff, Bool.and_eq_false_iff, decide_eq_true_eq, decide_eq_false_iff_not, beq_iff_eq, bne_iff_ne, Bool.not_eq_false', beq_eq_false_iff_ne, bne_eq_false_iff_eq, ne_eq, Decidable.not_not, Int.not_lt, Int.not_le] at h
      refine c_skip ?_
      refine x_then ?_
      refine c_seq ?_
      refine c_region ?_
      refine o_yield rfl rfl rfl (y_val tok rfl) ?_
      refine o_yield rfl rfl rfl (y_val tok rfl) ?_
      refine o_yield rfl rfl rfl (y_val tok rfl) ?_
      refine o_yield rfl rfl rfl (y_val tok rfl) ?_
      refine o_yield rfl rfl rfl (y_val tok rfl) ?_
      refine o_yield rfl rfl rfl (y_val tok rfl) ?_
      refine o_yield rfl rfl rfl (y_val tok rfl) ?_
      refine o_yield rfl rfl rfl (y_val tok rfl) ?_
      refine o_yield rfl rfl rfl (y_val tok rfl) ?_
      refine o_yield rfl rfl rfl (y_val tok rfl) ?_
      refine o_yield rfl rfl rfl (y_val tok rfl) ?_
      refine o_yield rfl rfl rfl (y_val tok rfl) ?_
      refine o_yield rfl rfl rfl (y_val tok rfl) ?_
      refine o_yield rfl rfl rfl (y_val tok rfl) ?_
      refine o_yield rfl rfl rfl (y_val tok rfl) ?_
      refine o_yield rfl rfl rfl (y_val tok rfl) ?_
      refine o_yield rfl rfl rfl (y_val tok rfl) ?_
      refine o_yield rfl rfl rfl (y_val tok rfl) ?_
      refine o_yield rfl rfl rfl (y_val tok rfl) ?_
      refine o_yield rfl rfl rfl (y_val tok rfl) ?_
      refine o_yield rfl rfl rfl (y_val tok rfl) ?_
      refine o_yield rfl rfl rfl (y_val tok rfl) ?_
      refine o_yield rfl rfl rfl (y_val tok rfl) ?_
      refine o_yield rfl rfl rfl (y_val tok rfl) ?_
      refine o_yield rfl rfl rfl (y_val tok rfl) ?_
      refine o_end [2] rfl ?_
      refine x_then ?_
      refine c_ret ?_
      refine b_ret tok rfl ?_
      intro E w' hm _
      refine ⟨?_, hm.below (Vw.le.refl _)⟩
      show Ending.returned (.bool ((((decide (0 ≤ r.block) && decide (r.block < 64)) && decide (0 ≤ r.k)) && decide (r.k < 8)) && decide ((r.text.size : Int) ≤ 256))) = _
      rw [recB, hpre, if_neg (by omega), Bool.true_and]
      congr 2
      rw [Bool.eq_iff_iff]
      simp only [belowB, Bool.and_eq_true, decide_eq_true_eq]
      omega

theorem fldA_len : ∀ (ks acc : List Int) (r : ByteArray) {l : List Int} {q : ByteArray}, fldA acc r ks = some (l, q) → l.length = acc.length + ks.length
  | [], acc, r, l, q, h => by
    simp only [fldA, Option.some.injEq, Prod.mk.injEq] at h
    rw [← h.1]; rfl
  | k :: ks, acc, r, l, q, h => by
    rw [fldA] at h
    split at h
    · cases h
    · have := fldA_len ks _ _ h
      rw [this, List.length_append, List.length_singleton, List.length_cons] <;> omega

def rWidths : List Int := [6, 6, 2, 1, 2]
abbrev recNo : Record := ⟨0, 0, 0, 0, ByteArray.empty, 0⟩

def recOfL : List Int → ByteArray → Record
  | [a, b, c, d, e], t => ⟨a, b, c, d, t, e⟩
  | _, _ => recNo

/-- A sector as a record. -/
def readB (s : ByteArray) : Bool := match fieldsR 6 s rWidths with
  | some (l, t) => recB (recOfL l t)
  | none => false
def readV (s : ByteArray) : Record := if readB s = true then (match fieldsR 6 s rWidths with
  | some (l, t) => recOfL l t
  | none => recNo) else recNo
def readE (s : ByteArray) : Int := if readB s = true then 0 else 50

theorem five {l : List Int} (h : l.length = 5) : ∃ a b c d e, l = [a, b, c, d, e] := by
  match l, h with
  | [a, b, c, d, e], _ => exact ⟨a, b, c, d, e, rfl⟩

theorem fields_len {kind : Int} {s : ByteArray} {ks l : List Int} {q : ByteArray} (h : fieldsR kind s ks = some (l, q)) : l.length = ks.length := by
  rw [fieldsR] at h
  split at h
  · rw [fldA_len ks [] _ h]; simp
  · cases h

theorem widths_cR (b : Nat) (w : World) : Calls Try.prog 247 #[.pointer (some ⟨b, 0, none⟩)] w fun e w' => ∃ v, e = .returned v ∧ w'.ownsRow w.heap.size 3 1 v rWidths.length (rWidths.flatMap encI64) ∧ Below w.heap.size w w' := by
  refine enter (E := E0) (O := []) (nl := 0) (V := vw w) [.a (.v (.pointer (some ⟨b, 0, none⟩)))] Try.func247 rfl rfl (mem0 E0 0 w) rfl rfl ?_
  refine c_seq ?_
  refine c_region ?_
  refine o_yield rfl rfl rfl (y_val tok rfl) ?_
  refine o_end [] rfl ?_
  refine x_then ?_
  refine c_seq ?_
  refine c_region ?_
  refine o_step rfl rfl rfl rfl rfl (s_bs tok 1 rfl rfl rfl) (fun _ _ => ?_)
  refine o_yield rfl rfl rfl (y_val tok rfl) ?_
  refine o_end [2] rfl ?_
  refine x_then ?_
  refine c_ret ?_
  refine b_ret tok rfl ?_
  intro E w' hm _
  exact ⟨_, rfl, hm.rowFresh (Vw.le.refl _) (l := 0) rfl, hm.below (Vw.le.refl _)⟩

theorem widths_cV (V : Vw) (b : Nat) (w : World) (hV : V.le (vw w)) : Calls Try.prog 247 #[.pointer (some ⟨b, 0, none⟩)] w fun e w' => ∃ x V', e = .returned x ∧ Below w.heap.size w w' ∧ Vext w.heap.size V V' w' ∧ SlOf V' encI64 1 x rWidths := by
  refine (widths_cR b w).mono ?_
  rintro e w' ⟨v, rfl, hown, hb⟩
  obtain ⟨V', hx, hsl⟩ := ownsRow_vext hV hb hown
  exact ⟨_, V', rfl, hb, hx, ⟨hsl, fun _ => rfl⟩⟩

theorem recRead_c (s : ByteArray) (hs : s.size ≤ maxLen) (w : World) : Calls Try.prog 263 #[S s] w fun e w' => e = .returned (.tuple #[(readV s).val, I (readE s)]) ∧ Below w.heap.size w w' := by
  refine enter (E := E0) (O := []) (nl := 0) (V := vw w) [.a (.v (S s))] Try.func263 rfl rfl (mem0 E0 0 w) rfl rfl ?_
  refine c_seq ?_
  refine c_region ?_
  refine o_new tok rfl rfl rfl rfl ?_
  refine o_yield rfl rfl rfl (y_val tok rfl) ?_
  refine o_end [0, 2] rfl ?_
  refine x_then ?_
  refine c_seq ?_
  refine c_region ?_
  refine o_yield rfl rfl rfl (y_val tok rfl) ?_
  refine o_new tok rfl rfl rfl rfl ?_
  refine o_yield rfl rfl rfl (y_val tok rfl) ?_
  refine o_end [0, 2, 4] rfl ?_
  refine x_then ?_
  refine c_seq ?_
  refine c_region ?_
  refine o_yield rfl rfl rfl (y_val tok rfl) ?_
  refine o_yield rfl rfl rfl (y_val tok rfl) ?_
  refine o_callV ((fun x V' => SlOf V' encI64 1 x rWidths)) rfl rfl fnok247 rfl rfl (fun hg E w1 hm => by exact widths_cV (vw w) _ _ hm.leV) ?_
  rintro x V1 hle1 hx
  have hx1 := hx rfl
  refine o_callV (FVal 6 s rWidths) rfl rfl fnok132 rfl rfl (fun hg E w1 hm => by exact fval_of hm.leV (fields_c 6 s V1 x rWidths _ hs hm.leV hx1 (by decide))) ?_
  rintro y V2 hle2 hy
  have hle := hle1.trans hle2
  rcases hy rfl with ⟨l, t, v, hR, rfl, hsl⟩ | ⟨hR, rfl⟩
  rotate_left
  ·
    refine o_yield rfl rfl rfl (y_val tok rfl) ?_
    refine o_yield rfl rfl rfl (y_val tok rfl) ?_
    refine o_yield rfl rfl rfl (y_val tok rfl) ?_
    refine o_yield rfl rfl rfl (y_val tok rfl) ?_
    refine o_yield rfl rfl rfl (y_val tok rfl) ?_
    refine o_yield rfl rfl rfl (y_val tok rfl) ?_
    refine o_yield rfl rfl rfl (y_val tok rfl) ?_
    refine o_end [2, 4, 5, 6, 7] rfl ?_
    refine x_then ?_
    refine c_seq ?_
    refine c_seq ?_
    refine c_region ?_
    refine o_yield rfl rfl rfl (y_val tok rfl) ?_
    refine o_yield rfl rfl rfl (y_val tok rfl) ?_
    refine o_end [2, 4, 5, 6, 19] rfl ?_
    refine x_then ?_
    refine c_cond rfl (fun h => ?_) (fun h => ?_)
    ·
      refine c_seq ?_
      refine c_region ?_
      refine o_yield rfl rfl rfl (y_val tok rfl) ?_
      refine o_store tok rfl rfl rfl (by first | exact ⟨trivial, trivial⟩ | (repeat' first | exact trivial | exact rfl | apply And.intro); done | simp [onesP, oneP, lk, Value.oneCell']) ?_
      refine o_yield rfl rfl rfl (y_val tok rfl) ?_
      refine o_end [2, 3] rfl ?_
      refine x_then ?_
      refine c_ret ?_
      refine x_then_ret ?_
      refine b_ret tok rfl ?_
      intro E w' hm _
      refine ⟨?_, hm.below (hle)⟩
      have h1 : readB s = false := by rw [readB, hR]
      rw [readV, readE, if_neg (by simp [h1]), if_neg (by simp [h1])]
      rfl
    ·
      refine c_skip ?_
      refine x_then ?_
      refine c_seq ?_
      refine c_held [] ([]) mixed (by repeat (first | exact SubO.nil | refine SubO.cons rfl ?_)) (by first | rfl | simp [okCels, allOk_plain]) ?_
      refine t_take 0 rfl (by kernel_rfl) rfl rfl rfl (y_val tok rfl) rfl ?_
      refine t_take 1 rfl (by kernel_rfl) rfl rfl rfl (y_val tok rfl) rfl ?_
      refine t_take 2 rfl (by kernel_rfl) rfl rfl rfl (y_val tok rfl) rfl ?_
      refine t_take 3 rfl (by kernel_rfl) rfl rfl rfl (y_val tok rfl) rfl ?_
      refine t_take 4 rfl (by kernel_rfl) rfl rfl rfl (y_val tok rfl) rfl ?_
      refine t_take 5 rfl (by kernel_rfl) rfl rfl rfl (y_val tok rfl) rfl ?_
      refine t_take 6 rfl (by kernel_rfl) rfl rfl rfl (y_val tok rfl) rfl ?_
      exact absurd h (by decide)
  refine o_yield rfl rfl rfl (y_val tok rfl) ?_
  refine o_yield rfl rfl rfl (y_val tok rfl) ?_
  refine o_yield rfl rfl rfl (y_val tok rfl) ?_
  refine o_yield rfl rfl rfl (y_val tok rfl) ?_
  refine o_yield rfl rfl rfl (y_val tok rfl) ?_
  refine o_yield rfl rfl rfl (y_val tok rfl) ?_
  refine o_yield rfl rfl rfl (y_val tok rfl) ?_
  refine o_end [2, 4, 5, 6, 7] rfl ?_
  refine x_then ?_
  refine c_seq ?_
  refine c_seq ?_
  refine c_region ?_
  refine o_yield rfl rfl rfl (y_val tok rfl) ?_
  refine o_yield rfl rfl rfl (y_val tok rfl) ?_
  refine o_end [2, 4, 5, 6, 19] rfl ?_
  refine x_then ?_
  refine c_cond rfl (fun h => ?_) (fun h => ?_)
  ·
    refine c_seq ?_
    refine c_region ?_
    refine o_yield rfl rfl rfl (y_val tok rfl) ?_
    refine o_store tok rfl rfl rfl (by first | exact ⟨trivial, trivial⟩ | (repeat' first | exact trivial | exact rfl | apply And.intro); done | simp [onesP, oneP, lk, Value.oneCell']) ?_
    refine o_yield rfl rfl rfl (y_val tok rfl) ?_
    refine o_end [2, 3] rfl ?_
    refine x_then ?_
    refine c_ret ?_
    refine x_then_ret ?_
    refine b_ret tok rfl ?_
    exact absurd h (by decide)
  ·
    refine c_skip ?_
    refine x_then ?_
    refine c_seq ?_
    refine c_held [] ([]) mixed (by repeat (first | exact SubO.nil | refine SubO.cons rfl ?_)) (by first | rfl | simp [okCels, allOk_plain]) ?_
    refine t_take 0 rfl (by kernel_rfl) rfl rfl rfl (y_val tok rfl) rfl ?_
    refine t_take 1 rfl (by kernel_rfl) rfl rfl rfl (y_val tok rfl) rfl ?_
    refine t_take 2 rfl (by kernel_rfl) rfl rfl rfl (y_val tok rfl) rfl ?_
    refine t_take 3 rfl (by kernel_rfl) rfl rfl rfl (y_val tok rfl) rfl ?_
    refine t_take 4 rfl (by kernel_rfl) rfl rfl rfl (y_val tok rfl) rfl ?_
    refine t_take 5 rfl (by kernel_rfl) rfl rfl rfl (y_val tok rfl) rfl ?_
    refine t_take 6 rfl (by kernel_rfl) rfl rfl rfl (y_val tok rfl) rfl ?_
    clear h
    obtain ⟨a, b, c, d, e, rfl⟩ := five (fields_len hR)
    have hlt_a := lt_of_at (show [a, b, c, d, e][0]? = some a from rfl)
    refine t_take 7 rfl (by kernel_rfl) rfl rfl rfl (y_idx tok rfl (fun hg => hsl.sl) (fun hg => ⟨by omega, by omega⟩)) rfl ?_
    refine t_take 8 rfl (by kernel_rfl) rfl rfl rfl (y_lel tok (0) 0 (a) rfl (fun hg => hsl) (fun hg => (show [a, b, c, d, e][0]? = some a from rfl)) rfl rfl) rfl ?_
    refine t_take 9 rfl (by kernel_rfl) rfl rfl rfl (y_val tok rfl) rfl ?_
    have hlt_b := lt_of_at (show [a, b, c, d, e][1]? = some b from rfl)
    refine t_take 10 rfl (by kernel_rfl) rfl rfl rfl (y_idx tok rfl (fun hg => hsl.sl) (fun hg => ⟨by omega, by omega⟩)) rfl ?_
    refine t_take 11 rfl (by kernel_rfl) rfl rfl rfl (y_lel tok (1) 0 (b) rfl (fun hg => hsl) (fun hg => (show [a, b, c, d, e][1]? = some b from rfl)) rfl rfl) rfl ?_
    refine t_take 12 rfl (by kernel_rfl) rfl rfl rfl (y_val tok rfl) rfl ?_
    have hlt_c := lt_of_at (show [a, b, c, d, e][2]? = some c from rfl)
    refine t_take 13 rfl (by kernel_rfl) rfl rfl rfl (y_idx tok rfl (fun hg => hsl.sl) (fun hg => ⟨by omega, by omega⟩)) rfl ?_
    refine t_take 14 rfl (by kernel_rfl) rfl rfl rfl (y_lel tok (2) 0 (c) rfl (fun hg => hsl) (fun hg => (show [a, b, c, d, e][2]? = some c from rfl)) rfl rfl) rfl ?_
    refine t_take 15 rfl (by kernel_rfl) rfl rfl rfl (y_val tok rfl) rfl ?_
    have hlt_d := lt_of_at (show [a, b, c, d, e][3]? = some d from rfl)
    refine t_take 16 rfl (by kernel_rfl) rfl rfl rfl (y_idx tok rfl (fun hg => hsl.sl) (fun hg => ⟨by omega, by omega⟩)) rfl ?_
    refine t_take 17 rfl (by kernel_rfl) rfl rfl rfl (y_lel tok (3) 0 (d) rfl (fun hg => hsl) (fun hg => (show [a, b, c, d, e][3]? = some d from rfl)) rfl rfl) rfl ?_
    refine t_take 18 rfl (by kernel_rfl) rfl rfl rfl (y_val tok rfl) rfl ?_
    have hlt_e := lt_of_at (show [a, b, c, d, e][4]? = some e from rfl)
    refine t_take 19 rfl (by kernel_rfl) rfl rfl rfl (y_idx tok rfl (fun hg => hsl.sl) (fun hg => ⟨by omega, by omega⟩)) rfl ?_
    refine t_take 20 rfl (by kernel_rfl) rfl rfl rfl (y_lel tok (4) 0 (e) rfl (fun hg => hsl) (fun hg => (show [a, b, c, d, e][4]? = some e from rfl)) rfl rfl) rfl ?_
    refine t_take 21 rfl (by kernel_rfl) rfl rfl rfl (y_val tok rfl) rfl ?_
    refine t_take 22 rfl (by kernel_rfl) rfl rfl rfl (y_val tok rfl) rfl ?_
    refine t_take 23 rfl (by kernel_rfl) rfl rfl rfl (y_val tok rfl) rfl ?_
    refine t_take 24 rfl (by kernel_rfl) rfl rfl rfl (y_val tok rfl) rfl ?_
    refine t_go ?_
    refine h_one 25 (by kernel_rfl) ?_
    refine h_store 25 tok rfl rfl rfl rfl (by first | exact ⟨trivial, trivial⟩ | (repeat' first | exact trivial | exact rfl | apply And.intro); done | simp [onesP, oneP, lk, Value.oneCell']) (.inr ⟨(by repeat (first | exact SubO.nil | refine SubO.cons rfl ?_)), rfl, (by first | exact Vw.le.refl _ | assumption)⟩) ?_
    refine h_one 26 (by kernel_rfl) ?_
    refine h_yield 26 rfl rfl rfl rfl (y_val tok rfl) ?_
    refine h_one 27 (by kernel_rfl) ?_
    refine h_yield 27 rfl rfl rfl rfl (y_val tok rfl) ?_
    refine h_one 28 (by kernel_rfl) ?_
    refine h_yield 28 rfl rfl rfl rfl (y_val tok rfl) ?_
    refine h_one 29 (by kernel_rfl) ?_
    refine h_store 29 tok rfl rfl rfl rfl (by first | exact ⟨trivial, trivial⟩ | (repeat' first | exact trivial | exact rfl | apply And.intro); done | simp [onesP, oneP, lk, Value.oneCell']) (.inr ⟨(by repeat (first | exact SubO.nil | refine SubO.cons rfl ?_)), rfl, (by first | exact Vw.le.refl _ | assumption)⟩) ?_
    refine h_one 30 (by kernel_rfl) ?_
    refine h_yield 30 rfl rfl rfl rfl (y_val tok rfl) ?_
    refine h_one 31 (by kernel_rfl) ?_
    refine h_yield 31 rfl rfl rfl rfl (y_val tok rfl) ?_
    refine h_one 32 (by kernel_rfl) ?_
    refine h_yield 32 rfl rfl rfl rfl (y_val tok rfl) ?_
    refine h_one 33 (by kernel_rfl) ?_
    refine h_store 33 tok rfl rfl rfl rfl (by first | exact ⟨trivial, trivial⟩ | (repeat' first | exact trivial | exact rfl | apply And.intro); done | simp [onesP, oneP, lk, Value.oneCell']) (.inr ⟨(by repeat (first | exact SubO.nil | refine SubO.cons rfl ?_)), rfl, (by first | exact Vw.le.refl _ | assumption)⟩) ?_
    refine h_one 34 (by kernel_rfl) ?_
    refine h_yield 34 rfl rfl rfl rfl (y_val tok rfl) ?_
    refine h_one 35 (by kernel_rfl) ?_
    refine h_yield 35 rfl rfl rfl rfl (y_val tok rfl) ?_
    refine h_one 36 (by kernel_rfl) ?_
    refine h_yield 36 rfl rfl rfl rfl (y_val tok rfl) ?_
    refine h_one 37 (by kernel_rfl) ?_
    refine h_store 37 tok rfl rfl rfl rfl (by first | exact ⟨trivial, trivial⟩ | (repeat' first | exact trivial | exact rfl | apply And.intro); done | simp [onesP, oneP, lk, Value.oneCell']) (.inr ⟨(by repeat (first | exact SubO.nil | refine SubO.cons rfl ?_)), rfl, (by first | exact Vw.le.refl _ | assumption)⟩) ?_
    refine h_one 38 (by kernel_rfl) ?_
    refine h_yield 38 rfl rfl rfl rfl (y_val tok rfl) ?_
    refine h_one 39 (by kernel_rfl) ?_
    refine h_yield 39 rfl rfl rfl rfl (y_val tok rfl) ?_
    refine h_one 40 (by kernel_rfl) ?_
    refine h_yield 40 rfl rfl rfl rfl (y_val tok rfl) ?_
    refine h_one 41 (by kernel_rfl) ?_
    refine h_store 41 tok rfl rfl rfl rfl (by first | exact ⟨trivial, trivial⟩ | (repeat' first | exact trivial | exact rfl | apply And.intro); done | simp [onesP, oneP, lk, Value.oneCell']) (.inr ⟨(by repeat (first | exact SubO.nil | refine SubO.cons rfl ?_)), rfl, (by first | exact Vw.le.refl _ | assumption)⟩) ?_
    refine h_one 42 (by kernel_rfl) ?_
    refine h_yield 42 rfl rfl rfl rfl (y_val tok rfl) ?_
    refine h_one 43 (by kernel_rfl) ?_
    refine h_yield 43 rfl rfl rfl rfl (y_val tok rfl) ?_
    refine h_one 44 (by kernel_rfl) ?_
    refine h_yield 44 rfl rfl rfl rfl (y_val tok rfl) ?_
    refine h_one 45 (by kernel_rfl) ?_
    refine h_store 45 tok rfl rfl rfl rfl (by first | exact ⟨trivial, trivial⟩ | (repeat' first | exact trivial | exact rfl | apply And.intro); done | simp [onesP, oneP, lk, Value.oneCell']) (.inr ⟨(by repeat (first | exact SubO.nil | refine SubO.cons rfl ?_)), rfl, (by first | exact Vw.le.refl _ | assumption)⟩) ?_
    refine h_done [2, 4] (by kernel_rfl) rfl ?_
    refine x_then ?_
    refine c_seq ?_
    refine c_seq ?_
    refine c_region ?_
    refine o_yield rfl rfl rfl (y_val tok rfl) ?_
    have h0 : fieldsR 6 s rWidths = some ([a, b, c, d, e], t) := hR
    have hr : readB s = recB ⟨a, b, c, d, t, e⟩ := by rw [readB, h0]; rfl
    refine o_call (.a (.v _)) rfl rfl fnok245 rfl rfl rfl (fun hg E w1 hm => by exact entryMay_c ⟨a, b, c, d, t, e⟩ _ _ (hm.lit 1 _ _ rfl)) ?_
    refine o_yield rfl rfl rfl (y_val tok rfl) ?_
    refine o_end [2, 4, 63] rfl ?_
    refine x_then ?_
    refine c_cond rfl (fun h => ?_) (fun h => ?_)
    ·
      simp only [Bool.and_eq_true, Bool.or_eq_true, Bool.not_eq_true', Bool.or_eq_false_iff, Bool.and_eq_false_iff, decide_eq_true_eq, decide_eq_false_iff_not, beq_iff_eq, bne_iff_ne, Bool.not_eq_false', beq_eq_false_iff_ne, bne_eq_false_iff_eq, ne_eq, Decidable.not_not, Int.not_lt, Int.not_le] at h
      refine c_seq ?_
      refine c_region ?_
      refine o_yield rfl rfl rfl (y_val tok rfl) ?_
      refine o_store tok rfl rfl rfl (by first | exact ⟨trivial, trivial⟩ | (repeat' first | exact trivial | exact rfl | apply And.intro); done | simp [onesP, oneP, lk, Value.oneCell']) ?_
      refine o_yield rfl rfl rfl (y_val tok rfl) ?_
      refine o_end [2, 3] rfl ?_
      refine x_then ?_
      refine c_ret ?_
      refine x_then_ret ?_
      refine b_ret tok rfl ?_
      intro E w' hm _
      refine ⟨?_, hm.below (hle)⟩
      rw [readV, readE, if_neg (by simp [hr, h]), if_neg (by simp [hr, h])]
      rfl
    ·
      simp only [Bool.and_eq_true, Bool.or_eq_true, Bool.not_eq_true', Bool.or_eq_false_iff, Bool.and_eq_false_iff, decide_eq_true_eq, decide_eq_false_iff_not, beq_iff_eq, bne_iff_ne, Bool.not_eq_false', beq_eq_false_iff_ne, bne_eq_false_iff_eq, ne_eq, Decidable.not_not, Int.not_lt, Int.not_le] at h
      refine c_skip ?_
      refine x_then ?_
      refine c_seq ?_
      refine c_region ?_
      refine o_yield rfl rfl rfl (y_val tok rfl) ?_
      refine o_yield rfl rfl rfl (y_val tok rfl) ?_
      refine o_yield rfl rfl rfl (y_val tok rfl) ?_
      refine o_yield rfl rfl rfl (y_val tok rfl) ?_
      refine o_store tok rfl rfl rfl (by first | exact ⟨trivial, trivial⟩ | (repeat' first | exact trivial | exact rfl | apply And.intro); done | simp [onesP, oneP, lk, Value.oneCell']) ?_
      refine o_yield rfl rfl rfl (y_val tok rfl) ?_
      refine o_end [2, 3] rfl ?_
      refine x_then ?_
      refine c_ret ?_
      refine b_ret tok rfl ?_
      intro E w' hm _
      refine ⟨?_, hm.below (hle)⟩
      rw [readV, readE, if_pos (by rw [hr, h]), if_pos (by rw [hr, h]), h0]
      rfl

theorem refRead_c (s : ByteArray) (hs : s.size ≤ maxLen) (w : World) : Calls Try.prog 248 #[S s] w fun e w' => e = .returned (.tuple #[(readV s).val, I (readE s)]) ∧ Below w.heap.size w w' := by
  refine enter (E := E0) (O := []) (nl := 0) (V := vw w) [.a (.v (S s))] Try.func248 rfl rfl (mem0 E0 0 w) rfl rfl ?_
  refine c_seq ?_
  refine c_region ?_
  refine o_new tok rfl rfl rfl rfl ?_
  refine o_yield rfl rfl rfl (y_val tok rfl) ?_
  refine o_end [0, 2] rfl ?_
  refine x_then ?_
  refine c_seq ?_
  refine c_region ?_
  refine o_yield rfl rfl rfl (y_val tok rfl) ?_
  refine o_bs tok rfl rfl rfl rfl (fun b1 V1 hle1 hb1 => ?_)
  refine o_callV (FVal 6 s rWidths) rfl rfl fnok137 rfl rfl (fun hg E w1 hm => by exact fval_of hm.leV (refFields_c 6 s V1 _ rWidths _ hs hm.leV (SlOf.ofBlock (enc := encI64) (sz := 1) (l := rWidths) (hb1 rfl) rfl (fun _ => rfl) (Nat.le_refl _)) (by decide))) ?_
  rintro y V2 hle2 hy
  have hle := hle1.trans hle2
  rcases hy rfl with ⟨l, t, v, hR, rfl, hsl⟩ | ⟨hR, rfl⟩
  rotate_left
  ·
    refine o_yield rfl rfl rfl (y_val tok rfl) ?_
    refine o_yield rfl rfl rfl (y_val tok rfl) ?_
    refine o_yield rfl rfl rfl (y_val tok rfl) ?_
    refine o_yield rfl rfl rfl (y_val tok rfl) ?_
    refine o_yield rfl rfl rfl (y_val tok rfl) ?_
    refine o_yield rfl rfl rfl (y_val tok rfl) ?_
    refine o_yield rfl rfl rfl (y_val tok rfl) ?_
    refine o_end [2, 4, 5, 6] rfl ?_
    refine x_then ?_
    refine c_seq ?_
    refine c_seq ?_
    refine c_region ?_
    refine o_yield rfl rfl rfl (y_val tok rfl) ?_
    refine o_yield rfl rfl rfl (y_val tok rfl) ?_
    refine o_end [2, 4, 5, 16] rfl ?_
    refine x_then ?_
    refine c_cond rfl (fun h => ?_) (fun h => ?_)
    ·
      refine c_seq ?_
      refine c_region ?_
      refine o_yield rfl rfl rfl (y_val tok rfl) ?_
      refine o_store tok rfl rfl rfl (by first | exact ⟨trivial, trivial⟩ | (repeat' first | exact trivial | exact rfl | apply And.intro); done | simp [onesP, oneP, lk, Value.oneCell']) ?_
      refine o_yield rfl rfl rfl (y_val tok rfl) ?_
      refine o_end [2, 3] rfl ?_
      refine x_then ?_
      refine c_ret ?_
      refine x_then_ret ?_
      refine b_ret tok rfl ?_
      intro E w' hm _
      refine ⟨?_, hm.below (hle)⟩
      have h1 : readB s = false := by rw [readB, hR]
      rw [readV, readE, if_neg (by simp [h1]), if_neg (by simp [h1])]
      rfl
    ·
      refine c_skip ?_
      refine x_then ?_
      refine c_seq ?_
      refine c_heldR mixed rfl (by repeat (first | exact SubO.nil | refine SubO.cons rfl ?_)) (by first | rfl | simp [okCels, allOk_plain]) ?_
      refine t_take 0 rfl (by kernel_rfl) rfl rfl rfl (y_val tok rfl) rfl ?_
      exact absurd h (by decide)
  refine o_yield rfl rfl rfl (y_val tok rfl) ?_
  refine o_yield rfl rfl rfl (y_val tok rfl) ?_
  refine o_yield rfl rfl rfl (y_val tok rfl) ?_
  refine o_yield rfl rfl rfl (y_val tok rfl) ?_
  refine o_yield rfl rfl rfl (y_val tok rfl) ?_
  refine o_yield rfl rfl rfl (y_val tok rfl) ?_
  refine o_yield rfl rfl rfl (y_val tok rfl) ?_
  refine o_end [2, 4, 5, 6] rfl ?_
  refine x_then ?_
  refine c_seq ?_
  refine c_seq ?_
  refine c_region ?_
  refine o_yield rfl rfl rfl (y_val tok rfl) ?_
  refine o_yield rfl rfl rfl (y_val tok rfl) ?_
  refine o_end [2, 4, 5, 16] rfl ?_
  refine x_then ?_
  refine c_cond rfl (fun h => ?_) (fun h => ?_)
  ·
    refine c_seq ?_
    refine c_region ?_
    refine o_yield rfl rfl rfl (y_val tok rfl) ?_
    refine o_store tok rfl rfl rfl (by first | exact ⟨trivial, trivial⟩ | (repeat' first | exact trivial | exact rfl | apply And.intro); done | simp [onesP, oneP, lk, Value.oneCell']) ?_
    refine o_yield rfl rfl rfl (y_val tok rfl) ?_
    refine o_end [2, 3] rfl ?_
    refine x_then ?_
    refine c_ret ?_
    refine x_then_ret ?_
    refine b_ret tok rfl ?_
    exact absurd h (by decide)
  ·
    refine c_skip ?_
    refine x_then ?_
    refine c_seq ?_
    refine c_heldR mixed rfl (by repeat (first | exact SubO.nil | refine SubO.cons rfl ?_)) (by first | rfl | simp [okCels, allOk_plain]) ?_
    refine t_take 0 rfl (by kernel_rfl) rfl rfl rfl (y_val tok rfl) rfl ?_
    clear h
    obtain ⟨a, b, c, d, e, rfl⟩ := five (fields_len hR)
    have hlt_a := lt_of_at (show [a, b, c, d, e][0]? = some a from rfl)
    refine t_take 1 rfl (by kernel_rfl) rfl rfl rfl (y_idx tok rfl (fun hg => hsl.sl) (fun hg => ⟨by omega, by omega⟩)) rfl ?_
    refine t_take 2 rfl (by kernel_rfl) rfl rfl rfl (y_lel tok (0) 0 (a) rfl (fun hg => hsl) (fun hg => (show [a, b, c, d, e][0]? = some a from rfl)) rfl rfl) rfl ?_
    refine t_take 3 rfl (by kernel_rfl) rfl rfl rfl (y_val tok rfl) rfl ?_
    have hlt_b := lt_of_at (show [a, b, c, d, e][1]? = some b from rfl)
    refine t_take 4 rfl (by kernel_rfl) rfl rfl rfl (y_idx tok rfl (fun hg => hsl.sl) (fun hg => ⟨by omega, by omega⟩)) rfl ?_
    refine t_take 5 rfl (by kernel_rfl) rfl rfl rfl (y_lel tok (1) 0 (b) rfl (fun hg => hsl) (fun hg => (show [a, b, c, d, e][1]? = some b from rfl)) rfl rfl) rfl ?_
    refine t_take 6 rfl (by kernel_rfl) rfl rfl rfl (y_val tok rfl) rfl ?_
    have hlt_c := lt_of_at (show [a, b, c, d, e][2]? = some c from rfl)
    refine t_take 7 rfl (by kernel_rfl) rfl rfl rfl (y_idx tok rfl (fun hg => hsl.sl) (fun hg => ⟨by omega, by omega⟩)) rfl ?_
    refine t_take 8 rfl (by kernel_rfl) rfl rfl rfl (y_lel tok (2) 0 (c) rfl (fun hg => hsl) (fun hg => (show [a, b, c, d, e][2]? = some c from rfl)) rfl rfl) rfl ?_
    refine t_take 9 rfl (by kernel_rfl) rfl rfl rfl (y_val tok rfl) rfl ?_
    have hlt_d := lt_of_at (show [a, b, c, d, e][3]? = some d from rfl)
    refine t_take 10 rfl (by kernel_rfl) rfl rfl rfl (y_idx tok rfl (fun hg => hsl.sl) (fun hg => ⟨by omega, by omega⟩)) rfl ?_
    refine t_take 11 rfl (by kernel_rfl) rfl rfl rfl (y_lel tok (3) 0 (d) rfl (fun hg => hsl) (fun hg => (show [a, b, c, d, e][3]? = some d from rfl)) rfl rfl) rfl ?_
    refine t_take 12 rfl (by kernel_rfl) rfl rfl rfl (y_val tok rfl) rfl ?_
    have hlt_e := lt_of_at (show [a, b, c, d, e][4]? = some e from rfl)
    refine t_take 13 rfl (by kernel_rfl) rfl rfl rfl (y_idx tok rfl (fun hg => hsl.sl) (fun hg => ⟨by omega, by omega⟩)) rfl ?_
    refine t_take 14 rfl (by kernel_rfl) rfl rfl rfl (y_lel tok (4) 0 (e) rfl (fun hg => hsl) (fun hg => (show [a, b, c, d, e][4]? = some e from rfl)) rfl rfl) rfl ?_
    refine t_take 15 rfl (by kernel_rfl) rfl rfl rfl (y_val tok rfl) rfl ?_
    refine t_take 16 rfl (by kernel_rfl) rfl rfl rfl (y_val tok rfl) rfl ?_
    refine t_go ?_
    refine h_one 17 (by kernel_rfl) ?_
    refine h_new 17 tok rfl rfl rfl rfl rfl rfl ?_
    refine h_one 18 (by kernel_rfl) ?_
    refine h_store 18 tok rfl rfl rfl rfl (by first | exact ⟨trivial, trivial⟩ | (repeat' first | exact trivial | exact rfl | apply And.intro); done | simp [onesP, oneP, lk, Value.oneCell']) (.inr ⟨(by repeat (first | exact SubO.nil | refine SubO.cons rfl ?_)), rfl, (by first | exact Vw.le.refl _ | assumption)⟩) ?_
    refine h_done [2, 7] (by kernel_rfl) rfl ?_
    refine x_then ?_
    refine c_seq ?_
    refine c_seq ?_
    refine c_region ?_
    refine o_yield rfl rfl rfl (y_val tok rfl) ?_
    have h0 : fieldsR 6 s rWidths = some ([a, b, c, d, e], t) := hR
    have hr : readB s = recB ⟨a, b, c, d, t, e⟩ := by rw [readB, h0]; rfl
    refine o_call (.a (.v _)) rfl rfl fnok141 rfl rfl rfl (fun hg E w1 hm => by exact refRecMay_c ⟨a, b, c, d, t, e⟩ _) ?_
    refine o_yield rfl rfl rfl (y_val tok rfl) ?_
    refine o_end [2, 7, 37] rfl ?_
    refine x_then ?_
    refine c_cond rfl (fun h => ?_) (fun h => ?_)
    ·
      simp only [Bool.and_eq_true, Bool.or_eq_true, Bool.not_eq_true', Bool.or_eq_false_iff, Bool.and_eq_false_iff, decide_eq_true_eq, decide_eq_false_iff_not, beq_iff_eq, bne_iff_ne, Bool.not_eq_false', beq_eq_false_iff_ne, bne_eq_false_iff_eq, ne_eq, Decidable.not_not, Int.not_lt, Int.not_le] at h
      refine c_seq ?_
      refine c_region ?_
      refine o_yield rfl rfl rfl (y_val tok rfl) ?_
      refine o_store tok rfl rfl rfl (by first | exact ⟨trivial, trivial⟩ | (repeat' first | exact trivial | exact rfl | apply And.intro); done | simp [onesP, oneP, lk, Value.oneCell']) ?_
      refine o_yield rfl rfl rfl (y_val tok rfl) ?_
      refine o_end [2, 3] rfl ?_
      refine x_then ?_
      refine c_ret ?_
      refine x_then_ret ?_
      refine b_ret tok rfl ?_
      intro E w' hm _
      refine ⟨?_, hm.below (hle)⟩
      rw [readV, readE, if_neg (by simp [hr, h]), if_neg (by simp [hr, h])]
      rfl
    ·
      simp only [Bool.and_eq_true, Bool.or_eq_true, Bool.not_eq_true', Bool.or_eq_false_iff, Bool.and_eq_false_iff, decide_eq_true_eq, decide_eq_false_iff_not, beq_iff_eq, bne_iff_ne, Bool.not_eq_false', beq_eq_false_iff_ne, bne_eq_false_iff_eq, ne_eq, Decidable.not_not, Int.not_lt, Int.not_le] at h
      refine c_skip ?_
      refine x_then ?_
      refine c_seq ?_
      refine c_region ?_
      refine o_yield rfl rfl rfl (y_val tok rfl) ?_
      refine o_store tok rfl rfl rfl (by first | exact ⟨trivial, trivial⟩ | (repeat' first | exact trivial | exact rfl | apply And.intro); done | simp [onesP, oneP, lk, Value.oneCell']) ?_
      refine o_yield rfl rfl rfl (y_val tok rfl) ?_
      refine o_end [2, 3] rfl ?_
      refine x_then ?_
      refine c_ret ?_
      refine b_ret tok rfl ?_
      intro E w' hm _
      refine ⟨?_, hm.below (hle)⟩
      rw [readV, readE, if_pos (by rw [hr, h]), if_pos (by rw [hr, h]), h0]
      rfl

def isB (s : ByteArray) (key lsn : Int) : Bool := readB s && decide ((readV s).key = key) && decide ((readV s).lsn = lsn)
def isV (s : ByteArray) (key lsn : Int) : Record := if isB s key lsn = true then readV s else recNo

theorem isB_iff (s : ByteArray) (key lsn : Int) : ((readE s != 0) || ((readV s).key != key) || ((readV s).lsn != lsn)) = !isB s key lsn := by
  unfold isB readE
  cases readB s with
  | true => rw [Bool.eq_iff_iff]; simp [or_assoc]
  | false => rfl

theorem recIs_c (s : ByteArray) (key lsn : Int) (hs : s.size ≤ maxLen) (w : World) : Calls Try.prog 216 #[S s, I key, I lsn] w fun e w' => e = .returned (.tuple #[(isV s key lsn).val, .bool (isB s key lsn)]) ∧ Below w.heap.size w w' := by
  refine enter (E := E0) (O := []) (nl := 0) (V := vw w) [.a (.v (S s)), .a (.v (I key)), .a (.v (I lsn))] Try.func216 rfl rfl (mem0 E0 0 w) rfl rfl ?_
  refine c_seq ?_
  refine c_region ?_
  refine o_new tok rfl rfl rfl rfl ?_
  refine o_yield rfl rfl rfl (y_val tok rfl) ?_
  refine o_end [0, 1, 2, 6] rfl ?_
  refine x_then ?_
  refine c_seq ?_
  refine c_region ?_
  refine o_yield rfl rfl rfl (y_val tok rfl) ?_
  refine o_call (.a (.v _)) rfl rfl fnok263 rfl rfl rfl (fun hg E w1 hm => by exact recRead_c s hs _) ?_
  refine o_yield rfl rfl rfl (y_val tok rfl) ?_
  refine o_yield rfl rfl rfl (y_val tok rfl) ?_
  refine o_yield rfl rfl rfl (y_val tok rfl) ?_
  refine o_new tok rfl rfl rfl rfl ?_
  refine o_store tok rfl rfl rfl (by first | exact ⟨trivial, trivial⟩ | (repeat' first | exact trivial | exact rfl | apply And.intro); done | simp [onesP, oneP, lk, Value.oneCell']) ?_
  refine o_yield rfl rfl rfl (y_val tok rfl) ?_
  refine o_end [1, 2, 6, 8, 9] rfl ?_
  refine x_then ?_
  refine c_seq ?_
  refine c_seq ?_
  refine c_region ?_
  refine o_yield rfl rfl rfl (y_val tok rfl) ?_
  refine o_yield rfl rfl rfl (y_val tok rfl) ?_
  refine o_yield rfl rfl rfl (y_val tok rfl) ?_
  refine o_yield rfl rfl rfl (y_val tok rfl) ?_
  refine o_yield rfl rfl rfl (y_val tok rfl) ?_
  refine o_yield rfl rfl rfl (y_val tok rfl) ?_
  refine o_yield rfl rfl rfl (y_val tok rfl) ?_
  refine o_yield rfl rfl rfl (y_val tok rfl) ?_
  refine o_yield rfl rfl rfl (y_val tok rfl) ?_
  refine o_yield rfl rfl rfl (y_val tok rfl) ?_
  refine o_yield rfl rfl rfl (y_val tok rfl) ?_
  refine o_yield rfl rfl rfl (y_val tok rfl) ?_
  refine o_yield rfl rfl rfl (y_val tok rfl) ?_
  refine o_yield rfl rfl rfl (y_val tok rfl) ?_
  refine o_end [6, 8, 28] rfl ?_
  refine x_then ?_
  refine c_cond rfl (fun h => ?_) (fun h => ?_)
  ·
    refine c_seq ?_
    refine c_region ?_
    refine o_yield rfl rfl rfl (y_val tok rfl) ?_
    refine o_store tok rfl rfl rfl (by first | exact ⟨trivial, trivial⟩ | (repeat' first | exact trivial | exact rfl | apply And.intro); done | simp [onesP, oneP, lk, Value.oneCell']) ?_
    refine o_yield rfl rfl rfl (y_val tok rfl) ?_
    refine o_end [6, 7] rfl ?_
    refine x_then ?_
    refine c_ret ?_
    refine x_then_ret ?_
    refine b_ret tok rfl ?_
    rw [isB_iff] at h
    simp at h
    intro E w' hm _
    refine ⟨?_, hm.below (Vw.le.refl _)⟩
    rw [isV, h]
    rfl
  ·
    refine c_skip ?_
    refine x_then ?_
    refine c_seq ?_
    refine c_region ?_
    refine o_yield rfl rfl rfl (y_val tok rfl) ?_
    refine o_store tok rfl rfl rfl (by first | exact ⟨trivial, trivial⟩ | (repeat' first | exact trivial | exact rfl | apply And.intro); done | simp [onesP, oneP, lk, Value.oneCell']) ?_
    refine o_yield rfl rfl rfl (y_val tok rfl) ?_
    refine o_end [6, 7] rfl ?_
    refine x_then ?_
    refine c_ret ?_
    refine b_ret tok rfl ?_
    rw [isB_iff] at h
    simp at h
    intro E w' hm _
    refine ⟨?_, hm.below (Vw.le.refl _)⟩
    rw [isV, h]
    rfl

theorem refIs_c (s : ByteArray) (key lsn : Int) (hs : s.size ≤ maxLen) (w : World) : Calls Try.prog 192 #[S s, I key, I lsn] w fun e w' => e = .returned (.tuple #[(isV s key lsn).val, .bool (isB s key lsn)]) ∧ Below w.heap.size w w' := by
  refine enter (E := E0) (O := []) (nl := 0) (V := vw w) [.a (.v (S s)), .a (.v (I key)), .a (.v (I lsn))] Try.func192 rfl rfl (mem0 E0 0 w) rfl rfl ?_
  refine c_seq ?_
  refine c_region ?_
  refine o_new tok rfl rfl rfl rfl ?_
  refine o_yield rfl rfl rfl (y_val tok rfl) ?_
  refine o_end [0, 1, 2, 6] rfl ?_
  refine x_then ?_
  refine c_seq ?_
  refine c_region ?_
  refine o_yield rfl rfl rfl (y_val tok rfl) ?_
  refine o_call (.a (.v _)) rfl rfl fnok248 rfl rfl rfl (fun hg E w1 hm => by exact refRead_c s hs _) ?_
  refine o_yield rfl rfl rfl (y_val tok rfl) ?_
  refine o_yield rfl rfl rfl (y_val tok rfl) ?_
  refine o_yield rfl rfl rfl (y_val tok rfl) ?_
  refine o_new tok rfl rfl rfl rfl ?_
  refine o_store tok rfl rfl rfl (by first | exact ⟨trivial, trivial⟩ | (repeat' first | exact trivial | exact rfl | apply And.intro); done | simp [onesP, oneP, lk, Value.oneCell']) ?_
  refine o_yield rfl rfl rfl (y_val tok rfl) ?_
  refine o_end [1, 2, 6, 8, 9] rfl ?_
  refine x_then ?_
  refine c_seq ?_
  refine c_seq ?_
  refine c_region ?_
  refine o_yield rfl rfl rfl (y_val tok rfl) ?_
  refine o_yield rfl rfl rfl (y_val tok rfl) ?_
  refine o_yield rfl rfl rfl (y_val tok rfl) ?_
  refine o_yield rfl rfl rfl (y_val tok rfl) ?_
  refine o_yield rfl rfl rfl (y_val tok rfl) ?_
  refine o_yield rfl rfl rfl (y_val tok rfl) ?_
  refine o_yield rfl rfl rfl (y_val tok rfl) ?_
  refine o_yield rfl rfl rfl (y_val tok rfl) ?_
  refine o_yield rfl rfl rfl (y_val tok rfl) ?_
  refine o_yield rfl rfl rfl (y_val tok rfl) ?_
  refine o_yield rfl rfl rfl (y_val tok rfl) ?_
  refine o_yield rfl rfl rfl (y_val tok rfl) ?_
  refine o_yield rfl rfl rfl (y_val tok rfl) ?_
  refine o_yield rfl rfl rfl (y_val tok rfl) ?_
  refine o_end [6, 8, 28] rfl ?_
  refine x_then ?_
  refine c_cond rfl (fun h => ?_) (fun h => ?_)
  ·
    refine c_seq ?_
    refine c_region ?_
    refine o_yield rfl rfl rfl (y_val tok rfl) ?_
    refine o_store tok rfl rfl rfl (by first | exact ⟨trivial, trivial⟩ | (repeat' first | exact trivial | exact rfl | apply And.intro); done | simp [onesP, oneP, lk, Value.oneCell']) ?_
    refine o_yield rfl rfl rfl (y_val tok rfl) ?_
    refine o_end [6, 7] rfl ?_
    refine x_then ?_
    refine c_ret ?_
    refine x_then_ret ?_
    refine b_ret tok rfl ?_
    rw [isB_iff] at h
    simp at h
    intro E w' hm _
    refine ⟨?_, hm.below (Vw.le.refl _)⟩
    rw [isV, h]
    rfl
  ·
    refine c_skip ?_
    refine x_then ?_
    refine c_seq ?_
    refine c_region ?_
    refine o_yield rfl rfl rfl (y_val tok rfl) ?_
    refine o_store tok rfl rfl rfl (by first | exact ⟨trivial, trivial⟩ | (repeat' first | exact trivial | exact rfl | apply And.intro); done | simp [onesP, oneP, lk, Value.oneCell']) ?_
    refine o_yield rfl rfl rfl (y_val tok rfl) ?_
    refine o_end [6, 7] rfl ?_
    refine x_then ?_
    refine c_ret ?_
    refine b_ret tok rfl ?_
    rw [isB_iff] at h
    simp at h
    intro E w' hm _
    refine ⟨?_, hm.below (Vw.le.refl _)⟩
    rw [isV, h]
    rfl

theorem eqB_refl (r : Record) : r.eqB r = true := (Record.eqB_iff r r).2 rfl

end Go.Proofs.Ytflimioplnbopaa

/- The program's putting of numbers' bytes. -/
set_option linter.unusedVariables false
set_option linter.unusedSimpArgs false
set_option maxRecDepth 100000
namespace Go.Proofs.Ytflimioplnbopaa
open Go Go.Eng Go.RowKit

theorem overL_all {news xs : List Value} (h : news.length = xs.length) : overL 0 news xs = news := by
  simp [overL, h]

theorem and255 {x : Nat} (h : x < 9223372036854775808) : bits .and .i64 (x : Int) 255 = ((x % 256 : Nat) : Int) := by
  have := i64_and x 255 h (by omega)
  rw [nat_mask8] at this
  exact this

theorem numPut_c (V : Vw) (bv : Value) (bl : List UInt8) (k : Int) (lv : Value) (ls : List Int) (w : World) (hV : V.le (vw w)) (hb : SlOf V encByte 1 bv bl) (hl : SlOf V encI64 1 lv ls)
    (hbn : bl.length ≤ 1099511627776) (hln : ls.length ≤ 1099511627776) : Calls Try.prog 260 #[bv, I k, lv] w (PutPost bl k ls w) := by
  have hb' := hb.mono hV
  have hl' := hl.mono hV
  refine enter (E := E0) (O := []) (nl := 0) (V := vw w) [.a (.v bv), .a (.v (I k)), .a (.v lv)] Try.func260 rfl rfl (mem0 E0 0 w) rfl rfl ?_
  refine c_seq ?_
  refine c_region ?_
  refine o_yield rfl rfl rfl (y_val tok rfl) ?_
  refine o_yield rfl rfl rfl (y_val tok rfl) ?_
  refine o_end [0, 1, 2] rfl ?_
  refine x_then ?_
  refine c_seq ?_
  refine c_seq ?_
  refine c_region ?_
  refine o_yield rfl rfl rfl (y_val tok rfl) ?_
  refine o_call (.a (.v _)) rfl rfl fnok259 rfl rfl rfl (fun hg E w1 hm => by exact widthMay_c _ _) ?_
  refine o_yield rfl rfl rfl (y_val tok rfl) ?_
  refine o_end [0, 1, 2, 14] rfl ?_
  refine x_then ?_
  refine c_cond rfl (fun h => ?_) (fun h => ?_)
  ·
    simp only [Bool.and_eq_true, Bool.or_eq_true, Bool.not_eq_true', Bool.or_eq_false_iff, Bool.and_eq_false_iff, decide_eq_true_eq, decide_eq_false_iff_not, beq_iff_eq, bne_iff_ne, Bool.not_eq_false', beq_eq_false_iff_ne, bne_eq_false_iff_eq, ne_eq, Decidable.not_not, Int.not_lt, Int.not_le] at h
    refine c_seq ?_
    refine c_region ?_
    refine o_yield rfl rfl rfl (y_val tok rfl) ?_
    refine o_yield rfl rfl rfl (y_val tok rfl) ?_
    refine o_end [6, 7] rfl ?_
    refine x_then ?_
    refine c_ret ?_
    refine x_then_ret ?_
    refine b_ret tok rfl ?_
    intro E w' hm _
    exact ⟨.inr ⟨by rw [putOk, h]; rfl, rfl⟩, hm.below (Vw.le.refl _)⟩
  ·
    simp only [Bool.and_eq_true, Bool.or_eq_true, Bool.not_eq_true', Bool.or_eq_false_iff, Bool.and_eq_false_iff, decide_eq_true_eq, decide_eq_false_iff_not, beq_iff_eq, bne_iff_ne, Bool.not_eq_false', beq_eq_false_iff_ne, bne_eq_false_iff_eq, ne_eq, Decidable.not_not, Int.not_lt, Int.not_le] at h
    refine c_skip ?_
    refine x_then ?_
    refine c_seq ?_
    refine c_region ?_
    refine o_yield rfl rfl rfl (y_val tok rfl) ?_
    have hw := h
    have hk := hw
    simp only [widthB, Bool.and_eq_true, decide_eq_true_eq] at hk
    obtain ⟨m, rfl⟩ : ∃ m : Nat, k = m := ⟨k.toNat, by omega⟩
    clear h
    refine o_yield rfl rfl rfl (y_len tok rfl (fun hg => hb'.sl)) ?_
    refine o_yield rfl rfl rfl (y_val tok rfl) ?_
    refine o_yield rfl rfl rfl (y_len tok rfl (fun hg => hb'.sl)) ?_
    refine o_yield rfl rfl rfl (y_val tok rfl) ?_
    refine o_yield rfl rfl rfl (y_val tok rfl) ?_
    refine o_yield rfl rfl rfl (y_len tok rfl (fun hg => hl'.sl)) ?_
    refine o_yield rfl rfl rfl (y_val tok rfl) ?_
    refine o_yield rfl rfl rfl (y_val tok rfl) ?_
    obtain ⟨cap, hcap⟩ : ∃ cap, bl.length + m * ls.length = cap := ⟨_, rfl⟩
    have hcap2 : m * ls.length ≤ 6 * ls.length := Nat.mul_le_mul_right _ (by omega)
    rw [show IntKind.i64.wrap ((bl.length : Int) + IntKind.i64.wrap ((m : Int) * (ls.length : Int))) = (cap : Int) by
      rw [← Int.natCast_mul, wrapI (n := ((m * ls.length : Nat) : Int)) (by omega) (by omega), wrapI (by omega) (by omega)]; omega]
    refine o_step rfl rfl rfl rfl rfl (s_mk tok bl.length cap rfl rfl rfl (by omega) (by dsimp only; omega) (by simp only [maxLen]; omega)) (fun _ _ => ?_)
    refine o_yield rfl rfl rfl (y_val tok rfl) ?_
    refine o_end [0, 1, 2, 8] rfl ?_
    refine x_then ?_
    refine c_seq ?_
    refine c_region ?_
    refine o_yield rfl rfl rfl (y_val tok rfl) ?_
    refine o_yield rfl rfl rfl (y_val tok rfl) ?_
    refine o_step rfl rfl rfl rfl rfl (s_cp tok (bl.flatMap encByte) rfl (fun E w hm => hb'.sl.src hm.get) (bytes_ones _) (Nat.le_refl _)) (fun _ _ => ?_)
    refine o_end [1, 2, 8] rfl ?_
    refine x_then ?_
    refine c_seq ?_
    refine c_seq ?_
    refine c_region ?_
    refine o_yield rfl rfl rfl (y_val tok rfl) ?_
    rw [overL_all (by rw [repZ_length, bytes_flat]; simp)]
    have e0 : putL bl m (ls.take 0) = bl := by simp [putL]
    refine o_yield rfl rfl rfl (y_len tok rfl (fun hg => hl'.sl)) ?_
    refine o_yield rfl rfl rfl (y_val tok rfl) ?_
    refine o_end [1, 8, 28, 29, 30] rfl ?_
    refine x_then ?_
    refine c_block ?_
    refine c_loopK [1, 28, 29] [0] rfl rfl (σ := Nat) (fun i => [(8, .a (.row 0)), (30, .a (.v (I i)))]) (fun i => [(0, .row 5 1 (putL bl m (ls.take i)).length ((putL bl m (ls.take i)).flatMap encByte))]) (fun i => i ≤ ls.length ∧ (∀ j n, j < i → ls[j]? = some n → fitsB n m = true) ∧ (putL bl m (ls.take i)).length ≤ bl.length + 6 * i) (fun i => ls.length - i) (0) (⟨by omega, by omega, by simp [putL]⟩) (by repeat (first | exact SubF.nil | refine SubF.cons rfl ?_ | refine SubF.cons (by simp only [e0]; first | done | rfl) ?_)) (by repeat (first | exact SubO.nil | refine SubO.cons rfl ?_ | refine SubO.cons (by simp only [e0]; first | done | rfl) ?_)) rfl ?_
    rintro i ⟨hi, hall, hsz⟩
    refine c_seq ?_
    refine c_region ?_
    refine o_yield rfl rfl rfl (y_val tok rfl) ?_
    refine o_end [1, 8, 28, 29, 30, 31] rfl ?_
    refine x_then ?_
    refine c_seq ?_
    refine c_cond rfl (fun h => ?_) (fun h => ?_)
    ·
      simp only [Bool.and_eq_true, Bool.or_eq_true, Bool.not_eq_true', Bool.or_eq_false_iff, Bool.and_eq_false_iff, decide_eq_true_eq, decide_eq_false_iff_not, beq_iff_eq, bne_iff_ne, Bool.not_eq_false', beq_eq_false_iff_ne, bne_eq_false_iff_eq, ne_eq, Decidable.not_not, Int.not_lt, Int.not_le] at h
      refine c_skip ?_
      refine x_then ?_
      refine c_seq ?_
      refine c_block ?_
      refine c_seq ?_
      refine c_region ?_
      obtain ⟨n, h_n⟩ := hl'.at (k := i) (by omega)
      have hlt_n := lt_of_at h_n
      refine o_yield rfl rfl rfl (y_idx tok rfl (fun hg => hl'.sl) (fun hg => ⟨by omega, by omega⟩)) ?_
      refine o_yield rfl rfl rfl (y_lel tok (i) 0 (n) rfl (fun hg => hl') (fun hg => h_n) rfl rfl) ?_
      refine o_yield rfl rfl rfl (y_val tok rfl) ?_
      refine o_end [1, 8, 10, 28, 29, 30] rfl ?_
      refine x_then ?_
      refine c_seq ?_
      refine c_seq ?_
      refine c_region ?_
      refine o_yield rfl rfl rfl (y_val tok rfl) ?_
      refine o_yield rfl rfl rfl (y_val tok rfl) ?_
      refine o_call (.a (.v _)) rfl rfl fnok293 rfl rfl rfl (fun hg E w1 hm => by exact numFits_c _ _ _) ?_
      refine o_yield rfl rfl rfl (y_val tok rfl) ?_
      refine o_end [1, 8, 10, 28, 29, 30, 37] rfl ?_
      refine x_then ?_
      refine c_cond rfl (fun h => ?_) (fun h => ?_)
      ·
        simp only [Bool.and_eq_true, Bool.or_eq_true, Bool.not_eq_true', Bool.or_eq_false_iff, Bool.and_eq_false_iff, decide_eq_true_eq, decide_eq_false_iff_not, beq_iff_eq, bne_iff_ne, Bool.not_eq_false', beq_eq_false_iff_ne, bne_eq_false_iff_eq, ne_eq, Decidable.not_not, Int.not_lt, Int.not_le] at h
        refine c_seq ?_
        refine c_region ?_
        refine o_yield rfl rfl rfl (y_val tok rfl) ?_
        refine o_yield rfl rfl rfl (y_val tok rfl) ?_
        refine o_end [6, 7] rfl ?_
        refine x_then ?_
        refine c_ret ?_
        refine x_then_ret ?_
        refine x_block_ret ?_
        refine x_then_ret ?_
        refine x_then_ret ?_
        refine x_block_ret ?_
        refine x_then_ret ?_
        refine b_ret tok rfl ?_
        intro E w' hm _
        exact ⟨.inr ⟨putOk_no h_n h, rfl⟩, hm.below (Vw.le.refl _)⟩
      ·
        simp only [Bool.and_eq_true, Bool.or_eq_true, Bool.not_eq_true', Bool.or_eq_false_iff, Bool.and_eq_false_iff, decide_eq_true_eq, decide_eq_false_iff_not, beq_iff_eq, bne_iff_ne, Bool.not_eq_false', beq_eq_false_iff_ne, bne_eq_false_iff_eq, ne_eq, Decidable.not_not, Int.not_lt, Int.not_le] at h
        refine c_skip ?_
        refine x_then ?_
        refine c_seq ?_
        refine c_region ?_
        refine o_yield rfl rfl rfl (y_val tok rfl) ?_
        refine o_yield rfl rfl rfl (y_val tok rfl) ?_
        refine o_end [1, 8, 10, 28, 29, 30, 38, 39] rfl ?_
        refine x_then ?_
        refine c_block ?_
        have hf := h
        clear h
        have hf' := hf
        simp only [fitsB, Bool.and_eq_true, decide_eq_true_eq] at hf'
        obtain ⟨⟨_, hn0⟩, hn1⟩ := hf'
        obtain ⟨q, rfl⟩ : ∃ q : Nat, n = q := ⟨n.toNat, by omega⟩
        have hq : q ≤ 1099511627776 := by unfold mostN at hn1; omega
        have el : leTake q 0 = [] := rfl
        refine c_loopK [1, 10, 28, 29, 30, 38] [0] rfl rfl (σ := Nat) (fun j => [(8, .a (.row 0)), (39, .a (.v (I j)))]) (fun j => [(0, .row 5 1 (putL bl m (ls.take i) ++ leTake q j).length ((putL bl m (ls.take i) ++ leTake q j).flatMap encByte))]) (fun j => j ≤ m) (fun j => m - j) (0) (by omega) (by repeat (first | exact SubF.nil | refine SubF.cons rfl ?_ | refine SubF.cons (by simp only [el, List.append_nil]; first | done | rfl) ?_)) (by repeat (first | exact SubO.nil | refine SubO.cons rfl ?_ | refine SubO.cons (by simp only [el, List.append_nil]; first | done | rfl) ?_)) rfl ?_
        rintro j hj
        refine c_seq ?_
        refine c_region ?_
        refine o_yield rfl rfl rfl (y_val tok rfl) ?_
        refine o_end [1, 8, 10, 28, 29, 30, 38, 39, 40] rfl ?_
        refine x_then ?_
        refine c_seq ?_
        refine c_cond rfl (fun h => ?_) (fun h => ?_)
        ·
          simp only [Bool.and_eq_true, Bool.or_eq_true, Bool.not_eq_true', Bool.or_eq_false_iff, Bool.and_eq_false_iff, decide_eq_true_eq, decide_eq_false_iff_not, beq_iff_eq, bne_iff_ne, Bool.not_eq_false', beq_eq_false_iff_ne, bne_eq_false_iff_eq, ne_eq, Decidable.not_not, Int.not_lt, Int.not_le] at h
          refine c_skip ?_
          refine x_then ?_
          refine c_seq ?_
          refine c_block ?_
          refine c_seq ?_
          refine c_region ?_
          refine o_yield rfl rfl rfl (y_val tok rfl) ?_
          refine o_yield rfl rfl rfl (y_val tok rfl) ?_
          refine o_end [1, 8, 10, 11, 28, 29, 30, 38, 39] rfl ?_
          refine x_then ?_
          refine c_region ?_
          refine o_yield rfl rfl rfl (y_val tok rfl) ?_
          refine o_yield rfl rfl rfl (y_val tok rfl) ?_
          refine o_yield rfl rfl rfl (y_val tok rfl) ?_
          refine o_yield rfl rfl rfl (y_val tok rfl) ?_
          have hqj : q / pw j ≤ q := Nat.div_le_self _ _
          have hlt := leTake_succ q j
          obtain ⟨r, hr⟩ : ∃ r, q / pw j = r := ⟨_, rfl⟩
          have hsh : (q : Int) / 2 ^ (8 * (j : Int)).toNat = (r : Int) := by
            rw [show (8 * (j : Int)).toNat = 8 * j by omega, ← hr, pw_two]
            norm_cast
          rw [hr] at hqj hlt
          rw [wrapI (n := 8 * (j : Int)) (by omega) (by omega)]
          refine o_yield rfl rfl rfl (y_shr rfl (fun hg => ⟨by omega, by show 8 * (j : Int) ≤ 64; omega⟩)) ?_
          refine o_yield rfl rfl rfl (y_val tok rfl) ?_
          refine o_yield rfl rfl rfl (y_val tok rfl) ?_
          rw [hsh, and255 (x := r) (by omega), wrapU8 (n := r % 256) (by omega), ← ofNat_mod]
          refine o_step rfl rfl rfl rfl rfl (s_bs tok 1 rfl rfl rfl) (fun _ _ => ?_)
          refine o_step rfl rfl rfl rfl rfl (s_app tok [.int .u8 (UInt8.ofNat (r % 256)).toNat] rfl (fun E w hm => ownsRow_src (hm.row 1 _ _ _ _ rfl)) (fun _ _ _ => bytes_ones [_]) (by dsimp only; simp only [List.length_append, leTake_len]; omega)) (fun _ _ => ?_)
          refine o_yield rfl rfl rfl (y_val tok rfl) ?_
          refine o_end [1, 8, 10, 28, 29, 30, 38, 39] rfl ?_
          refine x_block ?_
          refine x_then ?_
          refine c_region ?_
          refine o_yield rfl rfl rfl (y_val tok rfl) ?_
          refine o_yield rfl rfl rfl (y_val tok rfl) ?_
          refine o_end [1, 8, 10, 28, 29, 30, 38, 39] rfl ?_
          refine x_then ?_
          rw [flat_snoc, List.append_assoc, ← hlt, show (putL bl m (ls.take i) ++ leTake q j).length + 1 = (putL bl m (ls.take i) ++ leTake q (j + 1)).length by simp only [List.length_append, leTake_len]; omega]
          refine k_swap 0 2 rfl ?_
          rw [wrapI (n := (j : Int) + 1) (by omega) (by omega)]
          refine x_round (j + 1) (by omega) (by first | omega | (dsimp only; omega)) (by repeat (first | exact SubF.nil | refine SubF.cons rfl ?_)) (by repeat (first | exact SubO.nil | refine SubO.cons rfl ?_)) rfl (Vw.le.refl _)
        ·
          simp only [Bool.and_eq_true, Bool.or_eq_true, Bool.not_eq_true', Bool.or_eq_false_iff, Bool.and_eq_false_iff, decide_eq_true_eq, decide_eq_false_iff_not, beq_iff_eq, bne_iff_ne, Bool.not_eq_false', beq_eq_false_iff_ne, bne_eq_false_iff_eq, ne_eq, Decidable.not_not, Int.not_lt, Int.not_le] at h
          refine c_exit ?_
          refine x_then_exit ?_
          refine x_then_exit ?_
          refine x_block_hit ?_
          refine x_block ?_
          refine x_then ?_
          refine c_region ?_
          refine o_yield rfl rfl rfl (y_val tok rfl) ?_
          refine o_yield rfl rfl rfl (y_val tok rfl) ?_
          refine o_end [1, 8, 28, 29, 30] rfl ?_
          refine x_then ?_
          have hjm : j = m := by omega
          subst hjm
          have hnew : putL bl j (ls.take i) ++ leTake q j = putL bl j (ls.take (i + 1)) := by
            rw [take_succ_at h_n, putL, putL, List.flatMap_append, List.append_assoc]
            simp [leB]
          have hsz2 : (putL bl j (ls.take (i + 1))).length ≤ bl.length + 6 * (i + 1) := by rw [← hnew, List.length_append, leTake_len]; omega
          rw [hnew, wrapI (n := (i : Int) + 1) (by omega) (by omega)]
          refine x_round (i + 1) (⟨by omega, ahead_succ h_n hall hf, hsz2⟩) (by first | omega | (dsimp only; omega)) (by repeat (first | exact SubF.nil | refine SubF.cons rfl ?_)) (by repeat (first | exact SubO.nil | refine SubO.cons rfl ?_)) rfl (Vw.le.refl _)
    ·
      simp only [Bool.and_eq_true, Bool.or_eq_true, Bool.not_eq_true', Bool.or_eq_false_iff, Bool.and_eq_false_iff, decide_eq_true_eq, decide_eq_false_iff_not, beq_iff_eq, bne_iff_ne, Bool.not_eq_false', beq_eq_false_iff_ne, bne_eq_false_iff_eq, ne_eq, Decidable.not_not, Int.not_lt, Int.not_le] at h
      refine c_exit ?_
      refine x_then_exit ?_
      refine x_then_exit ?_
      refine x_block_hit ?_
      refine x_then ?_
      refine c_seq ?_
      refine c_region ?_
      refine o_yield rfl rfl rfl (y_val tok rfl) ?_
      refine o_yield rfl rfl rfl (y_val tok rfl) ?_
      refine o_yield rfl rfl rfl (y_val tok rfl) ?_
      refine o_end [6, 7] rfl ?_
      refine x_then ?_
      refine c_ret ?_
      refine b_ret tok rfl ?_
      have hil : i = ls.length := by omega
      subst hil
      rw [List.take_length]
      intro E w' hm _
      have hok : putOk m ls = true := by
        rw [putOk, hw, Bool.true_and]
        exact all_of_ahead hall
      exact ⟨.inl ⟨hok, E.κ 0, rfl, hm.rowFresh (Vw.le.refl _) (l := 0) rfl⟩, hm.below (Vw.le.refl _)⟩

section
variable {o : Oper} {n : Nat} {F : Frame0} {C : List Nat} {O : Own} {nl : Nat} {V : Vw}

/-- Putting what fits: the program's. -/
theorem s_numPut {p : List (Nat × Bool)} (bl : List UInt8) (k : Int) (ls : List Int) {ss : List SV} (hv : evalC F p o.op = some (260, ss)) (hok : putOk k ls = true)
    (hbn : bl.length ≤ 1099511627776) (hln : ls.length ≤ 1099511627776)
    (hargs : ∀ E w, Mem E O nl V w → ∃ bv lv, ss.map (SV.den E) = [bv, I k, lv] ∧ SlOf (vw w) encByte 1 bv bl ∧ SlOf (vw w) encI64 1 lv ls) :
    StepTo Try.prog o p n F C O nl V (σ := Unit) (fun _ => True) (fun _ => .tup [.row nl, .v (I 0)]) (fun _ => (nl, .row 5 1 (putL bl k ls).length ((putL bl k ls).flatMap encByte)) :: O) (nl + 1) (fun _ => V) := by
  refine s_callR (fun _ => True) (fun _ => .tup [.row nl, .v (I 0)]) 5 1 (fun _ => (putL bl k ls).length) (fun _ => (putL bl k ls).flatMap encByte) hv fnok260 (fun _ => by simp [SV.ok, allOk, A.ok, blt_iff]) ?_
  intro E w hm
  obtain ⟨bv, lv, ha, hb, hl⟩ := hargs E w hm
  rw [ha]
  refine (numPut_c (vw w) bv bl k lv ls w (Vw.le.refl _) hb hl hbn hln).mono ?_
  rintro e w' ⟨⟨_, v, rfl, hown⟩ | ⟨hno, _⟩, hbl⟩
  · exact ⟨(), v, by simp [SV.den, A.den, Env.setκ], hown, hbl, trivial⟩
  · rw [hok] at hno; cases hno
end
end Go.Proofs.Ytflimioplnbopaa

/- Sectors that are sealed: the program's. -/
set_option linter.unusedVariables false
set_option linter.unusedSimpArgs false
set_option maxRecDepth 100000
namespace Go.Proofs.Ytflimioplnbopaa
open Go Go.Eng Go.RowKit

theorem bput_c (k : Int) (bl : List UInt8) (bv : Value) (ls : List Int) (lv : Value) (b e0 : Nat) (tl : List Value) (w : World) (hb : w.heap[b]? = some (.cells (bv :: I 0 :: tl).toArray e0 (0, 0)))
    (hs : SlOf ((vw w).del b) encByte 1 bv bl) (hl : SlOf ((vw w).del b) encI64 1 lv ls) (hok : putOk k ls = true) (hbn : bl.length ≤ 1099511627776) (hln : ls.length ≤ 1099511627776) :
    Calls Try.prog 211 #[.pointer (some ⟨b, 0, none⟩), I k, lv] w fun e w' => e = .returned (.tuple #[]) ∧ ∃ v, Go.Eng.Touch (· = b) w w' ∧ w'.ownsRow w.heap.size 5 1 v (putL bl k ls).length ((putL bl k ls).flatMap encByte) ∧
      w'.heap[b]? = some (.cells (v :: I 0 :: tl).toArray e0 (0, 0)) := by
  refine enter1 [.a (.ptr 0 0), .a (.v (I k)), .a (.v lv)] hb Try.func211 rfl rfl rfl rfl ?_
  refine c_seq ?_
  refine c_region ?_
  refine o_yield rfl rfl rfl (y_val tok rfl) ?_
  refine o_yield rfl rfl rfl (y_val tok rfl) ?_
  refine o_yield rfl rfl rfl (y_val tok rfl) ?_
  refine o_yield rfl rfl rfl (y_val tok rfl) ?_
  refine o_yield rfl rfl rfl (y_val tok rfl) ?_
  refine o_yield rfl rfl rfl (y_val tok rfl) ?_
  refine o_step rfl rfl rfl rfl rfl (s_numPut bl k ls rfl hok hbn hln (fun E w1 hm => ⟨bv, lv, rfl, hs.mono hm.leV, hl.mono hm.leV⟩)) (fun _ _ => ?_)
  refine o_yield rfl rfl rfl (y_val tok rfl) ?_
  refine o_yield rfl rfl rfl (y_val tok rfl) ?_
  refine o_yield rfl rfl rfl (y_val tok rfl) ?_
  refine o_yield rfl rfl rfl (y_val tok rfl) ?_
  refine o_yield rfl rfl rfl (y_val tok rfl) ?_
  refine o_end [0, 6, 7] rfl ?_
  refine x_then ?_
  refine c_seq ?_
  refine c_seq ?_
  refine c_region ?_
  refine o_yield rfl rfl rfl (y_val tok rfl) ?_
  refine o_yield rfl rfl rfl (y_val tok rfl) ?_
  refine o_end [0, 6, 19] rfl ?_
  refine x_then ?_
  refine c_cond rfl (fun h => ?_) (fun h => ?_)
  · exact absurd h (by decide)
  ·
    refine c_skip ?_
    refine x_then ?_
    refine c_region ?_
    refine o_yield rfl rfl rfl (y_val tok rfl) ?_
    refine o_yield rfl rfl rfl (y_val tok rfl) ?_
    refine o_yield rfl rfl rfl (y_val tok rfl) ?_
    refine o_yield rfl rfl rfl (y_val tok rfl) ?_
    refine o_store tok rfl rfl rfl (by first | exact ⟨trivial, trivial⟩ | (repeat' first | exact trivial | exact rfl | apply And.intro); done | simp [onesP, oneP, lk, Value.oneCell']) ?_
    refine o_end [] rfl ?_
    refine b_end tok rfl ?_
    intro E w' hm _
    obtain ⟨h1, h2⟩ := back1 hm (Vw.le.refl _) rfl rfl rfl
    refine ⟨rfl, E.κ 3, h1, hm.rowFreshD (Vw.le.refl _) (l0 := 0) rfl (hm.pin 1 0 _ rfl).1 (l := 3) rfl, ?_⟩
    rw [h2]
    simp only [List.map_cons, (den_plain E tl).1]
    rfl

section
variable {o : Oper} {n : Nat} {F : Frame0} {C : List Nat} {O : Own} {nl : Nat} {V : Vw}

/-- Putting what fits behind a receiver's bytes: the bytes a row of one's own. -/
theorem s_bput {p : List (Nat × Bool)} (l r e0 e1 : Nat) (bl : List UInt8) (k : Int) (ls : List Int) (tl : List Value) (ss : List SV) (hv : evalC F p o.op = some (211, ss)) (hss : ∀ E, ∃ lv, ss.map (SV.den E) = [.pointer (some ⟨E.ρ l, 0, none⟩), I k, lv] ∧ ∀ w, Mem E O nl V w → SlOf ((vw w).del (E.ρ l)) encI64 1 lv ls)
    (hl : lk O l = some (.lit (.row r :: .v (I 0) :: tl.map .v) e0)) (hr : lk O r = some (.row e1 1 bl.length (bl.flatMap encByte))) (hok : putOk k ls = true) (hbn : bl.length ≤ 1099511627776) (hln : ls.length ≤ 1099511627776) :
    StepTo Try.prog o p n F C O nl V (σ := Unit) (fun _ => True) (fun _ => .tup []) (fun _ => (l, .lit (.row nl :: .v (I 0) :: tl.map .v) e0) :: (nl, .row 5 1 (putL bl k ls).length ((putL bl k ls).flatMap encByte)) :: O) (nl + 1) (fun _ => V) := by
  refine s_callWR (fun _ => True) (fun _ => .tup []) l e0 5 1 (fun _ => (putL bl k ls).length) (fun _ => (putL bl k ls).flatMap encByte) (fun _ => .row nl :: .v (I 0) :: tl.map .v) hv fnok211 hl
    (fun _ => by simp only [allOk, A.ok, blt_iff, Bool.and_eq_true, Bool.true_and]; exact ⟨by omega, (den_plain E0 tl).2 _⟩) (fun _ => rfl) ?_
  intro E w hm hb
  obtain ⟨lv, ha, hlv⟩ := hss E
  rw [ha]
  refine (bput_c k bl (E.κ r) ls lv (E.ρ l) e0 tl w (by rw [hb]; simp only [List.map_cons, (den_plain E tl).1]; rfl) (hm.rowOfDel r hl hr (fun _ => rfl)) (hlv w hm) hok hbn hln).mono ?_
  rintro e w' ⟨rfl, v, ht, hown, hv'⟩
  refine ⟨(), v, rfl, ht, hown, ?_, trivial⟩
  rw [hv']
  simp only [List.map_cons, (den_plain _ tl).1]
  simp [A.den, Env.setκ]
end

theorem putOk_four {c : Nat} (h : c < 4294967296) : putOk 4 [(c : Int)] = true := by
  have : mostN (4 : Int).toNat = 4294967295 := by decide
  simp only [putOk, List.all_cons, List.all_nil, Bool.and_true, fitsB, this]
  simp [widthB]
  omega

theorem putL_one (bl : List UInt8) (k : Int) (n : Int) : putL bl k [n] = bl ++ leB k n := by simp [putL]

theorem sealed_c (kind : Int) (hk : R8 kind) (s : ByteArray) (hs : s.size ≤ maxLen) (bv : Value) (b : Nat) (w : World) (hb : w.heap[b]? = some (.cells [bv, I 0, I8 kind].toArray 278 (0, 0))) :
    Calls Try.prog 212 #[.pointer (some ⟨b, 0, none⟩), S s] w fun e w' => e = .returned (.tuple #[S (sealS kind s).1, I (sealS kind s).2]) ∧ ∃ vs : List Value, Go.Eng.Touch (· = b) w w' ∧ w'.heap[b]? = some (.cells vs.toArray 278 (0, 0)) := by
  unfold R8 at hk
  simp only [maxLen] at hs
  refine enter1 [.a (.ptr 0 0), .a (.v (S s))] hb Try.func212 rfl rfl rfl rfl ?_
  refine c_seq ?_
  refine c_region ?_
  refine o_yield rfl rfl rfl (y_val tok rfl) ?_
  refine o_yield rfl rfl rfl (y_val tok rfl) ?_
  refine o_end [0, 1] rfl ?_
  refine x_then ?_
  refine c_seq ?_
  refine c_seq ?_
  refine c_region ?_
  refine o_yield rfl rfl rfl (y_val tok rfl) ?_
  refine o_yield rfl rfl rfl (y_val tok rfl) ?_
  refine o_yield rfl rfl rfl (y_val tok rfl) ?_
  refine o_yield rfl rfl rfl (y_val tok rfl) ?_
  refine o_yield rfl rfl rfl (y_val tok rfl) ?_
  refine o_yield rfl rfl rfl (y_val tok rfl) ?_
  refine o_yield rfl rfl rfl (y_val tok rfl) ?_
  refine o_yield rfl rfl rfl (y_val tok rfl) ?_
  refine o_yield rfl rfl rfl (y_val tok rfl) ?_
  refine o_yield rfl rfl rfl (y_val tok rfl) ?_
  refine o_end [0, 1, 15] rfl ?_
  refine x_then ?_
  refine c_cond rfl (fun h => ?_) (fun h => ?_)
  ·
    simp only [Bool.and_eq_true, Bool.or_eq_true, Bool.not_eq_true', Bool.or_eq_false_iff, Bool.and_eq_false_iff, decide_eq_true_eq, decide_eq_false_iff_not, beq_iff_eq, bne_iff_ne, Bool.not_eq_false', beq_eq_false_iff_ne, bne_eq_false_iff_eq, ne_eq, Decidable.not_not, Int.not_lt, Int.not_le] at h
    refine c_seq ?_
    refine c_region ?_
    refine o_yield rfl rfl rfl (y_val tok rfl) ?_
    refine o_yield rfl rfl rfl (y_val tok rfl) ?_
    refine o_end [4, 5] rfl ?_
    refine x_then ?_
    refine c_ret ?_
    refine x_then_ret ?_
    refine b_ret tok rfl ?_
    intro E w' hm _
    obtain ⟨h1, h2⟩ := back1 hm (Vw.le.refl _) rfl rfl rfl
    refine ⟨?_, _, h1, h2⟩
    rw [sealS, if_pos (by omega)]
    rfl
  ·
    simp only [Bool.and_eq_true, Bool.or_eq_true, Bool.not_eq_true', Bool.or_eq_false_iff, Bool.and_eq_false_iff, decide_eq_true_eq, decide_eq_false_iff_not, beq_iff_eq, bne_iff_ne, Bool.not_eq_false', beq_eq_false_iff_ne, bne_eq_false_iff_eq, ne_eq, Decidable.not_not, Int.not_lt, Int.not_le] at h
    refine c_skip ?_
    refine x_then ?_
    refine c_seq ?_
    refine c_region ?_
    refine o_yield rfl rfl rfl (y_val tok rfl) ?_
    refine o_yield rfl rfl rfl (y_val tok rfl) ?_
    refine o_yield rfl rfl rfl (y_val tok rfl) ?_
    refine o_yield rfl rfl rfl (y_val tok rfl) ?_
    refine o_yield rfl rfl rfl (y_val tok rfl) ?_
    refine o_yield rfl rfl rfl (y_val tok rfl) ?_
    obtain ⟨h1, h2⟩ := h
    have hsz := size_list s
    have hk8 : (kindOf8 kind).toNat = kind.toNat := by
      rw [kindOf8, UInt8.toNat_ofNat']; omega
    rw [show IntKind.u8.wrap kind = (((kindOf8 kind).toNat : Nat) : Int) by rw [hk8, IntKind.wrap_u8']; omega]
    refine o_step rfl rfl rfl rfl rfl (s_bs tok 1 rfl rfl rfl) (fun _ _ => ?_)
    refine o_yield rfl rfl rfl (y_val tok rfl) ?_
    refine o_yield rfl rfl rfl (y_val tok rfl) ?_
    refine o_yield rfl rfl rfl (y_val tok rfl) ?_
    refine o_store tok rfl rfl rfl (by first | exact ⟨trivial, trivial⟩ | (repeat' first | exact trivial | exact rfl | apply And.intro); done | simp [onesP, oneP, lk, Value.oneCell']) ?_
    refine o_end [0, 1] rfl ?_
    refine x_then ?_
    refine c_seq ?_
    refine c_region ?_
    refine o_yield rfl rfl rfl (y_val tok rfl) ?_
    refine o_yield rfl rfl rfl (y_val tok rfl) ?_
    refine o_yield rfl rfl rfl (y_val tok rfl) ?_
    refine o_yield rfl rfl rfl (y_val tok rfl) ?_
    refine o_yield rfl rfl rfl (y_val tok rfl) ?_
    refine o_step rfl rfl rfl rfl rfl (s_bs tok 1 rfl rfl rfl) (fun _ _ => ?_)
    refine o_step rfl rfl rfl rfl rfl (s_bput 0 3 278 5 [kindOf8 kind] 2 [(s.size : Int)] [I8 kind] _ rfl (fun E => ⟨E.κ 4, rfl, fun w hm => hm.rowOfDel (enc := encI64) (L := [(s.size : Int)]) 4 rfl rfl (fun _ => rfl)⟩) rfl rfl (putOk_two (by omega)) (by simp) (by simp)) (fun _ _ => ?_)
    refine o_end [0, 1] rfl ?_
    refine x_then ?_
    refine c_seq ?_
    refine c_region ?_
    refine o_yield rfl rfl rfl (y_val tok rfl) ?_
    refine o_yield rfl rfl rfl (y_val tok rfl) ?_
    refine o_yield rfl rfl rfl (y_val tok rfl) ?_
    refine o_yield rfl rfl rfl (y_val tok rfl) ?_
    refine o_yield rfl rfl rfl (y_val tok rfl) ?_
    refine o_yield rfl rfl rfl (y_val tok rfl) ?_
    refine o_yield rfl rfl rfl (y_val tok rfl) ?_
    have hb3 : (putL [kindOf8 kind] 2 [(s.size : Int)]).length = 3 := by simp [putL, leB, leTake_len]
    refine o_step rfl rfl rfl rfl rfl (s_app tok (byteVs s) rfl (fun _ _ _ => Src.str s) (fun _ _ _ => by rw [byteVs_eq]; exact bytes_ones _) (by dsimp only; rw [hb3]; omega)) (fun _ _ => ?_)
    refine o_yield rfl rfl rfl (y_val tok rfl) ?_
    refine o_yield rfl rfl rfl (y_val tok rfl) ?_
    refine o_yield rfl rfl rfl (y_val tok rfl) ?_
    refine o_store tok rfl rfl rfl (by first | exact ⟨trivial, trivial⟩ | (repeat' first | exact trivial | exact rfl | apply And.intro); done | simp [onesP, oneP, lk, Value.oneCell']) ?_
    refine o_end [0] rfl ?_
    refine x_then ?_
    refine c_seq ?_
    refine c_held [] ([]) mixed (by repeat (first | exact SubO.nil | refine SubO.cons rfl ?_)) (by first | rfl | simp [okCels, allOk_plain]) ?_
    refine t_take 0 rfl (by kernel_rfl) rfl rfl rfl (y_val tok rfl) rfl ?_
    refine t_take 1 rfl (by kernel_rfl) rfl rfl rfl (y_val tok rfl) rfl ?_
    refine t_take 2 rfl (by kernel_rfl) rfl rfl rfl (y_val tok rfl) rfl ?_
    refine t_take 3 rfl (by kernel_rfl) rfl rfl rfl (y_val tok rfl) rfl ?_
    refine t_take 4 rfl (by kernel_rfl) rfl rfl rfl (y_val tok rfl) rfl ?_
    refine t_take 5 rfl (by kernel_rfl) rfl rfl rfl (y_val tok rfl) rfl ?_
    refine t_take 6 rfl (by kernel_rfl) rfl rfl rfl (y_val tok rfl) rfl ?_
    refine t_go ?_
    refine h_one 7 (by kernel_rfl) ?_
    refine h_yield 7 rfl rfl rfl rfl (y_val tok rfl) ?_
    refine h_one 8 (by kernel_rfl) ?_
    rw [byteVs_eq, ← List.flatMap_append, ← hsz, ← List.length_append, show putL [kindOf8 kind] 2 [(s.data.toList.length : Int)] ++ s.data.toList = body (kindOf8 kind) s.data.toList from rfl]
    have hbl := body_len (kindOf8 kind) s.data.toList
    obtain ⟨B, hB⟩ : ∃ B, body (kindOf8 kind) s.data.toList = B := ⟨_, rfl⟩
    rw [hB] at hbl ⊢
    have hc := crcOf_lt B
    refine h_call 8 (.a (.v _)) rfl rfl rfl fnok261 rfl rfl rfl (fun hg E w1 hm => by exact sum_crc _ _ B _ (Vw.le.refl _) (hm.rowOf 6 rfl (fun _ => rfl)) (by simp only [maxLen]; omega)) ?_
    refine h_one 9 (by kernel_rfl) ?_
    refine h_to 9 rfl rfl rfl rfl rfl rfl (s_bs tok 1 rfl rfl rfl) (.inr fun _ _ => ⟨(by repeat (first | exact SubO.nil | refine SubO.cons rfl ?_)), rfl, (by first | exact Vw.le.refl _ | assumption)⟩) (fun _ _ => ?_)
    refine h_one 10 (by kernel_rfl) ?_
    refine h_to 10 rfl rfl rfl rfl rfl rfl (s_bput 0 6 278 5 B 4 [(crcOf B : Int)] [I8 kind] _ rfl (fun E => ⟨E.κ 7, rfl, fun w hm => hm.rowOfDel (enc := encI64) (L := [(crcOf B : Int)]) 7 rfl rfl (fun _ => rfl)⟩) rfl rfl (putOk_four hc) (by omega) (by simp)) (.inr fun _ _ => ⟨(by repeat (first | exact SubO.nil | refine SubO.cons rfl ?_)), rfl, (by first | exact Vw.le.refl _ | assumption)⟩) (fun _ _ => ?_)
    refine h_done [0] (by kernel_rfl) rfl ?_
    refine x_then ?_
    refine c_seq ?_
    refine c_draw mixed (by kernel_rfl) ?_
    refine d_yield rfl rfl rfl (y_val tok rfl) rfl ?_
    refine d_yield rfl rfl rfl (y_val tok rfl) rfl ?_
    refine d_yield rfl rfl rfl (y_val tok rfl) rfl ?_
    refine d_yield rfl rfl rfl (y_val tok rfl) rfl ?_
    refine d_yield rfl rfl rfl (y_val tok rfl) rfl ?_
    refine d_yield rfl rfl rfl (y_own (s := .a (.v (.string (strOf (putL B 4 [(crcOf B : Int)]))))) 8 rfl rfl (fun v V' hs => y_b2s tok _ rfl (fun hg => hs))) rfl ?_
    refine d_yield rfl rfl rfl (y_val tok rfl) rfl ?_
    refine d_yield rfl rfl rfl (y_val tok rfl) rfl ?_
    refine d_yield rfl rfl rfl (y_val tok rfl) rfl ?_
    refine d_yield rfl rfl rfl (y_val tok rfl) rfl ?_
    refine d_yield rfl rfl rfl (y_val tok rfl) rfl ?_
    refine d_yield rfl rfl rfl (y_val tok rfl) rfl ?_
    refine d_yield rfl rfl rfl (y_val tok rfl) rfl ?_
    refine d_end [4, 5] rfl ?_
    refine x_then ?_
    refine c_ret ?_
    refine b_ret tok rfl ?_
    intro E w' hm _
    obtain ⟨h3, h4⟩ := back1 hm (Vw.le.refl _) rfl rfl rfl
    refine ⟨?_, _, h3, h4⟩
    rw [sealS, if_neg (by omega), sealL, hB]
    show Ending.returned (.tuple #[S (strOf (putL B 4 [(crcOf B : Int)])), I 0]) = _
    rw [putL_one, leB]
    rfl

/-- Numbers put one behind the other. -/
def packL : List Int → List Int → List UInt8
  | k :: ks, n :: ns => leB k n ++ packL ks ns
  | _, _ => []

theorem packL_succ : ∀ {ks ns : List Int} {i : Nat} {k n : Int}, ks[i]? = some k → ns[i]? = some n → packL (ks.take (i + 1)) (ns.take (i + 1)) = packL (ks.take i) (ns.take i) ++ leB k n
  | k0 :: ks, n0 :: ns, 0, k, n, hk, hn => by
    simp at hk hn
    subst hk hn
    simp [packL]
  | k0 :: ks, n0 :: ns, i + 1, k, n, hk, hn => by
    simp only [List.getElem?_cons_succ] at hk hn
    have := packL_succ hk hn
    simp only [List.take_succ_cons, packL, this, List.append_assoc]
  | [], _, _, _, _, hk, _ => by simp at hk
  | _ :: _, [], _, _, _, _, hn => by simp at hn

theorem make_c (kind : Int) (hk : R8 kind) (t : ByteArray) (V : Vw) (kv nv : Value) (ks ns : List Int) (w : World) (ht : t.size ≤ 1099511627776) (hV : V.le (vw w)) (hks : SlOf V encI64 1 kv ks) (hns : SlOf V encI64 1 nv ns)
    (hlen : ks.length = ns.length) (hn : ns.length ≤ 1000) (hfit : ∀ (i : Nat) (k n : Int), ks[i]? = some k → ns[i]? = some n → putOk k [n] = true) (hsz : ∀ i : Nat, (packL (ks.take i) (ns.take i)).length ≤ 505) :
    Calls Try.prog 136 #[I8 kind, S t, kv, nv] w fun e w' => e = .returned (.tuple #[S (sealS kind (strOf (packL ks ns) ++ t)).1, I (sealS kind (strOf (packL ks ns) ++ t)).2]) ∧ Below w.heap.size w w' := by
  have hks' := hks.mono hV
  have hns' := hns.mono hV
  refine enter (E := E0) (O := []) (nl := 0) (V := vw w) [.a (.v (I8 kind)), .a (.v (S t)), .a (.v kv), .a (.v nv)] Try.func136 rfl rfl (mem0 E0 0 w) rfl rfl ?_
  refine c_seq ?_
  refine c_region ?_
  refine o_yield rfl rfl rfl (y_val tok rfl) ?_
  refine o_yield rfl rfl rfl (y_val tok rfl) ?_
  refine o_end [0, 1, 2, 3] rfl ?_
  refine x_then ?_
  refine c_seq ?_
  refine c_region ?_
  refine o_yield rfl rfl rfl (y_val tok rfl) ?_
  refine o_yield rfl rfl rfl (y_val tok rfl) ?_
  refine o_new tok rfl rfl rfl rfl ?_
  refine o_yield rfl rfl rfl (y_val tok rfl) ?_
  refine o_end [1, 2, 3, 10] rfl ?_
  refine x_then ?_
  refine c_seq ?_
  refine c_seq ?_
  refine c_region ?_
  refine o_yield rfl rfl rfl (y_val tok rfl) ?_
  refine o_yield rfl rfl rfl (y_len tok rfl (fun hg => hks'.sl)) ?_
  refine o_yield rfl rfl rfl (y_val tok rfl) ?_
  refine o_yield rfl rfl rfl (y_len tok rfl (fun hg => hns'.sl)) ?_
  refine o_yield rfl rfl rfl (y_val tok rfl) ?_
  refine o_end [1, 2, 3, 10, 20] rfl ?_
  refine x_then ?_
  refine c_cond rfl (fun h => ?_) (fun h => ?_)
  ·
    simp only [Bool.and_eq_true, Bool.or_eq_true, Bool.not_eq_true', Bool.or_eq_false_iff, Bool.and_eq_false_iff, decide_eq_true_eq, decide_eq_false_iff_not, beq_iff_eq, bne_iff_ne, Bool.not_eq_false', beq_eq_false_iff_ne, bne_eq_false_iff_eq, ne_eq, Decidable.not_not, Int.not_lt, Int.not_le] at h
    refine c_seq ?_
    refine c_region ?_
    refine o_yield rfl rfl rfl (y_val tok rfl) ?_
    refine o_yield rfl rfl rfl (y_val tok rfl) ?_
    refine o_end [8, 9] rfl ?_
    refine x_then ?_
    refine c_ret ?_
    refine x_then_ret ?_
    refine b_ret tok rfl ?_
    omega
  ·
    simp only [Bool.and_eq_true, Bool.or_eq_true, Bool.not_eq_true', Bool.or_eq_false_iff, Bool.and_eq_false_iff, decide_eq_true_eq, decide_eq_false_iff_not, beq_iff_eq, bne_iff_ne, Bool.not_eq_false', beq_eq_false_iff_ne, bne_eq_false_iff_eq, ne_eq, Decidable.not_not, Int.not_lt, Int.not_le] at h
    refine c_skip ?_
    refine x_then ?_
    refine c_seq ?_
    refine c_seq ?_
    refine c_region ?_
    refine o_yield rfl rfl rfl (y_val tok rfl) ?_
    refine o_yield rfl rfl rfl (y_len tok rfl (fun hg => hns'.sl)) ?_
    refine o_yield rfl rfl rfl (y_val tok rfl) ?_
    refine o_end [1, 2, 10, 21, 22, 23] rfl ?_
    refine x_then ?_
    refine c_block ?_
    refine k_nilO 0 0 5 1 rfl rfl ?_
    refine c_loopK [1, 2, 10, 21, 22] [0, 1] rfl rfl (σ := Nat) (fun i => [(23, .a (.v (I i)))]) (fun i => [(0, .lit (.row 1 :: .v (I 0) :: [I8 kind].map .v) 278), (1, .row 5 1 (packL (ks.take i) (ns.take i)).length ((packL (ks.take i) (ns.take i)).flatMap encByte))]) (fun i => i ≤ ns.length) (fun i => ns.length - i) (0) (by omega) (by repeat (first | exact SubF.nil | refine SubF.cons rfl ?_)) (by repeat (first | exact SubO.nil | refine SubO.cons rfl ?_)) rfl ?_
    rintro i hi
    refine c_seq ?_
    refine c_region ?_
    refine o_yield rfl rfl rfl (y_val tok rfl) ?_
    refine o_end [1, 2, 10, 21, 22, 23, 24] rfl ?_
    refine x_then ?_
    refine c_seq ?_
    refine c_cond rfl (fun h => ?_) (fun h => ?_)
    ·
      simp only [Bool.and_eq_true, Bool.or_eq_true, Bool.not_eq_true', Bool.or_eq_false_iff, Bool.and_eq_false_iff, decide_eq_true_eq, decide_eq_false_iff_not, beq_iff_eq, bne_iff_ne, Bool.not_eq_false', beq_eq_false_iff_ne, bne_eq_false_iff_eq, ne_eq, Decidable.not_not, Int.not_lt, Int.not_le] at h
      refine c_skip ?_
      refine x_then ?_
      refine c_seq ?_
      refine c_block ?_
      refine c_seq ?_
      refine c_region ?_
      refine o_yield rfl rfl rfl (y_val tok rfl) ?_
      obtain ⟨n, h_n⟩ := hns'.at (k := i) (by omega)
      have hlt_n := lt_of_at h_n
      refine o_yield rfl rfl rfl (y_idx tok rfl (fun hg => hns'.sl) (fun hg => ⟨by omega, by omega⟩)) ?_
      refine o_yield rfl rfl rfl (y_lel tok (i) 0 (n) rfl (fun hg => hns') (fun hg => h_n) rfl rfl) ?_
      refine o_yield rfl rfl rfl (y_val tok rfl) ?_
      refine o_yield rfl rfl rfl (y_val tok rfl) ?_
      refine o_end [1, 2, 10, 11, 12, 21, 22, 23] rfl ?_
      refine x_then ?_
      refine c_seq ?_
      refine c_held [] ([]) mixed (by repeat (first | exact SubO.nil | refine SubO.cons rfl ?_)) (by first | rfl | simp [okCels, allOk_plain]) ?_
      refine t_take 0 rfl (by kernel_rfl) rfl rfl rfl (y_val tok rfl) rfl ?_
      refine t_take 1 rfl (by kernel_rfl) rfl rfl rfl (y_val tok rfl) rfl ?_
      refine t_take 2 rfl (by kernel_rfl) rfl rfl rfl (y_val tok rfl) rfl ?_
      refine t_take 3 rfl (by kernel_rfl) rfl rfl rfl (y_val tok rfl) rfl ?_
      refine t_take 4 rfl (by kernel_rfl) rfl rfl rfl (y_val tok rfl) rfl ?_
      obtain ⟨k, h_k⟩ := hks'.at (k := i) (by omega)
      have hlt_k := lt_of_at h_k
      refine t_take 5 rfl (by kernel_rfl) rfl rfl rfl (y_idx tok rfl (fun hg => hks'.sl) (fun hg => ⟨by omega, by omega⟩)) rfl ?_
      refine t_take 6 rfl (by kernel_rfl) rfl rfl rfl (y_lel tok (i) 0 (k) rfl (fun hg => hks') (fun hg => h_k) rfl rfl) rfl ?_
      refine t_take 7 rfl (by kernel_rfl) rfl rfl rfl (y_val tok rfl) rfl ?_
      refine t_go ?_
      refine h_one 8 (by kernel_rfl) ?_
      have hpi := hsz i
      have hps := hsz (i + 1)
      refine h_to 8 rfl rfl rfl rfl rfl rfl (s_bs tok 1 rfl rfl rfl) (.inr fun _ _ => ⟨(by repeat (first | exact SubO.nil | refine SubO.cons rfl ?_)), rfl, (by first | exact Vw.le.refl _ | assumption)⟩) (fun _ _ => ?_)
      refine h_one 9 (by kernel_rfl) ?_
      refine h_to 9 rfl rfl rfl rfl rfl rfl (s_bput 0 1 278 5 (packL (ks.take i) (ns.take i)) k [n] [I8 kind] _ rfl (fun E => ⟨E.κ 2, rfl, fun w hm => hm.rowOfDel (enc := encI64) (L := [n]) 2 rfl rfl (fun _ => rfl)⟩) rfl rfl (hfit i k n h_k h_n) (by omega) (by simp)) (.inr fun _ _ => ⟨(by repeat (first | exact SubO.nil | refine SubO.cons rfl ?_)), rfl, (by first | exact Vw.le.refl _ | assumption)⟩) (fun _ _ => ?_)
      refine h_done [1, 2, 10, 21, 22, 23] (by kernel_rfl) rfl ?_
      refine x_then ?_
      refine c_seq ?_
      refine c_region ?_
      refine o_yield rfl rfl rfl (y_val tok rfl) ?_
      refine o_yield rfl rfl rfl (y_val tok rfl) ?_
      refine o_yield rfl rfl rfl (y_val tok rfl) ?_
      refine o_yield rfl rfl rfl (y_val tok rfl) ?_
      refine o_yield rfl rfl rfl (y_val tok rfl) ?_
      refine o_yield rfl rfl rfl (y_val tok rfl) ?_
      refine o_yield rfl rfl rfl (y_val tok rfl) ?_
      refine o_yield rfl rfl rfl (y_val tok rfl) ?_
      refine o_yield rfl rfl rfl (y_val tok rfl) ?_
      refine o_yield rfl rfl rfl (y_val tok rfl) ?_
      refine o_yield rfl rfl rfl (y_val tok rfl) ?_
      refine o_yield rfl rfl rfl (y_val tok rfl) ?_
      rw [putL_one, ← packL_succ h_k h_n]
      refine o_yield rfl rfl rfl (y_val tok rfl) ?_
      refine o_yield rfl rfl rfl (y_val tok rfl) ?_
      refine o_yield rfl rfl rfl (y_val tok rfl) ?_
      refine o_end [1, 2, 10, 21, 22, 23, 52] rfl ?_
      refine x_then ?_
      refine c_cond rfl (fun h => ?_) (fun h => ?_)
      ·
        simp only [Bool.and_eq_true, Bool.or_eq_true, Bool.not_eq_true', Bool.or_eq_false_iff, Bool.and_eq_false_iff, decide_eq_true_eq, decide_eq_false_iff_not, beq_iff_eq, bne_iff_ne, Bool.not_eq_false', beq_eq_false_iff_ne, bne_eq_false_iff_eq, ne_eq, Decidable.not_not, Int.not_lt, Int.not_le] at h
        refine c_seq ?_
        refine c_region ?_
        refine o_yield rfl rfl rfl (y_val tok rfl) ?_
        refine o_yield rfl rfl rfl (y_val tok rfl) ?_
        refine o_end [8, 9] rfl ?_
        refine x_then ?_
        refine c_ret ?_
        refine x_block_ret ?_
        refine x_then_ret ?_
        refine x_then_ret ?_
        refine x_block_ret ?_
        refine x_then_ret ?_
        refine b_ret tok rfl ?_
        simp at h
        omega
      ·
        simp only [Bool.and_eq_true, Bool.or_eq_true, Bool.not_eq_true', Bool.or_eq_false_iff, Bool.and_eq_false_iff, decide_eq_true_eq, decide_eq_false_iff_not, beq_iff_eq, bne_iff_ne, Bool.not_eq_false', beq_eq_false_iff_ne, bne_eq_false_iff_eq, ne_eq, Decidable.not_not, Int.not_lt, Int.not_le] at h
        refine c_skip ?_
        refine x_block ?_
        refine x_then ?_
        refine c_region ?_
        refine o_yield rfl rfl rfl (y_val tok rfl) ?_
        refine o_yield rfl rfl rfl (y_val tok rfl) ?_
        refine o_end [1, 2, 10, 21, 22, 23] rfl ?_
        refine x_then ?_
        rw [wrapI (n := (i : Int) + 1) (by omega) (by omega)]
        refine k_swap 1 3 rfl ?_
        refine x_round (i + 1) (by omega) (by first | omega | (dsimp only; omega)) (by repeat (first | exact SubF.nil | refine SubF.cons rfl ?_)) (by repeat (first | exact SubO.nil | refine SubO.cons rfl ?_)) rfl (Vw.le.refl _)
    ·
      simp only [Bool.and_eq_true, Bool.or_eq_true, Bool.not_eq_true', Bool.or_eq_false_iff, Bool.and_eq_false_iff, decide_eq_true_eq, decide_eq_false_iff_not, beq_iff_eq, bne_iff_ne, Bool.not_eq_false', beq_eq_false_iff_ne, bne_eq_false_iff_eq, ne_eq, Decidable.not_not, Int.not_lt, Int.not_le] at h
      refine c_exit ?_
      refine x_then_exit ?_
      refine x_then_exit ?_
      refine x_block_hit ?_
      refine x_then ?_
      refine c_seq ?_
      refine c_region ?_
      refine o_yield rfl rfl rfl (y_val tok rfl) ?_
      refine o_yield rfl rfl rfl (y_val tok rfl) ?_
      refine o_yield rfl rfl rfl (y_val tok rfl) ?_
      refine o_yield rfl rfl rfl (y_val tok rfl) ?_
      refine o_yield rfl rfl rfl (y_val tok rfl) ?_
      refine o_yield rfl rfl rfl (y_val tok rfl) ?_
      have hil : i = ns.length := by omega
      subst hil
      have hpi := hsz ns.length
      rw [List.take_length, show ks.take ns.length = ks by rw [← hlen, List.take_length]] at hpi ⊢
      refine o_yield rfl rfl rfl (y_own (s := .a (.v (.string (strOf (packL ks ns))))) 1 rfl rfl (fun v V' hs => y_b2s tok _ rfl (fun hg => hs))) ?_
      refine o_yield rfl rfl rfl (y_val tok rfl) ?_
      have hst := strOf_size (packL ks ns)
      refine o_yield rfl rfl rfl (y_cat rfl (fun hg => by omega)) ?_
      have hcs : (strOf (packL ks ns) ++ t).size = (packL ks ns).length + t.size := by rw [ByteArray.size_append, hst]
      refine o_step rfl rfl rfl rfl rfl (s_callW (fun _ => True) (fun _ : List Value => .tup [.v (S (sealS kind (strOf (packL ks ns) ++ t)).1), .v (I (sealS kind (strOf (packL ks ns) ++ t)).2)]) 0 278 (fun vs => vs.map .v) rfl fnok212 rfl (fun vs => (den_plain E0 vs).2 _) (fun _ => rfl) (fun E w1 hm hb => (sealed_c kind hk (strOf (packL ks ns) ++ t) (by simp only [maxLen]; omega) _ (E.ρ 0) w1 hb).mono fun e w' h => ⟨h.2.choose, h.1, h.2.choose_spec.1, by rw [(den_plain E _).1]; exact h.2.choose_spec.2, trivial⟩)) (fun _ _ => ?_)
      refine o_yield rfl rfl rfl (y_val tok rfl) ?_
      refine o_yield rfl rfl rfl (y_val tok rfl) ?_
      refine o_yield rfl rfl rfl (y_val tok rfl) ?_
      refine o_yield rfl rfl rfl (y_val tok rfl) ?_
      refine o_end [8, 9] rfl ?_
      refine x_then ?_
      refine c_ret ?_
      refine b_ret tok rfl ?_
      intro E w' hm _
      refine ⟨?_, hm.below (Vw.le.refl _)⟩
      rfl

def rNums (r : Record) : List Int := [r.key, r.lsn, r.block, r.k, r.count]
def recBytes (r : Record) : ByteArray := strOf (sealL 6 (packL rWidths (rNums r) ++ r.text.data.toList))
def bytesV (r : Record) : ByteArray := if recB r = true then recBytes r else ByteArray.empty
def bytesE (r : Record) : Int := if recB r = true then 0 else 2

structure RecOk (r : Record) : Prop where
  key : 16 ≤ r.key ∧ r.key ≤ 1099511627776
  lsn : 0 ≤ r.lsn ∧ r.lsn ≤ 1099511627776
  block : 0 ≤ r.block ∧ r.block < 64
  k : 0 ≤ r.k ∧ r.k < 8
  count : 0 ≤ r.count ∧ r.count < 64
  text : r.text.size ≤ 256

theorem recOk {r : Record} (h : recB r = true) : RecOk r := by
  simp only [recB, keyB, belowB, Bool.and_eq_true, decide_eq_true_eq] at h
  obtain ⟨⟨⟨h1, h2⟩, h3⟩, h4⟩ := h
  split at h4
  · simp only [Bool.and_eq_true, decide_eq_true_eq, beq_iff_eq] at h4
    exact ⟨h1, by omega, by omega, by omega, h3, by omega⟩
  · simp only [Bool.and_eq_true, decide_eq_true_eq, belowB] at h4
    exact ⟨h1, by omega, h4.1.1, h4.1.2, h3, by omega⟩

theorem putOk_of {k n : Int} (h : fitsB n k = true) : putOk k [n] = true := by
  have hw : widthB k = true := by
    simp only [fitsB, Bool.and_eq_true] at h; exact h.1.1
  simp [putOk, hw, h]

theorem rec_fits {r : Record} (ok : RecOk r) : ∀ (i : Nat) (k n : Int), rWidths[i]? = some k → (rNums r)[i]? = some n → fitsB n k = true := by
  have m6 : mostN (6 : Int).toNat = 1099511627776 := by decide
  have m2 : mostN (2 : Int).toNat = 65535 := by decide
  have m1 : mostN (1 : Int).toNat = 255 := by decide
  obtain ⟨a1, a2, a3, a4, a5, _⟩ := ok
  intro i k n hk hn
  match i with
  | 0 => cases hk; cases hn; rw [fitsB, m6]; simp [widthB]; omega
  | 1 => cases hk; cases hn; rw [fitsB, m6]; simp [widthB]; omega
  | 2 => cases hk; cases hn; rw [fitsB, m2]; simp [widthB]; omega
  | 3 => cases hk; cases hn; rw [fitsB, m1]; simp [widthB]; omega
  | 4 => cases hk; cases hn; rw [fitsB, m2]; simp [widthB]; omega
  | i + 5 => simp [rWidths] at hk

theorem pack_len : ∀ (ks ns : List Int), (packL ks ns).length ≤ (ks.map Int.toNat).sum
  | k :: ks, n :: ns => by
    have := pack_len ks ns
    simp only [packL, leB, List.length_append, leTake_len, List.map_cons, List.sum_cons]; omega
  | [], _ => by simp [packL]
  | _ :: _, [] => by simp [packL]

theorem rec_pack17 (r : Record) : (packL rWidths (rNums r)).length = 17 := by
  simp [packL, rWidths, rNums, leB, leTake_len]

theorem seal_rec {r : Record} (ok : RecOk r) : sealS 6 (strOf (packL rWidths (rNums r)) ++ r.text) = (recBytes r, 0) := by
  have h17 := rec_pack17 r
  have ht := ok.text
  rw [sealS, if_neg (by rw [ByteArray.size_append, strOf_size]; omega), recBytes]
  congr 3

def mkRec (r : Record) : ByteArray × Int := sealS 6 (strOf (packL rWidths (rNums r)) ++ r.text)

theorem recBytes_c (r : Record) (w : World) : Calls Try.prog 189 #[r.val] w fun e w' => e = .returned (.tuple #[S (bytesV r), I (bytesE r)]) ∧ Below w.heap.size w w' := by
  refine enter (E := E0) (O := []) (nl := 0) (V := vw w) [.a (.v r.val)] Try.func189 rfl rfl (mem0 E0 0 w) rfl rfl ?_
  refine c_seq ?_
  refine c_region ?_
  refine o_new tok rfl rfl rfl rfl ?_
  refine o_yield rfl rfl rfl (y_val tok rfl) ?_
  refine o_yield rfl rfl rfl (y_val tok rfl) ?_
  refine o_end [1] rfl ?_
  refine x_then ?_
  refine c_seq ?_
  refine c_region ?_
  refine o_yield rfl rfl rfl (y_val tok rfl) ?_
  refine o_yield rfl rfl rfl (y_val tok rfl) ?_
  refine o_new tok rfl rfl rfl rfl ?_
  refine o_yield rfl rfl rfl (y_val tok rfl) ?_
  refine o_end [4] rfl ?_
  refine x_then ?_
  refine c_seq ?_
  refine c_seq ?_
  refine c_region ?_
  refine o_yield rfl rfl rfl (y_val tok rfl) ?_
  refine o_call (.a (.v _)) rfl rfl fnok245 rfl rfl rfl (fun hg E w1 hm => by exact entryMay_c r _ _ (hm.lit 1 _ _ rfl)) ?_
  refine o_yield rfl rfl rfl (y_val tok rfl) ?_
  refine o_end [4, 10] rfl ?_
  refine x_then ?_
  refine c_cond rfl (fun h => ?_) (fun h => ?_)
  ·
    simp only [Bool.and_eq_true, Bool.or_eq_true, Bool.not_eq_true', Bool.or_eq_false_iff, Bool.and_eq_false_iff, decide_eq_true_eq, decide_eq_false_iff_not, beq_iff_eq, bne_iff_ne, Bool.not_eq_false', beq_eq_false_iff_ne, bne_eq_false_iff_eq, ne_eq, Decidable.not_not, Int.not_lt, Int.not_le] at h
    refine c_seq ?_
    refine c_region ?_
    refine o_yield rfl rfl rfl (y_val tok rfl) ?_
    refine o_yield rfl rfl rfl (y_val tok rfl) ?_
    refine o_end [2, 3] rfl ?_
    refine x_then ?_
    refine c_ret ?_
    refine x_then_ret ?_
    refine b_ret tok rfl ?_
    intro E w' hm _
    refine ⟨?_, hm.below (Vw.le.refl _)⟩
    rw [bytesV, bytesE, if_neg (by simp [h]), if_neg (by simp [h])]
    rfl
  ·
    simp only [Bool.and_eq_true, Bool.or_eq_true, Bool.not_eq_true', Bool.or_eq_false_iff, Bool.and_eq_false_iff, decide_eq_true_eq, decide_eq_false_iff_not, beq_iff_eq, bne_iff_ne, Bool.not_eq_false', beq_eq_false_iff_ne, bne_eq_false_iff_eq, ne_eq, Decidable.not_not, Int.not_lt, Int.not_le] at h
    refine c_skip ?_
    refine x_then ?_
    refine c_seq ?_
    have ok := recOk h
    have hmk : mkRec r = (recBytes r, 0) := seal_rec ok
    have htx := ok.text
    have hle : ∀ i : Nat, (packL (rWidths.take i) ((rNums r).take i)).length ≤ 505 := fun i => by
      have h1 := pack_len (rWidths.take i) ((rNums r).take i)
      have h2 : ((rWidths.take i).map Int.toNat).sum ≤ 17 := by
        match i with
        | 0 => decide
        | 1 => decide
        | 2 => decide
        | 3 => decide
        | 4 => decide
        | i + 5 => rw [List.take_of_length_le (by simp [rWidths])]; decide
      omega
    refine c_heldM (σ := Unit) (fun _ => [(2, .a (.v (S (mkRec r).1))), (3, .a (.v (I (mkRec r).2)))]) (fun _ => []) (2) (fun _ => vw w) (fun _ => True) mixed ?_ ?_
    ·
      refine t_take 0 rfl (by kernel_rfl) rfl rfl rfl (y_val tok rfl) rfl ?_
      refine t_take 1 rfl (by kernel_rfl) rfl rfl rfl (y_val tok rfl) rfl ?_
      refine t_take 2 rfl (by kernel_rfl) rfl rfl rfl (y_val tok rfl) rfl ?_
      refine t_take 3 rfl (by kernel_rfl) rfl rfl rfl (y_val tok rfl) rfl ?_
      refine t_take 4 rfl (by kernel_rfl) rfl rfl rfl (y_val tok rfl) rfl ?_
      refine t_take 5 rfl (by kernel_rfl) rfl rfl rfl (y_val tok rfl) rfl ?_
      refine t_take 7 rfl (by kernel_rfl) rfl rfl rfl (y_val tok rfl) rfl ?_
      refine t_take 8 rfl (by kernel_rfl) rfl rfl rfl (y_val tok rfl) rfl ?_
      refine t_take 9 rfl (by kernel_rfl) rfl rfl rfl (y_val tok rfl) rfl ?_
      refine t_take 10 rfl (by kernel_rfl) rfl rfl rfl (y_val tok rfl) rfl ?_
      refine t_take 11 rfl (by kernel_rfl) rfl rfl rfl (y_val tok rfl) rfl ?_
      refine t_take 12 rfl (by kernel_rfl) rfl rfl rfl (y_val tok rfl) rfl ?_
      refine t_take 13 rfl (by kernel_rfl) rfl rfl rfl (y_val tok rfl) rfl ?_
      refine t_take 14 rfl (by kernel_rfl) rfl rfl rfl (y_val tok rfl) rfl ?_
      refine t_take 15 rfl (by kernel_rfl) rfl rfl rfl (y_val tok rfl) rfl ?_
      refine t_take 16 rfl (by kernel_rfl) rfl rfl rfl (y_val tok rfl) rfl ?_
      refine t_take 17 rfl (by kernel_rfl) rfl rfl rfl (y_val tok rfl) rfl ?_
      refine t_take 18 rfl (by kernel_rfl) rfl rfl rfl (y_val tok rfl) rfl ?_
      refine t_take 19 rfl (by kernel_rfl) rfl rfl rfl (y_val tok rfl) rfl ?_
      refine t_take 20 rfl (by kernel_rfl) rfl rfl rfl (y_val tok rfl) rfl ?_
      refine t_take 21 rfl (by kernel_rfl) rfl rfl rfl (y_val tok rfl) rfl ?_
      refine t_take 22 rfl (by kernel_rfl) rfl rfl rfl (y_val tok rfl) rfl ?_
      refine t_take 23 rfl (by kernel_rfl) rfl rfl rfl (y_val tok rfl) rfl ?_
      refine t_take 24 rfl (by kernel_rfl) rfl rfl rfl (y_val tok rfl) rfl ?_
      refine t_take 25 rfl (by kernel_rfl) rfl rfl rfl (y_val tok rfl) rfl ?_
      refine t_take 26 rfl (by kernel_rfl) rfl rfl rfl (y_val tok rfl) rfl ?_
      refine t_take 27 rfl (by kernel_rfl) rfl rfl rfl (y_val tok rfl) rfl ?_
      refine t_take 28 rfl (by kernel_rfl) rfl rfl rfl (y_val tok rfl) rfl ?_
      refine t_take 29 rfl (by kernel_rfl) rfl rfl rfl (y_val tok rfl) rfl ?_
      refine t_take 30 rfl (by kernel_rfl) rfl rfl rfl (y_val tok rfl) rfl ?_
      refine t_take 31 rfl (by kernel_rfl) rfl rfl rfl (y_val tok rfl) rfl ?_
      refine t_go ?_
      refine h_two 6 32 (by kernel_rfl) ?_ ?_
      ·
        refine h_to 6 rfl rfl rfl rfl rfl rfl (s_callRow 3 1 rWidths.length (rWidths.flatMap encI64) rfl fnok247 (fun E w1 hm => widths_cR _ w1)) (.inr fun _ _ => ⟨(by repeat (first | exact SubO.nil | refine SubO.cons rfl ?_)), rfl, (by first | exact Vw.le.refl _ | assumption)⟩) (fun _ _ => ?_)
        refine h_one 32 (by kernel_rfl) ?_
        refine h_to 32 rfl rfl rfl rfl rfl rfl (s_bs tok 1 rfl rfl rfl) (.inr fun _ _ => ⟨(by repeat (first | exact SubO.nil | refine SubO.cons rfl ?_)), rfl, (by first | exact Vw.le.refl _ | assumption)⟩) (fun _ _ => ?_)
        refine h_one 33 (by kernel_rfl) ?_
        refine h_call 33 (.tup [.v (S (mkRec r).1), .v (I (mkRec r).2)]) rfl rfl rfl fnok136 rfl rfl rfl (fun hg E w1 hm => by first|exact make_c 6 (by unfold R8; omega) r.text (vw w1) _ _ rWidths (rNums r) w1 (by omega) (Vw.le.refl _) (hm.rowOf 2 rfl (fun _ => rfl)) (hm.rowOf (enc := encI64) (L := rNums r) 3 rfl (fun _ => rfl)) rfl (by simp [rNums]) (fun i k n hk hn => putOk_of (rec_fits ok i k n hk hn)) hle|exact make_c 6 (by unfold R8; omega) r.text (vw w1) _ _ rWidths (rNums r) w1 (by omega) (Vw.le.refl _) (hm.rowOf 3 rfl (fun _ => rfl)) (hm.rowOf (enc := encI64) (L := rNums r) 2 rfl (fun _ => rfl)) rfl (by simp [rNums]) (fun i k n hk hn => putOk_of (rec_fits ok i k n hk hn)) hle) ?_
        refine h_two 34 35 (by kernel_rfl) ?_ ?_
        ·
          refine h_yield 34 rfl rfl rfl rfl (y_val tok rfl) ?_
          refine h_one 35 (by kernel_rfl) ?_
          refine h_yield 35 rfl rfl rfl rfl (y_val tok rfl) ?_
          refine h_one 36 (by kernel_rfl) ?_
          refine h_yield 36 rfl rfl rfl rfl (y_val tok rfl) ?_
          refine h_one 37 (by kernel_rfl) ?_
          refine h_yield 37 rfl rfl rfl rfl (y_val tok rfl) ?_
          refine h_done [2, 3] (by kernel_rfl) rfl ?_
          exact x_meet () trivial (by repeat (first | exact SubF.nil | refine SubF.cons rfl ?_)) (by repeat (first | exact SubO.nil | refine SubO.cons rfl ?_)) rfl (Vw.le.refl _)
        ·
          refine h_yield 35 rfl rfl rfl rfl (y_val tok rfl) ?_
          refine h_one 34 (by kernel_rfl) ?_
          refine h_yield 34 rfl rfl rfl rfl (y_val tok rfl) ?_
          refine h_one 36 (by kernel_rfl) ?_
          refine h_yield 36 rfl rfl rfl rfl (y_val tok rfl) ?_
          refine h_one 37 (by kernel_rfl) ?_
          refine h_yield 37 rfl rfl rfl rfl (y_val tok rfl) ?_
          refine h_done [2, 3] (by kernel_rfl) rfl ?_
          exact x_meet () trivial (by repeat (first | exact SubF.nil | refine SubF.cons rfl ?_)) (by repeat (first | exact SubO.nil | refine SubO.cons rfl ?_)) rfl (Vw.le.refl _)
      ·
        refine h_to 32 rfl rfl rfl rfl rfl rfl (s_bs tok 1 rfl rfl rfl) (.inr fun _ _ => ⟨(by repeat (first | exact SubO.nil | refine SubO.cons rfl ?_)), rfl, (by first | exact Vw.le.refl _ | assumption)⟩) (fun _ _ => ?_)
        refine h_one 6 (by kernel_rfl) ?_
        refine h_to 6 rfl rfl rfl rfl rfl rfl (s_callRow 3 1 rWidths.length (rWidths.flatMap encI64) rfl fnok247 (fun E w1 hm => widths_cR _ w1)) (.inr fun _ _ => ⟨(by repeat (first | exact SubO.nil | refine SubO.cons rfl ?_)), rfl, (by first | exact Vw.le.refl _ | assumption)⟩) (fun _ _ => ?_)
        refine h_one 33 (by kernel_rfl) ?_
        refine h_call 33 (.tup [.v (S (mkRec r).1), .v (I (mkRec r).2)]) rfl rfl rfl fnok136 rfl rfl rfl (fun hg E w1 hm => by first|exact make_c 6 (by unfold R8; omega) r.text (vw w1) _ _ rWidths (rNums r) w1 (by omega) (Vw.le.refl _) (hm.rowOf 2 rfl (fun _ => rfl)) (hm.rowOf (enc := encI64) (L := rNums r) 3 rfl (fun _ => rfl)) rfl (by simp [rNums]) (fun i k n hk hn => putOk_of (rec_fits ok i k n hk hn)) hle|exact make_c 6 (by unfold R8; omega) r.text (vw w1) _ _ rWidths (rNums r) w1 (by omega) (Vw.le.refl _) (hm.rowOf 3 rfl (fun _ => rfl)) (hm.rowOf (enc := encI64) (L := rNums r) 2 rfl (fun _ => rfl)) rfl (by simp [rNums]) (fun i k n hk hn => putOk_of (rec_fits ok i k n hk hn)) hle) ?_
        refine h_two 34 35 (by kernel_rfl) ?_ ?_
        ·
          refine h_yield 34 rfl rfl rfl rfl (y_val tok rfl) ?_
          refine h_one 35 (by kernel_rfl) ?_
          refine h_yield 35 rfl rfl rfl rfl (y_val tok rfl) ?_
          refine h_one 36 (by kernel_rfl) ?_
          refine h_yield 36 rfl rfl rfl rfl (y_val tok rfl) ?_
          refine h_one 37 (by kernel_rfl) ?_
          refine h_yield 37 rfl rfl rfl rfl (y_val tok rfl) ?_
          refine h_done [2, 3] (by kernel_rfl) rfl ?_
          exact x_meet () trivial (by repeat (first | exact SubF.nil | refine SubF.cons rfl ?_)) (by repeat (first | exact SubO.nil | refine SubO.cons rfl ?_)) rfl (Vw.le.refl _)
        ·
          refine h_yield 35 rfl rfl rfl rfl (y_val tok rfl) ?_
          refine h_one 34 (by kernel_rfl) ?_
          refine h_yield 34 rfl rfl rfl rfl (y_val tok rfl) ?_
          refine h_one 36 (by kernel_rfl) ?_
          refine h_yield 36 rfl rfl rfl rfl (y_val tok rfl) ?_
          refine h_one 37 (by kernel_rfl) ?_
          refine h_yield 37 rfl rfl rfl rfl (y_val tok rfl) ?_
          refine h_done [2, 3] (by kernel_rfl) rfl ?_
          exact x_meet () trivial (by repeat (first | exact SubF.nil | refine SubF.cons rfl ?_)) (by repeat (first | exact SubO.nil | refine SubO.cons rfl ?_)) rfl (Vw.le.refl _)
    rintro ⟨⟩ -
    refine x_then ?_
    refine c_ret ?_
    refine b_ret tok rfl ?_
    intro E w' hm _
    refine ⟨?_, hm.below (Vw.le.refl _)⟩
    rw [bytesV, bytesE, if_pos h, if_pos h, hmk]
    rfl
end Go.Proofs.Ytflimioplnbopaa

/- Sealed numbers are read back; a sector of which one byte was turned is none: plain law. -/
set_option linter.unusedVariables false
set_option linter.unusedSimpArgs false
set_option maxRecDepth 100000
namespace Go.Proofs.Ytflimioplnbopaa
open Go Go.Eng Go.RowKit

theorem leTo_congr_lt {f g : Nat → Nat} : ∀ {k : Nat}, (∀ j, j < k → f j = g j) → leTo f k = leTo g k
  | 0, _ => rfl
  | k + 1, h => by rw [leTo, leTo, leTo_congr_lt (fun j hj => h j (by omega)), h k (by omega)]

theorem leTo_digits (q : Nat) : ∀ k, leTo (fun j => q / pw j % 256) k = q % pw k
  | 0 => by simp [leTo, pw, Nat.mod_one]
  | k + 1 => by
    rw [leTo, leTo_digits q k, pw_succ, Nat.mod_mul, Nat.mul_comm (pw k)]

theorem strOf_append (a b : List UInt8) : strOf (a ++ b) = strOf a ++ strOf b := by
  apply str_ext
  simp [strOf]

theorem fits_nat {n k : Int} (h : fitsB n k = true) : ∃ q m : Nat, n = q ∧ k = m ∧ 1 ≤ m ∧ m ≤ 6 ∧ q < pw m ∧ q ≤ 1099511627776 := by
  simp only [fitsB, widthB, Bool.and_eq_true, decide_eq_true_eq] at h
  obtain ⟨⟨⟨h1, h2⟩, h3⟩, h4⟩ := h
  refine ⟨n.toNat, k.toNat, by omega, by omega, by omega, by omega, ?_, ?_⟩
  · have := pw_pos k.toNat
    unfold mostN at h4
    unfold pw
    unfold pw at this
    omega
  · unfold mostN at h4; omega

/-- A number that fits is read back. -/
theorem getSpec_pack {n k : Int} (h : fitsB n k = true) (R : List UInt8) : getSpec (strOf (leB k n ++ R)) 0 k = (n, 0) := by
  have hw : widthB k = true := by
    simp only [fitsB, Bool.and_eq_true] at h; exact h.1.1
  obtain ⟨q, m, rfl, rfl, h1, h2, h3, h4⟩ := fits_nat h
  have hd : leTo (digit (strOf (leB m q ++ R)) (0 : Int).toNat) (m : Int).toNat = q := by
    rw [Int.toNat_natCast, leTo_congr_lt (g := fun j => q / pw j % 256) (fun j hj => ?_), leTo_digits, Nat.mod_eq_of_lt h3]
    rw [digit, byteAt_list, strOf_list]
    have hlen : j < (leB (m : Int) (q : Int)).length := by rw [leB, leTake_len]; exact hj
    rw [List.getD, List.getElem?_append_left (by simpa using hlen)]
    simp only [leB, leTake, Int.toNat_natCast, Int.toNat_zero, Nat.zero_add, List.getElem?_map, List.getElem?_range hj, Option.map_some, Option.getD_some]
    exact ofNat_mod _
  rw [getSpec, if_neg (by simp [hw]), hd, if_neg (by rw [strOf_size, List.length_append, leB, leTake_len]; omega), if_neg (by omega)]

theorem restOf_pack (n k : Int) (R : List UInt8) : restOf (strOf (leB k n ++ R)) k.toNat = strOf R := by
  apply str_ext
  rw [restOf_list, strOf_list, strOf_list, List.drop_left']
  rw [leB, leTake_len]

theorem fldA_pack : ∀ (ks ns acc : List Int) (R : List UInt8), ks.length = ns.length → (∀ (i : Nat) (k n : Int), ks[i]? = some k → ns[i]? = some n → fitsB n k = true) → fldA acc (strOf (packL ks ns ++ R)) ks = some (acc ++ ns, strOf R)
  | [], [], acc, R, _, _ => by simp [fldA, packL]
  | k :: ks, n :: ns, acc, R, hl, h => by
    have h0 := h 0 k n rfl rfl
    rw [packL, List.append_assoc, fldA, getSpec_pack h0, if_neg (by simp), restOf_pack, fldA_pack ks ns (acc ++ [n]) R (by simpa using hl) (fun i k n hk hn => h (i + 1) k n (by simpa using hk) (by simpa using hn))]
    simp
  | [], _ :: _, _, _, hl, _ => by simp at hl
  | _ :: _, [], _, _, hl, _ => by simp at hl

theorem seal_shape (k : UInt8) (load : List UInt8) : ∃ b1 b2 T, sealL k load = k :: b1 :: b2 :: (load ++ T) ∧ T.length = 4 := by
  refine ⟨UInt8.ofNat (load.length / pw 0 % 256), UInt8.ofNat (load.length / pw 1 % 256), leTake (crcOf (body k load)) 4, ?_, leTake_len _ _⟩
  obtain ⟨c, hc⟩ : ∃ c, leTake (crcOf (body k load)) 4 = c := ⟨_, rfl⟩
  rw [sealL, hc, body_eq]
  rfl

theorem loadOf_seal (k : UInt8) (load : List UInt8) : loadOf (strOf (sealL k load)) = strOf load := by
  obtain ⟨b1, b2, T, h1, h2⟩ := seal_shape k load
  have hsz : (strOf (sealL k load)).size = 7 + load.length := by rw [strOf_size, sealL_len]
  apply str_ext
  rw [loadOf, ByteArray.data_extract, Array.toList_extract, List.extract_eq_take_drop, hsz, strOf_list, strOf_list, h1, show 7 + load.length - 4 - 3 = load.length by omega]
  simp

theorem byteAt_seal (k : UInt8) (load : List UInt8) : byteAt (strOf (sealL k load)) 0 = k := by
  obtain ⟨b1, b2, T, h1, _⟩ := seal_shape k load
  rw [byteAt_list, strOf_list, h1]
  rfl

theorem openB_seal {k : UInt8} {load : List UInt8} (h1 : 1 ≤ k.toNat) (h2 : k.toNat ≤ 127) (h3 : load.length ≤ 505) : openB (strOf (sealL k load)) = true := by
  have hsz : (strOf (sealL k load)).size = 7 + load.length := by rw [strOf_size, sealL_len]
  simp only [openB, Bool.and_eq_true, decide_eq_true_eq]
  rw [byteAt_seal, loadOf_seal, strOf_list, strOf_list, hsz]
  exact ⟨⟨⟨⟨by omega, by omega⟩, h1⟩, h2⟩, rfl⟩

theorem leTake_inj {a b : Nat} (ha : a < 4294967296) (hb : b < 4294967296) (h : leTake a 4 = leTake b 4) : a = b := by
  have hl := leTake_len b 4
  match hq : leTake b 4, hl with
  | [c0, c1, c2, c3], _ =>
    have h1 := (four_eq ha c0 c1 c2 c3).1 (h.trans hq)
    have h2 := (four_eq hb c0 c1 c2 c3).1 hq
    omega

theorem open_cut {s : ByteArray} (h : openB s = true) : s.data.toList.drop (s.size - 4) = leTake (crcOf (s.data.toList.take (s.size - 4))) 4 := by
  simp only [openB, Bool.and_eq_true, decide_eq_true_eq] at h
  obtain ⟨⟨⟨⟨h1, h2⟩, h3⟩, h4⟩, h5⟩ := h
  have hl := body_len (byteAt s 0) (loadOf s).data.toList
  have hls : (loadOf s).data.toList.length = s.size - 7 := by rw [size_list, loadOf, ByteArray.size_extract]; omega
  rw [← h5, sealL, List.take_left' (by omega), List.drop_left' (by omega)]

/-- One byte turned: no sector any more. -/
theorem open_flip {s s' : ByteArray} (h : openB s = true) {A R : List UInt8} {b c : UInt8} (hs : s.data.toList = A ++ b :: R) (hs' : s'.data.toList = A ++ c :: R) (hne : b ≠ c) : openB s' = false := by
  rw [Bool.eq_false_iff]
  intro h'
  have hz : s'.size = s.size := by rw [← size_list, ← size_list, hs, hs']; simp
  have e1 := open_cut h
  have e2 := open_cut h'
  rw [hz] at e2
  obtain ⟨n, hn⟩ : ∃ n, s.size - 4 = n := ⟨_, rfl⟩
  rw [hn] at e1 e2
  rw [hs] at e1
  rw [hs'] at e2
  by_cases hA : A.length < n
  · obtain ⟨j, hj⟩ : ∃ j, n = A.length + (j + 1) := ⟨n - A.length - 1, by omega⟩
    have ht : ∀ d : UInt8, (A ++ d :: R).take n = A ++ d :: R.take j := fun d => by rw [hj, List.take_append, List.take_of_length_le (by omega), Nat.add_sub_cancel_left, List.take_succ_cons]
    have hd : ∀ d : UInt8, (A ++ d :: R).drop n = R.drop j := fun d => by rw [hj, List.drop_append, List.drop_of_length_le (by omega), Nat.add_sub_cancel_left, List.drop_succ_cons, List.nil_append]
    rw [ht, hd] at e1 e2
    exact crcOf_ne A (R.take j) hne (leTake_inj (crcOf_lt _) (crcOf_lt _) (e1.symm.trans e2))
  · have ht : ∀ d : UInt8, (A ++ d :: R).take n = A.take n := fun d => List.take_append_of_le_length (by omega)
    rw [ht] at e1 e2
    have h3 : (A ++ b :: R) = (A ++ c :: R) := by
      rw [← List.take_append_drop n (A ++ b :: R), ← List.take_append_drop n (A ++ c :: R), ht, ht, e1, e2]
    simp only [List.append_cancel_left_eq, List.cons.injEq, and_true] at h3
    exact hne h3

theorem kind6 : kindOf8 6 = 6 := by decide

/-- A record's sector is read as it. -/
theorem fields_rec {r : Record} (ok : RecOk r) : fieldsR 6 (recBytes r) rWidths = some (rNums r, r.text) := by
  have h17 := rec_pack17 r
  have ht := ok.text
  have hl : (packL rWidths (rNums r) ++ r.text.data.toList).length ≤ 505 := by rw [List.length_append, size_list]; omega
  have ho : openB (recBytes r) = true := openB_seal (by decide) (by decide) hl
  have hof : ofB 6 (recBytes r) = true := by
    rw [ofB, ho, recBytes, byteAt_seal]; rfl
  rw [fieldsR, if_pos hof, recBytes, loadOf_seal, fldA_pack rWidths (rNums r) [] r.text.data.toList rfl (rec_fits ok), strOf_data]
  rfl

theorem read_rec {r : Record} (h : recB r = true) : readB (recBytes r) = true ∧ readV (recBytes r) = r ∧ readE (recBytes r) = 0 := by
  have hf := fields_rec (recOk h)
  have h1 : readB (recBytes r) = true := by
    rw [readB, hf]; exact h
  refine ⟨h1, ?_, by rw [readE, if_pos h1]⟩
  rw [readV, if_pos h1, hf]
  rfl

theorem read_flip {r : Record} (h : recB r = true) {s' : ByteArray} {A R : List UInt8} {b c : UInt8} (hs : (recBytes r).data.toList = A ++ b :: R) (hs' : s'.data.toList = A ++ c :: R) (hne : b ≠ c) : readE s' = 50 := by
  have ok := recOk h
  have h17 := rec_pack17 r
  have ht := ok.text
  have hl : (packL rWidths (rNums r) ++ r.text.data.toList).length ≤ 505 := by rw [List.length_append, size_list]; omega
  have ho : openB (recBytes r) = true := openB_seal (by decide) (by decide) hl
  have hno := open_flip ho hs hs' hne
  have hf : fieldsR 6 s' rWidths = none := by rw [fieldsR, if_neg (by simp [ofB, hno])]
  rw [readE, if_neg (by simp [readB, hf])]

/-- A byte of which one bit is turned is another byte. -/
theorem byte_turn (x : UInt8) (j : Nat) (hj : j < 8) : ∃ c : UInt8, c ≠ x ∧ bits .xor .u8 ((x.toNat : Nat) : Int) (IntKind.u8.wrap (1 * 2 ^ j)) = ((c.toNat : Nat) : Int) := by
  have hp : (2 : Nat) ^ j < 256 := Nat.lt_of_lt_of_le (Nat.pow_lt_pow_right (by omega) hj) (by decide)
  have hx := UInt8.toNat_lt x
  have e : IntKind.u8.wrap (1 * 2 ^ j) = ((2 ^ j : Nat) : Int) := by
    rw [Int.one_mul, show (2 : Int) ^ j = ((2 ^ j : Nat) : Int) by norm_cast, wrapU8 hp]
  have hlt : x.toNat ^^^ 2 ^ j < 256 := Nat.xor_lt_two_pow (n := 8) hx hp
  refine ⟨UInt8.ofNat (x.toNat ^^^ 2 ^ j), fun h => ?_, ?_⟩
  · have h1 := congrArg UInt8.toNat h
    rw [UInt8.toNat_ofNat', Nat.mod_eq_of_lt (by omega)] at h1
    have h2 : (x.toNat ^^^ 2 ^ j) = x.toNat ^^^ 0 := by rw [h1, Nat.xor_zero]
    have h3 := xor_cancel_l h2
    have := Nat.pow_pos (n := j) (show 0 < 2 by omega)
    omega
  · rw [e, u8_xor_nat _ _ hx hp, UInt8.toNat_ofNat', Nat.mod_eq_of_lt (by omega)]

theorem list_split {L : List UInt8} {i : Nat} {b : UInt8} (h : L[i]? = some b) : L = L.take i ++ b :: L.drop (i + 1) ∧ ∀ c, L.set i c = L.take i ++ c :: L.drop (i + 1) := by
  have hlt := (List.getElem?_eq_some_iff.1 h).1
  have hb := (List.getElem?_eq_some_iff.1 h).2
  constructor
  · conv => lhs; rw [← List.take_append_drop i L, List.drop_eq_getElem_cons hlt, hb]
  · intro c
    rw [List.set_eq_take_append_cons_drop, if_pos hlt]
end Go.Proofs.Ytflimioplnbopaa

/- The law RecordBack from what comes in. -/
set_option linter.unusedVariables false
set_option linter.unusedSimpArgs false
set_option maxRecDepth 100000
namespace Go.Proofs.Ytflimioplnbopaa
open Go Go.Eng Go.RowKit

theorem is_rec {r : Record} (h : recB r = true) (key lsn : Int) : isB (recBytes r) key lsn = (decide (r.key = key) && decide (r.lsn = lsn)) := by
  obtain ⟨h1, h2, _⟩ := read_rec h
  rw [isB, h1, h2, Bool.true_and]

theorem recBytes_size {r : Record} (ok : RecOk r) : (recBytes r).size = 24 + r.text.size := by
  rw [recBytes, strOf_size, sealL_len, List.length_append, rec_pack17, size_list]; omega

end Go.Proofs.Ytflimioplnbopaa

/- Rows of blocks: the program's, and the document's. -/
set_option linter.unusedVariables false
set_option linter.unusedSimpArgs false
set_option maxRecDepth 100000
namespace Go.Proofs.Ytflimioplnbopaa
open Go Go.Eng Go.RowKit

theorem hasFn_c (b : Block) (k : Int) (bk : Nat) (w : World) (hk : w.heap[bk]? = some (.cells [I k].toArray 3 (0, 0))) :
    Calls Try.prog 288 #[b.val, .pointer (some ⟨bk, 0, none⟩)] w fun e w' => e = .returned (.bool (b.n == k)) ∧ Below w.heap.size w w' := by
  refine enter1 [.a (.v b.val), .a (.ptr 0 0)] hk Try.func288 rfl rfl rfl rfl ?_
  refine c_seq ?_
  refine c_region ?_
  refine o_new tok rfl rfl rfl rfl ?_
  refine o_yield rfl rfl rfl (y_val tok rfl) ?_
  refine o_end [1, 2] rfl ?_
  refine x_then ?_
  refine c_seq ?_
  refine c_region ?_
  refine o_yield rfl rfl rfl (y_val tok rfl) ?_
  refine o_yield rfl rfl rfl (y_val tok rfl) ?_
  refine o_yield rfl rfl rfl (y_val tok rfl) ?_
  refine o_yield rfl rfl rfl (y_val tok rfl) ?_
  refine o_yield rfl rfl rfl (y_val tok rfl) ?_
  refine o_end [3] rfl ?_
  refine x_then ?_
  refine c_ret ?_
  refine b_ret tok rfl ?_
  intro E w' hm _
  exact ⟨rfl, below1 hk hm (Vw.le.refl _) rfl rfl rfl⟩

/-- A function value that tells pr, wherever V is read. -/
def TellsB (V : Vw) (fv : Value) (pr : Block → Bool) : Prop :=
  ∀ (x : Block) w', V.le (vw w') → CallsFn Try.prog fv [x.val] w' fun e w'' => e = .returned (.bool (pr x)) ∧ Below w'.heap.size w' w''

/-- The first block of which pr is told. -/
def idxB (pr : Block → Bool) : List Block → Nat → Int
  | [], _ => -1
  | b :: r, i => if pr b = true then i else idxB pr r (i + 1)

theorem indexB_c (V : Vw) (fv sv : Value) (pr : Block → Bool) (l : List Block) (w : World) (hV : V.le (vw w)) (hs0 : SlOf V Block.cells 2 sv l) (hn : l.length ≤ 4398046511104) (hf : TellsB V fv pr) :
    Calls Try.prog 287 #[sv, fv] w fun e w' => e = .returned (I (idxB pr l 0)) ∧ Below w.heap.size w w' := by
  have hs := hs0.mono hV
  refine enter (E := E0) (O := []) (nl := 0) (V := vw w) [.a (.v sv), .a (.v fv)] Try.func287 rfl rfl (mem0 E0 0 w) rfl rfl ?_
  refine c_seq ?_
  refine c_region ?_
  refine o_yield rfl rfl rfl (y_val tok rfl) ?_
  refine o_end [0, 1] rfl ?_
  refine x_then ?_
  refine c_seq ?_
  refine c_seq ?_
  refine c_region ?_
  refine o_yield rfl rfl rfl (y_val tok rfl) ?_
  refine o_yield rfl rfl rfl (y_len tok rfl (fun hg => hs.sl)) ?_
  refine o_yield rfl rfl rfl (y_val tok rfl) ?_
  refine o_end [0, 1, 7, 8] rfl ?_
  refine x_then ?_
  refine c_block ?_
  refine c_loopK [0, 1, 7] [] rfl rfl (σ := Nat) (fun k => [(8, .a (.v (I k)))]) (fun k => []) (fun k => k ≤ l.length ∧ idxB pr l 0 = idxB pr (l.drop k) k) (fun k => l.length - k) (0) (⟨by omega, rfl⟩) (by repeat (first | exact SubF.nil | refine SubF.cons rfl ?_)) (by repeat (first | exact SubO.nil | refine SubO.cons rfl ?_)) rfl ?_
  rintro k ⟨hk, heq⟩
  refine c_seq ?_
  refine c_region ?_
  refine o_yield rfl rfl rfl (y_val tok rfl) ?_
  refine o_end [0, 1, 7, 8, 9] rfl ?_
  refine x_then ?_
  refine c_seq ?_
  refine c_cond rfl (fun h => ?_) (fun h => ?_)
  ·
    simp only [Bool.and_eq_true, Bool.or_eq_true, Bool.not_eq_true', Bool.or_eq_false_iff, Bool.and_eq_false_iff, decide_eq_true_eq, decide_eq_false_iff_not, beq_iff_eq, bne_iff_ne, Bool.not_eq_false', beq_eq_false_iff_ne, bne_eq_false_iff_eq, ne_eq, Decidable.not_not, Int.not_lt, Int.not_le] at h
    refine c_skip ?_
    refine x_then ?_
    refine c_seq ?_
    refine c_block ?_
    refine c_seq ?_
    refine c_region ?_
    refine o_yield rfl rfl rfl (y_val tok rfl) ?_
    refine o_yield rfl rfl rfl (y_val tok rfl) ?_
    refine o_end [0, 1, 5, 7, 8] rfl ?_
    refine x_then ?_
    refine c_seq ?_
    refine c_region ?_
    refine o_yield rfl rfl rfl (y_val tok rfl) ?_
    refine o_yield rfl rfl rfl (y_val tok rfl) ?_
    refine o_yield rfl rfl rfl (y_val tok rfl) ?_
    obtain ⟨x, h_x⟩ := hs.at (k := k) (by omega)
    have hlt_x := lt_of_at h_x
    refine o_yield rfl rfl rfl (y_idx tok rfl (fun hg => hs.sl) (fun hg => ⟨by omega, by omega⟩)) ?_
    refine o_yield rfl rfl rfl (y_lel tok (k) 0 (x) rfl (fun hg => hs) (fun hg => h_x) rfl rfl) ?_
    rw [drop_at h_x, idxB] at heq
    refine o_callF (.a (.v _)) rfl rfl rfl rfl rfl (fun hg E w1 hm => by exact hf x w1 (hV.trans hm.leV)) ?_
    refine o_end [0, 1, 5, 7, 8, 16] rfl ?_
    refine x_then ?_
    refine c_cond rfl (fun h => ?_) (fun h => ?_)
    ·
      refine c_seq ?_
      refine c_region ?_
      refine o_yield rfl rfl rfl (y_val tok rfl) ?_
      refine o_yield rfl rfl rfl (y_val tok rfl) ?_
      refine o_end [4] rfl ?_
      refine x_then ?_
      refine c_ret ?_
      refine x_block_ret ?_
      refine x_then_ret ?_
      refine x_then_ret ?_
      refine x_block_ret ?_
      refine x_then_ret ?_
      refine b_ret tok rfl ?_
      rw [if_pos h] at heq
      intro E w' hm _
      refine ⟨?_, hm.below (Vw.le.refl _)⟩
      rw [heq]; rfl
    ·
      refine c_skip ?_
      refine x_block ?_
      refine x_then ?_
      refine c_region ?_
      refine o_yield rfl rfl rfl (y_val tok rfl) ?_
      refine o_yield rfl rfl rfl (y_val tok rfl) ?_
      refine o_end [0, 1, 7, 8] rfl ?_
      refine x_then ?_
      rw [if_neg (by simp [h])] at heq
      rw [wrapI (n := (k : Int) + 1) (by omega) (by omega)]
      refine x_round (k + 1) (⟨by omega, heq⟩) (by first | omega | (dsimp only; omega)) (by repeat (first | exact SubF.nil | refine SubF.cons rfl ?_)) (by repeat (first | exact SubO.nil | refine SubO.cons rfl ?_)) rfl (Vw.le.refl _)
  ·
    simp only [Bool.and_eq_true, Bool.or_eq_true, Bool.not_eq_true', Bool.or_eq_false_iff, Bool.and_eq_false_iff, decide_eq_true_eq, decide_eq_false_iff_not, beq_iff_eq, bne_iff_ne, Bool.not_eq_false', beq_eq_false_iff_ne, bne_eq_false_iff_eq, ne_eq, Decidable.not_not, Int.not_lt, Int.not_le] at h
    refine c_exit ?_
    refine x_then_exit ?_
    refine x_then_exit ?_
    refine x_block_hit ?_
    refine x_then ?_
    refine c_seq ?_
    refine c_region ?_
    refine o_yield rfl rfl rfl (y_val tok rfl) ?_
    refine o_end [4] rfl ?_
    refine x_then ?_
    refine c_ret ?_
    refine b_ret tok rfl ?_
    have hkL : k = l.length := by omega
    subst hkL
    rw [List.drop_length, idxB] at heq
    intro E w' hm _
    refine ⟨?_, hm.below (Vw.le.refl _)⟩
    rw [heq]; rfl

theorem has_c (sv : Value) (l : List Block) (k : Int) (b : Nat) (w : World) (hb : w.heap[b]? = some (.cells [sv].toArray 304 (0, 0))) (hs : SlOf ((vw w).del b) Block.cells 2 sv l) (hn : l.length ≤ 4398046511104) :
    Calls Try.prog 249 #[.pointer (some ⟨b, 0, none⟩), I k] w fun e w' => e = .returned (I (idxB (fun x => x.n == k) l 0)) ∧ Below w.heap.size w w' := by
  refine enter1 [.a (.ptr 0 0), .a (.v (I k))] hb Try.func249 rfl rfl rfl rfl ?_
  refine c_seq ?_
  refine c_region ?_
  refine o_new tok rfl rfl rfl rfl ?_
  refine o_yield rfl rfl rfl (y_val tok rfl) ?_
  refine o_end [0, 3] rfl ?_
  refine x_then ?_
  refine c_seq ?_
  refine c_region ?_
  refine o_yield rfl rfl rfl (y_val tok rfl) ?_
  refine o_yield rfl rfl rfl (y_val tok rfl) ?_
  refine o_yield rfl rfl rfl (y_val tok rfl) ?_
  refine o_yield rfl rfl rfl (y_val tok rfl) ?_
  refine o_yield rfl rfl rfl (y_val tok rfl) ?_
  refine o_call (.a (.v _)) rfl rfl fnok287 rfl rfl rfl (fun hg E w1 hm => by exact indexB_c (vw w1) _ sv (fun x => x.n == k) l _ (Vw.le.refl _) (hs.mono hm.leV) hn (fun x w' hle => ⟨288, _, rfl, fnok288, hasFn_c x k _ w' (hle.get _ _ (hm.lit 3 _ _ rfl))⟩)) ?_
  refine o_yield rfl rfl rfl (y_val tok rfl) ?_
  refine o_end [4] rfl ?_
  refine x_then ?_
  refine c_ret ?_
  refine b_ret tok rfl ?_
  intro E w' hm _
  exact ⟨rfl, below1 hb hm (Vw.le.refl _) rfl rfl rfl⟩

/-- What a row tells of a place. -/
def getB : List Block → Int → ByteArray × Bool
  | [], _ => (ByteArray.empty, false)
  | b :: r, k => if b.n = k then (b.text, true) else getB r k

theorem idx_get (k : Int) : ∀ (l : List Block) (i : Nat), (idxB (fun x => x.n == k) l i = -1 ∧ getB l k = (ByteArray.empty, false)) ∨ ∃ (j : Nat) (b : Block), idxB (fun x => x.n == k) l i = ((i + j : Nat) : Int) ∧ l[j]? = some b ∧ getB l k = (b.text, true)
  | [], _ => .inl ⟨rfl, rfl⟩
  | b :: r, i => by
    rw [idxB, getB]
    by_cases h : b.n = k
    · exact .inr ⟨0, b, by rw [if_pos (by simpa using h)]; rfl, rfl, by rw [if_pos h]⟩
    · rw [if_neg (by simpa using h), if_neg h]
      rcases idx_get k r (i + 1) with ⟨h1, h2⟩ | ⟨j, c, h1, h2, h3⟩
      · exact .inl ⟨h1, h2⟩
      · exact .inr ⟨j + 1, c, by rw [h1]; congr 1; omega, by simpa using h2, h3⟩

theorem sl_shape {V : Vw} {v : Value} {sz m : Nat} {xs : List Value} (h : IsSl V v sz m xs) : ∃ a n c, v = .slice a n c := by
  rcases h.2 with ⟨a, c, rfl, _⟩ | ⟨g, o, cap, cur, e, f, rfl, _⟩
  · exact ⟨_, _, _, rfl⟩
  · exact ⟨_, _, _, rfl⟩

theorem get_c (V : Vw) (sv : Value) (l : List Block) (k : Int) (w : World) (hV : V.le (vw w)) (hs0 : SlOf V Block.cells 2 sv l) (hn : l.length ≤ 4398046511104) :
    Calls Try.prog 193 #[sv, I k] w fun e w' => e = .returned (.tuple #[S (getB l k).1, .bool (getB l k).2]) ∧ Below w.heap.size w w' := by
  obtain ⟨a, n, c, rfl⟩ := sl_shape hs0.sl
  have hs := hs0.mono hV
  have hig := idx_get k l 0
  refine enter (E := E0) (O := []) (nl := 0) (V := vw w) [.a (.v (.slice a n c)), .a (.v (I k))] Try.func193 rfl rfl (mem0 E0 0 w) rfl rfl ?_
  refine c_seq ?_
  refine c_region ?_
  refine o_yield rfl rfl rfl (y_val tok rfl) ?_
  refine o_yield rfl rfl rfl (y_val tok rfl) ?_
  refine o_end [0, 1] rfl ?_
  refine x_then ?_
  refine c_seq ?_
  refine c_region ?_
  refine o_yield rfl rfl rfl (y_val tok rfl) ?_
  refine o_yield rfl rfl rfl (y_val tok rfl) ?_
  refine o_new tok rfl rfl rfl rfl ?_
  refine o_store tok rfl rfl rfl (by first | exact ⟨trivial, trivial⟩ | (repeat' first | exact trivial | exact rfl | apply And.intro); done | simp [onesP, oneP, lk, Value.oneCell']) ?_
  refine o_end [0, 1, 6] rfl ?_
  refine x_then ?_
  refine c_seq ?_
  refine c_seq ?_
  refine c_region ?_
  refine o_yield rfl rfl rfl (y_val tok rfl) ?_
  refine o_call (.a (.v _)) rfl rfl fnok249 rfl rfl rfl (fun hg E w1 hm => by exact has_c _ l k _ _ (hm.lit 0 _ _ rfl) (hs.mono (hm.leDel (l := 0) rfl)) hn) ?_
  refine o_yield rfl rfl rfl (y_val tok rfl) ?_
  refine o_end [0, 7] rfl ?_
  refine x_then ?_
  refine c_seq ?_
  refine c_region ?_
  refine o_yield rfl rfl rfl (y_val tok rfl) ?_
  refine o_yield rfl rfl rfl (y_val tok rfl) ?_
  refine o_end [0, 7, 13] rfl ?_
  refine x_then ?_
  refine c_cond rfl (fun h => ?_) (fun h => ?_)
  ·
    simp only [Bool.and_eq_true, Bool.or_eq_true, Bool.not_eq_true', Bool.or_eq_false_iff, Bool.and_eq_false_iff, decide_eq_true_eq, decide_eq_false_iff_not, beq_iff_eq, bne_iff_ne, Bool.not_eq_false', beq_eq_false_iff_ne, bne_eq_false_iff_eq, ne_eq, Decidable.not_not, Int.not_lt, Int.not_le] at h
    refine c_seq ?_
    refine c_region ?_
    refine o_yield rfl rfl rfl (y_val tok rfl) ?_
    refine o_yield rfl rfl rfl (y_val tok rfl) ?_
    rcases hig with ⟨h1, _⟩ | ⟨j, b, h1, h2, h3⟩
    · omega
    · rw [Nat.zero_add] at h1
      rw [h1]
      have hlt_b := lt_of_at h2
      refine o_yield rfl rfl rfl (y_idx tok rfl (fun hg => hs.sl) (fun hg => ⟨by omega, by omega⟩)) ?_
      refine o_yield rfl rfl rfl (y_fel tok rfl (fun hg => hs.sl) (fun hg => by omega)) ?_
      refine o_yield rfl rfl rfl (y_lel tok (j) 1 (b) rfl (fun hg => hs) (fun hg => h2) rfl rfl) ?_
      refine o_yield rfl rfl rfl (y_val tok rfl) ?_
      refine o_yield rfl rfl rfl (y_val tok rfl) ?_
      refine o_end [4, 5] rfl ?_
      refine x_then ?_
      refine c_ret ?_
      refine x_then_ret ?_
      refine b_ret tok rfl ?_
      intro E w' hm _
      refine ⟨?_, hm.below (Vw.le.refl _)⟩
      rw [h3]; rfl
  ·
    simp only [Bool.and_eq_true, Bool.or_eq_true, Bool.not_eq_true', Bool.or_eq_false_iff, Bool.and_eq_false_iff, decide_eq_true_eq, decide_eq_false_iff_not, beq_iff_eq, bne_iff_ne, Bool.not_eq_false', beq_eq_false_iff_ne, bne_eq_false_iff_eq, ne_eq, Decidable.not_not, Int.not_lt, Int.not_le] at h
    refine c_skip ?_
    refine x_then ?_
    refine c_seq ?_
    refine c_region ?_
    refine o_yield rfl rfl rfl (y_val tok rfl) ?_
    refine o_yield rfl rfl rfl (y_val tok rfl) ?_
    refine o_end [4, 5] rfl ?_
    refine x_then ?_
    refine c_ret ?_
    refine b_ret tok rfl ?_
    rcases hig with ⟨_, h3⟩ | ⟨j, b, h1, _⟩
    ·
      intro E w' hm _
      refine ⟨?_, hm.below (Vw.le.refl _)⟩
      rw [h3]; rfl
    · omega

theorem refGet18_c (V : Vw) (sv : Value) (l : List Block) (k : Int) (w : World) (hV : V.le (vw w)) (hs0 : SlOf V Block.cells 2 sv l) (hn : l.length ≤ 4398046511104) :
    Calls Try.prog 41 #[sv, I k] w fun e w' => e = .returned (.tuple #[S (getB l k).1, .bool (getB l k).2]) ∧ Below w.heap.size w w' := by
  have hs := hs0.mono hV
  refine enter (E := E0) (O := []) (nl := 0) (V := vw w) [.a (.v sv), .a (.v (I k))] Try.func41 rfl rfl (mem0 E0 0 w) rfl rfl ?_
  refine c_seq ?_
  refine c_region ?_
  refine o_yield rfl rfl rfl (y_val tok rfl) ?_
  refine o_yield rfl rfl rfl (y_val tok rfl) ?_
  refine o_end [0, 1] rfl ?_
  refine x_then ?_
  refine c_seq ?_
  refine c_seq ?_
  refine c_region ?_
  refine o_yield rfl rfl rfl (y_val tok rfl) ?_
  refine o_end [0, 1, 6] rfl ?_
  refine x_then ?_
  refine c_block ?_
  refine c_loopK [0, 1] [] rfl rfl (σ := Nat) (fun i => [(6, .a (.v (I i)))]) (fun i => []) (fun i => i ≤ l.length ∧ getB l k = getB (l.drop i) k) (fun i => l.length - i) (0) (⟨by omega, rfl⟩) (by repeat (first | exact SubF.nil | refine SubF.cons rfl ?_)) (by repeat (first | exact SubO.nil | refine SubO.cons rfl ?_)) rfl ?_
  rintro i ⟨hi, heq⟩
  refine c_seq ?_
  refine c_seq ?_
  refine c_region ?_
  refine o_yield rfl rfl rfl (y_val tok rfl) ?_
  refine o_yield rfl rfl rfl (y_val tok rfl) ?_
  refine o_yield rfl rfl rfl (y_len tok rfl (fun hg => hs.sl)) ?_
  refine o_yield rfl rfl rfl (y_val tok rfl) ?_
  refine o_end [0, 1, 6, 10] rfl ?_
  refine x_then ?_
  refine c_cond rfl (fun h => ?_) (fun h => ?_)
  ·
    simp only [Bool.and_eq_true, Bool.or_eq_true, Bool.not_eq_true', Bool.or_eq_false_iff, Bool.and_eq_false_iff, decide_eq_true_eq, decide_eq_false_iff_not, beq_iff_eq, bne_iff_ne, Bool.not_eq_false', beq_eq_false_iff_ne, bne_eq_false_iff_eq, ne_eq, Decidable.not_not, Int.not_lt, Int.not_le] at h
    refine c_skip ?_
    refine x_then ?_
    refine c_seq ?_
    refine c_block ?_
    refine c_seq ?_
    refine c_region ?_
    refine o_yield rfl rfl rfl (y_val tok rfl) ?_
    refine o_yield rfl rfl rfl (y_val tok rfl) ?_
    obtain ⟨x, h_x⟩ := hs.at (k := i) (by omega)
    have hlt_x := lt_of_at h_x
    refine o_yield rfl rfl rfl (y_idx tok rfl (fun hg => hs.sl) (fun hg => ⟨by omega, by omega⟩)) ?_
    refine o_yield rfl rfl rfl (y_fel tok rfl (fun hg => hs.sl) (fun hg => by omega)) ?_
    refine o_yield rfl rfl rfl (y_lel tok (i) 0 (x) rfl (fun hg => hs) (fun hg => h_x) rfl rfl) ?_
    refine o_yield rfl rfl rfl (y_val tok rfl) ?_
    refine o_yield rfl rfl rfl (y_val tok rfl) ?_
    refine o_end [0, 1, 6, 19] rfl ?_
    refine x_then ?_
    refine c_cond rfl (fun h => ?_) (fun h => ?_)
    ·
      simp only [Bool.and_eq_true, Bool.or_eq_true, Bool.not_eq_true', Bool.or_eq_false_iff, Bool.and_eq_false_iff, decide_eq_true_eq, decide_eq_false_iff_not, beq_iff_eq, bne_iff_ne, Bool.not_eq_false', beq_eq_false_iff_ne, bne_eq_false_iff_eq, ne_eq, Decidable.not_not, Int.not_lt, Int.not_le] at h
      refine c_seq ?_
      refine c_region ?_
      refine o_yield rfl rfl rfl (y_val tok rfl) ?_
      refine o_yield rfl rfl rfl (y_val tok rfl) ?_
      rw [drop_at h_x, getB, if_pos h] at heq
      have hlt_x := lt_of_at h_x
      refine o_yield rfl rfl rfl (y_idx tok rfl (fun hg => hs.sl) (fun hg => ⟨by omega, by omega⟩)) ?_
      refine o_yield rfl rfl rfl (y_fel tok rfl (fun hg => hs.sl) (fun hg => by omega)) ?_
      refine o_yield rfl rfl rfl (y_lel tok (i) 1 (x) rfl (fun hg => hs) (fun hg => h_x) rfl rfl) ?_
      refine o_yield rfl rfl rfl (y_val tok rfl) ?_
      refine o_yield rfl rfl rfl (y_val tok rfl) ?_
      refine o_end [4, 5] rfl ?_
      refine x_then ?_
      refine c_ret ?_
      refine x_block_ret ?_
      refine x_then_ret ?_
      refine x_then_ret ?_
      refine x_block_ret ?_
      refine x_then_ret ?_
      refine b_ret tok rfl ?_
      intro E w' hm _
      refine ⟨?_, hm.below (Vw.le.refl _)⟩
      rw [heq]; rfl
    ·
      simp only [Bool.and_eq_true, Bool.or_eq_true, Bool.not_eq_true', Bool.or_eq_false_iff, Bool.and_eq_false_iff, decide_eq_true_eq, decide_eq_false_iff_not, beq_iff_eq, bne_iff_ne, Bool.not_eq_false', beq_eq_false_iff_ne, bne_eq_false_iff_eq, ne_eq, Decidable.not_not, Int.not_lt, Int.not_le] at h
      refine c_skip ?_
      refine x_block ?_
      refine x_then ?_
      refine c_region ?_
      refine o_yield rfl rfl rfl (y_val tok rfl) ?_
      refine o_yield rfl rfl rfl (y_val tok rfl) ?_
      refine o_yield rfl rfl rfl (y_val tok rfl) ?_
      refine o_end [0, 1, 6] rfl ?_
      refine x_then ?_
      rw [drop_at h_x, getB, if_neg h] at heq
      rw [wrapI (n := (i : Int) + 1) (by omega) (by omega)]
      refine x_round (i + 1) (⟨by omega, heq⟩) (by first | omega | (dsimp only; omega)) (by repeat (first | exact SubF.nil | refine SubF.cons rfl ?_)) (by repeat (first | exact SubO.nil | refine SubO.cons rfl ?_)) rfl (Vw.le.refl _)
  ·
    simp only [Bool.and_eq_true, Bool.or_eq_true, Bool.not_eq_true', Bool.or_eq_false_iff, Bool.and_eq_false_iff, decide_eq_true_eq, decide_eq_false_iff_not, beq_iff_eq, bne_iff_ne, Bool.not_eq_false', beq_eq_false_iff_ne, bne_eq_false_iff_eq, ne_eq, Decidable.not_not, Int.not_lt, Int.not_le] at h
    refine c_exit ?_
    refine x_then_exit ?_
    refine x_then_exit ?_
    refine x_block_hit ?_
    refine x_then ?_
    refine c_seq ?_
    refine c_region ?_
    refine o_yield rfl rfl rfl (y_val tok rfl) ?_
    refine o_yield rfl rfl rfl (y_val tok rfl) ?_
    refine o_end [4, 5] rfl ?_
    refine x_then ?_
    refine c_ret ?_
    refine b_ret tok rfl ?_
    have hkL : i = l.length := by omega
    subst hkL
    rw [List.drop_length, getB] at heq
    intro E w' hm _
    refine ⟨?_, hm.below (Vw.le.refl _)⟩
    rw [heq]; rfl
end Go.Proofs.Ytflimioplnbopaa

/- Where everything stands: the program's regions. -/
set_option linter.unusedVariables false
set_option linter.unusedSimpArgs false
set_option maxRecDepth 100000
namespace Go.Proofs.Ytflimioplnbopaa
open Go Go.Eng Go.RowKit

/-- A stretch of things of a kind. -/
structure Reg where
  first : Int
  many : Int
  kind : Int
  per : Int
abbrev Reg.cells (r : Reg) : List Value := [I r.first, I r.many, I8 r.kind, I r.per]
abbrev Reg.val (r : Reg) : Value := .agg #[I r.first, I r.many, I8 r.kind, I r.per]

/-- The first sector of data. -/
def dataAt (g : Geo) : Int := 1 + 2 * g.nodes + g.log + g.slots * (1 + g.journal)

def regs (g : Geo) : List Reg :=
  [⟨0, 1, 1, 1⟩, ⟨1, g.nodes, 2, 1⟩, ⟨1 + g.nodes, g.nodes, 3, 1⟩, ⟨1 + 2 * g.nodes, g.log, 4, 1⟩, ⟨1 + 2 * g.nodes + g.log, g.slots * (1 + g.journal), 6, 1 + g.journal⟩, ⟨dataAt g, g.blocks * g.per, 7, g.per⟩]

theorem stretchEnd_c (a b : Int) (w : World) : Calls Try.prog 201 #[.agg #[I a, I b]] w fun e w' => e = .returned (I (IntKind.i64.wrap (a + b))) ∧ Below w.heap.size w w' := by
  refine enter (E := E0) (O := []) (nl := 0) (V := vw w) [.a (.v (.agg #[I a, I b]))] Try.func201 rfl rfl (mem0 E0 0 w) rfl rfl ?_
  refine c_seq ?_
  refine c_region ?_
  refine o_new tok rfl rfl rfl rfl ?_
  refine o_yield rfl rfl rfl (y_val tok rfl) ?_
  refine o_end [1] rfl ?_
  refine x_then ?_
  refine c_seq ?_
  refine c_region ?_
  refine o_yield rfl rfl rfl (y_val tok rfl) ?_
  refine o_yield rfl rfl rfl (y_val tok rfl) ?_
  refine o_yield rfl rfl rfl (y_val tok rfl) ?_
  refine o_yield rfl rfl rfl (y_val tok rfl) ?_
  refine o_yield rfl rfl rfl (y_val tok rfl) ?_
  refine o_yield rfl rfl rfl (y_val tok rfl) ?_
  refine o_end [2] rfl ?_
  refine x_then ?_
  refine c_ret ?_
  refine b_ret tok rfl ?_
  intro E w' hm _
  refine ⟨?_, hm.below (Vw.le.refl _)⟩
  rfl

theorem stretchAt_c (a b k : Int) (w : World) : Calls Try.prog 246 #[.agg #[I a, I b], I k] w fun e w' => e = .returned (I (if k < 0 ∨ b ≤ k then -1 else IntKind.i64.wrap (a + k))) ∧ Below w.heap.size w w' := by
  refine enter (E := E0) (O := []) (nl := 0) (V := vw w) [.a (.v (.agg #[I a, I b])), .a (.v (I k))] Try.func246 rfl rfl (mem0 E0 0 w) rfl rfl ?_
  refine c_seq ?_
  refine c_region ?_
  refine o_new tok rfl rfl rfl rfl ?_
  refine o_yield rfl rfl rfl (y_val tok rfl) ?_
  refine o_end [1, 2] rfl ?_
  refine x_then ?_
  refine c_seq ?_
  refine c_seq ?_
  refine c_region ?_
  refine o_yield rfl rfl rfl (y_val tok rfl) ?_
  refine o_yield rfl rfl rfl (y_val tok rfl) ?_
  refine o_yield rfl rfl rfl (y_val tok rfl) ?_
  refine o_yield rfl rfl rfl (y_val tok rfl) ?_
  refine o_yield rfl rfl rfl (y_val tok rfl) ?_
  refine o_yield rfl rfl rfl (y_val tok rfl) ?_
  refine o_yield rfl rfl rfl (y_val tok rfl) ?_
  refine o_yield rfl rfl rfl (y_val tok rfl) ?_
  refine o_end [1, 2, 12] rfl ?_
  refine x_then ?_
  refine c_cond rfl (fun h => ?_) (fun h => ?_)
  ·
    simp only [Bool.and_eq_true, Bool.or_eq_true, Bool.not_eq_true', Bool.or_eq_false_iff, Bool.and_eq_false_iff, decide_eq_true_eq, decide_eq_false_iff_not, beq_iff_eq, bne_iff_ne, Bool.not_eq_false', beq_eq_false_iff_ne, bne_eq_false_iff_eq, ne_eq, Decidable.not_not, Int.not_lt, Int.not_le] at h
    refine c_seq ?_
    refine c_region ?_
    refine o_yield rfl rfl rfl (y_val tok rfl) ?_
    refine o_end [4] rfl ?_
    refine x_then ?_
    refine c_ret ?_
    refine x_then_ret ?_
    refine b_ret tok rfl ?_
    intro E w' hm _
    refine ⟨?_, hm.below (Vw.le.refl _)⟩
    rw [if_pos (by omega)]; rfl
  ·
    simp only [Bool.and_eq_true, Bool.or_eq_true, Bool.not_eq_true', Bool.or_eq_false_iff, Bool.and_eq_false_iff, decide_eq_true_eq, decide_eq_false_iff_not, beq_iff_eq, bne_iff_ne, Bool.not_eq_false', beq_eq_false_iff_ne, bne_eq_false_iff_eq, ne_eq, Decidable.not_not, Int.not_lt, Int.not_le] at h
    refine c_skip ?_
    refine x_then ?_
    refine c_seq ?_
    refine c_region ?_
    refine o_yield rfl rfl rfl (y_val tok rfl) ?_
    refine o_yield rfl rfl rfl (y_val tok rfl) ?_
    refine o_yield rfl rfl rfl (y_val tok rfl) ?_
    refine o_yield rfl rfl rfl (y_val tok rfl) ?_
    refine o_yield rfl rfl rfl (y_val tok rfl) ?_
    refine o_end [4] rfl ?_
    refine x_then ?_
    refine c_ret ?_
    refine b_ret tok rfl ?_
    intro E w' hm _
    refine ⟨?_, hm.below (Vw.le.refl _)⟩
    rw [if_neg (by omega)]; rfl

theorem geo_facts {g : Geo} (h : geoB g = true) : (1 ≤ g.nodes ∧ g.nodes ≤ 16) ∧ (1 ≤ g.slots ∧ g.slots ≤ g.nodes) ∧ (1 ≤ g.blocks ∧ g.blocks ≤ 64) ∧ (1 ≤ g.per ∧ g.per ≤ 8) ∧ (g.per + 2 ≤ g.journal ∧ g.journal ≤ 64) ∧
  (8 * g.slots ≤ g.log ∧ g.log ≤ 512) ∧ (1 ≤ g.lease ∧ g.lease < g.wait ∧ g.wait ≤ 1048576) := by simpa [geoB] using h

theorem prod_bound {a b A B : Int} (ha : 0 ≤ a) (hb : 0 ≤ b) (h1 : a ≤ A) (h2 : b ≤ B) : 0 ≤ a * b ∧ a * b ≤ A * B :=
  ⟨Int.mul_nonneg ha hb, Int.le_trans (Int.mul_le_mul_of_nonneg_right h1 hb) (Int.mul_le_mul_of_nonneg_left h2 (by omega))⟩

theorem reg_ones (l : List Reg) : ∀ u ∈ l.flatMap Reg.cells, u.oneCell' = true := by
  intro u hu
  obtain ⟨x, _, hx⟩ := List.mem_flatMap.1 hu
  simp only [Reg.cells, List.mem_cons, List.not_mem_nil, or_false] at hx
  rcases hx with rfl | rfl | rfl | rfl <;> rfl

theorem regions_c (g : Geo) (ok : g.Ok) (w : World) :
    Calls Try.prog 254 #[g.val] w fun e w' => ((geoB g = true ∧ ∃ v, e = .returned v ∧ w'.ownsRow w.heap.size 259 4 v 6 ((regs g).flatMap Reg.cells)) ∨ (geoB g = false ∧ e = .returned (.slice none 0 0))) ∧ Below w.heap.size w w' := by
  refine enter (E := E0) (O := []) (nl := 0) (V := vw w) [.a (.v g.val)] Try.func254 rfl rfl (mem0 E0 0 w) rfl rfl ?_
  refine c_seq ?_
  refine c_region ?_
  refine o_new tok rfl rfl rfl rfl ?_
  refine o_new tok rfl rfl rfl rfl ?_
  refine o_end [1, 2] rfl ?_
  refine x_then ?_
  refine c_seq ?_
  refine c_seq ?_
  refine c_region ?_
  refine o_yield rfl rfl rfl (y_val tok rfl) ?_
  refine o_call (.a (.v _)) rfl rfl fnok127 rfl rfl rfl (fun hg E w1 hm => by exact geoMay_c g ok _) ?_
  refine o_yield rfl rfl rfl (y_val tok rfl) ?_
  refine o_end [1, 2, 7] rfl ?_
  refine x_then ?_
  refine c_cond rfl (fun h => ?_) (fun h => ?_)
  ·
    simp only [Bool.and_eq_true, Bool.or_eq_true, Bool.not_eq_true', Bool.or_eq_false_iff, Bool.and_eq_false_iff, decide_eq_true_eq, decide_eq_false_iff_not, beq_iff_eq, bne_iff_ne, Bool.not_eq_false', beq_eq_false_iff_ne, bne_eq_false_iff_eq, ne_eq, Decidable.not_not, Int.not_lt, Int.not_le] at h
    refine c_seq ?_
    refine c_region ?_
    refine o_store tok rfl rfl rfl (by first | exact ⟨trivial, trivial⟩ | (repeat' first | exact trivial | exact rfl | apply And.intro); done | simp [onesP, oneP, lk, Value.oneCell']) ?_
    refine o_end [2] rfl ?_
    refine x_then ?_
    refine c_ret ?_
    refine x_then_ret ?_
    refine b_ret tok rfl ?_
    intro E w' hm _
    exact ⟨.inr ⟨by simpa using h, rfl⟩, hm.below (Vw.le.refl _)⟩
  ·
    simp only [Bool.and_eq_true, Bool.or_eq_true, Bool.not_eq_true', Bool.or_eq_false_iff, Bool.and_eq_false_iff, decide_eq_true_eq, decide_eq_false_iff_not, beq_iff_eq, bne_iff_ne, Bool.not_eq_false', beq_eq_false_iff_ne, bne_eq_false_iff_eq, ne_eq, Decidable.not_not, Int.not_lt, Int.not_le] at h
    refine c_skip ?_
    refine x_then ?_
    refine c_seq ?_
    refine c_region ?_
    refine o_new tok rfl rfl rfl rfl ?_
    refine o_store tok rfl rfl rfl (by first | exact ⟨trivial, trivial⟩ | (repeat' first | exact trivial | exact rfl | apply And.intro); done | simp [onesP, oneP, lk, Value.oneCell']) ?_
    refine o_end [1, 2, 3] rfl ?_
    refine x_then ?_
    refine c_seq ?_
    refine c_region ?_
    refine o_yield rfl rfl rfl (y_val tok rfl) ?_
    refine o_yield rfl rfl rfl (y_val tok rfl) ?_
    refine o_end [1, 2, 4] rfl ?_
    refine x_then ?_
    refine c_seq ?_
    refine c_region ?_
    refine o_yield rfl rfl rfl (y_val tok rfl) ?_
    have hgeo : geoB g = true := by simpa using h
    clear h
    have hf := geo_facts hgeo
    have hs := prod_bound (a := g.slots) (b := 1 + g.journal) (A := 16) (B := 65) (by omega) (by omega) (by omega) (by omega)
    have hb := prod_bound (a := g.blocks) (b := g.per) (A := 64) (B := 8) (by omega) (by omega) (by omega) (by omega)
    have hda : dataAt g = 1 + 2 * g.nodes + g.log + g.slots * (1 + g.journal) := rfl
    refine k_nilO 1 0 259 4 rfl rfl ?_
    refine o_inl rfl rfl rfl rfl rfl fnok290 Try.func290 rfl rfl rfl (fun E => ?_)
    refine c_seq ?_
    refine c_region ?_
    refine o_yield rfl rfl rfl (y_val tok rfl) ?_
    refine o_yield rfl rfl rfl (y_val tok rfl) ?_
    refine o_yield rfl rfl rfl (y_val tok rfl) ?_
    refine o_yield rfl rfl rfl (y_val tok rfl) ?_
    refine o_yield rfl rfl rfl (y_val tok rfl) ?_
    refine o_yield rfl rfl rfl (y_val tok rfl) ?_
    refine o_yield rfl rfl rfl (y_val tok rfl) ?_
    refine o_yield rfl rfl rfl (y_val tok rfl) ?_
    refine o_new tok rfl rfl rfl rfl ?_
    refine o_store tok rfl rfl rfl (by first | exact ⟨trivial, trivial⟩ | (repeat' first | exact trivial | exact rfl | apply And.intro); done | simp [onesP, oneP, lk, Value.oneCell']) ?_
    refine o_end [3, 4, 8] rfl ?_
    refine x_then ?_
    refine c_seq ?_
    refine c_region ?_
    refine o_yield rfl rfl rfl (y_val tok rfl) ?_
    refine o_yield rfl rfl rfl (y_val tok rfl) ?_
    rw [show IntKind.i64.wrap (1 * 1) = 1 by rw [wrapI (by omega) (by omega)]; try omega]
    refine o_step rfl rfl rfl rfl rfl (s_bs tok 4 rfl rfl rfl) (fun _ _ => ?_)
    refine o_step rfl rfl rfl rfl rfl (s_app tok (⟨0, 1, 1, 1⟩ : Reg).cells rfl (fun E w hm => ownsRow_src (hm.row _ _ _ _ _ rfl)) (fun _ _ _ => by simpa using reg_ones [(⟨0, 1, 1, 1⟩ : Reg)]) (by dsimp only; omega)) (fun _ _ => ?_)
    refine o_store tok rfl rfl rfl (by first | exact ⟨trivial, trivial⟩ | (repeat' first | exact trivial | exact rfl | apply And.intro); done | simp [onesP, oneP, lk, Value.oneCell']) ?_
    refine o_end [3, 8] rfl ?_
    refine x_then ?_
    refine c_region ?_
    refine o_yield rfl rfl rfl (y_val tok rfl) ?_
    refine o_yield rfl rfl rfl (y_val tok rfl) ?_
    refine o_call (.a (.v _)) rfl rfl fnok201 rfl rfl rfl (fun hg E w1 hm => by exact stretchEnd_c _ _ _) ?_
    refine o_store tok rfl rfl rfl (by first | exact ⟨trivial, trivial⟩ | (repeat' first | exact trivial | exact rfl | apply And.intro); done | simp [onesP, oneP, lk, Value.oneCell']) ?_
    refine o_end [] rfl ?_
    refine b_end tok rfl ?_
    rw [show IntKind.i64.wrap (0 + 1) = 1 by rw [wrapI (by omega) (by omega)]; try omega]
    intro E1 w1 hm1 hok1
    refine inl_end (E := E) hm1 hok1 rfl rfl (by repeat (first | exact KeepsIn.zero | refine KeepsIn.succ rfl ?_)) rfl (by repeat (first | exact SubO.nil | refine SubO.cons rfl ?_)) rfl ?_
    clear hm1 hok1 w1 E1 E
    refine k_swap 3 10 rfl ?_
    refine weaken (l := [(1, .a (.ptr 0 0)), (2, .a (.ptr 1 0)), (4, .a (.fn 290 [(2, 0), (1, 0)]))]) (O' := [(0, .lit (g.cells.map .v) 23), (1, .lit [.row 3] 308), (2, .lit [.v (I (1))] 3), (3, .row 259 4 1 (((regs g).take 1).flatMap Reg.cells))]) (nl' := 4) ?_ (by repeat (first | exact SubF.nil | refine SubF.cons rfl ?_)) (by repeat (first | exact SubO.nil | refine SubO.cons rfl ?_)) rfl (Vw.le.refl _)
    refine o_end [1, 2, 4] rfl ?_
    refine x_then ?_
    refine c_seq ?_
    refine c_region ?_
    refine o_yield rfl rfl rfl (y_val tok rfl) ?_
    refine o_yield rfl rfl rfl (y_val tok rfl) ?_
    refine o_yield rfl rfl rfl (y_val tok rfl) ?_
    refine o_inl rfl rfl rfl rfl rfl fnok290 Try.func290 rfl rfl rfl (fun E => ?_)
    refine c_seq ?_
    refine c_region ?_
    refine o_yield rfl rfl rfl (y_val tok rfl) ?_
    refine o_yield rfl rfl rfl (y_val tok rfl) ?_
    refine o_yield rfl rfl rfl (y_val tok rfl) ?_
    refine o_yield rfl rfl rfl (y_val tok rfl) ?_
    refine o_yield rfl rfl rfl (y_val tok rfl) ?_
    refine o_yield rfl rfl rfl (y_val tok rfl) ?_
    refine o_yield rfl rfl rfl (y_val tok rfl) ?_
    refine o_yield rfl rfl rfl (y_val tok rfl) ?_
    refine o_new tok rfl rfl rfl rfl ?_
    refine o_store tok rfl rfl rfl (by first | exact ⟨trivial, trivial⟩ | (repeat' first | exact trivial | exact rfl | apply And.intro); done | simp [onesP, oneP, lk, Value.oneCell']) ?_
    refine o_end [3, 4, 8] rfl ?_
    refine x_then ?_
    refine c_seq ?_
    refine c_region ?_
    refine o_yield rfl rfl rfl (y_val tok rfl) ?_
    refine o_yield rfl rfl rfl (y_val tok rfl) ?_
    rw [show IntKind.i64.wrap (g.nodes * 1) = g.nodes by rw [wrapI (by omega) (by omega)]; try omega]
    refine o_step rfl rfl rfl rfl rfl (s_bs tok 4 rfl rfl rfl) (fun _ _ => ?_)
    refine o_step rfl rfl rfl rfl rfl (s_app tok (⟨1, g.nodes, 2, 1⟩ : Reg).cells rfl (fun E w hm => ownsRow_src (hm.row _ _ _ _ _ rfl)) (fun _ _ _ => by simpa using reg_ones [(⟨1, g.nodes, 2, 1⟩ : Reg)]) (by dsimp only; omega)) (fun _ _ => ?_)
    refine o_store tok rfl rfl rfl (by first | exact ⟨trivial, trivial⟩ | (repeat' first | exact trivial | exact rfl | apply And.intro); done | simp [onesP, oneP, lk, Value.oneCell']) ?_
    refine o_end [3, 8] rfl ?_
    refine x_then ?_
    refine c_region ?_
    refine o_yield rfl rfl rfl (y_val tok rfl) ?_
    refine o_yield rfl rfl rfl (y_val tok rfl) ?_
    refine o_call (.a (.v _)) rfl rfl fnok201 rfl rfl rfl (fun hg E w1 hm => by exact stretchEnd_c _ _ _) ?_
    refine o_store tok rfl rfl rfl (by first | exact ⟨trivial, trivial⟩ | (repeat' first | exact trivial | exact rfl | apply And.intro); done | simp [onesP, oneP, lk, Value.oneCell']) ?_
    refine o_end [] rfl ?_
    refine b_end tok rfl ?_
    rw [show IntKind.i64.wrap (1 + g.nodes) = 1 + g.nodes by rw [wrapI (by omega) (by omega)]; try omega]
    intro E1 w1 hm1 hok1
    refine inl_end (E := E) hm1 hok1 rfl rfl (by repeat (first | exact KeepsIn.zero | refine KeepsIn.succ rfl ?_)) rfl (by repeat (first | exact SubO.nil | refine SubO.cons rfl ?_)) rfl ?_
    clear hm1 hok1 w1 E1 E
    refine k_swap 3 10 rfl ?_
    refine weaken (l := [(1, .a (.ptr 0 0)), (2, .a (.ptr 1 0)), (4, .a (.fn 290 [(2, 0), (1, 0)]))]) (O' := [(0, .lit (g.cells.map .v) 23), (1, .lit [.row 3] 308), (2, .lit [.v (I (1 + g.nodes))] 3), (3, .row 259 4 2 (((regs g).take 2).flatMap Reg.cells))]) (nl' := 4) ?_ (by repeat (first | exact SubF.nil | refine SubF.cons rfl ?_)) (by repeat (first | exact SubO.nil | refine SubO.cons rfl ?_)) rfl (Vw.le.refl _)
    refine o_end [1, 2, 4] rfl ?_
    refine x_then ?_
    refine c_seq ?_
    refine c_region ?_
    refine o_yield rfl rfl rfl (y_val tok rfl) ?_
    refine o_yield rfl rfl rfl (y_val tok rfl) ?_
    refine o_yield rfl rfl rfl (y_val tok rfl) ?_
    refine o_inl rfl rfl rfl rfl rfl fnok290 Try.func290 rfl rfl rfl (fun E => ?_)
    refine c_seq ?_
    refine c_region ?_
    refine o_yield rfl rfl rfl (y_val tok rfl) ?_
    refine o_yield rfl rfl rfl (y_val tok rfl) ?_
    refine o_yield rfl rfl rfl (y_val tok rfl) ?_
    refine o_yield rfl rfl rfl (y_val tok rfl) ?_
    refine o_yield rfl rfl rfl (y_val tok rfl) ?_
    refine o_yield rfl rfl rfl (y_val tok rfl) ?_
    refine o_yield rfl rfl rfl (y_val tok rfl) ?_
    refine o_yield rfl rfl rfl (y_val tok rfl) ?_
    refine o_new tok rfl rfl rfl rfl ?_
    refine o_store tok rfl rfl rfl (by first | exact ⟨trivial, trivial⟩ | (repeat' first | exact trivial | exact rfl | apply And.intro); done | simp [onesP, oneP, lk, Value.oneCell']) ?_
    refine o_end [3, 4, 8] rfl ?_
    refine x_then ?_
    refine c_seq ?_
    refine c_region ?_
    refine o_yield rfl rfl rfl (y_val tok rfl) ?_
    refine o_yield rfl rfl rfl (y_val tok rfl) ?_
    rw [show IntKind.i64.wrap (g.nodes * 1) = g.nodes by rw [wrapI (by omega) (by omega)]; try omega]
    refine o_step rfl rfl rfl rfl rfl (s_bs tok 4 rfl rfl rfl) (fun _ _ => ?_)
    refine o_step rfl rfl rfl rfl rfl (s_app tok (⟨1 + g.nodes, g.nodes, 3, 1⟩ : Reg).cells rfl (fun E w hm => ownsRow_src (hm.row _ _ _ _ _ rfl)) (fun _ _ _ => by simpa using reg_ones [(⟨1 + g.nodes, g.nodes, 3, 1⟩ : Reg)]) (by dsimp only; omega)) (fun _ _ => ?_)
    refine o_store tok rfl rfl rfl (by first | exact ⟨trivial, trivial⟩ | (repeat' first | exact trivial | exact rfl | apply And.intro); done | simp [onesP, oneP, lk, Value.oneCell']) ?_
    refine o_end [3, 8] rfl ?_
    refine x_then ?_
    refine c_region ?_
    refine o_yield rfl rfl rfl (y_val tok rfl) ?_
    refine o_yield rfl rfl rfl (y_val tok rfl) ?_
    refine o_call (.a (.v _)) rfl rfl fnok201 rfl rfl rfl (fun hg E w1 hm => by exact stretchEnd_c _ _ _) ?_
    refine o_store tok rfl rfl rfl (by first | exact ⟨trivial, trivial⟩ | (repeat' first | exact trivial | exact rfl | apply And.intro); done | simp [onesP, oneP, lk, Value.oneCell']) ?_
    refine o_end [] rfl ?_
    refine b_end tok rfl ?_
    rw [show IntKind.i64.wrap ((1 + g.nodes) + g.nodes) = 1 + 2 * g.nodes by rw [wrapI (by omega) (by omega)]; try omega]
    intro E1 w1 hm1 hok1
    refine inl_end (E := E) hm1 hok1 rfl rfl (by repeat (first | exact KeepsIn.zero | refine KeepsIn.succ rfl ?_)) rfl (by repeat (first | exact SubO.nil | refine SubO.cons rfl ?_)) rfl ?_
    clear hm1 hok1 w1 E1 E
    refine k_swap 3 10 rfl ?_
    refine weaken (l := [(1, .a (.ptr 0 0)), (2, .a (.ptr 1 0)), (4, .a (.fn 290 [(2, 0), (1, 0)]))]) (O' := [(0, .lit (g.cells.map .v) 23), (1, .lit [.row 3] 308), (2, .lit [.v (I (1 + 2 * g.nodes))] 3), (3, .row 259 4 3 (((regs g).take 3).flatMap Reg.cells))]) (nl' := 4) ?_ (by repeat (first | exact SubF.nil | refine SubF.cons rfl ?_)) (by repeat (first | exact SubO.nil | refine SubO.cons rfl ?_)) rfl (Vw.le.refl _)
    refine o_end [1, 2, 4] rfl ?_
    refine x_then ?_
    refine c_seq ?_
    refine c_region ?_
    refine o_yield rfl rfl rfl (y_val tok rfl) ?_
    refine o_yield rfl rfl rfl (y_val tok rfl) ?_
    refine o_yield rfl rfl rfl (y_val tok rfl) ?_
    refine o_inl rfl rfl rfl rfl rfl fnok290 Try.func290 rfl rfl rfl (fun E => ?_)
    refine c_seq ?_
    refine c_region ?_
    refine o_yield rfl rfl rfl (y_val tok rfl) ?_
    refine o_yield rfl rfl rfl (y_val tok rfl) ?_
    refine o_yield rfl rfl rfl (y_val tok rfl) ?_
    refine o_yield rfl rfl rfl (y_val tok rfl) ?_
    refine o_yield rfl rfl rfl (y_val tok rfl) ?_
    refine o_yield rfl rfl rfl (y_val tok rfl) ?_
    refine o_yield rfl rfl rfl (y_val tok rfl) ?_
    refine o_yield rfl rfl rfl (y_val tok rfl) ?_
    refine o_new tok rfl rfl rfl rfl ?_
    refine o_store tok rfl rfl rfl (by first | exact ⟨trivial, trivial⟩ | (repeat' first | exact trivial | exact rfl | apply And.intro); done | simp [onesP, oneP, lk, Value.oneCell']) ?_
    refine o_end [3, 4, 8] rfl ?_
    refine x_then ?_
    refine c_seq ?_
    refine c_region ?_
    refine o_yield rfl rfl rfl (y_val tok rfl) ?_
    refine o_yield rfl rfl rfl (y_val tok rfl) ?_
    rw [show IntKind.i64.wrap (g.log * 1) = g.log by rw [wrapI (by omega) (by omega)]; try omega]
    refine o_step rfl rfl rfl rfl rfl (s_bs tok 4 rfl rfl rfl) (fun _ _ => ?_)
    refine o_step rfl rfl rfl rfl rfl (s_app tok (⟨1 + 2 * g.nodes, g.log, 4, 1⟩ : Reg).cells rfl (fun E w hm => ownsRow_src (hm.row _ _ _ _ _ rfl)) (fun _ _ _ => by simpa using reg_ones [(⟨1 + 2 * g.nodes, g.log, 4, 1⟩ : Reg)]) (by dsimp only; omega)) (fun _ _ => ?_)
    refine o_store tok rfl rfl rfl (by first | exact ⟨trivial, trivial⟩ | (repeat' first | exact trivial | exact rfl | apply And.intro); done | simp [onesP, oneP, lk, Value.oneCell']) ?_
    refine o_end [3, 8] rfl ?_
    refine x_then ?_
    refine c_region ?_
    refine o_yield rfl rfl rfl (y_val tok rfl) ?_
    refine o_yield rfl rfl rfl (y_val tok rfl) ?_
    refine o_call (.a (.v _)) rfl rfl fnok201 rfl rfl rfl (fun hg E w1 hm => by exact stretchEnd_c _ _ _) ?_
    refine o_store tok rfl rfl rfl (by first | exact ⟨trivial, trivial⟩ | (repeat' first | exact trivial | exact rfl | apply And.intro); done | simp [onesP, oneP, lk, Value.oneCell']) ?_
    refine o_end [] rfl ?_
    refine b_end tok rfl ?_
    rw [show IntKind.i64.wrap ((1 + 2 * g.nodes) + g.log) = 1 + 2 * g.nodes + g.log by rw [wrapI (by omega) (by omega)]; try omega]
    intro E1 w1 hm1 hok1
    refine inl_end (E := E) hm1 hok1 rfl rfl (by repeat (first | exact KeepsIn.zero | refine KeepsIn.succ rfl ?_)) rfl (by repeat (first | exact SubO.nil | refine SubO.cons rfl ?_)) rfl ?_
    clear hm1 hok1 w1 E1 E
    refine k_swap 3 10 rfl ?_
    refine weaken (l := [(1, .a (.ptr 0 0)), (2, .a (.ptr 1 0)), (4, .a (.fn 290 [(2, 0), (1, 0)]))]) (O' := [(0, .lit (g.cells.map .v) 23), (1, .lit [.row 3] 308), (2, .lit [.v (I (1 + 2 * g.nodes + g.log))] 3), (3, .row 259 4 4 (((regs g).take 4).flatMap Reg.cells))]) (nl' := 4) ?_ (by repeat (first | exact SubF.nil | refine SubF.cons rfl ?_)) (by repeat (first | exact SubO.nil | refine SubO.cons rfl ?_)) rfl (Vw.le.refl _)
    refine o_end [1, 2, 4] rfl ?_
    refine x_then ?_
    refine c_seq ?_
    refine c_region ?_
    refine o_yield rfl rfl rfl (y_val tok rfl) ?_
    refine o_yield rfl rfl rfl (y_val tok rfl) ?_
    refine o_yield rfl rfl rfl (y_val tok rfl) ?_
    refine o_yield rfl rfl rfl (y_val tok rfl) ?_
    refine o_yield rfl rfl rfl (y_val tok rfl) ?_
    refine o_yield rfl rfl rfl (y_val tok rfl) ?_
    refine o_inl rfl rfl rfl rfl rfl fnok290 Try.func290 rfl rfl rfl (fun E => ?_)
    refine c_seq ?_
    refine c_region ?_
    refine o_yield rfl rfl rfl (y_val tok rfl) ?_
    refine o_yield rfl rfl rfl (y_val tok rfl) ?_
    refine o_yield rfl rfl rfl (y_val tok rfl) ?_
    refine o_yield rfl rfl rfl (y_val tok rfl) ?_
    refine o_yield rfl rfl rfl (y_val tok rfl) ?_
    refine o_yield rfl rfl rfl (y_val tok rfl) ?_
    refine o_yield rfl rfl rfl (y_val tok rfl) ?_
    refine o_yield rfl rfl rfl (y_val tok rfl) ?_
    refine o_new tok rfl rfl rfl rfl ?_
    refine o_store tok rfl rfl rfl (by first | exact ⟨trivial, trivial⟩ | (repeat' first | exact trivial | exact rfl | apply And.intro); done | simp [onesP, oneP, lk, Value.oneCell']) ?_
    refine o_end [3, 4, 8] rfl ?_
    refine x_then ?_
    refine c_seq ?_
    refine c_region ?_
    refine o_yield rfl rfl rfl (y_val tok rfl) ?_
    refine o_yield rfl rfl rfl (y_val tok rfl) ?_
    rw [wrapI (n := 1 + g.journal) (by omega) (by omega)]
    rw [show IntKind.i64.wrap (g.slots * (1 + g.journal)) = g.slots * (1 + g.journal) by rw [wrapI (by omega) (by omega)]; try omega]
    refine o_step rfl rfl rfl rfl rfl (s_bs tok 4 rfl rfl rfl) (fun _ _ => ?_)
    refine o_step rfl rfl rfl rfl rfl (s_app tok (⟨1 + 2 * g.nodes + g.log, g.slots * (1 + g.journal), 6, 1 + g.journal⟩ : Reg).cells rfl (fun E w hm => ownsRow_src (hm.row _ _ _ _ _ rfl)) (fun _ _ _ => by simpa using reg_ones [(⟨1 + 2 * g.nodes + g.log, g.slots * (1 + g.journal), 6, 1 + g.journal⟩ : Reg)]) (by dsimp only; omega)) (fun _ _ => ?_)
    refine o_store tok rfl rfl rfl (by first | exact ⟨trivial, trivial⟩ | (repeat' first | exact trivial | exact rfl | apply And.intro); done | simp [onesP, oneP, lk, Value.oneCell']) ?_
    refine o_end [3, 8] rfl ?_
    refine x_then ?_
    refine c_region ?_
    refine o_yield rfl rfl rfl (y_val tok rfl) ?_
    refine o_yield rfl rfl rfl (y_val tok rfl) ?_
    refine o_call (.a (.v _)) rfl rfl fnok201 rfl rfl rfl (fun hg E w1 hm => by exact stretchEnd_c _ _ _) ?_
    refine o_store tok rfl rfl rfl (by first | exact ⟨trivial, trivial⟩ | (repeat' first | exact trivial | exact rfl | apply And.intro); done | simp [onesP, oneP, lk, Value.oneCell']) ?_
    refine o_end [] rfl ?_
    refine b_end tok rfl ?_
    rw [show IntKind.i64.wrap ((1 + 2 * g.nodes + g.log) + g.slots * (1 + g.journal)) = dataAt g by rw [wrapI (by omega) (by omega)]; try omega]
    intro E1 w1 hm1 hok1
    refine inl_end (E := E) hm1 hok1 rfl rfl (by repeat (first | exact KeepsIn.zero | refine KeepsIn.succ rfl ?_)) rfl (by repeat (first | exact SubO.nil | refine SubO.cons rfl ?_)) rfl ?_
    clear hm1 hok1 w1 E1 E
    refine k_swap 3 10 rfl ?_
    refine weaken (l := [(1, .a (.ptr 0 0)), (2, .a (.ptr 1 0)), (4, .a (.fn 290 [(2, 0), (1, 0)]))]) (O' := [(0, .lit (g.cells.map .v) 23), (1, .lit [.row 3] 308), (2, .lit [.v (I (dataAt g))] 3), (3, .row 259 4 5 (((regs g).take 5).flatMap Reg.cells))]) (nl' := 4) ?_ (by repeat (first | exact SubF.nil | refine SubF.cons rfl ?_)) (by repeat (first | exact SubO.nil | refine SubO.cons rfl ?_)) rfl (Vw.le.refl _)
    refine o_end [1, 2, 4] rfl ?_
    refine x_then ?_
    refine c_seq ?_
    refine c_region ?_
    refine o_yield rfl rfl rfl (y_val tok rfl) ?_
    refine o_yield rfl rfl rfl (y_val tok rfl) ?_
    refine o_yield rfl rfl rfl (y_val tok rfl) ?_
    refine o_yield rfl rfl rfl (y_val tok rfl) ?_
    refine o_yield rfl rfl rfl (y_val tok rfl) ?_
    refine o_inl rfl rfl rfl rfl rfl fnok290 Try.func290 rfl rfl rfl (fun E => ?_)
    refine c_seq ?_
    refine c_region ?_
    refine o_yield rfl rfl rfl (y_val tok rfl) ?_
    refine o_yield rfl rfl rfl (y_val tok rfl) ?_
    refine o_yield rfl rfl rfl (y_val tok rfl) ?_
    refine o_yield rfl rfl rfl (y_val tok rfl) ?_
    refine o_yield rfl rfl rfl (y_val tok rfl) ?_
    refine o_yield rfl rfl rfl (y_val tok rfl) ?_
    refine o_yield rfl rfl rfl (y_val tok rfl) ?_
    refine o_yield rfl rfl rfl (y_val tok rfl) ?_
    refine o_new tok rfl rfl rfl rfl ?_
    refine o_store tok rfl rfl rfl (by first | exact ⟨trivial, trivial⟩ | (repeat' first | exact trivial | exact rfl | apply And.intro); done | simp [onesP, oneP, lk, Value.oneCell']) ?_
    refine o_end [3, 4, 8] rfl ?_
    refine x_then ?_
    refine c_seq ?_
    refine c_region ?_
    refine o_yield rfl rfl rfl (y_val tok rfl) ?_
    refine o_yield rfl rfl rfl (y_val tok rfl) ?_
    rw [show IntKind.i64.wrap (g.blocks * g.per) = g.blocks * g.per by rw [wrapI (by omega) (by omega)]; try omega]
    refine o_step rfl rfl rfl rfl rfl (s_bs tok 4 rfl rfl rfl) (fun _ _ => ?_)
    refine o_step rfl rfl rfl rfl rfl (s_app tok (⟨dataAt g, g.blocks * g.per, 7, g.per⟩ : Reg).cells rfl (fun E w hm => ownsRow_src (hm.row _ _ _ _ _ rfl)) (fun _ _ _ => by simpa using reg_ones [(⟨dataAt g, g.blocks * g.per, 7, g.per⟩ : Reg)]) (by dsimp only; omega)) (fun _ _ => ?_)
    refine o_store tok rfl rfl rfl (by first | exact ⟨trivial, trivial⟩ | (repeat' first | exact trivial | exact rfl | apply And.intro); done | simp [onesP, oneP, lk, Value.oneCell']) ?_
    refine o_end [3, 8] rfl ?_
    refine x_then ?_
    refine c_region ?_
    refine o_yield rfl rfl rfl (y_val tok rfl) ?_
    refine o_yield rfl rfl rfl (y_val tok rfl) ?_
    refine o_call (.a (.v _)) rfl rfl fnok201 rfl rfl rfl (fun hg E w1 hm => by exact stretchEnd_c _ _ _) ?_
    refine o_store tok rfl rfl rfl (by first | exact ⟨trivial, trivial⟩ | (repeat' first | exact trivial | exact rfl | apply And.intro); done | simp [onesP, oneP, lk, Value.oneCell']) ?_
    refine o_end [] rfl ?_
    refine b_end tok rfl ?_
    rw [show IntKind.i64.wrap (dataAt g + g.blocks * g.per) = dataAt g + g.blocks * g.per by rw [wrapI (by omega) (by omega)]; try omega]
    intro E1 w1 hm1 hok1
    refine inl_end (E := E) hm1 hok1 rfl rfl (by repeat (first | exact KeepsIn.zero | refine KeepsIn.succ rfl ?_)) rfl (by repeat (first | exact SubO.nil | refine SubO.cons rfl ?_)) rfl ?_
    clear hm1 hok1 w1 E1 E
    refine o_end [2] rfl ?_
    refine x_then ?_
    refine c_seq ?_
    refine c_region ?_
    refine o_yield rfl rfl rfl (y_val tok rfl) ?_
    refine o_store tok rfl rfl rfl (by first | exact ⟨trivial, trivial⟩ | (repeat' first | exact trivial | exact rfl | apply And.intro); done | simp [onesP, oneP, lk, Value.oneCell']) ?_
    refine o_end [2] rfl ?_
    refine x_then ?_
    refine c_ret ?_
    refine b_ret tok rfl ?_
    intro E w' hm _
    refine ⟨.inl ⟨hgeo, E.κ 10, rfl, ?_⟩, hm.below (Vw.le.refl _)⟩
    have hrow := hm.rowFresh (Vw.le.refl _) (l := 10) rfl
    simpa [regs] using hrow

def regL (g : Geo) : List Reg := if geoB g = true then regs g else []

/-- The regions as ones that nobody writes. -/
theorem regions_cV (V : Vw) (g : Geo) (ok : g.Ok) (w : World) (hV : V.le (vw w)) :
    Calls Try.prog 254 #[g.val] w fun e w' => ∃ x V', e = .returned x ∧ Below w.heap.size w w' ∧ Vext w.heap.size V V' w' ∧ SlOf V' Reg.cells 4 x (regL g) := by
  refine (regions_c g ok w).mono ?_
  rintro e w' ⟨⟨h, v, rfl, hown⟩ | ⟨h, rfl⟩, hb⟩
  · obtain ⟨V', hx, hsl⟩ := ownsRow_vext hV hb hown
    exact ⟨_, V', rfl, hb, hx, by rw [regL, if_pos h]; exact ⟨hsl, fun _ => rfl⟩⟩
  · exact ⟨_, V, rfl, hb, Vext.same hV hb, by rw [regL, if_neg (by simp [h])]; exact slNil V Reg.cells 4 0 (fun _ => rfl)⟩

def findR (k : Int) : List Reg → Reg
  | [] => ⟨0, 0, 0, 1⟩
  | r :: t => if r.kind = k then r else findR k t

theorem find_c (g : Geo) (ok : g.Ok) (k : Int) (w : World) : Calls Try.prog 200 #[g.val, I8 k] w fun e w' => e = .returned (findR k (regL g)).val ∧ Below w.heap.size w w' := by
  refine enter (E := E0) (O := []) (nl := 0) (V := vw w) [.a (.v g.val), .a (.v (I8 k))] Try.func200 rfl rfl (mem0 E0 0 w) rfl rfl ?_
  refine c_seq ?_
  refine c_region ?_
  refine o_new tok rfl rfl rfl rfl ?_
  refine o_new tok rfl rfl rfl rfl ?_
  refine o_end [1, 2, 4] rfl ?_
  refine x_then ?_
  refine c_seq ?_
  refine c_seq ?_
  refine c_region ?_
  refine o_yield rfl rfl rfl (y_val tok rfl) ?_
  refine o_callV (fun x V' => SlOf V' Reg.cells 4 x (regL g)) rfl rfl fnok254 rfl rfl (fun hg E w1 hm => by exact regions_cV (vw w) g ok _ hm.leV) ?_
  rintro x V1 hle1 hx
  have hs := hx rfl
  clear hx
  refine o_yield rfl rfl rfl (y_len tok rfl (fun hg => hs.sl)) ?_
  refine o_yield rfl rfl rfl (y_val tok rfl) ?_
  refine o_end [1, 4, 8, 9, 10] rfl ?_
  refine x_then ?_
  refine c_block ?_
  have hl6 : (regL g).length ≤ 6 := by unfold regL; split <;> simp [regs]
  refine c_loopV [1, 4, 8, 9] [] rfl rfl (σ := Nat) (fun i => [(10, .a (.v (I i)))]) (fun i => []) (fun i => V1) (fun i => i ≤ (regL g).length ∧ findR k (regL g) = findR k ((regL g).drop i)) (fun i => (regL g).length - i) (0) (⟨by omega, rfl⟩) (by repeat (first | exact SubF.nil | refine SubF.cons rfl ?_)) (by repeat (first | exact SubO.nil | refine SubO.cons rfl ?_)) rfl (Vw.le.refl _) ?_
  rintro i ⟨hi, heq⟩
  refine c_seq ?_
  refine c_region ?_
  refine o_yield rfl rfl rfl (y_val tok rfl) ?_
  refine o_end [1, 4, 8, 9, 10, 11] rfl ?_
  refine x_then ?_
  refine c_seq ?_
  refine c_cond rfl (fun h => ?_) (fun h => ?_)
  ·
    simp only [Bool.and_eq_true, Bool.or_eq_true, Bool.not_eq_true', Bool.or_eq_false_iff, Bool.and_eq_false_iff, decide_eq_true_eq, decide_eq_false_iff_not, beq_iff_eq, bne_iff_ne, Bool.not_eq_false', beq_eq_false_iff_ne, bne_eq_false_iff_eq, ne_eq, Decidable.not_not, Int.not_lt, Int.not_le] at h
    refine c_skip ?_
    refine x_then ?_
    refine c_seq ?_
    refine c_block ?_
    refine c_seq ?_
    refine c_region ?_
    obtain ⟨r, h_r⟩ := hs.at (k := i) (by omega)
    rw [drop_at h_r, findR] at heq
    have hlt_r := lt_of_at h_r
    refine o_yield rfl rfl rfl (y_idx tok rfl (fun hg => hs.sl) (fun hg => ⟨by omega, by omega⟩)) ?_
    refine o_yield rfl rfl rfl (y_lel tok (i) 0 (r) rfl (fun hg => hs) (fun hg => h_r) rfl rfl) ?_
    refine o_new tok rfl rfl rfl rfl ?_
    refine o_store tok rfl rfl rfl (by first | exact ⟨trivial, trivial⟩ | (repeat' first | exact trivial | exact rfl | apply And.intro); done | simp [onesP, oneP, lk, Value.oneCell']) ?_
    refine o_end [1, 4, 6, 8, 9, 10] rfl ?_
    refine x_then ?_
    refine c_seq ?_
    refine c_region ?_
    refine o_yield rfl rfl rfl (y_val tok rfl) ?_
    refine o_yield rfl rfl rfl (y_val tok rfl) ?_
    refine o_yield rfl rfl rfl (y_val tok rfl) ?_
    refine o_yield rfl rfl rfl (y_val tok rfl) ?_
    refine o_end [1, 4, 6, 8, 9, 10, 17] rfl ?_
    refine x_then ?_
    refine c_cond rfl (fun h => ?_) (fun h => ?_)
    ·
      simp only [Bool.and_eq_true, Bool.or_eq_true, Bool.not_eq_true', Bool.or_eq_false_iff, Bool.and_eq_false_iff, decide_eq_true_eq, decide_eq_false_iff_not, beq_iff_eq, bne_iff_ne, Bool.not_eq_false', beq_eq_false_iff_ne, bne_eq_false_iff_eq, ne_eq, Decidable.not_not, Int.not_lt, Int.not_le] at h
      refine c_seq ?_
      refine c_region ?_
      refine o_yield rfl rfl rfl (y_val tok rfl) ?_
      refine o_store tok rfl rfl rfl (by first | exact ⟨trivial, trivial⟩ | (repeat' first | exact trivial | exact rfl | apply And.intro); done | simp [onesP, oneP, lk, Value.oneCell']) ?_
      refine o_end [4] rfl ?_
      refine x_then ?_
      refine c_ret ?_
      refine x_block_ret ?_
      refine x_then_ret ?_
      refine x_then_ret ?_
      refine x_block_ret ?_
      refine x_then_ret ?_
      refine b_ret tok rfl ?_
      rw [if_pos h] at heq
      intro E w' hm _
      refine ⟨?_, hm.below (hle1)⟩
      rw [heq]; rfl
    ·
      simp only [Bool.and_eq_true, Bool.or_eq_true, Bool.not_eq_true', Bool.or_eq_false_iff, Bool.and_eq_false_iff, decide_eq_true_eq, decide_eq_false_iff_not, beq_iff_eq, bne_iff_ne, Bool.not_eq_false', beq_eq_false_iff_ne, bne_eq_false_iff_eq, ne_eq, Decidable.not_not, Int.not_lt, Int.not_le] at h
      refine c_skip ?_
      refine x_block ?_
      refine x_then ?_
      refine c_region ?_
      refine o_yield rfl rfl rfl (y_val tok rfl) ?_
      refine o_yield rfl rfl rfl (y_val tok rfl) ?_
      refine o_end [1, 4, 8, 9, 10] rfl ?_
      refine x_then ?_
      rw [if_neg h] at heq
      rw [wrapI (n := (i : Int) + 1) (by omega) (by omega)]
      refine x_round (i + 1) (⟨by omega, heq⟩) (by first | omega | (dsimp only; omega)) (by repeat (first | exact SubF.nil | refine SubF.cons rfl ?_)) (by repeat (first | exact SubO.nil | refine SubO.cons rfl ?_)) rfl (Vw.le.refl _)
  ·
    simp only [Bool.and_eq_true, Bool.or_eq_true, Bool.not_eq_true', Bool.or_eq_false_iff, Bool.and_eq_false_iff, decide_eq_true_eq, decide_eq_false_iff_not, beq_iff_eq, bne_iff_ne, Bool.not_eq_false', beq_eq_false_iff_ne, bne_eq_false_iff_eq, ne_eq, Decidable.not_not, Int.not_lt, Int.not_le] at h
    refine c_exit ?_
    refine x_then_exit ?_
    refine x_then_exit ?_
    refine x_block_hit ?_
    refine x_then ?_
    refine c_seq ?_
    refine c_region ?_
    refine o_yield rfl rfl rfl (y_val tok rfl) ?_
    refine o_store tok rfl rfl rfl (by first | exact ⟨trivial, trivial⟩ | (repeat' first | exact trivial | exact rfl | apply And.intro); done | simp [onesP, oneP, lk, Value.oneCell']) ?_
    refine o_end [4] rfl ?_
    refine x_then ?_
    refine c_ret ?_
    refine b_ret tok rfl ?_
    have hkL : i = (regL g).length := by omega
    subst hkL
    rw [List.drop_length, findR] at heq
    intro E w' hm _
    refine ⟨?_, hm.below (hle1)⟩
    rw [heq]; rfl

theorem of_c' (g : Geo) (ok : g.Ok) (kd i k : Int) (r : Reg) (hr : findR kd (regL g) = r) (m : Int) (hm0 : 0 ≤ m) (hm : r.many = m * r.per) (hp : 1 ≤ r.per) (hb : m * r.per ≤ 4096) (hf : 0 ≤ r.first) (hf2 : r.first ≤ 4096) (v : Int) (hv : v = if i < 0 ∨ m ≤ i ∨ k < 0 ∨ r.per ≤ k then -1 else r.first + i * r.per + k) (w : World) :
    Calls Try.prog 187 #[g.val, I8 kd, I i, I k] w fun e w' => e = .returned (I v) ∧ Below w.heap.size w w' := by
  have hq : r.many.tdiv r.per = m := by rw [hm]; exact Int.mul_tdiv_cancel m (by omega)
  have hpb : r.per ≤ m * r.per ∨ m = 0 := by
    by_cases h : m = 0
    · exact .inr h
    · left
      have := Int.mul_le_mul_of_nonneg_right (show 1 ≤ m by omega) (show 0 ≤ r.per by omega)
      omega
  have hmb : m ≤ m * r.per := by
    have := Int.mul_le_mul_of_nonneg_left hp hm0
    omega
  refine enter (E := E0) (O := []) (nl := 0) (V := vw w) [.a (.v g.val), .a (.v (I8 kd)), .a (.v (I i)), .a (.v (I k))] Try.func187 rfl rfl (mem0 E0 0 w) rfl rfl ?_
  refine c_seq ?_
  refine c_region ?_
  refine o_new tok rfl rfl rfl rfl ?_
  refine o_yield rfl rfl rfl (y_val tok rfl) ?_
  refine o_end [1, 2, 3, 4] rfl ?_
  refine x_then ?_
  refine c_seq ?_
  refine c_region ?_
  refine o_yield rfl rfl rfl (y_val tok rfl) ?_
  refine o_yield rfl rfl rfl (y_val tok rfl) ?_
  refine o_call (.a (.v _)) rfl rfl fnok200 rfl rfl rfl (fun hg E w1 hm => by exact find_c g ok kd _) ?_
  refine o_new tok rfl rfl rfl rfl ?_
  refine o_store tok rfl rfl rfl (by first | exact ⟨trivial, trivial⟩ | (repeat' first | exact trivial | exact rfl | apply And.intro); done | simp [onesP, oneP, lk, Value.oneCell']) ?_
  refine o_end [2, 3, 9] rfl ?_
  refine x_then ?_
  refine c_seq ?_
  refine c_seq ?_
  refine c_region ?_
  refine o_yield rfl rfl rfl (y_val tok rfl) ?_
  refine o_yield rfl rfl rfl (y_val tok rfl) ?_
  refine o_yield rfl rfl rfl (y_val tok rfl) ?_
  refine o_yield rfl rfl rfl (y_val tok rfl) ?_
  refine o_yield rfl rfl rfl (y_val tok rfl) ?_
  refine o_yield rfl rfl rfl (y_val tok rfl) ?_
  refine o_yield rfl rfl rfl (y_val tok rfl) ?_
  refine o_yield rfl rfl rfl (y_val tok rfl) ?_
  refine o_yield rfl rfl rfl (y_val tok rfl) ?_
  rw [hr]
  have hqw : IntKind.i64.wrap (r.many.tdiv r.per) = m := by rw [hq, wrapI (by omega) (by omega)]
  refine o_yield rfl rfl rfl (y_quo rfl (fun hg => by omega)) ?_
  refine o_yield rfl rfl rfl (y_val tok rfl) ?_
  refine o_yield rfl rfl rfl (y_val tok rfl) ?_
  refine o_yield rfl rfl rfl (y_val tok rfl) ?_
  refine o_yield rfl rfl rfl (y_val tok rfl) ?_
  refine o_yield rfl rfl rfl (y_val tok rfl) ?_
  refine o_yield rfl rfl rfl (y_val tok rfl) ?_
  refine o_yield rfl rfl rfl (y_val tok rfl) ?_
  refine o_yield rfl rfl rfl (y_val tok rfl) ?_
  refine o_yield rfl rfl rfl (y_val tok rfl) ?_
  refine o_yield rfl rfl rfl (y_val tok rfl) ?_
  refine o_yield rfl rfl rfl (y_val tok rfl) ?_
  refine o_yield rfl rfl rfl (y_val tok rfl) ?_
  refine o_end [2, 3, 9, 34] rfl ?_
  refine x_then ?_
  refine c_cond rfl (fun h => ?_) (fun h => ?_)
  ·
    simp only [Bool.and_eq_true, Bool.or_eq_true, Bool.not_eq_true', Bool.or_eq_false_iff, Bool.and_eq_false_iff, decide_eq_true_eq, decide_eq_false_iff_not, beq_iff_eq, bne_iff_ne, Bool.not_eq_false', beq_eq_false_iff_ne, bne_eq_false_iff_eq, ne_eq, Decidable.not_not, Int.not_lt, Int.not_le] at h
    refine c_seq ?_
    refine c_region ?_
    refine o_yield rfl rfl rfl (y_val tok rfl) ?_
    refine o_end [8] rfl ?_
    refine x_then ?_
    refine c_ret ?_
    refine x_then_ret ?_
    refine b_ret tok rfl ?_
    intro E w' hm _
    refine ⟨?_, hm.below (Vw.le.refl _)⟩
    rw [hv, if_pos (by omega)]; rfl
  ·
    simp only [Bool.and_eq_true, Bool.or_eq_true, Bool.not_eq_true', Bool.or_eq_false_iff, Bool.and_eq_false_iff, decide_eq_true_eq, decide_eq_false_iff_not, beq_iff_eq, bne_iff_ne, Bool.not_eq_false', beq_eq_false_iff_ne, bne_eq_false_iff_eq, ne_eq, Decidable.not_not, Int.not_lt, Int.not_le] at h
    refine c_skip ?_
    refine x_then ?_
    refine c_seq ?_
    refine c_region ?_
    refine o_yield rfl rfl rfl (y_val tok rfl) ?_
    refine o_yield rfl rfl rfl (y_val tok rfl) ?_
    refine o_yield rfl rfl rfl (y_val tok rfl) ?_
    refine o_yield rfl rfl rfl (y_val tok rfl) ?_
    refine o_yield rfl rfl rfl (y_val tok rfl) ?_
    refine o_yield rfl rfl rfl (y_val tok rfl) ?_
    refine o_yield rfl rfl rfl (y_val tok rfl) ?_
    refine o_yield rfl rfl rfl (y_val tok rfl) ?_
    have hik := prod_bound (a := i) (b := r.per) (A := m) (B := r.per) (by omega) (by omega) (by omega) (by omega)
    have h2 : i * r.per + r.per ≤ m * r.per := by
      have := Int.mul_le_mul_of_nonneg_right (show i + 1 ≤ m by omega) (show 0 ≤ r.per by omega)
      rw [Int.add_mul, Int.one_mul] at this
      exact this
    rw [wrapI (n := i * r.per) (by omega) (by omega), wrapI (n := i * r.per + k) (by omega) (by omega)]
    refine o_call (.a (.v _)) rfl rfl fnok246 rfl rfl rfl (fun hg E w1 hm => by exact stretchAt_c r.first r.many _ _) ?_
    refine o_yield rfl rfl rfl (y_val tok rfl) ?_
    refine o_end [8] rfl ?_
    refine x_then ?_
    refine c_ret ?_
    refine b_ret tok rfl ?_
    intro E w' hm _
    refine ⟨?_, hm.below (Vw.le.refl _)⟩
    rw [hv, if_neg (by omega), if_neg (by omega), wrapI (by omega) (by omega), Int.add_assoc]; rfl
end Go.Proofs.Ytflimioplnbopaa
