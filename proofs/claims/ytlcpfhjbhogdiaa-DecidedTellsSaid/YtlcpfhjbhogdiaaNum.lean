import Derived.Test.YtlcpfhjbhogdiaaMB
/- Numbers as bytes: widths, what fits, what stands somewhere. -/
set_option linter.unusedVariables false
set_option linter.unusedSimpArgs false
set_option maxRecDepth 100000
namespace Go.Proofs.Ytlcpfhjbhogdiaa
open Go Go.Eng Go.RowKit

def widthB (w : Int) : Bool := decide (1 ≤ w) && decide (w ≤ 6)

theorem widthMay_c (n : Int) (w : World) : Calls Try.prog 159 #[I n] w fun e w' => e = .returned (.bool (widthB n)) ∧ Below w.heap.size w w' := by
  refine enter (E := E0) (O := []) (nl := 0) (V := vw w) [.a (.v (I n))] Try.func159 rfl rfl (mem0 E0 0 w) rfl rfl ?_
  refine c_seq ?_
  refine c_region ?_
  refine o_yield rfl rfl rfl (y_val tok rfl) ?_
  refine o_end [0] rfl ?_
  refine x_then ?_
  refine c_seq ?_
  refine c_region ?_
  refine o_yield rfl rfl rfl (y_val tok rfl) ?_
  refine o_yield rfl rfl rfl (y_val tok rfl) ?_
  refine o_yield rfl rfl rfl (y_val tok rfl) ?_
  refine o_yield rfl rfl rfl (y_val tok rfl) ?_
  refine o_yield rfl rfl rfl (y_val tok rfl) ?_
  refine o_yield rfl rfl rfl (y_val tok rfl) ?_
  refine o_yield rfl rfl rfl (y_val tok rfl) ?_
  refine o_end [2] rfl ?_
  refine x_then ?_
  refine c_ret ?_
  refine b_ret tok rfl ?_
  intro E w' hm _
  exact ⟨rfl, hm.below (Vw.le.refl _)⟩

/-- The greatest number of a width. -/
def mostN (k : Nat) : Nat := min (256 ^ k - 1) 1099511627776

theorem width_cases {n : Int} (h : widthB n = true) : n = 1 ∨ n = 2 ∨ n = 3 ∨ n = 4 ∨ n = 5 ∨ n = 6 := by
  simp only [widthB, Bool.and_eq_true, decide_eq_true_eq] at h; omega

theorem most_eq {n : Int} (h : widthB n = true) : min (IntKind.i64.wrap (bits .xor .u64 18446744073709551615 (IntKind.u64.wrap (18446744073709551615 * 2 ^ (8 * n).toNat)))) 1099511627776 = (mostN n.toNat : Int) := by
  rcases width_cases h with rfl | rfl | rfl | rfl | rfl | rfl <;> decide +kernel

theorem widthMost_c (n : Int) (hn : widthB n = true) (w : World) : Calls Try.prog 176 #[I n] w fun e w' => e = .returned (I (mostN n.toNat)) ∧ Below w.heap.size w w' := by
  have h6 := hn
  simp only [widthB, Bool.and_eq_true, decide_eq_true_eq] at h6
  refine enter (E := E0) (O := []) (nl := 0) (V := vw w) [.a (.v (I n))] Try.func176 rfl rfl (mem0 E0 0 w) rfl rfl ?_
  refine c_seq ?_
  refine c_region ?_
  refine o_yield rfl rfl rfl (y_val tok rfl) ?_
  refine o_end [0] rfl ?_
  refine x_then ?_
  refine c_seq ?_
  refine c_region ?_
  refine o_yield rfl rfl rfl (y_val tok rfl) ?_
  refine o_yield rfl rfl rfl (y_val tok rfl) ?_
  refine o_yield rfl rfl rfl (y_val tok rfl) ?_
  rw [show IntKind.u64.wrap (8 * IntKind.u64.wrap n) = 8 * n by rw [IntKind.wrap_u64, IntKind.wrap_u64]; omega]
  refine o_yield rfl rfl rfl (y_shl rfl (fun hg => ⟨by omega, by show 8 * n ≤ 64; omega⟩)) ?_
  refine o_yield rfl rfl rfl (y_val tok rfl) ?_
  refine o_yield rfl rfl rfl (y_val tok rfl) ?_
  refine o_yield rfl rfl rfl (y_mm rfl) ?_
  refine o_yield rfl rfl rfl (y_val tok rfl) ?_
  refine o_end [2] rfl ?_
  refine x_then ?_
  refine c_ret ?_
  refine b_ret tok rfl ?_
  intro E w' hm _
  refine ⟨?_, hm.below (Vw.le.refl _)⟩
  show Ending.returned (I (min (IntKind.i64.wrap (bits .xor .u64 18446744073709551615 (IntKind.u64.wrap (18446744073709551615 * 2 ^ (8 * n).toNat)))) 1099511627776)) = _
  rw [most_eq hn]

def fitsB (n w : Int) : Bool := widthB w && decide (0 ≤ n) && decide (n ≤ mostN w.toNat)

theorem numFits_c (n k : Int) (w : World) : Calls Try.prog 163 #[I n, I k] w fun e w' => e = .returned (.bool (fitsB n k)) ∧ Below w.heap.size w w' := by
  refine enter (E := E0) (O := []) (nl := 0) (V := vw w) [.a (.v (I n)), .a (.v (I k))] Try.func163 rfl rfl (mem0 E0 0 w) rfl rfl ?_
  refine c_seq ?_
  refine c_region ?_
  refine o_yield rfl rfl rfl (y_val tok rfl) ?_
  refine o_end [0, 1] rfl ?_
  refine x_then ?_
  refine c_seq ?_
  refine c_region ?_
  refine o_yield rfl rfl rfl (y_val tok rfl) ?_
  refine o_call (.a (.v _)) rfl rfl fnok159 rfl rfl rfl (fun hg E w1 hm => by exact widthMay_c _ _) ?_
  refine o_yield rfl rfl rfl (y_val tok rfl) ?_
  refine o_yield rfl rfl rfl (y_val tok rfl) ?_
  refine o_yield rfl rfl rfl (y_val tok rfl) ?_
  refine o_yield rfl rfl rfl (y_val tok rfl) ?_
  refine o_yield rfl rfl rfl (y_val tok rfl) ?_
  refine o_yield rfl rfl rfl (y_val tok rfl) ?_
  refine o_yield rfl rfl rfl (y_val tok rfl) ?_
  refine o_call (.a (.v _)) rfl rfl fnok176 rfl rfl rfl (fun hg E w1 hm => by exact widthMost_c k (by simp at hg; exact hg.1) _) ?_
  refine o_yield rfl rfl rfl (y_val tok rfl) ?_
  refine o_yield rfl rfl rfl (y_val tok rfl) ?_
  refine o_yield rfl rfl rfl (y_val tok rfl) ?_
  refine o_end [4] rfl ?_
  refine x_then ?_
  refine c_ret ?_
  refine b_ret tok rfl ?_
  intro E w' hm _
  refine ⟨?_, hm.below (Vw.le.refl _)⟩
  rfl

/-- A width's greatest number; -1: it is none. -/
def mostI (k : Int) : Int := if widthB k = true then mostN k.toNat else -1

/-- A power of 256. -/
def pw (k : Nat) : Nat := 256 ^ k
theorem pw_succ (k : Nat) : pw (k + 1) = pw k * 256 := by simp [pw, Nat.pow_succ]
theorem pw_pos (k : Nat) : 1 ≤ pw k := Nat.pow_pos (by omega)
theorem pw_le {k m : Nat} (h : k ≤ m) : pw k ≤ pw m := Nat.pow_le_pow_right (by omega) h
theorem pw6 : pw 6 = 281474976710656 := by decide
theorem pw_le6 {k : Nat} (h : k ≤ 6) : pw k ≤ 281474976710656 := pw6 ▸ pw_le h

theorem refMost_c (k : Int) (w : World) : Calls Try.prog 156 #[I k] w fun e w' => e = .returned (I (mostI k)) ∧ Below w.heap.size w w' := by
  refine enter (E := E0) (O := []) (nl := 0) (V := vw w) [.a (.v (I k))] Try.func156 rfl rfl (mem0 E0 0 w) rfl rfl ?_
  refine c_seq ?_
  refine c_region ?_
  refine o_yield rfl rfl rfl (y_val tok rfl) ?_
  refine o_end [0] rfl ?_
  refine x_then ?_
  refine c_seq ?_
  refine c_seq ?_
  refine c_region ?_
  refine o_yield rfl rfl rfl (y_val tok rfl) ?_
  refine o_yield rfl rfl rfl (y_val tok rfl) ?_
  refine o_yield rfl rfl rfl (y_val tok rfl) ?_
  refine o_yield rfl rfl rfl (y_val tok rfl) ?_
  refine o_yield rfl rfl rfl (y_val tok rfl) ?_
  refine o_yield rfl rfl rfl (y_val tok rfl) ?_
  refine o_end [0, 10] rfl ?_
  refine x_then ?_
  refine c_cond rfl (fun h => ?_) (fun h => ?_)
  ·
    simp only [Bool.and_eq_true, Bool.or_eq_true, Bool.not_eq_true', Bool.or_eq_false_iff, Bool.and_eq_false_iff, decide_eq_true_eq, decide_eq_false_iff_not, beq_iff_eq, bne_iff_ne, Bool.not_eq_false', beq_eq_false_iff_ne, bne_eq_false_iff_eq, ne_eq, Decidable.not_not, Int.not_lt, Int.not_le] at h
    refine c_seq ?_
    refine c_region ?_
    refine o_yield rfl rfl rfl (y_val tok rfl) ?_
    refine o_end [2] rfl ?_
    refine x_then ?_
    refine c_ret ?_
    refine x_then_ret ?_
    refine b_ret tok rfl ?_
    intro E w' hm _
    refine ⟨?_, hm.below (Vw.le.refl _)⟩
    rw [mostI, if_neg (by simp [widthB]; omega)]
    rfl
  ·
    simp only [Bool.and_eq_true, Bool.or_eq_true, Bool.not_eq_true', Bool.or_eq_false_iff, Bool.and_eq_false_iff, decide_eq_true_eq, decide_eq_false_iff_not, beq_iff_eq, bne_iff_ne, Bool.not_eq_false', beq_eq_false_iff_ne, bne_eq_false_iff_eq, ne_eq, Decidable.not_not, Int.not_lt, Int.not_le] at h
    refine c_skip ?_
    refine x_then ?_
    refine c_seq ?_
    refine c_region ?_
    refine o_yield rfl rfl rfl (y_val tok rfl) ?_
    refine o_end [0, 3] rfl ?_
    refine x_then ?_
    refine c_seq ?_
    refine c_seq ?_
    refine c_region ?_
    refine o_yield rfl rfl rfl (y_val tok rfl) ?_
    refine o_end [0, 3, 4] rfl ?_
    refine x_then ?_
    refine c_block ?_
    obtain ⟨m, hm⟩ : ∃ m : Nat, k = m := ⟨k.toNat, by omega⟩
    subst hm
    refine c_loopK [0] [] rfl rfl (σ := Nat) (fun i => [(3, .a (.v (I (pw i)))), (4, .a (.v (I i)))]) (fun i => []) (fun i => i ≤ m) (fun i => m - i) (0) (by omega) (by repeat (first | exact SubF.nil | refine SubF.cons rfl ?_)) (by repeat (first | exact SubO.nil | refine SubO.cons rfl ?_)) rfl ?_
    rintro i hi
    refine c_seq ?_
    refine c_seq ?_
    refine c_region ?_
    refine o_yield rfl rfl rfl (y_val tok rfl) ?_
    refine o_yield rfl rfl rfl (y_val tok rfl) ?_
    refine o_yield rfl rfl rfl (y_val tok rfl) ?_
    refine o_end [0, 3, 4, 13] rfl ?_
    refine x_then ?_
    refine c_cond rfl (fun h => ?_) (fun h => ?_)
    ·
      simp only [Bool.and_eq_true, Bool.or_eq_true, Bool.not_eq_true', Bool.or_eq_false_iff, Bool.and_eq_false_iff, decide_eq_true_eq, decide_eq_false_iff_not, beq_iff_eq, bne_iff_ne, Bool.not_eq_false', beq_eq_false_iff_ne, bne_eq_false_iff_eq, ne_eq, Decidable.not_not, Int.not_lt, Int.not_le] at h
      refine c_skip ?_
      refine x_then ?_
      refine c_seq ?_
      refine c_block ?_
      refine c_region ?_
      refine o_yield rfl rfl rfl (y_val tok rfl) ?_
      refine o_yield rfl rfl rfl (y_val tok rfl) ?_
      refine o_yield rfl rfl rfl (y_val tok rfl) ?_
      refine o_end [0, 3, 4] rfl ?_
      refine x_block ?_
      refine x_then ?_
      refine c_region ?_
      refine o_yield rfl rfl rfl (y_val tok rfl) ?_
      refine o_yield rfl rfl rfl (y_val tok rfl) ?_
      refine o_yield rfl rfl rfl (y_val tok rfl) ?_
      refine o_end [0, 3, 4] rfl ?_
      refine x_then ?_
      have hp := pw_le6 (k := i) (by omega)
      rw [wrapI (n := (pw i : Int) * 256) (by omega) (by omega), wrapI (n := (i : Int) + 1) (by omega) (by omega), show (pw i : Int) * 256 = (pw (i + 1) : Int) by rw [pw_succ]; omega]
      refine x_round (i + 1) (by omega) (by first | omega | (dsimp only; omega)) (by repeat (first | exact SubF.nil | refine SubF.cons rfl ?_)) (by repeat (first | exact SubO.nil | refine SubO.cons rfl ?_)) rfl (Vw.le.refl _)
    ·
      simp only [Bool.and_eq_true, Bool.or_eq_true, Bool.not_eq_true', Bool.or_eq_false_iff, Bool.and_eq_false_iff, decide_eq_true_eq, decide_eq_false_iff_not, beq_iff_eq, bne_iff_ne, Bool.not_eq_false', beq_eq_false_iff_ne, bne_eq_false_iff_eq, ne_eq, Decidable.not_not, Int.not_lt, Int.not_le] at h
      refine c_exit ?_
      refine x_then_exit ?_
      refine x_then_exit ?_
      refine x_block_hit ?_
      refine x_then ?_
      refine c_seq ?_
      refine c_region ?_
      refine o_yield rfl rfl rfl (y_val tok rfl) ?_
      refine o_yield rfl rfl rfl (y_val tok rfl) ?_
      have him : i = m := by omega
      subst him
      have hp := pw_le6 (k := i) (by omega)
      have h1 := pw_pos i
      rw [wrapI (n := (pw i : Int) - 1) (by omega) (by omega)]
      refine o_yield rfl rfl rfl (y_mm rfl) ?_
      refine o_yield rfl rfl rfl (y_val tok rfl) ?_
      refine o_end [2] rfl ?_
      refine x_then ?_
      refine c_ret ?_
      refine b_ret tok rfl ?_
      intro E w' hm _
      refine ⟨?_, hm.below (Vw.le.refl _)⟩
      rw [mostI, if_pos (by simp [widthB]; omega), Int.toNat_natCast, mostN]
      show Ending.returned (I (min ((pw i : Int) - 1) 1099511627776)) = _
      rw [show min ((pw i : Int) - 1) 1099511627776 = ((min (pw i - 1) 1099511627776 : Nat) : Int) by omega]
      rfl

theorem refFits_c (n k : Int) (w : World) : Calls Try.prog 157 #[I n, I k] w fun e w' => e = .returned (.bool (fitsB n k)) ∧ Below w.heap.size w w' := by
  refine enter (E := E0) (O := []) (nl := 0) (V := vw w) [.a (.v (I n)), .a (.v (I k))] Try.func157 rfl rfl (mem0 E0 0 w) rfl rfl ?_
  refine c_seq ?_
  refine c_region ?_
  refine o_yield rfl rfl rfl (y_val tok rfl) ?_
  refine o_end [0, 1] rfl ?_
  refine x_then ?_
  refine c_seq ?_
  refine c_region ?_
  refine o_yield rfl rfl rfl (y_val tok rfl) ?_
  refine o_yield rfl rfl rfl (y_val tok rfl) ?_
  refine o_yield rfl rfl rfl (y_val tok rfl) ?_
  refine o_yield rfl rfl rfl (y_val tok rfl) ?_
  refine o_yield rfl rfl rfl (y_val tok rfl) ?_
  refine o_call (.a (.v _)) rfl rfl fnok156 rfl rfl rfl (fun hg E w1 hm => by exact refMost_c _ _) ?_
  refine o_yield rfl rfl rfl (y_val tok rfl) ?_
  refine o_yield rfl rfl rfl (y_val tok rfl) ?_
  refine o_yield rfl rfl rfl (y_val tok rfl) ?_
  refine o_end [4] rfl ?_
  refine x_then ?_
  refine c_ret ?_
  refine b_ret tok rfl ?_
  intro E w' hm _
  refine ⟨?_, hm.below (Vw.le.refl _)⟩
  show Ending.returned (.bool (decide (0 ≤ n) && decide (n ≤ mostI k))) = _
  congr 2
  unfold mostI fitsB
  cases hw : widthB k with
  | true => simp
  | false => simp; omega

/-- Digits to the base of 256, the least first. -/
def leTo (f : Nat → Nat) : Nat → Nat
  | 0 => 0
  | k + 1 => leTo f k + f k * pw k

theorem leTo_lt {f : Nat → Nat} (hf : ∀ j, f j < 256) : ∀ k, leTo f k < pw k
  | 0 => by simp [leTo, pw]
  | k + 1 => by
    have h1 := leTo_lt hf k
    have h2 : f k * pw k ≤ 255 * pw k := Nat.mul_le_mul_right _ (by have := hf k; omega)
    rw [leTo, pw_succ]; omega

theorem pw_two (k : Nat) : pw k = 2 ^ (8 * k) := by rw [pw, Nat.pow_mul]

theorem or_add {x y k : Nat} (hx : x < pw k) : x ||| y * pw k = x + y * pw k := by
  rw [pw_two] at hx ⊢
  rw [Nat.or_comm, nat_join (8 * k) (y * 2 ^ (8 * k)) x (Nat.mul_mod_left _ _) hx, Nat.add_comm]

def digit (s : ByteArray) (at_ j : Nat) : Nat := (byteAt s (at_ + j)).toNat

theorem digit_lt (s : ByteArray) (at_ j : Nat) : digit s at_ j < 256 := UInt8.toNat_lt _

/-- The number that stands at a place, or why there is none. -/
def getSpec (s : ByteArray) (at_ k : Int) : Int × Int :=
  if widthB k = false then (0, 2)
  else if at_ < 0 ∨ (s.size : Int) < at_ ∨ (s.size : Int) - at_ < k then (0, 10)
  else if 1099511627776 < leTo (digit s at_.toNat) k.toNat then (0, 10)
  else ((leTo (digit s at_.toNat) k.toNat : Nat), 0)

theorem numGet_c (s : ByteArray) (at_ k : Int) (hs : s.size ≤ maxLen) (w : World) : Calls Try.prog 127 #[S s, I at_, I k] w fun e w' => e = .returned (.tuple #[I (getSpec s at_ k).1, I (getSpec s at_ k).2]) ∧ Below w.heap.size w w' := by
  simp only [maxLen] at hs
  refine enter (E := E0) (O := []) (nl := 0) (V := vw w) [.a (.v (S s)), .a (.v (I at_)), .a (.v (I k))] Try.func127 rfl rfl (mem0 E0 0 w) rfl rfl ?_
  refine c_seq ?_
  refine c_region ?_
  refine o_yield rfl rfl rfl (y_val tok rfl) ?_
  refine o_yield rfl rfl rfl (y_val tok rfl) ?_
  refine o_end [0, 1, 2, 6] rfl ?_
  refine x_then ?_
  refine c_seq ?_
  refine c_block ?_
  refine c_seq ?_
  refine c_region ?_
  refine o_yield rfl rfl rfl (y_val tok rfl) ?_
  refine o_call (.a (.v _)) rfl rfl fnok159 rfl rfl rfl (fun hg E w1 hm => by exact widthMay_c _ _) ?_
  refine o_yield rfl rfl rfl (y_val tok rfl) ?_
  refine o_yield rfl rfl rfl (y_val tok rfl) ?_
  refine o_end [0, 1, 2, 6, 9] rfl ?_
  refine x_then ?_
  refine c_cond rfl (fun h => ?_) (fun h => ?_)
  ·
    simp only [Bool.and_eq_true, Bool.or_eq_true, Bool.not_eq_true', Bool.or_eq_false_iff, Bool.and_eq_false_iff, decide_eq_true_eq, decide_eq_false_iff_not, beq_iff_eq, bne_iff_ne, Bool.not_eq_false', beq_eq_false_iff_ne, bne_eq_false_iff_eq, ne_eq, Decidable.not_not, Int.not_lt, Int.not_le] at h
    refine c_seq ?_
    refine c_region ?_
    refine o_yield rfl rfl rfl (y_val tok rfl) ?_
    refine o_yield rfl rfl rfl (y_val tok rfl) ?_
    refine o_end [6, 7] rfl ?_
    refine x_then ?_
    refine c_ret ?_
    refine x_block_ret ?_
    refine x_then_ret ?_
    refine b_ret tok rfl ?_
    intro E w' hm _
    refine ⟨?_, hm.below (Vw.le.refl _)⟩
    rw [getSpec, if_pos h]
    rfl
  ·
    simp only [Bool.and_eq_true, Bool.or_eq_true, Bool.not_eq_true', Bool.or_eq_false_iff, Bool.and_eq_false_iff, decide_eq_true_eq, decide_eq_false_iff_not, beq_iff_eq, bne_iff_ne, Bool.not_eq_false', beq_eq_false_iff_ne, bne_eq_false_iff_eq, ne_eq, Decidable.not_not, Int.not_lt, Int.not_le] at h
    have hw := h
    have hwr : ¬ at_ < 0 → ¬ (s.size : Int) < at_ → IntKind.i64.wrap ((s.size : Int) - at_) = (s.size : Int) - at_ := fun h1 h2 => wrapI (by omega) (by omega)
    refine c_seq ?_
    refine c_region ?_
    refine o_yield rfl rfl rfl (y_val tok rfl) ?_
    refine o_yield rfl rfl rfl (y_val tok rfl) ?_
    refine o_yield rfl rfl rfl (y_val tok rfl) ?_
    refine o_yield rfl rfl rfl (y_val tok rfl) ?_
    refine o_yield rfl rfl rfl (y_val tok rfl) ?_
    refine o_yield rfl rfl rfl (y_val tok rfl) ?_
    refine o_yield rfl rfl rfl (y_val tok rfl) ?_
    refine o_yield rfl rfl rfl (y_val tok rfl) ?_
    refine o_yield rfl rfl rfl (y_val tok rfl) ?_
    refine o_yield rfl rfl rfl (y_val tok rfl) ?_
    refine o_yield rfl rfl rfl (y_val tok rfl) ?_
    refine o_yield rfl rfl rfl (y_val tok rfl) ?_
    refine o_yield rfl rfl rfl (y_val tok rfl) ?_
    refine o_yield rfl rfl rfl (y_val tok rfl) ?_
    refine o_yield rfl rfl rfl (y_val tok rfl) ?_
    refine o_yield rfl rfl rfl (y_val tok rfl) ?_
    refine o_yield rfl rfl rfl (y_val tok rfl) ?_
    refine o_end [0, 1, 2, 6, 13] rfl ?_
    refine x_then ?_
    refine c_cond rfl (fun h => ?_) (fun h => ?_)
    ·
      simp only [Bool.and_eq_true, Bool.or_eq_true, Bool.not_eq_true', Bool.or_eq_false_iff, Bool.and_eq_false_iff, decide_eq_true_eq, decide_eq_false_iff_not, beq_iff_eq, bne_iff_ne, Bool.not_eq_false', beq_eq_false_iff_ne, bne_eq_false_iff_eq, ne_eq, Decidable.not_not, Int.not_lt, Int.not_le] at h
      refine c_seq ?_
      refine c_region ?_
      refine o_yield rfl rfl rfl (y_val tok rfl) ?_
      refine o_yield rfl rfl rfl (y_val tok rfl) ?_
      refine o_end [6, 7] rfl ?_
      refine x_then ?_
      refine c_ret ?_
      refine x_block_ret ?_
      refine x_then_ret ?_
      refine b_ret tok rfl ?_
      intro E w' hm _
      refine ⟨?_, hm.below (Vw.le.refl _)⟩
      rw [getSpec, if_neg (by simp [hw]), if_pos (by
        by_cases h1 : at_ < 0
        · exact .inl h1
        · by_cases h2 : (s.size : Int) < at_
          · exact .inr (.inl h2)
          · rw [hwr h1 h2] at h; omega)]
      rfl
    ·
      simp only [Bool.and_eq_true, Bool.or_eq_true, Bool.not_eq_true', Bool.or_eq_false_iff, Bool.and_eq_false_iff, decide_eq_true_eq, decide_eq_false_iff_not, beq_iff_eq, bne_iff_ne, Bool.not_eq_false', beq_eq_false_iff_ne, bne_eq_false_iff_eq, ne_eq, Decidable.not_not, Int.not_lt, Int.not_le] at h
      refine c_skip ?_
      refine x_block ?_
      refine x_then ?_
      refine c_seq ?_
      refine c_seq ?_
      refine c_region ?_
      refine o_yield rfl rfl rfl (y_val tok rfl) ?_
      refine o_yield rfl rfl rfl (y_val tok rfl) ?_
      refine o_end [0, 1, 6, 30, 31] rfl ?_
      refine x_then ?_
      refine c_block ?_
      rw [hwr (by omega) (by omega)] at h
      have hk := hw
      simp only [widthB, Bool.and_eq_true, decide_eq_true_eq] at hk
      obtain ⟨m, hm⟩ : ∃ m : Nat, k = m := ⟨k.toNat, by omega⟩
      obtain ⟨b, hb⟩ : ∃ b : Nat, at_ = b := ⟨at_.toNat, by omega⟩
      subst hm hb
      have hlt := leTo_lt (digit_lt s b)
      refine c_loopK [0, 1, 30] [] rfl rfl (σ := Nat) (fun i => [(6, .a (.v (I (leTo (digit s b) i)))), (31, .a (.v (I i)))]) (fun i => []) (fun i => i ≤ m) (fun i => m - i) (0) (by omega) (by repeat (first | exact SubF.nil | refine SubF.cons rfl ?_)) (by repeat (first | exact SubO.nil | refine SubO.cons rfl ?_)) rfl ?_
      rintro i hi
      refine c_seq ?_
      refine c_region ?_
      refine o_yield rfl rfl rfl (y_val tok rfl) ?_
      refine o_end [0, 1, 6, 30, 31, 32] rfl ?_
      refine x_then ?_
      refine c_seq ?_
      refine c_cond rfl (fun h => ?_) (fun h => ?_)
      ·
        simp only [Bool.and_eq_true, Bool.or_eq_true, Bool.not_eq_true', Bool.or_eq_false_iff, Bool.and_eq_false_iff, decide_eq_true_eq, decide_eq_false_iff_not, beq_iff_eq, bne_iff_ne, Bool.not_eq_false', beq_eq_false_iff_ne, bne_eq_false_iff_eq, ne_eq, Decidable.not_not, Int.not_lt, Int.not_le] at h
        refine c_skip ?_
        refine x_then ?_
        refine c_seq ?_
        refine c_block ?_
        refine c_seq ?_
        refine c_region ?_
        refine o_yield rfl rfl rfl (y_val tok rfl) ?_
        refine o_yield rfl rfl rfl (y_val tok rfl) ?_
        refine o_end [0, 1, 6, 8, 30, 31] rfl ?_
        refine x_then ?_
        refine c_region ?_
        refine o_yield rfl rfl rfl (y_val tok rfl) ?_
        refine o_yield rfl rfl rfl (y_val tok rfl) ?_
        refine o_yield rfl rfl rfl (y_val tok rfl) ?_
        refine o_yield rfl rfl rfl (y_val tok rfl) ?_
        refine o_yield rfl rfl rfl (y_val tok rfl) ?_
        have h1 := hlt i
        have h2 := pw_le6 (k := i + 1) (by omega)
        rw [pw_succ] at h2
        have h3 := digit_lt s b i
        rw [wrapI (n := (b : Int) + i) (by omega) (by omega)]
        refine o_yield rfl rfl rfl (y_si tok rfl (fun hg => by omega)) ?_
        refine o_yield rfl rfl rfl (y_val tok rfl) ?_
        refine o_yield rfl rfl rfl (y_val tok rfl) ?_
        refine o_yield rfl rfl rfl (y_val tok rfl) ?_
        rw [wrapI (n := 8 * (i : Int)) (by omega) (by omega)]
        refine o_yield rfl rfl rfl (y_shl rfl (fun hg => ⟨by omega, by show 8 * (i : Int) ≤ 64; omega⟩)) ?_
        refine o_yield rfl rfl rfl (y_val tok rfl) ?_
        refine o_yield rfl rfl rfl (y_val tok rfl) ?_
        refine o_end [0, 1, 6, 30, 31] rfl ?_
        refine x_block ?_
        refine x_then ?_
        refine c_region ?_
        refine o_yield rfl rfl rfl (y_val tok rfl) ?_
        refine o_yield rfl rfl rfl (y_val tok rfl) ?_
        refine o_end [0, 1, 6, 30, 31] rfl ?_
        refine x_then ?_
        have e : bits .or .i64 (leTo (digit s b) i : Nat) (IntKind.i64.wrap (IntKind.i64.wrap (((byteAt s ((b : Int) + i).toNat).toNat : Nat) : Int) * 2 ^ (8 * (i : Int)).toNat)) = ((leTo (digit s b) (i + 1) : Nat) : Int) := by
          have h4 : digit s b i * pw i ≤ 255 * pw i := Nat.mul_le_mul_right _ (by omega)
          have h5 : ((byteAt s ((b : Int) + i).toNat).toNat : Nat) = digit s b i := by
            rw [show ((b : Int) + i).toNat = b + i by omega]; rfl
          rw [h5, show (8 * (i : Int)).toNat = 8 * i by omega, wrapI (n := ((digit s b i : Nat) : Int)) (by omega) (by omega), show (2 : Int) ^ (8 * i) = ((pw i : Nat) : Int) by rw [pw_two]; simp, ← Int.natCast_mul,
            wrapI (by omega) (by omega), i64_or _ _ (by omega) (by omega), or_add h1, leTo]
        rw [e, wrapI (n := (i : Int) + 1) (by omega) (by omega)]
        refine x_round (i + 1) (by omega) (by first | omega | (dsimp only; omega)) (by repeat (first | exact SubF.nil | refine SubF.cons rfl ?_)) (by repeat (first | exact SubO.nil | refine SubO.cons rfl ?_)) rfl (Vw.le.refl _)
      ·
        simp only [Bool.and_eq_true, Bool.or_eq_true, Bool.not_eq_true', Bool.or_eq_false_iff, Bool.and_eq_false_iff, decide_eq_true_eq, decide_eq_false_iff_not, beq_iff_eq, bne_iff_ne, Bool.not_eq_false', beq_eq_false_iff_ne, bne_eq_false_iff_eq, ne_eq, Decidable.not_not, Int.not_lt, Int.not_le] at h
        have him : i = m := by omega
        subst him
        refine c_exit ?_
        refine x_then_exit ?_
        refine x_then_exit ?_
        refine x_block_hit ?_
        refine x_then ?_
        refine c_seq ?_
        refine c_seq ?_
        refine c_region ?_
        refine o_yield rfl rfl rfl (y_val tok rfl) ?_
        refine o_yield rfl rfl rfl (y_val tok rfl) ?_
        refine o_end [6, 47] rfl ?_
        refine x_then ?_
        refine c_cond rfl (fun h => ?_) (fun h => ?_)
        ·
          simp only [Bool.and_eq_true, Bool.or_eq_true, Bool.not_eq_true', Bool.or_eq_false_iff, Bool.and_eq_false_iff, decide_eq_true_eq, decide_eq_false_iff_not, beq_iff_eq, bne_iff_ne, Bool.not_eq_false', beq_eq_false_iff_ne, bne_eq_false_iff_eq, ne_eq, Decidable.not_not, Int.not_lt, Int.not_le] at h
          refine c_seq ?_
          refine c_region ?_
          refine o_yield rfl rfl rfl (y_val tok rfl) ?_
          refine o_yield rfl rfl rfl (y_val tok rfl) ?_
          refine o_end [6, 7] rfl ?_
          refine x_then ?_
          refine c_ret ?_
          refine x_then_ret ?_
          refine b_ret tok rfl ?_
          intro E w' hm _
          refine ⟨?_, hm.below (Vw.le.refl _)⟩
          rw [getSpec, if_neg (by simp [hw]), if_neg (by omega), if_pos (by simp only [Int.toNat_natCast]; omega)]
          rfl
        ·
          simp only [Bool.and_eq_true, Bool.or_eq_true, Bool.not_eq_true', Bool.or_eq_false_iff, Bool.and_eq_false_iff, decide_eq_true_eq, decide_eq_false_iff_not, beq_iff_eq, bne_iff_ne, Bool.not_eq_false', beq_eq_false_iff_ne, bne_eq_false_iff_eq, ne_eq, Decidable.not_not, Int.not_lt, Int.not_le] at h
          refine c_skip ?_
          refine x_then ?_
          refine c_seq ?_
          refine c_region ?_
          refine o_yield rfl rfl rfl (y_val tok rfl) ?_
          refine o_yield rfl rfl rfl (y_val tok rfl) ?_
          refine o_yield rfl rfl rfl (y_val tok rfl) ?_
          refine o_end [6, 7] rfl ?_
          refine x_then ?_
          refine c_ret ?_
          refine b_ret tok rfl ?_
          intro E w' hm _
          refine ⟨?_, hm.below (Vw.le.refl _)⟩
          rw [getSpec, if_neg (by simp [hw]), if_neg (by omega), if_neg (by simp only [Int.toNat_natCast]; omega)]
          simp only [Int.toNat_natCast]
          rfl

theorem refGet_c (s : ByteArray) (at_ k : Int) (hs : s.size ≤ maxLen) (w : World) : Calls Try.prog 130 #[S s, I at_, I k] w fun e w' => e = .returned (.tuple #[I (getSpec s at_ k).1, I (getSpec s at_ k).2]) ∧ Below w.heap.size w w' := by
  simp only [maxLen] at hs
  refine enter (E := E0) (O := []) (nl := 0) (V := vw w) [.a (.v (S s)), .a (.v (I at_)), .a (.v (I k))] Try.func130 rfl rfl (mem0 E0 0 w) rfl rfl ?_
  refine c_seq ?_
  refine c_region ?_
  refine o_yield rfl rfl rfl (y_val tok rfl) ?_
  refine o_yield rfl rfl rfl (y_val tok rfl) ?_
  refine o_end [0, 1, 2] rfl ?_
  refine x_then ?_
  refine c_seq ?_
  refine c_seq ?_
  refine c_region ?_
  refine o_yield rfl rfl rfl (y_val tok rfl) ?_
  refine o_call (.a (.v _)) rfl rfl fnok156 rfl rfl rfl (fun hg E w1 hm => by exact refMost_c _ _) ?_
  refine o_yield rfl rfl rfl (y_val tok rfl) ?_
  refine o_end [0, 1, 2, 12] rfl ?_
  refine x_then ?_
  refine c_cond rfl (fun h => ?_) (fun h => ?_)
  ·
    simp only [Bool.and_eq_true, Bool.or_eq_true, Bool.not_eq_true', Bool.or_eq_false_iff, Bool.and_eq_false_iff, decide_eq_true_eq, decide_eq_false_iff_not, beq_iff_eq, bne_iff_ne, Bool.not_eq_false', beq_eq_false_iff_ne, bne_eq_false_iff_eq, ne_eq, Decidable.not_not, Int.not_lt, Int.not_le] at h
    refine c_seq ?_
    refine c_region ?_
    refine o_yield rfl rfl rfl (y_val tok rfl) ?_
    refine o_yield rfl rfl rfl (y_val tok rfl) ?_
    refine o_end [6, 7] rfl ?_
    refine x_then ?_
    refine c_ret ?_
    refine x_then_ret ?_
    refine b_ret tok rfl ?_
    intro E w' hm _
    refine ⟨?_, hm.below (Vw.le.refl _)⟩
    have hw : widthB k = false := by
      cases hq : widthB k with
      | false => rfl
      | true => rw [mostI, if_pos hq] at h; omega
    rw [getSpec, if_pos hw]
    rfl
  ·
    simp only [Bool.and_eq_true, Bool.or_eq_true, Bool.not_eq_true', Bool.or_eq_false_iff, Bool.and_eq_false_iff, decide_eq_true_eq, decide_eq_false_iff_not, beq_iff_eq, bne_iff_ne, Bool.not_eq_false', beq_eq_false_iff_ne, bne_eq_false_iff_eq, ne_eq, Decidable.not_not, Int.not_lt, Int.not_le] at h
    have hw : widthB k = true := by
      cases hq : widthB k with
      | true => rfl
      | false => rw [mostI, if_neg (by simp [hq])] at h; omega
    have hwr : ¬ at_ < 0 → ¬ (s.size : Int) < at_ → IntKind.i64.wrap ((s.size : Int) - at_) = (s.size : Int) - at_ := fun h1 h2 => wrapI (by omega) (by omega)
    refine c_skip ?_
    refine x_then ?_
    refine c_seq ?_
    refine c_seq ?_
    refine c_region ?_
    refine o_yield rfl rfl rfl (y_val tok rfl) ?_
    refine o_yield rfl rfl rfl (y_val tok rfl) ?_
    refine o_yield rfl rfl rfl (y_val tok rfl) ?_
    refine o_yield rfl rfl rfl (y_val tok rfl) ?_
    refine o_yield rfl rfl rfl (y_val tok rfl) ?_
    refine o_yield rfl rfl rfl (y_val tok rfl) ?_
    refine o_yield rfl rfl rfl (y_val tok rfl) ?_
    refine o_yield rfl rfl rfl (y_val tok rfl) ?_
    refine o_yield rfl rfl rfl (y_val tok rfl) ?_
    refine o_yield rfl rfl rfl (y_val tok rfl) ?_
    refine o_yield rfl rfl rfl (y_val tok rfl) ?_
    refine o_yield rfl rfl rfl (y_val tok rfl) ?_
    refine o_yield rfl rfl rfl (y_val tok rfl) ?_
    refine o_yield rfl rfl rfl (y_val tok rfl) ?_
    refine o_yield rfl rfl rfl (y_val tok rfl) ?_
    refine o_yield rfl rfl rfl (y_val tok rfl) ?_
    refine o_end [0, 1, 2, 28] rfl ?_
    refine x_then ?_
    refine c_cond rfl (fun h => ?_) (fun h => ?_)
    ·
      simp only [Bool.and_eq_true, Bool.or_eq_true, Bool.not_eq_true', Bool.or_eq_false_iff, Bool.and_eq_false_iff, decide_eq_true_eq, decide_eq_false_iff_not, beq_iff_eq, bne_iff_ne, Bool.not_eq_false', beq_eq_false_iff_ne, bne_eq_false_iff_eq, ne_eq, Decidable.not_not, Int.not_lt, Int.not_le] at h
      refine c_seq ?_
      refine c_region ?_
      refine o_yield rfl rfl rfl (y_val tok rfl) ?_
      refine o_yield rfl rfl rfl (y_val tok rfl) ?_
      refine o_end [6, 7] rfl ?_
      refine x_then ?_
      refine c_ret ?_
      refine x_then_ret ?_
      refine b_ret tok rfl ?_
      intro E w' hm _
      refine ⟨?_, hm.below (Vw.le.refl _)⟩
      rw [getSpec, if_neg (by simp [hw]), if_pos (by
        by_cases h1 : at_ < 0
        · exact .inl h1
        · by_cases h2 : (s.size : Int) < at_
          · exact .inr (.inl h2)
          · rw [hwr h1 h2] at h; omega)]
      rfl
    ·
      simp only [Bool.and_eq_true, Bool.or_eq_true, Bool.not_eq_true', Bool.or_eq_false_iff, Bool.and_eq_false_iff, decide_eq_true_eq, decide_eq_false_iff_not, beq_iff_eq, bne_iff_ne, Bool.not_eq_false', beq_eq_false_iff_ne, bne_eq_false_iff_eq, ne_eq, Decidable.not_not, Int.not_lt, Int.not_le] at h
      refine c_skip ?_
      refine x_then ?_
      refine c_seq ?_
      refine c_region ?_
      refine o_yield rfl rfl rfl (y_val tok rfl) ?_
      refine o_end [0, 1, 2, 8] rfl ?_
      refine x_then ?_
      refine c_seq ?_
      refine c_seq ?_
      refine c_region ?_
      refine o_yield rfl rfl rfl (y_val tok rfl) ?_
      refine o_yield rfl rfl rfl (y_val tok rfl) ?_
      refine o_yield rfl rfl rfl (y_val tok rfl) ?_
      refine o_end [0, 1, 8, 9] rfl ?_
      refine x_then ?_
      refine c_block ?_
      rw [hwr (by omega) (by omega)] at h
      have hk := hw
      simp only [widthB, Bool.and_eq_true, decide_eq_true_eq] at hk
      obtain ⟨m, hm⟩ : ∃ m : Nat, k = m := ⟨k.toNat, by omega⟩
      obtain ⟨b, hb⟩ : ∃ b : Nat, at_ = b := ⟨at_.toNat, by omega⟩
      subst hm hb
      have hlt := leTo_lt (digit_lt s b)
      rw [wrapI (n := (m : Int) - 1) (by omega) (by omega)]
      refine c_loopK [0, 1] [] rfl rfl (σ := Nat × Nat) (fun (i, q) => [(8, .a (.v (I q))), (9, .a (.v (I ((i : Int) - 1))))]) (fun (i, q) => []) (fun (i, q) => i ≤ m ∧ q * pw i + leTo (digit s b) i = leTo (digit s b) m ∧ q ≤ 281474976710656) (fun (i, q) => i) ((m, 0)) (⟨by omega, by omega, by omega⟩) (by repeat (first | exact SubF.nil | refine SubF.cons rfl ?_)) (by repeat (first | exact SubO.nil | refine SubO.cons rfl ?_)) rfl ?_
      rintro ⟨i, q⟩ ⟨hi, hq, hq2⟩
      refine c_seq ?_
      refine c_seq ?_
      refine c_region ?_
      refine o_yield rfl rfl rfl (y_val tok rfl) ?_
      refine o_yield rfl rfl rfl (y_val tok rfl) ?_
      refine o_end [0, 1, 8, 9, 32] rfl ?_
      refine x_then ?_
      refine c_cond rfl (fun h => ?_) (fun h => ?_)
      ·
        simp only [Bool.and_eq_true, Bool.or_eq_true, Bool.not_eq_true', Bool.or_eq_false_iff, Bool.and_eq_false_iff, decide_eq_true_eq, decide_eq_false_iff_not, beq_iff_eq, bne_iff_ne, Bool.not_eq_false', beq_eq_false_iff_ne, bne_eq_false_iff_eq, ne_eq, Decidable.not_not, Int.not_lt, Int.not_le] at h
        refine c_skip ?_
        refine x_then ?_
        refine c_seq ?_
        refine c_block ?_
        refine c_region ?_
        refine o_yield rfl rfl rfl (y_val tok rfl) ?_
        refine o_yield rfl rfl rfl (y_val tok rfl) ?_
        refine o_yield rfl rfl rfl (y_val tok rfl) ?_
        refine o_yield rfl rfl rfl (y_val tok rfl) ?_
        refine o_yield rfl rfl rfl (y_val tok rfl) ?_
        refine o_yield rfl rfl rfl (y_val tok rfl) ?_
        obtain ⟨j, rfl⟩ : ∃ j, i = j + 1 := ⟨i - 1, by omega⟩
        have h1 := hlt m
        have h2 := pw_le6 (k := m) (by omega)
        have h3 := digit_lt s b j
        have h4 := pw_pos (j + 1)
        rw [wrapI (n := (q : Int) * 256) (by omega) (by omega), show ((j + 1 : Nat) : Int) - 1 = j by omega, wrapI (n := (b : Int) + j) (by omega) (by omega)]
        refine o_yield rfl rfl rfl (y_si tok rfl (fun hg => by omega)) ?_
        refine o_yield rfl rfl rfl (y_val tok rfl) ?_
        refine o_yield rfl rfl rfl (y_val tok rfl) ?_
        refine o_yield rfl rfl rfl (y_val tok rfl) ?_
        refine o_end [0, 1, 8, 9] rfl ?_
        refine x_block ?_
        refine x_then ?_
        refine c_region ?_
        refine o_yield rfl rfl rfl (y_val tok rfl) ?_
        refine o_yield rfl rfl rfl (y_val tok rfl) ?_
        refine o_yield rfl rfl rfl (y_val tok rfl) ?_
        refine o_end [0, 1, 8, 9] rfl ?_
        refine x_then ?_
        have hnew : (q * 256 + digit s b j) * pw j + leTo (digit s b) j = leTo (digit s b) m := by
          rw [← hq, pw_succ, leTo, Nat.add_mul, Nat.mul_assoc, Nat.mul_comm 256 (pw j)]; omega
        have hle : q * 256 + digit s b j ≤ (q * 256 + digit s b j) * pw j := Nat.le_mul_of_pos_right _ (pw_pos j)
        have e : IntKind.i64.wrap (((q : Int) * 256) + IntKind.i64.wrap (((byteAt s ((b : Int) + j).toNat).toNat : Nat) : Int)) = ((q * 256 + digit s b j : Nat) : Int) := by
          rw [show ((byteAt s ((b : Int) + j).toNat).toNat : Nat) = digit s b j by rw [show ((b : Int) + j).toNat = b + j by omega]; rfl, wrapI (n := ((digit s b j : Nat) : Int)) (by omega) (by omega), wrapI (by omega) (by omega)]
          omega
        rw [e, wrapI (n := (j : Int) - 1) (by omega) (by omega)]
        refine x_round ((j, q * 256 + digit s b j)) (⟨by omega, hnew, by omega⟩) (by first | omega | (dsimp only; omega)) (by repeat (first | exact SubF.nil | refine SubF.cons rfl ?_)) (by repeat (first | exact SubO.nil | refine SubO.cons rfl ?_)) rfl (Vw.le.refl _)
      ·
        simp only [Bool.and_eq_true, Bool.or_eq_true, Bool.not_eq_true', Bool.or_eq_false_iff, Bool.and_eq_false_iff, decide_eq_true_eq, decide_eq_false_iff_not, beq_iff_eq, bne_iff_ne, Bool.not_eq_false', beq_eq_false_iff_ne, bne_eq_false_iff_eq, ne_eq, Decidable.not_not, Int.not_lt, Int.not_le] at h
        have hi0 : i = 0 := by omega
        subst hi0
        have hqq : q = leTo (digit s b) m := by simpa [leTo, pw] using hq
        subst hqq
        refine c_exit ?_
        refine x_then_exit ?_
        refine x_then_exit ?_
        refine x_block_hit ?_
        refine x_then ?_
        refine c_seq ?_
        refine c_seq ?_
        refine c_region ?_
        refine o_yield rfl rfl rfl (y_val tok rfl) ?_
        refine o_yield rfl rfl rfl (y_val tok rfl) ?_
        refine o_end [8, 45] rfl ?_
        refine x_then ?_
        refine c_cond rfl (fun h => ?_) (fun h => ?_)
        ·
          simp only [Bool.and_eq_true, Bool.or_eq_true, Bool.not_eq_true', Bool.or_eq_false_iff, Bool.and_eq_false_iff, decide_eq_true_eq, decide_eq_false_iff_not, beq_iff_eq, bne_iff_ne, Bool.not_eq_false', beq_eq_false_iff_ne, bne_eq_false_iff_eq, ne_eq, Decidable.not_not, Int.not_lt, Int.not_le] at h
          refine c_seq ?_
          refine c_region ?_
          refine o_yield rfl rfl rfl (y_val tok rfl) ?_
          refine o_yield rfl rfl rfl (y_val tok rfl) ?_
          refine o_end [6, 7] rfl ?_
          refine x_then ?_
          refine c_ret ?_
          refine x_then_ret ?_
          refine b_ret tok rfl ?_
          intro E w' hm _
          refine ⟨?_, hm.below (Vw.le.refl _)⟩
          rw [getSpec, if_neg (by simp [hw]), if_neg (by omega), if_pos (by simp only [Int.toNat_natCast]; omega)]
          rfl
        ·
          simp only [Bool.and_eq_true, Bool.or_eq_true, Bool.not_eq_true', Bool.or_eq_false_iff, Bool.and_eq_false_iff, decide_eq_true_eq, decide_eq_false_iff_not, beq_iff_eq, bne_iff_ne, Bool.not_eq_false', beq_eq_false_iff_ne, bne_eq_false_iff_eq, ne_eq, Decidable.not_not, Int.not_lt, Int.not_le] at h
          refine c_skip ?_
          refine x_then ?_
          refine c_seq ?_
          refine c_region ?_
          refine o_yield rfl rfl rfl (y_val tok rfl) ?_
          refine o_yield rfl rfl rfl (y_val tok rfl) ?_
          refine o_yield rfl rfl rfl (y_val tok rfl) ?_
          refine o_end [6, 7] rfl ?_
          refine x_then ?_
          refine c_ret ?_
          refine b_ret tok rfl ?_
          intro E w' hm _
          refine ⟨?_, hm.below (Vw.le.refl _)⟩
          rw [getSpec, if_neg (by simp [hw]), if_neg (by omega), if_neg (by simp only [Int.toNat_natCast]; omega)]
          simp only [Int.toNat_natCast]
          rfl
end Go.Proofs.Ytlcpfhjbhogdiaa
