import Derived.Test.YtlcpfhjbhogdiaaNum
/- Sums of bytes: the program's table and the document's steps. -/
set_option linter.unusedVariables false
set_option linter.unusedSimpArgs false
set_option maxRecDepth 100000
namespace Go.Proofs.Ytlcpfhjbhogdiaa
open Go Go.Eng Go.RowKit

def crcStep (x : Nat) : Nat := if x % 2 = 1 then x / 2 ^^^ 2197175160 else x / 2

theorem half_lt {x : Nat} (h : x < 4294967296) : x / 2 < 4294967296 := by omega

theorem crcStep_lt {x : Nat} (h : x < 4294967296) : crcStep x < 4294967296 := by
  unfold crcStep
  split
  · exact Nat.xor_lt_two_pow (n := 32) (by omega) (by omega)
  · omega

theorem xor_half (a b : Nat) : (a ^^^ b) / 2 = a / 2 ^^^ b / 2 := by
  have := Nat.shiftRight_xor_distrib (a := a) (b := b) (i := 1)
  simpa [Nat.shiftRight_eq_div_pow] using this

theorem xor_odd (a b : Nat) : (a ^^^ b) % 2 = (a % 2 + b % 2) % 2 := by
  have h1 := Nat.xor_mod_two_pow (a := a) (b := b) (n := 1)
  simp only [Nat.pow_one] at h1
  rw [h1]
  rcases Nat.mod_two_eq_zero_or_one a with h | h <;> rcases Nat.mod_two_eq_zero_or_one b with h' | h' <;> rw [h, h'] <;> rfl

theorem crcStep_xor (a b : Nat) : crcStep (a ^^^ b) = crcStep a ^^^ crcStep b := by
  have h0 := xor_odd a b
  unfold crcStep
  rw [xor_half]
  by_cases ha : a % 2 = 1 <;> by_cases hb : b % 2 = 1
  · rw [if_neg (by omega), if_pos ha, if_pos hb, Nat.xor_assoc, Nat.xor_comm 2197175160 (b / 2 ^^^ 2197175160), Nat.xor_assoc (b / 2), Nat.xor_self, Nat.xor_zero]
  · rw [if_pos (by omega), if_pos ha, if_neg hb, Nat.xor_assoc, Nat.xor_assoc, Nat.xor_comm (b / 2)]
  · rw [if_pos (by omega), if_neg ha, if_pos hb, Nat.xor_assoc]
  · rw [if_neg (by omega), if_neg ha, if_neg hb]

def stepN : Nat → Nat → Nat
  | 0, x => x
  | k + 1, x => crcStep (stepN k x)

theorem stepN_lt : ∀ (k : Nat) {x : Nat}, x < 4294967296 → stepN k x < 4294967296
  | 0, _, h => h
  | k + 1, _, h => crcStep_lt (stepN_lt k h)

theorem stepN_xor : ∀ (k a b : Nat), stepN k (a ^^^ b) = stepN k a ^^^ stepN k b
  | 0, _, _ => rfl
  | k + 1, a, b => by rw [stepN, stepN_xor k, crcStep_xor]; rfl

theorem stepN_add : ∀ (j k x : Nat), stepN (j + k) x = stepN j (stepN k x)
  | 0, k, x => by rw [Nat.zero_add]; rfl
  | j + 1, k, x => by rw [Nat.add_right_comm, stepN, stepN_add j k x]; rfl

theorem crcStep_even (y : Nat) : crcStep (2 * y) = y := by unfold crcStep; rw [if_neg (by omega)]; omega

theorem stepN_low (y : Nat) : stepN 4 (16 * y) = y := by
  show crcStep (crcStep (crcStep (crcStep (16 * y)))) = y
  rw [show 16 * y = 2 * (2 * (2 * (2 * y))) by omega, crcStep_even, crcStep_even, crcStep_even, crcStep_even]

theorem split16 (x : Nat) : 16 * (x / 16) ^^^ x % 16 = x := by
  have h := nat_join 4 (16 * (x / 16)) (x % 16) (by omega) (by omega)
  have h2 : 16 * (x / 16) ^^^ x % 16 = 16 * (x / 16) ||| x % 16 := by
    apply Nat.eq_of_testBit_eq
    intro i
    rw [Nat.testBit_xor, Nat.testBit_or]
    by_cases hi : i < 4
    · rw [show 16 * (x / 16) = 2 ^ 4 * (x / 16) by omega, Nat.testBit_two_pow_mul, show decide (i ≥ 4) = false by simp; omega]
      simp
    · rw [Nat.testBit_lt_two_pow (x := x % 16) (i := i) (Nat.lt_of_lt_of_le (by omega : x % 16 < 2 ^ 4) (Nat.pow_le_pow_right (by omega) (by omega)))]
      simp
  rw [h2, h]; omega

/-- Four bits at once, by a table. -/
theorem step_four (x : Nat) : x / 16 ^^^ stepN 4 (x % 16) = stepN 4 x := by
  have := stepN_xor 4 (16 * (x / 16)) (x % 16)
  rw [split16, stepN_low] at this
  exact this.symm

abbrev U (n : Nat) : Value := .int .u32 (n : Int)

/-- A sum's bytes, one by one. -/
def crcFold (x : Nat) (l : List UInt8) : Nat := l.foldl (fun x b => stepN 8 (x ^^^ b.toNat)) x

theorem byte_lt (b : UInt8) : b.toNat < 4294967296 := by have := UInt8.toNat_lt b; omega

theorem crcFold_lt : ∀ (l : List UInt8) {x : Nat}, x < 4294967296 → crcFold x l < 4294967296
  | [], _, h => h
  | b :: r, x, h => crcFold_lt r (stepN_lt 8 (Nat.xor_lt_two_pow (n := 32) h (byte_lt b)))

theorem crcFold_snoc (x : Nat) (l : List UInt8) (b : UInt8) : crcFold x (l ++ [b]) = stepN 8 (crcFold x l ^^^ b.toNat) := by simp [crcFold]

def crcOf (l : List UInt8) : Nat := crcFold 4294967295 l ^^^ 4294967295

theorem crcOf_lt (l : List UInt8) : crcOf l < 4294967296 := Nat.xor_lt_two_pow (n := 32) (crcFold_lt l (by omega)) (by omega)

/-- The table as it is filled, behind the register. -/
def tabC (i : Nat) : List Value := (List.range 16).map fun j => U (if j < i then stepN 4 j else 0)
def regC (x : Nat) (i : Nat) : List Value := U x :: tabC i

theorem regC_len (x i : Nat) : (regC x i).length = 17 := by simp [regC, tabC]

theorem regC_at (x : Nat) {j i : Nat} (h : j < 16) (hi : j < i) : ((regC x i).map A.v)[1 + j]? = some (.v (U (stepN 4 j))) := by
  rw [Nat.add_comm]
  simp [regC, tabC, h, hi]

theorem regC_set (x : Nat) {i : Nat} (h : i < 16) : ((regC x i).map A.v).set (1 + i) (.v (U (stepN 4 i))) = (regC x (i + 1)).map A.v := by
  apply List.ext_getElem?
  intro j
  rw [Nat.add_comm, List.getElem?_set]
  cases j with
  | zero => simp [regC]
  | succ j =>
    by_cases hj : j < 16
    · by_cases hji : i = j
      · subst hji
        simp [regC, tabC, hj]
      · rw [if_neg (by omega)]
        have : (j < i) ↔ (j < i + 1) := by omega
        simp [regC, tabC, hj, this]
    · simp [regC, tabC, hj]
      omega

theorem stepU {x : Nat} (h : x < 4294967296) :
    bits .xor .u32 ((x : Int) / 2 ^ (1 : Int).toNat) (bits .and .u32 2197175160 (IntKind.u32.wrap (0 - bits .and .u32 (x : Int) 1))) = (crcStep x : Int) := by
  have h1 : bits .and .u32 (x : Int) 1 = ((x % 2 : Nat) : Int) := by
    have := u32_and_nat x 1 h (by omega)
    rw [nat_mask1] at this
    exact this
  have h2 : (x : Int) / 2 ^ (1 : Int).toNat = ((x / 2 : Nat) : Int) := by
    show (x : Int) / 2 ^ 1 = _
    omega
  rw [h1, h2]
  unfold crcStep
  by_cases ho : x % 2 = 1
  · rw [ho, if_pos rfl, show IntKind.u32.wrap (0 - ((1 : Nat) : Int)) = 4294967295 by decide, show bits .and .u32 2197175160 4294967295 = ((2197175160 : Nat) : Int) by decide +kernel, u32_xor_nat _ _ (by omega) (by omega)]
  · rw [show x % 2 = 0 by omega, if_neg (by omega), show IntKind.u32.wrap (0 - ((0 : Nat) : Int)) = 0 by decide, show bits .and .u32 2197175160 0 = ((0 : Nat) : Int) by decide +kernel, u32_xor_nat _ _ (by omega) (by omega), Nat.xor_zero]

theorem begin_c (w : World) : Calls Try.prog 186 #[I 0] w fun e w' => ∃ (x : Unit) (b : Nat), e = .returned (.pointer (some ⟨b, 0, none⟩)) ∧ w.heap.size ≤ b ∧ w'.heap[b]? = some (.cells (regC 4294967295 16).toArray 248 (0, 0)) ∧ Below w.heap.size w w' ∧ True := by
  refine enter (E := E0) (O := []) (nl := 0) (V := vw w) [.a (.v (I 0))] Try.func186 rfl rfl (mem0 E0 0 w) rfl rfl ?_
  refine c_seq ?_
  refine c_region ?_
  refine o_yield rfl rfl rfl (y_val tok rfl) ?_
  refine o_end [0] rfl ?_
  refine x_then ?_
  refine c_seq ?_
  refine c_region ?_
  refine o_yield rfl rfl rfl (y_val tok rfl) ?_
  refine o_yield rfl rfl rfl (y_val tok rfl) ?_
  refine o_yield rfl rfl rfl (y_val tok rfl) ?_
  refine o_yield rfl rfl rfl (y_val tok rfl) ?_
  refine o_yield rfl rfl rfl (y_val tok rfl) ?_
  refine o_new tok rfl rfl rfl rfl ?_
  refine o_yield rfl rfl rfl (y_val tok rfl) ?_
  refine o_end [3] rfl ?_
  refine x_then ?_
  refine c_seq ?_
  refine c_seq ?_
  refine c_region ?_
  refine o_yield rfl rfl rfl (y_val tok rfl) ?_
  refine o_end [3, 12] rfl ?_
  refine x_then ?_
  refine c_block ?_
  refine c_loopK [3] [0] rfl rfl (σ := Nat) (fun i => [(12, .a (.v (I i)))]) (fun i => [(0, .lit ((regC 4294967295 i).map .v) 248)]) (fun i => i ≤ 16) (fun i => 16 - i) (0) (by omega) (by repeat (first | exact SubF.nil | refine SubF.cons rfl ?_)) (by repeat (first | exact SubO.nil | refine SubO.cons rfl ?_)) rfl ?_
  rintro i hi
  refine c_seq ?_
  refine c_region ?_
  refine o_yield rfl rfl rfl (y_val tok rfl) ?_
  refine o_end [3, 12, 13] rfl ?_
  refine x_then ?_
  refine c_seq ?_
  refine c_cond rfl (fun h => ?_) (fun h => ?_)
  ·
    simp only [Bool.and_eq_true, Bool.or_eq_true, Bool.not_eq_true', Bool.or_eq_false_iff, Bool.and_eq_false_iff, decide_eq_true_eq, decide_eq_false_iff_not, beq_iff_eq, bne_iff_ne, Bool.not_eq_false', beq_eq_false_iff_ne, bne_eq_false_iff_eq, ne_eq, Decidable.not_not, Int.not_lt, Int.not_le] at h
    refine c_skip ?_
    refine x_then ?_
    refine c_seq ?_
    refine c_block ?_
    refine c_seq ?_
    refine c_region ?_
    refine o_yield rfl rfl rfl (y_val tok rfl) ?_
    refine o_yield rfl rfl rfl (y_val tok rfl) ?_
    refine o_end [3, 4, 12] rfl ?_
    refine x_then ?_
    refine c_seq ?_
    refine c_region ?_
    refine o_yield rfl rfl rfl (y_val tok rfl) ?_
    refine o_yield rfl rfl rfl (y_val tok rfl) ?_
    refine o_yield rfl rfl rfl (y_val tok rfl) ?_
    refine o_end [3, 4, 5, 12] rfl ?_
    refine x_then ?_
    refine c_seq ?_
    refine c_seq ?_
    refine c_region ?_
    refine o_yield rfl rfl rfl (y_val tok rfl) ?_
    refine o_end [3, 4, 5, 12, 17] rfl ?_
    refine x_then ?_
    refine c_block ?_
    have hi16 : i < 16 := by omega
    rw [show IntKind.u32.wrap (i : Int) = (i : Int) from wrapU32 (by omega)]
    refine c_loopK [3, 4, 12] [] rfl rfl (σ := Nat) (fun k => [(5, .a (.v (U (stepN k i)))), (17, .a (.v (I k)))]) (fun k => []) (fun k => k ≤ 4) (fun k => 4 - k) (0) (by omega) (by repeat (first | exact SubF.nil | refine SubF.cons rfl ?_)) (by repeat (first | exact SubO.nil | refine SubO.cons rfl ?_)) rfl ?_
    rintro k hk
    refine c_seq ?_
    refine c_region ?_
    refine o_yield rfl rfl rfl (y_val tok rfl) ?_
    refine o_end [3, 4, 5, 12, 17, 18] rfl ?_
    refine x_then ?_
    refine c_seq ?_
    refine c_cond rfl (fun h => ?_) (fun h => ?_)
    ·
      simp only [Bool.and_eq_true, Bool.or_eq_true, Bool.not_eq_true', Bool.or_eq_false_iff, Bool.and_eq_false_iff, decide_eq_true_eq, decide_eq_false_iff_not, beq_iff_eq, bne_iff_ne, Bool.not_eq_false', beq_eq_false_iff_ne, bne_eq_false_iff_eq, ne_eq, Decidable.not_not, Int.not_lt, Int.not_le] at h
      refine c_skip ?_
      refine x_then ?_
      refine c_seq ?_
      refine c_block ?_
      refine c_region ?_
      refine o_yield rfl rfl rfl (y_val tok rfl) ?_
      have hlt := stepN_lt k (x := i) (by omega)
      refine o_yield rfl rfl rfl (y_shr rfl (fun hg => ⟨by decide, by decide⟩)) ?_
      refine o_yield rfl rfl rfl (y_val tok rfl) ?_
      refine o_yield rfl rfl rfl (y_val tok rfl) ?_
      refine o_yield rfl rfl rfl (y_val tok rfl) ?_
      refine o_yield rfl rfl rfl (y_val tok rfl) ?_
      refine o_yield rfl rfl rfl (y_val tok rfl) ?_
      refine o_yield rfl rfl rfl (y_val tok rfl) ?_
      refine o_end [3, 4, 5, 12, 17] rfl ?_
      refine x_block ?_
      refine x_then ?_
      refine c_region ?_
      refine o_yield rfl rfl rfl (y_val tok rfl) ?_
      refine o_yield rfl rfl rfl (y_val tok rfl) ?_
      refine o_end [3, 4, 5, 12, 17] rfl ?_
      refine x_then ?_
      rw [stepU hlt, wrapI (n := (k : Int) + 1) (by omega) (by omega)]
      refine x_round (k + 1) (by omega) (by first | omega | (dsimp only; omega)) (by repeat (first | exact SubF.nil | refine SubF.cons rfl ?_)) (by repeat (first | exact SubO.nil | refine SubO.cons rfl ?_)) rfl (Vw.le.refl _)
    ·
      simp only [Bool.and_eq_true, Bool.or_eq_true, Bool.not_eq_true', Bool.or_eq_false_iff, Bool.and_eq_false_iff, decide_eq_true_eq, decide_eq_false_iff_not, beq_iff_eq, bne_iff_ne, Bool.not_eq_false', beq_eq_false_iff_ne, bne_eq_false_iff_eq, ne_eq, Decidable.not_not, Int.not_lt, Int.not_le] at h
      refine c_exit ?_
      refine x_then_exit ?_
      refine x_then_exit ?_
      refine x_block_hit ?_
      refine x_then ?_
      refine c_region ?_
      refine o_yield rfl rfl rfl (y_val tok rfl) ?_
      refine o_yield rfl rfl rfl (y_val tok rfl) ?_
      refine o_yield rfl rfl rfl (y_val tok rfl) ?_
      refine o_yield rfl rfl rfl (y_val tok rfl) ?_
      refine o_yield rfl rfl rfl (y_val tok rfl) ?_
      have hk4 : k = 4 := by omega
      subst hk4
      refine o_yield rfl rfl rfl (y_aidx tok (1 + i) rfl (by simp) (fun hg => by omega)) ?_
      refine o_stepN rfl rfl rfl rfl (s_ast tok rfl rfl rfl (by simp [regC_len]; omega)) (fun _ _ => ?_)
      refine o_end [3, 12] rfl ?_
      refine x_block ?_
      refine x_then ?_
      refine c_region ?_
      refine o_yield rfl rfl rfl (y_val tok rfl) ?_
      refine o_yield rfl rfl rfl (y_val tok rfl) ?_
      refine o_end [3, 12] rfl ?_
      refine x_then ?_
      rw [wrapI (n := (i : Int) + 1) (by omega) (by omega), regC_set _ hi16]
      refine x_round (i + 1) (by omega) (by first | omega | (dsimp only; omega)) (by repeat (first | exact SubF.nil | refine SubF.cons rfl ?_)) (by repeat (first | exact SubO.nil | refine SubO.cons rfl ?_)) rfl (Vw.le.refl _)
  ·
    simp only [Bool.and_eq_true, Bool.or_eq_true, Bool.not_eq_true', Bool.or_eq_false_iff, Bool.and_eq_false_iff, decide_eq_true_eq, decide_eq_false_iff_not, beq_iff_eq, bne_iff_ne, Bool.not_eq_false', beq_eq_false_iff_ne, bne_eq_false_iff_eq, ne_eq, Decidable.not_not, Int.not_lt, Int.not_le] at h
    refine c_exit ?_
    refine x_then_exit ?_
    refine x_then_exit ?_
    refine x_block_hit ?_
    refine x_then ?_
    refine c_seq ?_
    refine c_region ?_
    refine o_yield rfl rfl rfl (y_val tok rfl) ?_
    refine o_yield rfl rfl rfl (y_val tok rfl) ?_
    refine o_end [2] rfl ?_
    refine x_then ?_
    refine c_ret ?_
    refine b_ret tok rfl ?_
    have hi16 : i = 16 := by omega
    subst hi16
    intro E w' hm _
    have hb := hm.lit 0 _ _ rfl
    rw [(den_plain E _).1] at hb
    refine ⟨(), E.ρ 0, rfl, ?_, hb, hm.below (Vw.le.refl _), trivial⟩
    rcases Nat.lt_or_ge (E.ρ 0) w.heap.size with hlt | hge
    · have := hm.off 0 _ (E.ρ 0) rfl rfl
      simp [vw, hlt] at this
    · exact hge

theorem put_crc (x : Nat) (hx : x < 4294967296) (b : Nat) (lv : Value) (l : List UInt8) (w : World) (hb : w.heap[b]? = some (.cells (regC x 16).toArray 248 (0, 0))) (hs : SlOf ((vw w).del b) encByte 1 lv l) (hn : l.length ≤ maxLen) :
    Calls Try.prog 187 #[.pointer (some ⟨b, 0, none⟩), lv] w fun e w' => e = .returned (.pointer (some ⟨b, 0, none⟩)) ∧ Go.Eng.Touch (· = b) w w' ∧ w'.heap[b]? = some (.cells (regC (crcFold x l) 16).toArray 248 (0, 0)) := by
  simp only [maxLen] at hn
  refine enter1 [.a (.ptr 0 0), .a (.v lv)] hb Try.func187 rfl rfl rfl rfl ?_
  refine c_seq ?_
  refine c_region ?_
  refine o_yield rfl rfl rfl (y_val tok rfl) ?_
  refine o_end [0, 1] rfl ?_
  refine x_then ?_
  refine c_seq ?_
  refine c_seq ?_
  refine c_region ?_
  refine o_yield rfl rfl rfl (y_val tok rfl) ?_
  refine o_yield rfl rfl rfl (y_len tok rfl (fun hg => hs.sl)) ?_
  refine o_yield rfl rfl rfl (y_val tok rfl) ?_
  refine o_end [0, 7, 8, 9] rfl ?_
  refine x_then ?_
  refine c_block ?_
  refine c_loopK [0, 7, 8] [0] rfl rfl (σ := Nat) (fun k => [(9, .a (.v (I k)))]) (fun k => [(0, .lit ((regC (crcFold x (l.take k)) 16).map .v) 248)]) (fun k => k ≤ l.length) (fun k => l.length - k) (0) (by omega) (by repeat (first | exact SubF.nil | refine SubF.cons rfl ?_)) (by repeat (first | exact SubO.nil | refine SubO.cons rfl ?_)) rfl ?_
  rintro k hk
  refine c_seq ?_
  refine c_region ?_
  refine o_yield rfl rfl rfl (y_val tok rfl) ?_
  refine o_end [0, 7, 8, 9, 10] rfl ?_
  refine x_then ?_
  refine c_seq ?_
  refine c_cond rfl (fun h => ?_) (fun h => ?_)
  ·
    simp only [Bool.and_eq_true, Bool.or_eq_true, Bool.not_eq_true', Bool.or_eq_false_iff, Bool.and_eq_false_iff, decide_eq_true_eq, decide_eq_false_iff_not, beq_iff_eq, bne_iff_ne, Bool.not_eq_false', beq_eq_false_iff_ne, bne_eq_false_iff_eq, ne_eq, Decidable.not_not, Int.not_lt, Int.not_le] at h
    refine c_skip ?_
    refine x_then ?_
    refine c_seq ?_
    refine c_block ?_
    refine c_seq ?_
    refine c_region ?_
    obtain ⟨c, h_c⟩ := hs.at (k := k) (by omega)
    have hlt_c := lt_of_at h_c
    refine o_yield rfl rfl rfl (y_idx tok rfl (fun hg => hs.sl) (fun hg => ⟨by omega, by omega⟩)) ?_
    refine o_yield rfl rfl rfl (y_lel tok (k) 0 (c) rfl (fun hg => hs) (fun hg => h_c) rfl rfl) ?_
    refine o_yield rfl rfl rfl (y_val tok rfl) ?_
    refine o_end [0, 6, 7, 8, 9] rfl ?_
    refine x_then ?_
    refine c_seq ?_
    refine c_region ?_
    refine o_yield rfl rfl rfl (y_val tok rfl) ?_
    refine o_yield rfl rfl rfl (y_val tok rfl) ?_
    refine o_yield rfl rfl rfl (y_val tok rfl) ?_
    refine o_yield rfl rfl rfl (y_val tok rfl) ?_
    refine o_yield rfl rfl rfl (y_val tok rfl) ?_
    refine o_yield rfl rfl rfl (y_val tok rfl) ?_
    refine o_yield rfl rfl rfl (y_val tok rfl) ?_
    refine o_yield rfl rfl rfl (y_val tok rfl) ?_
    refine o_yield rfl rfl rfl (y_val tok rfl) ?_
    refine o_yield rfl rfl rfl (y_val tok rfl) ?_
    refine o_yield rfl rfl rfl (y_val tok rfl) ?_
    refine o_store tok rfl rfl rfl (by first | exact ⟨trivial, trivial⟩ | simp [onesP, oneP, lk, Value.oneCell']) ?_
    refine o_end [0, 7, 8, 9] rfl ?_
    refine x_then ?_
    refine c_seq ?_
    refine c_heldS [22] mixed rfl (by repeat (first | exact SubO.nil | refine SubO.cons rfl ?_)) rfl ?_
    refine t_takeD 0 rfl (by kernel_rfl) rfl rfl rfl (y_val tok rfl) rfl ?_
    refine t_takeD 1 rfl (by kernel_rfl) rfl rfl rfl (y_val tok rfl) rfl ?_
    refine t_takeD 2 rfl (by kernel_rfl) rfl rfl rfl (y_val tok rfl) rfl ?_
    refine t_takeD 3 rfl (by kernel_rfl) rfl rfl rfl (y_val tok rfl) rfl ?_
    refine t_takeD 4 rfl (by kernel_rfl) rfl rfl rfl (y_val tok rfl) rfl ?_
    refine t_takeD 5 rfl (by kernel_rfl) rfl rfl rfl (y_val tok rfl) rfl ?_
    have hx1 := crcFold_lt (l.take k) hx
    have hc := UInt8.toNat_lt c
    rw [wrapU32 (n := c.toNat) (by omega), u32_xor_nat _ _ hx1 (by omega)]
    have hx2 : crcFold x (l.take k) ^^^ c.toNat < 4294967296 := Nat.xor_lt_two_pow (n := 32) hx1 (by omega)
    obtain ⟨z, hz⟩ : ∃ z, crcFold x (l.take k) ^^^ c.toNat = z := ⟨_, rfl⟩
    rw [hz] at hx2 ⊢
    have hz8 : stepN 8 z = crcFold x (l.take (k + 1)) := by rw [take_succ_at h_c, crcFold_snoc, hz]
    have hidx : ∀ y : Nat, y < 4294967296 → bits .and .u32 (y : Int) 15 = ((y % 16 : Nat) : Int) := fun y hy => by
      have := u32_and_nat y 15 hy (by omega)
      rw [nat_mask4] at this
      exact this
    have hdiv : ∀ y : Nat, (y : Int) / 2 ^ (4 : Int).toNat = ((y / 16 : Nat) : Int) := fun y => by
      show (y : Int) / 2 ^ 4 = _
      omega
    have hfour : ∀ y : Nat, y < 4294967296 → bits .xor .u32 ((y / 16 : Nat) : Int) ((stepN 4 (y % 16) : Nat) : Int) = ((stepN 4 y : Nat) : Int) := fun y hy => by
      rw [u32_xor_nat _ _ (by omega) (stepN_lt 4 (by omega)), step_four]
    refine t_takeD 6 rfl (by kernel_rfl) rfl rfl rfl (y_shr rfl (fun hg => ⟨by decide, by decide⟩)) rfl ?_
    refine t_takeD 7 rfl (by kernel_rfl) rfl rfl rfl (y_val tok rfl) rfl ?_
    refine t_takeD 8 rfl (by kernel_rfl) rfl rfl rfl (y_val tok rfl) rfl ?_
    refine t_takeD 9 rfl (by kernel_rfl) rfl rfl rfl (y_val tok rfl) rfl ?_
    refine t_takeD 10 rfl (by kernel_rfl) rfl rfl rfl (y_val tok rfl) rfl ?_
    refine t_takeD 11 rfl (by kernel_rfl) rfl rfl rfl (y_val tok rfl) rfl ?_
    refine t_takeD 12 rfl (by kernel_rfl) rfl rfl rfl (y_val tok rfl) rfl ?_
    refine t_takeD 13 rfl (by kernel_rfl) rfl rfl rfl (y_val tok rfl) rfl ?_
    refine t_takeD 14 rfl (by kernel_rfl) rfl rfl rfl (y_val tok rfl) rfl ?_
    refine t_takeD 15 rfl (by kernel_rfl) rfl rfl rfl (y_val tok rfl) rfl ?_
    rw [hdiv, hidx z hx2]
    refine t_takeD 16 rfl (by kernel_rfl) rfl rfl rfl (y_aidx tok (1 + z % 16) rfl (by simp; omega) (fun hg => by omega)) rfl ?_
    refine t_takeD 17 rfl (by kernel_rfl) rfl rfl rfl (y_ald tok rfl rfl (fun hg => regC_at z (by omega) (by omega))) rfl ?_
    refine t_takeD 18 rfl (by kernel_rfl) rfl rfl rfl (y_val tok rfl) rfl ?_
    refine t_takeD 19 rfl (by kernel_rfl) rfl rfl rfl (y_val tok rfl) rfl ?_
    refine t_takeD 20 rfl (by kernel_rfl) rfl rfl rfl (y_val tok rfl) rfl ?_
    refine t_takeD 21 rfl (by kernel_rfl) rfl rfl rfl (y_val tok rfl) rfl ?_
    refine t_go ?_
    refine h_one 22 (by kernel_rfl) ?_
    refine h_store 22 tok rfl rfl rfl rfl (by first | exact ⟨trivial, trivial⟩ | simp [onesP, oneP, lk, Value.oneCell']) (.inl rfl) ?_
    refine h_done [0, 7, 8, 9] (by kernel_rfl) rfl ?_
    refine x_then ?_
    refine c_heldS [22] mixed rfl (by repeat (first | exact SubO.nil | refine SubO.cons rfl ?_)) rfl ?_
    refine t_takeD 0 rfl (by kernel_rfl) rfl rfl rfl (y_val tok rfl) rfl ?_
    refine t_takeD 1 rfl (by kernel_rfl) rfl rfl rfl (y_val tok rfl) rfl ?_
    refine t_takeD 2 rfl (by kernel_rfl) rfl rfl rfl (y_val tok rfl) rfl ?_
    refine t_takeD 3 rfl (by kernel_rfl) rfl rfl rfl (y_val tok rfl) rfl ?_
    refine t_takeD 4 rfl (by kernel_rfl) rfl rfl rfl (y_val tok rfl) rfl ?_
    refine t_takeD 5 rfl (by kernel_rfl) rfl rfl rfl (y_val tok rfl) rfl ?_
    rw [hfour z hx2]
    have hx3 := stepN_lt 4 hx2
    have h44 : stepN 4 (stepN 4 z) = stepN 8 z := (stepN_add 4 4 z).symm
    rw [h44.symm] at hz8
    obtain ⟨y, hy⟩ : ∃ y, stepN 4 z = y := ⟨_, rfl⟩
    rw [hy] at hz8 hx3 ⊢
    refine t_takeD 6 rfl (by kernel_rfl) rfl rfl rfl (y_shr rfl (fun hg => ⟨by decide, by decide⟩)) rfl ?_
    refine t_takeD 7 rfl (by kernel_rfl) rfl rfl rfl (y_val tok rfl) rfl ?_
    refine t_takeD 8 rfl (by kernel_rfl) rfl rfl rfl (y_val tok rfl) rfl ?_
    refine t_takeD 9 rfl (by kernel_rfl) rfl rfl rfl (y_val tok rfl) rfl ?_
    refine t_takeD 10 rfl (by kernel_rfl) rfl rfl rfl (y_val tok rfl) rfl ?_
    refine t_takeD 11 rfl (by kernel_rfl) rfl rfl rfl (y_val tok rfl) rfl ?_
    refine t_takeD 12 rfl (by kernel_rfl) rfl rfl rfl (y_val tok rfl) rfl ?_
    refine t_takeD 13 rfl (by kernel_rfl) rfl rfl rfl (y_val tok rfl) rfl ?_
    refine t_takeD 14 rfl (by kernel_rfl) rfl rfl rfl (y_val tok rfl) rfl ?_
    refine t_takeD 15 rfl (by kernel_rfl) rfl rfl rfl (y_val tok rfl) rfl ?_
    rw [hdiv, hidx y hx3]
    refine t_takeD 16 rfl (by kernel_rfl) rfl rfl rfl (y_aidx tok (1 + y % 16) rfl (by simp; omega) (fun hg => by omega)) rfl ?_
    refine t_takeD 17 rfl (by kernel_rfl) rfl rfl rfl (y_ald tok rfl rfl (fun hg => regC_at y (by omega) (by omega))) rfl ?_
    refine t_takeD 18 rfl (by kernel_rfl) rfl rfl rfl (y_val tok rfl) rfl ?_
    refine t_takeD 19 rfl (by kernel_rfl) rfl rfl rfl (y_val tok rfl) rfl ?_
    refine t_takeD 20 rfl (by kernel_rfl) rfl rfl rfl (y_val tok rfl) rfl ?_
    refine t_takeD 21 rfl (by kernel_rfl) rfl rfl rfl (y_val tok rfl) rfl ?_
    refine t_go ?_
    refine h_one 22 (by kernel_rfl) ?_
    refine h_store 22 tok rfl rfl rfl rfl (by first | exact ⟨trivial, trivial⟩ | simp [onesP, oneP, lk, Value.oneCell']) (.inl rfl) ?_
    refine h_done [0, 7, 8, 9] (by kernel_rfl) rfl ?_
    refine x_block ?_
    refine x_then ?_
    refine c_region ?_
    refine o_yield rfl rfl rfl (y_val tok rfl) ?_
    refine o_yield rfl rfl rfl (y_val tok rfl) ?_
    refine o_end [0, 7, 8, 9] rfl ?_
    refine x_then ?_
    rw [hfour y hx3, hz8, wrapI (n := (k : Int) + 1) (by omega) (by omega)]
    refine x_round (k + 1) (by omega) (by first | omega | (dsimp only; omega)) (by repeat (first | exact SubF.nil | refine SubF.cons rfl ?_)) (by repeat (first | exact SubO.nil | refine SubO.cons rfl ?_)) rfl (Vw.le.refl _)
  ·
    simp only [Bool.and_eq_true, Bool.or_eq_true, Bool.not_eq_true', Bool.or_eq_false_iff, Bool.and_eq_false_iff, decide_eq_true_eq, decide_eq_false_iff_not, beq_iff_eq, bne_iff_ne, Bool.not_eq_false', beq_eq_false_iff_ne, bne_eq_false_iff_eq, ne_eq, Decidable.not_not, Int.not_lt, Int.not_le] at h
    refine c_exit ?_
    refine x_then_exit ?_
    refine x_then_exit ?_
    refine x_block_hit ?_
    refine x_then ?_
    refine c_seq ?_
    refine c_region ?_
    refine o_yield rfl rfl rfl (y_val tok rfl) ?_
    refine o_yield rfl rfl rfl (y_val tok rfl) ?_
    refine o_end [4] rfl ?_
    refine x_then ?_
    refine c_ret ?_
    refine b_ret tok rfl ?_
    have hkl : k = l.length := by omega
    subst hkl
    intro E w' hm _
    obtain ⟨h1, h2⟩ := back1 hm (Vw.le.refl _) rfl rfl rfl
    rw [(den_plain E _).1, List.take_length] at h2
    refine ⟨?_, h1, h2⟩
    have hp := (hm.pin 1 0 _ rfl).1
    show Ending.returned (.pointer (some ⟨E.ρ 0, 0, none⟩)) = _
    rw [hp]

theorem turned_c (x : Nat) (hx : x < 4294967296) (b : Nat) (w : World) {cs : List Value} (hb : w.heap[b]? = some (.cells (U x :: cs).toArray 248 (0, 0))) :
    Calls Try.prog 188 #[.pointer (some ⟨b, 0, none⟩)] w fun e w' => e = .returned (I ((x ^^^ 4294967295 : Nat) : Int)) ∧ Below w.heap.size w w' := by
  refine enter1 [.a (.ptr 0 0)] hb Try.func188 rfl rfl rfl rfl ?_
  refine c_seq ?_
  refine c_region ?_
  refine o_yield rfl rfl rfl (y_val tok rfl) ?_
  refine o_end [0] rfl ?_
  refine x_then ?_
  refine c_seq ?_
  refine c_region ?_
  refine o_yield rfl rfl rfl (y_val tok rfl) ?_
  refine o_yield rfl rfl rfl (y_val tok rfl) ?_
  refine o_yield rfl rfl rfl (y_val tok rfl) ?_
  refine o_yield rfl rfl rfl (y_val tok rfl) ?_
  refine o_yield rfl rfl rfl (y_val tok rfl) ?_
  refine o_yield rfl rfl rfl (y_val tok rfl) ?_
  refine o_yield rfl rfl rfl (y_val tok rfl) ?_
  refine o_end [2] rfl ?_
  refine x_then ?_
  refine c_ret ?_
  refine b_ret tok rfl ?_
  intro E w' hm _
  refine ⟨?_, below1 hb hm (Vw.le.refl _) rfl rfl rfl⟩
  have h1 := u32_xor_nat 4294967295 x (by omega) hx
  show Ending.returned (I (IntKind.i64.wrap (bits .xor .u32 4294967295 (x : Int)))) = _
  have hlt : x ^^^ 4294967295 < 4294967296 := Nat.xor_lt_two_pow (n := 32) hx (by omega)
  rw [show bits .xor .u32 4294967295 (x : Int) = ((4294967295 ^^^ x : Nat) : Int) from h1, Nat.xor_comm, wrapI (by omega) (by omega)]

theorem add_crc (V : Vw) (lv : Value) (l : List UInt8) (w : World) (hV : V.le (vw w)) (hs : SlOf V encByte 1 lv l) (hn : l.length ≤ maxLen) :
    Calls Try.prog 177 #[I 0, lv] w fun e w' => e = .returned (I (crcOf l)) ∧ Below w.heap.size w w' := by
  have hs' := hs.mono hV
  refine enter (E := E0) (O := []) (nl := 0) (V := vw w) [.a (.v (I 0)), .a (.v lv)] Try.func177 rfl rfl (mem0 E0 0 w) rfl rfl ?_
  refine c_seq ?_
  refine c_region ?_
  refine o_yield rfl rfl rfl (y_val tok rfl) ?_
  refine o_end [0, 1] rfl ?_
  refine x_then ?_
  refine c_seq ?_
  refine c_region ?_
  refine o_yield rfl rfl rfl (y_val tok rfl) ?_
  refine o_step rfl rfl rfl rfl rfl (s_callP (fun _ => True) (fun _ => regC 4294967295 16) 248 rfl fnok186 (fun E w hm => begin_c w)) (fun _ _ => ?_)
  refine o_yield rfl rfl rfl (y_val tok rfl) ?_
  refine o_step rfl rfl rfl rfl rfl (s_callW (fun _ => True) (fun _ : Unit => .a (.ptr 0 0)) 0 248 (fun _ => (regC (crcFold 4294967295 l) 16).map .v) rfl fnok187 rfl (fun _ => (den_plain E0 _).2 _) (fun _ => rfl) (fun E w1 hm hb => (put_crc 4294967295 (by omega) (E.ρ 0) lv l w1 (by rw [hb, (den_plain E _).1]) (hs'.mono (hm.leDel rfl)) hn).mono fun e w' h => ⟨(), h.1, h.2.1, by rw [(den_plain E _).1]; exact h.2.2, trivial⟩)) (fun _ _ => ?_)
  refine o_yield rfl rfl rfl (y_val tok rfl) ?_
  refine o_yield rfl rfl rfl (y_val tok rfl) ?_
  refine o_call (.a (.v _)) rfl rfl fnok188 rfl rfl rfl (fun hg E w1 hm => by exact turned_c (crcFold 4294967295 l) (crcFold_lt l (by omega)) _ _ (cs := tabC 16) (by have h := hm.lit 0 _ _ rfl; rw [(den_plain _ _).1] at h; exact h)) ?_
  refine o_yield rfl rfl rfl (y_val tok rfl) ?_
  refine o_end [4] rfl ?_
  refine x_then ?_
  refine c_ret ?_
  refine b_ret tok rfl ?_
  intro E w' hm _
  refine ⟨?_, hm.below (Vw.le.refl _)⟩
  rfl

theorem sum_crc (V : Vw) (lv : Value) (l : List UInt8) (w : World) (hV : V.le (vw w)) (hs : SlOf V encByte 1 lv l) (hn : l.length ≤ maxLen) :
    Calls Try.prog 164 #[lv] w fun e w' => e = .returned (I (crcOf l)) ∧ Below w.heap.size w w' := by
  refine enter (E := E0) (O := []) (nl := 0) (V := vw w) [.a (.v lv)] Try.func164 rfl rfl (mem0 E0 0 w) rfl rfl ?_
  refine c_seq ?_
  refine c_region ?_
  refine o_yield rfl rfl rfl (y_val tok rfl) ?_
  refine o_end [0] rfl ?_
  refine x_then ?_
  refine c_seq ?_
  refine c_region ?_
  refine o_yield rfl rfl rfl (y_val tok rfl) ?_
  refine o_call (.a (.v _)) rfl rfl fnok177 rfl rfl rfl (fun hg E w1 hm => by exact add_crc V _ l _ (hV.trans hm.leV) hs hn) ?_
  refine o_yield rfl rfl rfl (y_val tok rfl) ?_
  refine o_end [2] rfl ?_
  refine x_then ?_
  refine c_ret ?_
  refine b_ret tok rfl ?_
  intro E w' hm _
  refine ⟨?_, hm.below (Vw.le.refl _)⟩
  rfl

/-! The document's steps. -/

theorem refStep_c (x : Nat) (hx : x < 4294967296) (w : World) : Calls Try.prog 189 #[I x] w fun e w' => e = .returned (I (crcStep x)) ∧ Below w.heap.size w w' := by
  have h1 : bits .and .i64 (x : Int) 1 = ((x % 2 : Nat) : Int) := by
    have := i64_and x 1 (by omega) (by omega)
    rw [nat_mask1] at this
    exact this
  have h2 : (x : Int) / 2 ^ (1 : Int).toNat = ((x / 2 : Nat) : Int) := by
    show (x : Int) / 2 ^ 1 = _
    omega
  refine enter (E := E0) (O := []) (nl := 0) (V := vw w) [.a (.v (I x))] Try.func189 rfl rfl (mem0 E0 0 w) rfl rfl ?_
  refine c_seq ?_
  refine c_region ?_
  refine o_yield rfl rfl rfl (y_val tok rfl) ?_
  refine o_end [0] rfl ?_
  refine x_then ?_
  refine c_seq ?_
  refine c_seq ?_
  refine c_region ?_
  refine o_yield rfl rfl rfl (y_val tok rfl) ?_
  refine o_yield rfl rfl rfl (y_val tok rfl) ?_
  refine o_yield rfl rfl rfl (y_val tok rfl) ?_
  refine o_end [0, 5] rfl ?_
  refine x_then ?_
  refine c_cond rfl (fun h => ?_) (fun h => ?_)
  ·
    simp only [Bool.and_eq_true, Bool.or_eq_true, Bool.not_eq_true', Bool.or_eq_false_iff, Bool.and_eq_false_iff, decide_eq_true_eq, decide_eq_false_iff_not, beq_iff_eq, bne_iff_ne, Bool.not_eq_false', beq_eq_false_iff_ne, bne_eq_false_iff_eq, ne_eq, Decidable.not_not, Int.not_lt, Int.not_le] at h
    refine c_seq ?_
    refine c_region ?_
    refine o_yield rfl rfl rfl (y_val tok rfl) ?_
    rw [h1] at h
    refine o_yield rfl rfl rfl (y_shr rfl (fun hg => ⟨by decide, by decide⟩)) ?_
    refine o_yield rfl rfl rfl (y_val tok rfl) ?_
    refine o_yield rfl rfl rfl (y_val tok rfl) ?_
    refine o_end [2] rfl ?_
    refine x_then ?_
    refine c_ret ?_
    refine x_then_ret ?_
    refine b_ret tok rfl ?_
    intro E w' hm _
    refine ⟨?_, hm.below (Vw.le.refl _)⟩
    show Ending.returned (I (bits .xor .i64 ((x : Int) / 2 ^ (1 : Int).toNat) ((2197175160 : Nat) : Int))) = _
    rw [h2, i64_xor _ _ (by omega) (by omega), crcStep, if_pos (by omega)]
  ·
    simp only [Bool.and_eq_true, Bool.or_eq_true, Bool.not_eq_true', Bool.or_eq_false_iff, Bool.and_eq_false_iff, decide_eq_true_eq, decide_eq_false_iff_not, beq_iff_eq, bne_iff_ne, Bool.not_eq_false', beq_eq_false_iff_ne, bne_eq_false_iff_eq, ne_eq, Decidable.not_not, Int.not_lt, Int.not_le] at h
    refine c_skip ?_
    refine x_then ?_
    refine c_seq ?_
    refine c_region ?_
    refine o_yield rfl rfl rfl (y_val tok rfl) ?_
    rw [h1] at h
    refine o_yield rfl rfl rfl (y_shr rfl (fun hg => ⟨by decide, by decide⟩)) ?_
    refine o_yield rfl rfl rfl (y_val tok rfl) ?_
    refine o_end [2] rfl ?_
    refine x_then ?_
    refine c_ret ?_
    refine b_ret tok rfl ?_
    intro E w' hm _
    refine ⟨?_, hm.below (Vw.le.refl _)⟩
    show Ending.returned (I ((x : Int) / 2 ^ (1 : Int).toNat)) = _
    rw [h2, crcStep, if_neg (by omega)]

theorem mask_low {x : Nat} (h : x < 4294967296) : x &&& 4294967295 = x := by
  have := Nat.and_two_pow_sub_one_eq_mod x 32
  rw [show (2 : Nat) ^ 32 - 1 = 4294967295 by decide] at this
  rw [this]; omega

theorem refMove_c (x : Nat) (hx : x < 4294967296) (w : World) : Calls Try.prog 178 #[I x, I 1] w fun e w' => e = .returned (I (stepN 8 x)) ∧ Below w.heap.size w w' := by
  have hmk : bits .and .i64 (x : Int) 4294967295 = (x : Int) := by
    have := i64_and x 4294967295 (by omega) (by omega)
    rw [mask_low hx] at this
    exact this
  refine enter (E := E0) (O := []) (nl := 0) (V := vw w) [.a (.v (I x)), .a (.v (I 1))] Try.func178 rfl rfl (mem0 E0 0 w) rfl rfl ?_
  refine c_seq ?_
  refine c_region ?_
  refine o_yield rfl rfl rfl (y_val tok rfl) ?_
  refine o_end [0, 1] rfl ?_
  refine x_then ?_
  refine c_seq ?_
  refine c_region ?_
  refine o_yield rfl rfl rfl (y_val tok rfl) ?_
  refine o_yield rfl rfl rfl (y_val tok rfl) ?_
  refine o_yield rfl rfl rfl (y_val tok rfl) ?_
  refine o_end [0, 1] rfl ?_
  refine x_then ?_
  refine c_seq ?_
  refine c_seq ?_
  refine c_region ?_
  refine o_yield rfl rfl rfl (y_val tok rfl) ?_
  refine o_end [0, 1, 5] rfl ?_
  refine x_then ?_
  refine c_block ?_
  rw [hmk]
  refine c_loopK [1] [] rfl rfl (σ := Nat) (fun i => [(0, .a (.v (I (stepN (8 * i) x)))), (5, .a (.v (I i)))]) (fun i => []) (fun i => i ≤ 1) (fun i => 1 - i) (0) (by omega) (by repeat (first | exact SubF.nil | refine SubF.cons rfl ?_)) (by repeat (first | exact SubO.nil | refine SubO.cons rfl ?_)) rfl ?_
  rintro i hi
  refine c_seq ?_
  refine c_seq ?_
  refine c_region ?_
  refine o_yield rfl rfl rfl (y_val tok rfl) ?_
  refine o_yield rfl rfl rfl (y_val tok rfl) ?_
  refine o_yield rfl rfl rfl (y_val tok rfl) ?_
  refine o_end [0, 1, 5, 11] rfl ?_
  refine x_then ?_
  refine c_cond rfl (fun h => ?_) (fun h => ?_)
  ·
    simp only [Bool.and_eq_true, Bool.or_eq_true, Bool.not_eq_true', Bool.or_eq_false_iff, Bool.and_eq_false_iff, decide_eq_true_eq, decide_eq_false_iff_not, beq_iff_eq, bne_iff_ne, Bool.not_eq_false', beq_eq_false_iff_ne, bne_eq_false_iff_eq, ne_eq, Decidable.not_not, Int.not_lt, Int.not_le] at h
    refine c_skip ?_
    refine x_then ?_
    refine c_seq ?_
    refine c_block ?_
    refine c_seq ?_
    refine c_region ?_
    refine o_yield rfl rfl rfl (y_val tok rfl) ?_
    refine o_end [0, 1, 5, 6] rfl ?_
    refine x_then ?_
    refine c_block ?_
    have hi0 : i = 0 := by omega
    subst hi0
    refine c_loopK [1, 5] [] rfl rfl (σ := Nat) (fun k => [(0, .a (.v (I (stepN k x)))), (6, .a (.v (I k)))]) (fun k => []) (fun k => k ≤ 8) (fun k => 8 - k) (0) (by omega) (by repeat (first | exact SubF.nil | refine SubF.cons rfl ?_)) (by repeat (first | exact SubO.nil | refine SubO.cons rfl ?_)) rfl ?_
    rintro k hk
    refine c_seq ?_
    refine c_seq ?_
    refine c_region ?_
    refine o_yield rfl rfl rfl (y_val tok rfl) ?_
    refine o_yield rfl rfl rfl (y_val tok rfl) ?_
    refine o_end [0, 1, 5, 6, 15] rfl ?_
    refine x_then ?_
    refine c_cond rfl (fun h => ?_) (fun h => ?_)
    ·
      simp only [Bool.and_eq_true, Bool.or_eq_true, Bool.not_eq_true', Bool.or_eq_false_iff, Bool.and_eq_false_iff, decide_eq_true_eq, decide_eq_false_iff_not, beq_iff_eq, bne_iff_ne, Bool.not_eq_false', beq_eq_false_iff_ne, bne_eq_false_iff_eq, ne_eq, Decidable.not_not, Int.not_lt, Int.not_le] at h
      refine c_skip ?_
      refine x_then ?_
      refine c_seq ?_
      refine c_block ?_
      refine c_region ?_
      refine o_yield rfl rfl rfl (y_val tok rfl) ?_
      refine o_call (.a (.v _)) rfl rfl fnok189 rfl rfl rfl (fun hg E w1 hm => by exact refStep_c _ (stepN_lt k hx) _) ?_
      refine o_yield rfl rfl rfl (y_val tok rfl) ?_
      refine o_end [0, 1, 5, 6] rfl ?_
      refine x_block ?_
      refine x_then ?_
      refine c_region ?_
      refine o_yield rfl rfl rfl (y_val tok rfl) ?_
      refine o_yield rfl rfl rfl (y_val tok rfl) ?_
      refine o_yield rfl rfl rfl (y_val tok rfl) ?_
      refine o_end [0, 1, 5, 6] rfl ?_
      refine x_then ?_
      rw [wrapI (n := (k : Int) + 1) (by omega) (by omega)]
      refine x_round (k + 1) (by omega) (by first | omega | (dsimp only; omega)) (by repeat (first | exact SubF.nil | refine SubF.cons rfl ?_)) (by repeat (first | exact SubO.nil | refine SubO.cons rfl ?_)) rfl (Vw.le.refl _)
    ·
      simp only [Bool.and_eq_true, Bool.or_eq_true, Bool.not_eq_true', Bool.or_eq_false_iff, Bool.and_eq_false_iff, decide_eq_true_eq, decide_eq_false_iff_not, beq_iff_eq, bne_iff_ne, Bool.not_eq_false', beq_eq_false_iff_ne, bne_eq_false_iff_eq, ne_eq, Decidable.not_not, Int.not_lt, Int.not_le] at h
      refine c_exit ?_
      refine x_then_exit ?_
      refine x_then_exit ?_
      refine x_block_hit ?_
      refine x_block ?_
      refine x_then ?_
      refine c_region ?_
      refine o_yield rfl rfl rfl (y_val tok rfl) ?_
      refine o_yield rfl rfl rfl (y_val tok rfl) ?_
      refine o_yield rfl rfl rfl (y_val tok rfl) ?_
      refine o_end [0, 1, 5] rfl ?_
      refine x_then ?_
      have hk8 : k = 8 := by omega
      subst hk8
      refine x_round (1) (by omega) (by first | omega | (dsimp only; omega)) (by repeat (first | exact SubF.nil | refine SubF.cons rfl ?_)) (by repeat (first | exact SubO.nil | refine SubO.cons rfl ?_)) rfl (Vw.le.refl _)
  ·
    simp only [Bool.and_eq_true, Bool.or_eq_true, Bool.not_eq_true', Bool.or_eq_false_iff, Bool.and_eq_false_iff, decide_eq_true_eq, decide_eq_false_iff_not, beq_iff_eq, bne_iff_ne, Bool.not_eq_false', beq_eq_false_iff_ne, bne_eq_false_iff_eq, ne_eq, Decidable.not_not, Int.not_lt, Int.not_le] at h
    refine c_exit ?_
    refine x_then_exit ?_
    refine x_then_exit ?_
    refine x_block_hit ?_
    refine x_then ?_
    refine c_seq ?_
    refine c_region ?_
    refine o_yield rfl rfl rfl (y_val tok rfl) ?_
    refine o_yield rfl rfl rfl (y_val tok rfl) ?_
    refine o_end [4] rfl ?_
    refine x_then ?_
    refine c_ret ?_
    refine b_ret tok rfl ?_
    have hi1 : i = 1 := by omega
    subst hi1
    intro E w' hm _
    refine ⟨?_, hm.below (Vw.le.refl _)⟩
    rfl

theorem refAdd_c (V : Vw) (lv : Value) (l : List UInt8) (w : World) (hV : V.le (vw w)) (hs : SlOf V encByte 1 lv l) (hn : l.length ≤ maxLen) :
    Calls Try.prog 166 #[I 0, lv] w fun e w' => e = .returned (I (crcOf l)) ∧ Below w.heap.size w w' := by
  have hs' := hs.mono hV
  simp only [maxLen] at hn
  refine enter (E := E0) (O := []) (nl := 0) (V := vw w) [.a (.v (I 0)), .a (.v lv)] Try.func166 rfl rfl (mem0 E0 0 w) rfl rfl ?_
  refine c_seq ?_
  refine c_region ?_
  refine o_yield rfl rfl rfl (y_val tok rfl) ?_
  refine o_end [0, 1] rfl ?_
  refine x_then ?_
  refine c_seq ?_
  refine c_region ?_
  refine o_yield rfl rfl rfl (y_val tok rfl) ?_
  refine o_yield rfl rfl rfl (y_val tok rfl) ?_
  refine o_yield rfl rfl rfl (y_val tok rfl) ?_
  refine o_yield rfl rfl rfl (y_val tok rfl) ?_
  refine o_end [1, 5] rfl ?_
  refine x_then ?_
  refine c_seq ?_
  refine c_seq ?_
  refine c_region ?_
  refine o_yield rfl rfl rfl (y_val tok rfl) ?_
  refine o_end [1, 5, 6] rfl ?_
  refine x_then ?_
  refine c_block ?_
  rw [show bits .xor .i64 (bits .and .i64 0 4294967295) 4294967295 = ((4294967295 : Nat) : Int) by decide +kernel]
  refine c_loopK [1] [] rfl rfl (σ := Nat) (fun i => [(5, .a (.v (I (crcFold 4294967295 (l.take i))))), (6, .a (.v (I i)))]) (fun i => []) (fun i => i ≤ l.length) (fun i => l.length - i) (0) (by omega) (by repeat (first | exact SubF.nil | refine SubF.cons rfl ?_)) (by repeat (first | exact SubO.nil | refine SubO.cons rfl ?_)) rfl ?_
  rintro i hi
  refine c_seq ?_
  refine c_seq ?_
  refine c_region ?_
  refine o_yield rfl rfl rfl (y_val tok rfl) ?_
  refine o_yield rfl rfl rfl (y_val tok rfl) ?_
  refine o_yield rfl rfl rfl (y_len tok rfl (fun hg => hs'.sl)) ?_
  refine o_yield rfl rfl rfl (y_val tok rfl) ?_
  refine o_end [1, 5, 6, 13] rfl ?_
  refine x_then ?_
  refine c_cond rfl (fun h => ?_) (fun h => ?_)
  ·
    simp only [Bool.and_eq_true, Bool.or_eq_true, Bool.not_eq_true', Bool.or_eq_false_iff, Bool.and_eq_false_iff, decide_eq_true_eq, decide_eq_false_iff_not, beq_iff_eq, bne_iff_ne, Bool.not_eq_false', beq_eq_false_iff_ne, bne_eq_false_iff_eq, ne_eq, Decidable.not_not, Int.not_lt, Int.not_le] at h
    refine c_skip ?_
    refine x_then ?_
    refine c_seq ?_
    refine c_block ?_
    refine c_region ?_
    refine o_yield rfl rfl rfl (y_val tok rfl) ?_
    refine o_yield rfl rfl rfl (y_val tok rfl) ?_
    refine o_yield rfl rfl rfl (y_val tok rfl) ?_
    obtain ⟨c, h_c⟩ := hs'.at (k := i) (by omega)
    have hlt_c := lt_of_at h_c
    refine o_yield rfl rfl rfl (y_idx tok rfl (fun hg => hs'.sl) (fun hg => ⟨by omega, by omega⟩)) ?_
    refine o_yield rfl rfl rfl (y_lel tok (i) 0 (c) rfl (fun hg => hs') (fun hg => h_c) rfl rfl) ?_
    refine o_yield rfl rfl rfl (y_val tok rfl) ?_
    refine o_yield rfl rfl rfl (y_val tok rfl) ?_
    have hx1 := crcFold_lt (l.take i) (x := 4294967295) (by omega)
    have hc := UInt8.toNat_lt c
    have hx2 : crcFold 4294967295 (l.take i) ^^^ c.toNat < 4294967296 := Nat.xor_lt_two_pow (n := 32) hx1 (by omega)
    rw [wrapI (n := (c.toNat : Int)) (by omega) (by omega), i64_xor _ _ (by omega) (by omega)]
    refine o_call (.a (.v _)) rfl rfl fnok178 rfl rfl rfl (fun hg E w1 hm => by exact refMove_c _ hx2 _) ?_
    refine o_yield rfl rfl rfl (y_val tok rfl) ?_
    refine o_end [1, 5, 6] rfl ?_
    refine x_block ?_
    refine x_then ?_
    refine c_region ?_
    refine o_yield rfl rfl rfl (y_val tok rfl) ?_
    refine o_yield rfl rfl rfl (y_val tok rfl) ?_
    refine o_yield rfl rfl rfl (y_val tok rfl) ?_
    refine o_end [1, 5, 6] rfl ?_
    refine x_then ?_
    rw [wrapI (n := (i : Int) + 1) (by omega) (by omega), ← crcFold_snoc, ← take_succ_at h_c]
    refine x_round (i + 1) (by omega) (by first | omega | (dsimp only; omega)) (by repeat (first | exact SubF.nil | refine SubF.cons rfl ?_)) (by repeat (first | exact SubO.nil | refine SubO.cons rfl ?_)) rfl (Vw.le.refl _)
  ·
    simp only [Bool.and_eq_true, Bool.or_eq_true, Bool.not_eq_true', Bool.or_eq_false_iff, Bool.and_eq_false_iff, decide_eq_true_eq, decide_eq_false_iff_not, beq_iff_eq, bne_iff_ne, Bool.not_eq_false', beq_eq_false_iff_ne, bne_eq_false_iff_eq, ne_eq, Decidable.not_not, Int.not_lt, Int.not_le] at h
    refine c_exit ?_
    refine x_then_exit ?_
    refine x_then_exit ?_
    refine x_block_hit ?_
    refine x_then ?_
    refine c_seq ?_
    refine c_region ?_
    refine o_yield rfl rfl rfl (y_val tok rfl) ?_
    refine o_yield rfl rfl rfl (y_val tok rfl) ?_
    refine o_yield rfl rfl rfl (y_val tok rfl) ?_
    refine o_end [4] rfl ?_
    refine x_then ?_
    refine c_ret ?_
    refine b_ret tok rfl ?_
    have hil : i = l.length := by omega
    subst hil
    intro E w' hm _
    refine ⟨?_, hm.below (Vw.le.refl _)⟩
    rw [List.take_length]
    have hx1 := crcFold_lt l (x := 4294967295) (by omega)
    have := i64_xor (crcFold 4294967295 l) 4294967295 (by omega) (by omega)
    show Ending.returned (I (bits .xor .i64 (crcFold 4294967295 l : Nat) ((4294967295 : Nat) : Int))) = _
    rw [this]
    rfl

theorem refSum_c (V : Vw) (lv : Value) (l : List UInt8) (w : World) (hV : V.le (vw w)) (hs : SlOf V encByte 1 lv l) (hn : l.length ≤ maxLen) :
    Calls Try.prog 143 #[lv] w fun e w' => e = .returned (I (crcOf l)) ∧ Below w.heap.size w w' := by
  refine enter (E := E0) (O := []) (nl := 0) (V := vw w) [.a (.v lv)] Try.func143 rfl rfl (mem0 E0 0 w) rfl rfl ?_
  refine c_seq ?_
  refine c_region ?_
  refine o_yield rfl rfl rfl (y_val tok rfl) ?_
  refine o_end [0] rfl ?_
  refine x_then ?_
  refine c_seq ?_
  refine c_region ?_
  refine o_yield rfl rfl rfl (y_val tok rfl) ?_
  refine o_call (.a (.v _)) rfl rfl fnok166 rfl rfl rfl (fun hg E w1 hm => by exact refAdd_c V _ l _ (hV.trans hm.leV) hs hn) ?_
  refine o_yield rfl rfl rfl (y_val tok rfl) ?_
  refine o_end [2] rfl ?_
  refine x_then ?_
  refine c_ret ?_
  refine b_ret tok rfl ?_
  intro E w' hm _
  refine ⟨?_, hm.below (Vw.le.refl _)⟩
  rfl

/-! A sum tells one byte that was turned. -/

theorem xor_cancel_r {a b c : Nat} (h : a ^^^ c = b ^^^ c) : a = b := by
  have := congrArg (· ^^^ c) h
  simpa [Nat.xor_assoc] using this

theorem xor_cancel_l {a b c : Nat} (h : c ^^^ a = c ^^^ b) : a = b := by
  rw [Nat.xor_comm c, Nat.xor_comm c] at h
  exact xor_cancel_r h

theorem crcStep_inj {a b : Nat} (ha : a < 4294967296) (hb : b < 4294967296) (h : crcStep a = crcStep b) : a = b := by
  have hp : ∀ x y : Nat, x < 2147483648 → (x ^^^ 2197175160 = y) → 2147483648 ≤ y := fun x y hx hy => by
    have h1 : (x ^^^ 2197175160).testBit 31 = true := by
      rw [Nat.testBit_xor, Nat.testBit_lt_two_pow (x := x) (i := 31) hx]
      decide
    rw [hy] at h1
    exact Nat.ge_two_pow_of_testBit h1
  unfold crcStep at h
  by_cases h1 : a % 2 = 1 <;> by_cases h2 : b % 2 = 1
  · rw [if_pos h1, if_pos h2] at h
    have : a / 2 = b / 2 := xor_cancel_r h
    omega
  · rw [if_pos h1, if_neg h2] at h
    have := hp (a / 2) (b / 2) (by omega) h
    omega
  · rw [if_neg h1, if_pos h2] at h
    have := hp (b / 2) (a / 2) (by omega) h.symm
    omega
  · rw [if_neg h1, if_neg h2] at h
    omega

theorem stepN_inj : ∀ (k : Nat) {a b : Nat}, a < 4294967296 → b < 4294967296 → stepN k a = stepN k b → a = b
  | 0, _, _, _, _, h => h
  | k + 1, _, _, ha, hb, h => stepN_inj k ha hb (crcStep_inj (stepN_lt k ha) (stepN_lt k hb) h)

theorem crcFold_inj : ∀ (l : List UInt8) {x y : Nat}, x < 4294967296 → y < 4294967296 → crcFold x l = crcFold y l → x = y
  | [], _, _, _, _, h => h
  | b :: r, x, y, hx, hy, h => by
    have h1 := crcFold_inj r (stepN_lt 8 (Nat.xor_lt_two_pow (n := 32) hx (byte_lt b))) (stepN_lt 8 (Nat.xor_lt_two_pow (n := 32) hy (byte_lt b))) h
    have h2 := stepN_inj 8 (Nat.xor_lt_two_pow (n := 32) hx (byte_lt b)) (Nat.xor_lt_two_pow (n := 32) hy (byte_lt b)) h1
    exact xor_cancel_r h2

/-- Two rows of bytes that differ in one byte have unlike sums. -/
theorem crcOf_ne (a r : List UInt8) {b c : UInt8} (h : b ≠ c) : crcOf (a ++ b :: r) ≠ crcOf (a ++ c :: r) := by
  intro he
  have h0 : crcFold 4294967295 (a ++ b :: r) = crcFold 4294967295 (a ++ c :: r) := xor_cancel_r he
  have h1 : ∀ d : UInt8, crcFold 4294967295 (a ++ d :: r) = crcFold (stepN 8 (crcFold 4294967295 a ^^^ d.toNat)) r := fun d => by simp [crcFold]
  rw [h1, h1] at h0
  have hx := crcFold_lt a (x := 4294967295) (by omega)
  have lt : ∀ d : UInt8, crcFold 4294967295 a ^^^ d.toNat < 4294967296 := fun d => Nat.xor_lt_two_pow (n := 32) hx (byte_lt d)
  have h2 := crcFold_inj r (stepN_lt 8 (lt b)) (stepN_lt 8 (lt c)) h0
  have h3 := stepN_inj 8 (lt b) (lt c) h2
  exact h (UInt8.toNat_inj.1 (xor_cancel_l h3))
end Go.Proofs.Ytlcpfhjbhogdiaa
