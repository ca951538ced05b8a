import Derived.Test.YtlcpfhjbhogdiaaMH
/- Rows of commands compared; the last key of each seat. -/
set_option linter.unusedVariables false
set_option linter.unusedSimpArgs false
set_option maxRecDepth 100000
namespace Go.Proofs.Ytlcpfhjbhogdiaa
open Go Go.Eng Go.RowKit

def seatOf (n : Int) : Int := if keyB n = true then n.tmod 16 else -1

theorem cof_c (n : Int) (w : World) : Calls Try.prog 98 #[I n] w fun e w' => e = .returned (I (seatOf n)) ∧ Below w.heap.size w w' := by
  refine enter (E := E0) (O := []) (nl := 0) (V := vw w) [.a (.v (I n))] Try.func98 rfl rfl (mem0 E0 0 w) rfl rfl ?_
  refine c_seq ?_
  refine c_region ?_
  refine o_yield rfl rfl rfl (y_val tok rfl) ?_
  refine o_end [0] rfl ?_
  refine x_then ?_
  refine c_seq ?_
  refine c_seq ?_
  refine c_region ?_
  refine o_yield rfl rfl rfl (y_val tok rfl) ?_
  refine o_call (.a (.v _)) rfl rfl fnok128 rfl rfl rfl (fun hg E w1 hm => by exact key_c _ _) ?_
  refine o_end [0, 4] rfl ?_
  refine x_then ?_
  refine c_cond rfl (fun h => ?_) (fun h => ?_)
  ·
    refine c_seq ?_
    refine c_region ?_
    refine o_yield rfl rfl rfl (y_val tok rfl) ?_
    refine o_yield rfl rfl rfl (y_rem rfl (fun hg => by decide)) ?_
    refine o_yield rfl rfl rfl (y_val tok rfl) ?_
    refine o_end [2] rfl ?_
    refine x_then ?_
    refine c_ret ?_
    refine x_then_ret ?_
    refine b_ret tok rfl ?_
    intro E w' hm _
    refine ⟨?_, hm.below (Vw.le.refl _)⟩
    rw [seatOf, if_pos h]; rfl
  ·
    refine c_skip ?_
    refine x_then ?_
    refine c_seq ?_
    refine c_region ?_
    refine o_yield rfl rfl rfl (y_val tok rfl) ?_
    refine o_end [2] rfl ?_
    refine x_then ?_
    refine c_ret ?_
    refine b_ret tok rfl ?_
    intro E w' hm _
    refine ⟨?_, hm.below (Vw.le.refl _)⟩
    rw [seatOf, if_neg (by simp [h])]; rfl

theorem refCof_c (n : Int) (w : World) : Calls Try.prog 50 #[I n] w fun e w' => e = .returned (I (seatOf n)) ∧ Below w.heap.size w w' := by
  refine enter (E := E0) (O := []) (nl := 0) (V := vw w) [.a (.v (I n))] Try.func50 rfl rfl (mem0 E0 0 w) rfl rfl ?_
  refine c_seq ?_
  refine c_region ?_
  refine o_yield rfl rfl rfl (y_val tok rfl) ?_
  refine o_end [0] rfl ?_
  refine x_then ?_
  refine c_seq ?_
  refine c_seq ?_
  refine c_region ?_
  refine o_yield rfl rfl rfl (y_val tok rfl) ?_
  refine o_call (.a (.v _)) rfl rfl fnok99 rfl rfl rfl (fun hg E w1 hm => by exact refKey_c _ _) ?_
  refine o_yield rfl rfl rfl (y_val tok rfl) ?_
  refine o_end [0, 5] rfl ?_
  refine x_then ?_
  refine c_cond rfl (fun h => ?_) (fun h => ?_)
  ·
    refine c_seq ?_
    refine c_region ?_
    refine o_yield rfl rfl rfl (y_val tok rfl) ?_
    refine o_end [2] rfl ?_
    refine x_then ?_
    refine c_ret ?_
    refine x_then_ret ?_
    refine b_ret tok rfl ?_
    intro E w' hm _
    refine ⟨?_, hm.below (Vw.le.refl _)⟩
    rw [seatOf, if_neg (by simpa using h)]; rfl
  ·
    refine c_skip ?_
    refine x_then ?_
    refine c_seq ?_
    refine c_region ?_
    refine o_yield rfl rfl rfl (y_val tok rfl) ?_
    refine o_yield rfl rfl rfl (y_rem rfl (fun hg => by decide)) ?_
    refine o_yield rfl rfl rfl (y_val tok rfl) ?_
    refine o_end [2] rfl ?_
    refine x_then ?_
    refine c_ret ?_
    refine b_ret tok rfl ?_
    intro E w' hm _
    refine ⟨?_, hm.below (Vw.le.refl _)⟩
    rw [seatOf, if_pos (by simpa using h)]; rfl

theorem key_seat {n : Int} (h : keyB n = true) : ∃ j : Nat, seatOf n = j ∧ j < 16 := by
  have hk := h
  simp only [keyB, Bool.and_eq_true, decide_eq_true_eq] at hk
  have h1 := Int.tmod_nonneg 16 (show 0 ≤ n by omega)
  have h2 := Int.tmod_lt_of_pos n (show (0 : Int) < 16 by omega)
  exact ⟨(n.tmod 16).toNat, by rw [seatOf, if_pos h]; omega, by omega⟩

theorem same_c (V : Vw) (av bv : Value) (A B : List Cmd) (w : World) (hV : V.le (vw w)) (ha0 : SlOf V Cmd.cells 8 av A) (hb0 : SlOf V Cmd.cells 8 bv B) (hA : A.length ≤ 1000000) (hB : B.length ≤ 1000000) :
    Calls Try.prog 46 #[av, bv] w fun e w' => (∃ r : Bool, e = .returned (.bool r) ∧ (r = true ↔ A = B)) ∧ Below w.heap.size w w' := by
  have ha := ha0.mono hV
  have hb := hb0.mono hV
  refine enter (E := E0) (O := []) (nl := 0) (V := vw w) [.a (.v av), .a (.v bv)] Try.func46 rfl rfl (mem0 E0 0 w) rfl rfl ?_
  refine c_seq ?_
  refine c_region ?_
  refine o_yield rfl rfl rfl (y_val tok rfl) ?_
  refine o_end [0, 1] rfl ?_
  refine x_then ?_
  refine c_seq ?_
  refine c_seq ?_
  refine c_region ?_
  refine o_yield rfl rfl rfl (y_val tok rfl) ?_
  refine o_yield rfl rfl rfl (y_len tok rfl (fun hg => ha.sl)) ?_
  refine o_yield rfl rfl rfl (y_val tok rfl) ?_
  refine o_yield rfl rfl rfl (y_len tok rfl (fun hg => hb.sl)) ?_
  refine o_yield rfl rfl rfl (y_val tok rfl) ?_
  refine o_end [0, 1, 10] rfl ?_
  refine x_then ?_
  refine c_cond rfl (fun h => ?_) (fun h => ?_)
  ·
    refine c_seq ?_
    refine c_region ?_
    refine o_yield rfl rfl rfl (y_val tok rfl) ?_
    refine o_end [4] rfl ?_
    refine x_then ?_
    refine c_ret ?_
    refine x_then_ret ?_
    refine b_ret tok rfl ?_
    intro E w' hm _
    refine ⟨?_, hm.below (Vw.le.refl _)⟩
    refine ⟨false, rfl, ?_⟩
    constructor
    · intro h'; cases h'
    · intro h'; subst h'; simp at h
  ·
    have hl : A.length = B.length := by simp at h; omega
    clear h
    refine c_skip ?_
    refine x_then ?_
    refine c_seq ?_
    refine c_seq ?_
    refine c_region ?_
    refine o_yield rfl rfl rfl (y_val tok rfl) ?_
    refine o_end [0, 1, 5] rfl ?_
    refine x_then ?_
    refine c_block ?_
    refine c_loopK [0, 1] [] rfl rfl (σ := Nat) (fun k => [(5, .a (.v (I k)))]) (fun k => []) (fun k => k ≤ A.length ∧ A.take k = B.take k) (fun k => A.length - k) (0) (⟨by omega, rfl⟩) (by repeat (first | exact SubF.nil | refine SubF.cons rfl ?_)) (by repeat (first | exact SubO.nil | refine SubO.cons rfl ?_)) rfl ?_
    rintro k ⟨hk, heq⟩
    refine c_seq ?_
    refine c_seq ?_
    refine c_region ?_
    refine o_yield rfl rfl rfl (y_val tok rfl) ?_
    refine o_yield rfl rfl rfl (y_val tok rfl) ?_
    refine o_yield rfl rfl rfl (y_len tok rfl (fun hg => ha.sl)) ?_
    refine o_yield rfl rfl rfl (y_val tok rfl) ?_
    refine o_end [0, 1, 5, 14] rfl ?_
    refine x_then ?_
    refine c_cond rfl (fun h => ?_) (fun h => ?_)
    ·
      simp only [Bool.and_eq_true, Bool.or_eq_true, Bool.not_eq_true', Bool.or_eq_false_iff, Bool.and_eq_false_iff, decide_eq_true_eq, decide_eq_false_iff_not, beq_iff_eq, bne_iff_ne, Bool.not_eq_false', beq_eq_false_iff_ne, bne_eq_false_iff_eq, ne_eq, Decidable.not_not, Int.not_lt, Int.not_le] at h
      refine c_skip ?_
      refine x_then ?_
      refine c_seq ?_
      refine c_block ?_
      refine c_seq ?_
      refine c_draw mixed (by kernel_rfl) ?_
      refine d_yield rfl rfl rfl (y_val tok rfl) rfl ?_
      refine d_yield rfl rfl rfl (y_val tok rfl) rfl ?_
      obtain ⟨x, h_x⟩ := ha.at (k := k) (by omega)
      have hlt_x := lt_of_at h_x
      refine d_yield rfl rfl rfl (y_idx tok rfl (fun hg => ha.sl) (fun hg => ⟨by omega, by omega⟩)) rfl ?_
      refine d_yield rfl rfl rfl (y_lel tok (k) 0 (x) rfl (fun hg => ha) (fun hg => h_x) rfl rfl) rfl ?_
      refine d_yield rfl rfl rfl (y_val tok rfl) rfl ?_
      refine d_yield rfl rfl rfl (y_val tok rfl) rfl ?_
      obtain ⟨y, h_y⟩ := hb.at (k := k) (by omega)
      have hlt_y := lt_of_at h_y
      refine d_yield rfl rfl rfl (y_idx tok rfl (fun hg => hb.sl) (fun hg => ⟨by omega, by omega⟩)) rfl ?_
      refine d_yield rfl rfl rfl (y_lel tok (k) 0 (y) rfl (fun hg => hb) (fun hg => h_y) rfl rfl) rfl ?_
      refine d_yield rfl rfl rfl (y_seq (.bool (!(x.eqB y))) rfl (fun E w => cmdEq x y w (.inr rfl))) rfl ?_
      refine d_end [0, 1, 5, 25] rfl ?_
      refine x_then ?_
      refine c_cond rfl (fun h => ?_) (fun h => ?_)
      ·
        refine c_seq ?_
        refine c_region ?_
        refine o_yield rfl rfl rfl (y_val tok rfl) ?_
        refine o_end [4] rfl ?_
        refine x_then ?_
        refine c_ret ?_
        refine x_block_ret ?_
        refine x_then_ret ?_
        refine x_then_ret ?_
        refine x_block_ret ?_
        refine x_then_ret ?_
        refine b_ret tok rfl ?_
        intro E w' hm _
        refine ⟨?_, hm.below (Vw.le.refl _)⟩
        refine ⟨false, rfl, ?_⟩
        constructor
        · intro h'; cases h'
        · intro h'
          subst h'
          have e : x = y := Option.some.inj (h_x.symm.trans h_y)
          rw [(Cmd.eqB_iff x y).2 e] at h
          cases h
      ·
        have e : x = y := (Cmd.eqB_iff x y).1 (by simpa using h)
        clear h
        refine c_skip ?_
        refine x_block ?_
        refine x_then ?_
        refine c_region ?_
        refine o_yield rfl rfl rfl (y_val tok rfl) ?_
        refine o_yield rfl rfl rfl (y_val tok rfl) ?_
        refine o_yield rfl rfl rfl (y_val tok rfl) ?_
        refine o_end [0, 1, 5] rfl ?_
        refine x_then ?_
        rw [wrapI (n := (k : Int) + 1) (by omega) (by omega)]
        refine x_round (k + 1) (⟨by omega, by rw [take_succ_at h_x, take_succ_at h_y, heq, e]⟩) (by first | omega | (dsimp only; omega)) (by repeat (first | exact SubF.nil | refine SubF.cons rfl ?_)) (by repeat (first | exact SubO.nil | refine SubO.cons rfl ?_)) rfl (Vw.le.refl _)
    ·
      simp only [Bool.and_eq_true, Bool.or_eq_true, Bool.not_eq_true', Bool.or_eq_false_iff, Bool.and_eq_false_iff, decide_eq_true_eq, decide_eq_false_iff_not, beq_iff_eq, bne_iff_ne, Bool.not_eq_false', beq_eq_false_iff_ne, bne_eq_false_iff_eq, ne_eq, Decidable.not_not, Int.not_lt, Int.not_le] at h
      refine c_exit ?_
      refine x_then_exit ?_
      refine x_then_exit ?_
      refine x_block_hit ?_
      refine x_then ?_
      refine c_seq ?_
      refine c_region ?_
      refine o_yield rfl rfl rfl (y_val tok rfl) ?_
      refine o_end [4] rfl ?_
      refine x_then ?_
      refine c_ret ?_
      refine b_ret tok rfl ?_
      have hkL : k = A.length := by omega
      subst hkL
      intro E w' hm _
      refine ⟨?_, hm.below (Vw.le.refl _)⟩
      refine ⟨true, rfl, fun _ => ?_, fun _ => rfl⟩
      rw [List.take_length, hl, List.take_length] at heq
      exact heq
end Go.Proofs.Ytlcpfhjbhogdiaa

/- The last key of each seat: the program's. -/
set_option linter.unusedVariables false
set_option linter.unusedSimpArgs false
set_option maxRecDepth 100000
namespace Go.Proofs.Ytlcpfhjbhogdiaa
open Go Go.Eng Go.RowKit

def updL (ls : List Int) (n : Int) : List Int := if keyB n = true then ls.set (seatOf n).toNat (max (ls[(seatOf n).toNat]?.getD 0) n) else ls

def lastsV : List Cmd → List Int → List Int
  | [], ls => ls
  | c :: r, ls => lastsV r (updL ls c.by_)

def zeros16 : List Int := List.replicate 16 0

theorem updL_length (ls : List Int) (n : Int) : (updL ls n).length = ls.length := by
  rw [updL]; split <;> simp

theorem over_set : ∀ (ls : List Int) (j : Nat) (n : Int), j < ls.length → overL j [I n] (ls.flatMap encI64) = (ls.set j n).flatMap encI64
  | x :: ls, 0, n, h => by simp [overL, encI64]
  | x :: ls, j + 1, n, h => by
    have := over_set ls j n (by simpa using h)
    simp only [overL, List.length_singleton] at this ⊢
    rw [List.set_cons_succ, List.flatMap_cons, List.flatMap_cons, show encI64 x = [I x] from rfl, List.singleton_append, List.take_succ_cons, show j + 1 + 1 = (j + 1) + 1 from rfl, List.drop_succ_cons, List.cons_append, List.cons_append, this, List.singleton_append]

/-- Whether every key stands at most at its seat's last. -/
def AtMost (L : List Cmd) (ls : List Int) : Prop := ∀ c ∈ L, keyB c.by_ = true → ∃ x, ls[(seatOf c.by_).toNat]? = some x ∧ c.by_ ≤ x

theorem upd_most {L : List Cmd} {ls : List Int} (h : AtMost L ls) (c : Cmd) (hl : ls.length = 16) : AtMost (L ++ [c]) (updL ls c.by_) := by
  intro d hd hk
  rw [updL]
  rw [List.mem_append, List.mem_singleton] at hd
  obtain ⟨i, hi, hi16⟩ := key_seat hk
  have hii : (seatOf d.by_).toNat = i := by omega
  split
  · rename_i hc
    obtain ⟨j, hj, hj16⟩ := key_seat hc
    have hjj : (seatOf c.by_).toNat = j := by omega
    rw [hii, hjj]
    by_cases hij : i = j
    · subst hij
      refine ⟨max (ls[i]?.getD 0) c.by_, by rw [List.getElem?_set_self (by omega)], ?_⟩
      rcases hd with hd | rfl
      · obtain ⟨x, hx, hle⟩ := h d hd hk
        rw [hii] at hx
        rw [hx]
        simp only [Option.getD_some]; omega
      · omega
    · rcases hd with hd | rfl
      · obtain ⟨x, hx, hle⟩ := h d hd hk
        rw [hii] at hx
        exact ⟨x, by rw [List.getElem?_set_ne (by omega)]; exact hx, hle⟩
      · omega
  · rename_i hc
    rcases hd with hd | rfl
    · exact h d hd hk
    · exact absurd hk hc

theorem lasts_most : ∀ (R L : List Cmd) (ls : List Int), AtMost L ls → ls.length = 16 → AtMost (L ++ R) (lastsV R ls) ∧ (lastsV R ls).length = 16
  | [], L, ls, h, hl => by rw [List.append_nil]; exact ⟨h, hl⟩
  | c :: R, L, ls, h, hl => by
    have := lasts_most R (L ++ [c]) (updL ls c.by_) (upd_most h c hl) (by rw [updL_length]; exact hl)
    rw [List.append_assoc] at this
    exact this

theorem lasts_all (L : List Cmd) : AtMost L (lastsV L zeros16) ∧ (lastsV L zeros16).length = 16 :=
  lasts_most L [] zeros16 (by intro c hc; cases hc) rfl

def IntsPost (ls : List Int) (w : World) (e : Ending) (w' : World) : Prop :=
  (∃ v, e = .returned v ∧ w'.ownsRow w.heap.size 3 1 v ls.length (ls.flatMap encI64)) ∧ Below w.heap.size w w'

theorem lasts_c (V : Vw) (sv : Value) (L : List Cmd) (w : World) (hV : V.le (vw w)) (hs0 : SlOf V Cmd.cells 8 sv L) (hln : L.length ≤ 1000000) :
    Calls Try.prog 48 #[sv] w (IntsPost (lastsV L zeros16) w) := by
  have hs := hs0.mono hV
  refine enter (E := E0) (O := []) (nl := 0) (V := vw w) [.a (.v sv)] Try.func48 rfl rfl (mem0 E0 0 w) rfl rfl ?_
  refine c_seq ?_
  refine c_region ?_
  refine o_yield rfl rfl rfl (y_val tok rfl) ?_
  refine o_end [0] rfl ?_
  refine x_then ?_
  refine c_seq ?_
  refine c_region ?_
  refine o_step rfl rfl rfl rfl rfl (s_mk tok 16 16 rfl rfl rfl (by decide) (by decide) (by decide)) (fun _ _ => ?_)
  refine o_yield rfl rfl rfl (y_val tok rfl) ?_
  refine o_end [0, 3] rfl ?_
  refine x_then ?_
  refine c_seq ?_
  refine c_seq ?_
  refine c_region ?_
  refine o_yield rfl rfl rfl (y_val tok rfl) ?_
  rw [show repZ 16 [I 0] = zeros16.flatMap encI64 from rfl]
  refine o_yield rfl rfl rfl (y_len tok rfl (fun hg => hs.sl)) ?_
  refine o_yield rfl rfl rfl (y_val tok rfl) ?_
  refine o_end [3, 8, 9, 10] rfl ?_
  refine x_then ?_
  refine c_block ?_
  refine c_loopK [3, 8, 9] [0] rfl rfl (σ := Nat × List Int) (fun (k, ls) => [(10, .a (.v (I k)))]) (fun (k, ls) => [(0, .row 3 1 16 (ls.flatMap encI64))]) (fun (k, ls) => k ≤ L.length ∧ lastsV L zeros16 = lastsV (L.drop k) ls ∧ ls.length = 16) (fun (k, ls) => L.length - k) ((0, zeros16)) (⟨by omega, rfl, rfl⟩) (by repeat (first | exact SubF.nil | refine SubF.cons rfl ?_)) (by repeat (first | exact SubO.nil | refine SubO.cons rfl ?_)) rfl ?_
  rintro ⟨k, ls⟩ ⟨hk, heq, hal⟩
  refine c_seq ?_
  refine c_region ?_
  refine o_yield rfl rfl rfl (y_val tok rfl) ?_
  refine o_end [3, 8, 9, 10, 11] rfl ?_
  refine x_then ?_
  refine c_seq ?_
  refine c_cond rfl (fun h => ?_) (fun h => ?_)
  ·
    simp only [Bool.and_eq_true, Bool.or_eq_true, Bool.not_eq_true', Bool.or_eq_false_iff, Bool.and_eq_false_iff, decide_eq_true_eq, decide_eq_false_iff_not, beq_iff_eq, bne_iff_ne, Bool.not_eq_false', beq_eq_false_iff_ne, bne_eq_false_iff_eq, ne_eq, Decidable.not_not, Int.not_lt, Int.not_le] at h
    refine c_skip ?_
    refine x_then ?_
    refine c_seq ?_
    refine c_block ?_
    refine c_seq ?_
    refine c_region ?_
    obtain ⟨c, h_c⟩ := hs.at (k := k) (by omega)
    have hlt_c := lt_of_at h_c
    refine o_yield rfl rfl rfl (y_idx tok rfl (fun hg => hs.sl) (fun hg => ⟨by omega, by omega⟩)) ?_
    refine o_yield rfl rfl rfl (y_lel tok (k) 0 (c) rfl (fun hg => hs) (fun hg => h_c) rfl rfl) ?_
    refine o_new tok rfl rfl rfl rfl ?_
    refine o_store tok rfl rfl rfl (by first | exact ⟨trivial, trivial⟩ | simp [onesP, oneP, lk, Value.oneCell']) ?_
    refine o_end [3, 5, 8, 9, 10] rfl ?_
    refine x_then ?_
    refine c_seq ?_
    refine c_region ?_
    refine o_yield rfl rfl rfl (y_val tok rfl) ?_
    refine o_yield rfl rfl rfl (y_val tok rfl) ?_
    rw [drop_at h_c, lastsV] at heq
    refine o_call (.a (.v _)) rfl rfl fnok98 rfl rfl rfl (fun hg E w1 hm => by exact cof_c c.by_ _) ?_
    refine o_yield rfl rfl rfl (y_val tok rfl) ?_
    refine o_end [3, 5, 6, 8, 9, 10] rfl ?_
    refine x_then ?_
    refine c_seq ?_
    refine c_region ?_
    refine o_yield rfl rfl rfl (y_val tok rfl) ?_
    refine o_yield rfl rfl rfl (y_val tok rfl) ?_
    refine o_end [3, 5, 6, 8, 9, 10, 18] rfl ?_
    refine x_then ?_
    refine c_cond rfl (fun h => ?_) (fun h => ?_)
    ·
      simp only [Bool.and_eq_true, Bool.or_eq_true, Bool.not_eq_true', Bool.or_eq_false_iff, Bool.and_eq_false_iff, decide_eq_true_eq, decide_eq_false_iff_not, beq_iff_eq, bne_iff_ne, Bool.not_eq_false', beq_eq_false_iff_ne, bne_eq_false_iff_eq, ne_eq, Decidable.not_not, Int.not_lt, Int.not_le] at h
      refine c_heldS [10] mixed rfl (by repeat (first | exact SubO.nil | refine SubO.cons rfl ?_)) rfl ?_
      refine t_takeD 0 rfl (by kernel_rfl) rfl rfl rfl (y_val tok rfl) rfl ?_
      refine t_takeD 1 rfl (by kernel_rfl) rfl rfl rfl (y_val tok rfl) rfl ?_
      refine t_takeD 2 rfl (by kernel_rfl) rfl rfl rfl (y_val tok rfl) rfl ?_
      refine t_takeD 3 rfl (by kernel_rfl) rfl rfl rfl (y_val tok rfl) rfl ?_
      have hkb : keyB c.by_ = true := by
        rw [seatOf] at h
        cases hq : keyB c.by_ with
        | true => rfl
        | false => rw [hq, if_neg (by decide)] at h; omega
      rw [updL, if_pos hkb] at heq
      obtain ⟨j, hj, hj16⟩ := key_seat hkb
      rw [hj, Int.toNat_natCast] at heq
      rw [hj]
      obtain ⟨x, hx⟩ : ∃ x, ls[j]? = some x := ⟨_, List.getElem?_eq_getElem (by omega)⟩
      rw [hx, Option.getD_some] at heq
      refine t_takeD 4 rfl (by kernel_rfl) rfl rfl rfl (y_own (s := .a (.rel 0 j)) 0 rfl rfl (fun v V' hv => y_idxK tok j rfl (by simp) (fun hg => hv) (fun hg => by omega))) rfl ?_
      refine t_takeD 5 rfl (by kernel_rfl) rfl rfl rfl (y_own (s := .a (.v (I x))) 0 rfl rfl (fun v V' hv => y_lel (enc := encI64) (l := ls) tok j 0 x rfl (fun hg => ⟨by rw [hal]; exact hv, fun _ => rfl⟩) (fun hg => hx) (by simp) rfl)) rfl ?_
      refine t_takeD 6 rfl (by kernel_rfl) rfl rfl rfl (y_val tok rfl) rfl ?_
      refine t_takeD 7 rfl (by kernel_rfl) rfl rfl rfl (y_val tok rfl) rfl ?_
      refine t_takeD 8 rfl (by kernel_rfl) rfl rfl rfl (y_mm rfl) rfl ?_
      refine t_takeD 9 rfl (by kernel_rfl) rfl rfl rfl (y_own (s := .a (.rel 0 j)) 0 rfl rfl (fun v V' hv => y_idxK tok j rfl (by simp) (fun hg => hv) (fun hg => by omega))) rfl ?_
      refine t_go ?_
      refine h_one 10 (by kernel_rfl) ?_
      refine h_toN 10 rfl rfl rfl rfl rfl (s_rst tok rfl rfl (by intro u hu; simp only [List.mem_singleton] at hu; subst hu; rfl) (by simp only [List.length_singleton]; omega) (by decide)) (.inl rfl) (fun _ _ => ?_)
      refine h_done [3, 8, 9, 10] (by kernel_rfl) rfl ?_
      refine x_block ?_
      refine x_then ?_
      refine c_region ?_
      refine o_yield rfl rfl rfl (y_val tok rfl) ?_
      refine o_yield rfl rfl rfl (y_val tok rfl) ?_
      refine o_end [3, 8, 9, 10] rfl ?_
      refine x_then ?_
      rw [show (bif true then max x c.by_ else min x c.by_) = max x c.by_ from rfl, over_set ls j (max x c.by_) (by omega), wrapI (n := (k : Int) + 1) (by omega) (by omega)]
      refine x_round ((k + 1, ls.set j (max x c.by_))) (⟨by omega, heq, by rw [List.length_set]; exact hal⟩) (by first | omega | (dsimp only; omega)) (by repeat (first | exact SubF.nil | refine SubF.cons rfl ?_)) (by repeat (first | exact SubO.nil | refine SubO.cons rfl ?_)) rfl (Vw.le.refl _)
    ·
      simp only [Bool.and_eq_true, Bool.or_eq_true, Bool.not_eq_true', Bool.or_eq_false_iff, Bool.and_eq_false_iff, decide_eq_true_eq, decide_eq_false_iff_not, beq_iff_eq, bne_iff_ne, Bool.not_eq_false', beq_eq_false_iff_ne, bne_eq_false_iff_eq, ne_eq, Decidable.not_not, Int.not_lt, Int.not_le] at h
      refine c_skip ?_
      refine x_block ?_
      refine x_then ?_
      refine c_region ?_
      refine o_yield rfl rfl rfl (y_val tok rfl) ?_
      refine o_yield rfl rfl rfl (y_val tok rfl) ?_
      refine o_end [3, 8, 9, 10] rfl ?_
      refine x_then ?_
      have hkb : keyB c.by_ = false := by
        cases hq : keyB c.by_ with
        | false => rfl
        | true => obtain ⟨j, hj, _⟩ := key_seat hq; omega
      rw [updL, if_neg (by simp [hkb])] at heq
      rw [wrapI (n := (k : Int) + 1) (by omega) (by omega)]
      refine x_round ((k + 1, ls)) (⟨by omega, heq, hal⟩) (by first | omega | (dsimp only; omega)) (by repeat (first | exact SubF.nil | refine SubF.cons rfl ?_)) (by repeat (first | exact SubO.nil | refine SubO.cons rfl ?_)) rfl (Vw.le.refl _)
  ·
    simp only [Bool.and_eq_true, Bool.or_eq_true, Bool.not_eq_true', Bool.or_eq_false_iff, Bool.and_eq_false_iff, decide_eq_true_eq, decide_eq_false_iff_not, beq_iff_eq, bne_iff_ne, Bool.not_eq_false', beq_eq_false_iff_ne, bne_eq_false_iff_eq, ne_eq, Decidable.not_not, Int.not_lt, Int.not_le] at h
    refine c_exit ?_
    refine x_then_exit ?_
    refine x_then_exit ?_
    refine x_block_hit ?_
    refine x_then ?_
    refine c_seq ?_
    refine c_region ?_
    refine o_yield rfl rfl rfl (y_val tok rfl) ?_
    refine o_yield rfl rfl rfl (y_val tok rfl) ?_
    refine o_end [2] rfl ?_
    refine x_then ?_
    refine c_ret ?_
    refine b_ret tok rfl ?_
    have hkL : k = L.length := by omega
    subst hkL
    rw [List.drop_length, lastsV] at heq
    intro E w' hm _
    refine ⟨⟨_, rfl, ?_⟩, hm.below (Vw.le.refl _)⟩
    rw [heq, hal]
    exact hm.rowFresh (Vw.le.refl _) (l := 0) rfl
end Go.Proofs.Ytlcpfhjbhogdiaa

/- The law DecidedFront from what comes in. -/
set_option linter.unusedVariables false
set_option linter.unusedSimpArgs false
set_option maxRecDepth 100000
namespace Go.Proofs.Ytlcpfhjbhogdiaa
open Go Go.Eng Go.RowKit

theorem same_eq (V : Vw) (av bv : Value) (A : List Cmd) (w : World) (hV : V.le (vw w)) (ha0 : SlOf V Cmd.cells 8 av A) (hb0 : SlOf V Cmd.cells 8 bv A) (hA : A.length ≤ 1000000) :
    Calls Try.prog 46 #[av, bv] w fun e w' => e = .returned (.bool true) ∧ Below w.heap.size w w' := by
  refine (same_c V av bv A A w hV ha0 hb0 hA hA).mono ?_
  rintro e w' ⟨⟨r, rfl, hr⟩, hb⟩
  rw [hr.2 rfl]
  exact ⟨rfl, hb⟩

theorem str_ones (l : List ByteArray) : ∀ u ∈ l.flatMap encS, u.oneCell' = true := by
  intro u hu
  obtain ⟨x, _, hx⟩ := List.mem_flatMap.1 hu
  simp only [List.mem_singleton] at hx
  subst hx; rfl

theorem row_good : ∀ (L : List Cmd) (R : List ByteArray) (acc : List Cmd), (∀ c ∈ L, cmdB c = true) → rowV (L.map decS ++ R) acc = rowV R (acc ++ L)
  | [], R, acc, _ => by rw [List.map_nil, List.nil_append, List.append_nil]
  | c :: L, R, acc, h => by
    obtain ⟨_, _, h3, h4, _, h6, _⟩ := dec_back (h c (List.mem_cons_self ..))
    rw [List.map_cons, List.cons_append, rowV, h6, if_neg (by decide), h3, if_neg (by decide), h4, row_good L R (acc ++ [c]) (fun d hd => h d (List.mem_cons_of_mem _ hd)), List.append_assoc]
    rfl

theorem row_front (L : List Cmd) (R : List ByteArray) (h : ∀ c ∈ L, cmdB c = true) : rowV ((L.map decS ++ [ByteArray.empty]) ++ R) [] = (L, 0) := by
  rw [List.append_assoc, row_good L _ [] h, List.singleton_append, rowV, drE_empty, if_neg (by decide), if_pos drB_empty, List.nil_append]

theorem row_all (L : List Cmd) (h : ∀ c ∈ L, cmdB c = true) : rowV (L.map decS) [] = (L, 0) := by
  have := row_good L [] [] h
  rw [List.append_nil, List.nil_append] at this
  exact this

section
variable {o : Oper} {n : Nat} {F : Frame0} {C : List Nat} {O : Own} {nl : Nat} {V : Vw}

theorem s_row {p : List (Nat × Bool)} (L : List ByteArray) (r : List Cmd × Int) (hr : rowV L [] = r) {ss : List SV} (hv : evalC F p o.op = some (44, ss)) (hL : ∀ s ∈ L, s.size ≤ maxLen) (hln : L.length ≤ 1000000)
    (hargs : ∀ E w, Mem E O nl V w → ∃ sv, ss.map (SV.den E) = [sv] ∧ SlOf (vw w) encS 1 sv L) :
    StepTo Try.prog o p n F C O nl V (σ := Unit) (fun _ => True) (fun _ => .tup [.row nl, .v (I r.2)]) (fun _ => (nl, .row 61 8 r.1.length (r.1.flatMap Cmd.cells)) :: O) (nl + 1) (fun _ => V) := by
  refine s_callR (fun _ => True) (fun _ => .tup [.row nl, .v (I r.2)]) 61 8 (fun _ => r.1.length) (fun _ => r.1.flatMap Cmd.cells) hv fnok44 (fun _ => by simp [SV.ok, allOk, A.ok, blt_iff]) ?_
  intro E w hm
  obtain ⟨sv, ha, hb⟩ := hargs E w hm
  rw [ha]
  refine (row_c (vw w) sv L w (Vw.le.refl _) hb hL hln).mono ?_
  rintro e w' ⟨⟨v, rfl, hown⟩, hbl⟩
  rw [hr] at hown
  exact ⟨(), v, by rw [hr]; simp [SV.den, A.den, Env.setκ], hown, hbl, trivial⟩

theorem s_lasts {p : List (Nat × Bool)} (L : List Cmd) {ss : List SV} (hv : evalC F p o.op = some (48, ss)) (hln : L.length ≤ 1000000)
    (hargs : ∀ E w, Mem E O nl V w → ∃ sv, ss.map (SV.den E) = [sv] ∧ SlOf (vw w) Cmd.cells 8 sv L) :
    StepTo Try.prog o p n F C O nl V (σ := Unit) (fun _ => True) (fun _ => .a (.row nl)) (fun _ => (nl, .row 3 1 (lastsV L zeros16).length ((lastsV L zeros16).flatMap encI64)) :: O) (nl + 1) (fun _ => V) := by
  refine s_callR (fun _ => True) (fun _ => .a (.row nl)) 3 1 (fun _ => (lastsV L zeros16).length) (fun _ => (lastsV L zeros16).flatMap encI64) hv fnok48 (fun _ => by simp [SV.ok, A.ok, blt_iff]) ?_
  intro E w hm
  obtain ⟨sv, ha, hb⟩ := hargs E w hm
  rw [ha]
  refine (lasts_c (vw w) sv L w (Vw.le.refl _) hb hln).mono ?_
  rintro e w' ⟨⟨v, rfl, hown⟩, hbl⟩
  exact ⟨(), v, by simp [SV.den, A.den, Env.setκ], hown, hbl, trivial⟩
end

theorem decidedFront_law (w : World) {v0 v1 : Value} (R0 : ∃ l : List Cmd, SlOf (vw w) Cmd.cells 8 v0 l ∧ l.length ≤ maxLen ∧ ∀ a ∈ l, Cmd.Ok a) (R1 : ∃ l : List ByteArray, SlOf (vw w) encS 1 v1 l ∧ l.length ≤ maxLen ∧ ∀ a ∈ l, a.size ≤ maxLen) :
    Calls Try.prog 12 #[v0, v1] w fun e w' => e = .returned (.bool true) ∧ Below w.heap.size w w' := by
  obtain ⟨L, hs, hLm, hLok⟩ := R0
  obtain ⟨T, ht, hTm, hTok⟩ := R1
  simp only [maxLen] at hLm hTm
  refine enter (E := E0) (O := []) (nl := 0) (V := vw w) [.a (.v v0), .a (.v v1)] Try.func12 rfl rfl (mem0 E0 0 w) rfl rfl ?_
  refine c_seq ?_
  refine c_region ?_
  refine o_yield rfl rfl rfl (y_val tok rfl) ?_
  refine o_end [0, 1] rfl ?_
  refine x_then ?_
  refine c_seq ?_
  refine c_seq ?_
  refine c_region ?_
  refine o_yield rfl rfl rfl (y_val tok rfl) ?_
  refine o_yield rfl rfl rfl (y_len tok rfl (fun hg => hs.sl)) ?_
  refine o_yield rfl rfl rfl (y_val tok rfl) ?_
  refine o_yield rfl rfl rfl (y_val tok rfl) ?_
  refine o_yield rfl rfl rfl (y_val tok rfl) ?_
  refine o_yield rfl rfl rfl (y_len tok rfl (fun hg => ht.sl)) ?_
  refine o_yield rfl rfl rfl (y_val tok rfl) ?_
  refine o_yield rfl rfl rfl (y_val tok rfl) ?_
  refine o_end [0, 1, 22] rfl ?_
  refine x_then ?_
  refine c_cond rfl (fun h => ?_) (fun h => ?_)
  ·
    simp only [Bool.and_eq_true, Bool.or_eq_true, Bool.not_eq_true', Bool.or_eq_false_iff, Bool.and_eq_false_iff, decide_eq_true_eq, decide_eq_false_iff_not, beq_iff_eq, bne_iff_ne, Bool.not_eq_false', beq_eq_false_iff_ne, bne_eq_false_iff_eq, ne_eq, Decidable.not_not, Int.not_lt, Int.not_le] at h
    refine c_seq ?_
    refine c_region ?_
    refine o_call (.a (.v _)) rfl rfl fnok38 rfl rfl rfl (fun hg E w1 hm => by exact wakes12_c _) ?_
    refine o_yield rfl rfl rfl (y_val tok rfl) ?_
    refine o_end [4] rfl ?_
    refine x_then ?_
    refine c_ret ?_
    refine x_then_ret ?_
    refine b_ret tok rfl ?_
    intro E w' hm _
    refine ⟨?_, hm.below (Vw.le.refl _)⟩
    rfl
  ·
    simp only [Bool.and_eq_true, Bool.or_eq_true, Bool.not_eq_true', Bool.or_eq_false_iff, Bool.and_eq_false_iff, decide_eq_true_eq, decide_eq_false_iff_not, beq_iff_eq, bne_iff_ne, Bool.not_eq_false', beq_eq_false_iff_ne, bne_eq_false_iff_eq, ne_eq, Decidable.not_not, Int.not_lt, Int.not_le] at h
    obtain ⟨hL, hT⟩ := h
    refine c_skip ?_
    refine x_then ?_
    refine c_seq ?_
    refine c_region ?_
    refine o_yield rfl rfl rfl (y_val tok rfl) ?_
    refine o_end [0, 1, 5] rfl ?_
    refine x_then ?_
    refine c_seq ?_
    refine c_seq ?_
    refine c_region ?_
    refine o_yield rfl rfl rfl (y_val tok rfl) ?_
    refine o_end [0, 1, 5, 6] rfl ?_
    refine x_then ?_
    refine c_block ?_
    refine k_nil 5 9 1 rfl rfl ?_
    refine c_loopK [0, 1] [0] rfl rfl (σ := Nat) (fun i => [(5, .a (.row 0)), (6, .a (.v (I i)))]) (fun i => [(0, .row 9 1 ((L.take i).map decS).length (((L.take i).map decS).flatMap encS))]) (fun i => i ≤ L.length ∧ (∀ c ∈ L.take i, cmdB c = true)) (fun i => L.length - i) (0) (⟨by omega, by simp⟩) (by repeat (first | exact SubF.nil | refine SubF.cons rfl ?_)) (by repeat (first | exact SubO.nil | refine SubO.cons rfl ?_)) rfl ?_
    rintro i ⟨hi, hall⟩
    refine c_seq ?_
    refine c_seq ?_
    refine c_region ?_
    refine o_yield rfl rfl rfl (y_val tok rfl) ?_
    refine o_yield rfl rfl rfl (y_val tok rfl) ?_
    refine o_yield rfl rfl rfl (y_len tok rfl (fun hg => hs.sl)) ?_
    refine o_yield rfl rfl rfl (y_val tok rfl) ?_
    refine o_end [0, 1, 5, 6, 27] rfl ?_
    refine x_then ?_
    refine c_cond rfl (fun h => ?_) (fun h => ?_)
    ·
      simp only [Bool.and_eq_true, Bool.or_eq_true, Bool.not_eq_true', Bool.or_eq_false_iff, Bool.and_eq_false_iff, decide_eq_true_eq, decide_eq_false_iff_not, beq_iff_eq, bne_iff_ne, Bool.not_eq_false', beq_eq_false_iff_ne, bne_eq_false_iff_eq, ne_eq, Decidable.not_not, Int.not_lt, Int.not_le] at h
      refine c_skip ?_
      refine x_then ?_
      refine c_seq ?_
      refine c_block ?_
      refine c_seq ?_
      refine c_region ?_
      refine o_yield rfl rfl rfl (y_val tok rfl) ?_
      refine o_yield rfl rfl rfl (y_val tok rfl) ?_
      obtain ⟨c, h_c⟩ := hs.at (k := i) (by omega)
      have hlt_c := lt_of_at h_c
      refine o_yield rfl rfl rfl (y_idx tok rfl (fun hg => hs.sl) (fun hg => ⟨by omega, by omega⟩)) ?_
      refine o_yield rfl rfl rfl (y_lel tok (i) 0 (c) rfl (fun hg => hs) (fun hg => h_c) rfl rfl) ?_
      refine o_call (.a (.v _)) rfl rfl fnok36 rfl rfl rfl (fun hg E w1 hm => by exact cmdBytes_c c _) ?_
      refine o_yield rfl rfl rfl (y_val tok rfl) ?_
      refine o_yield rfl rfl rfl (y_val tok rfl) ?_
      refine o_yield rfl rfl rfl (y_val tok rfl) ?_
      refine o_yield rfl rfl rfl (y_val tok rfl) ?_
      refine o_yield rfl rfl rfl (y_val tok rfl) ?_
      refine o_end [0, 1, 5, 6, 7, 8] rfl ?_
      refine x_then ?_
      refine c_seq ?_
      refine c_seq ?_
      refine c_region ?_
      refine o_yield rfl rfl rfl (y_val tok rfl) ?_
      refine o_yield rfl rfl rfl (y_val tok rfl) ?_
      refine o_end [0, 1, 5, 6, 7, 39] rfl ?_
      refine x_then ?_
      refine c_cond rfl (fun h => ?_) (fun h => ?_)
      ·
        simp only [Bool.and_eq_true, Bool.or_eq_true, Bool.not_eq_true', Bool.or_eq_false_iff, Bool.and_eq_false_iff, decide_eq_true_eq, decide_eq_false_iff_not, beq_iff_eq, bne_iff_ne, Bool.not_eq_false', beq_eq_false_iff_ne, bne_eq_false_iff_eq, ne_eq, Decidable.not_not, Int.not_lt, Int.not_le] at h
        refine c_seq ?_
        refine c_region ?_
        refine o_call (.a (.v _)) rfl rfl fnok38 rfl rfl rfl (fun hg E w1 hm => by exact wakes12_c _) ?_
        refine o_yield rfl rfl rfl (y_val tok rfl) ?_
        refine o_end [4] rfl ?_
        refine x_then ?_
        refine c_ret ?_
        refine x_then_ret ?_
        refine x_block_ret ?_
        refine x_then_ret ?_
        refine x_then_ret ?_
        refine x_block_ret ?_
        refine x_then_ret ?_
        refine b_ret tok rfl ?_
        intro E w' hm _
        refine ⟨?_, hm.below (Vw.le.refl _)⟩
        rfl
      ·
        simp only [Bool.and_eq_true, Bool.or_eq_true, Bool.not_eq_true', Bool.or_eq_false_iff, Bool.and_eq_false_iff, decide_eq_true_eq, decide_eq_false_iff_not, beq_iff_eq, bne_iff_ne, Bool.not_eq_false', beq_eq_false_iff_ne, bne_eq_false_iff_eq, ne_eq, Decidable.not_not, Int.not_lt, Int.not_le] at h
        have hcb : cmdB c = true := by
          cases hq : cmdB c with
          | true => rfl
          | false => rw [cbE, hq, if_neg (by decide)] at h; omega
        obtain ⟨h1, h2⟩ := cbV_pos hcb
        obtain ⟨h3, h4, _⟩ := dec_back hcb
        have hcm := cmdL_max c
        clear h
        rw [h1]
        refine c_skip ?_
        refine x_then ?_
        refine c_seq ?_
        refine c_region ?_
        refine o_yield rfl rfl rfl (y_val tok rfl) ?_
        refine o_call (.a (.v _)) rfl rfl fnok37 rfl rfl rfl (fun hg E w1 hm => by exact decBytes_c (strOf (cmdL c)) hcm _) ?_
        refine o_yield rfl rfl rfl (y_val tok rfl) ?_
        refine o_yield rfl rfl rfl (y_val tok rfl) ?_
        refine o_yield rfl rfl rfl (y_val tok rfl) ?_
        refine o_yield rfl rfl rfl (y_val tok rfl) ?_
        refine o_yield rfl rfl rfl (y_val tok rfl) ?_
        refine o_end [0, 1, 5, 6, 8, 9] rfl ?_
        refine x_then ?_
        refine c_seq ?_
        refine c_seq ?_
        refine c_region ?_
        refine o_yield rfl rfl rfl (y_val tok rfl) ?_
        refine o_yield rfl rfl rfl (y_val tok rfl) ?_
        refine o_end [0, 1, 5, 6, 9, 47] rfl ?_
        refine x_then ?_
        refine c_cond rfl (fun h => ?_) (fun h => ?_)
        · rw [h4] at h
          exact absurd h (by decide)
        ·
          clear h
          rw [h3]
          have htk : L.take (i + 1) = L.take i ++ [c] := take_succ_at h_c
          have hall2 : ∀ d ∈ L.take (i + 1), cmdB d = true := by
            intro d hd
            rw [htk, List.mem_append, List.mem_singleton] at hd
            rcases hd with hd | rfl
            · exact hall d hd
            · exact hcb
          have hmx : ∀ s ∈ (L.take (i + 1)).map decS, s.size ≤ maxLen := by
            intro s hs
            obtain ⟨d, _, rfl⟩ := List.mem_map.1 hs
            exact decS_max d
          have hln : (L.take (i + 1)).length ≤ 60 := by rw [List.length_take]; omega
          have hli : ((L.take i).map decS).length ≤ 60 := by rw [List.length_map, List.length_take]; omega
          have hsc : SlOf (vw w) Cmd.cells 8 (sliceV v0 0 (i + 1) 8) (L.take (i + 1)) := by
            have := hs.cut (lo := 0) (hi := i + 1) (by omega) (by omega)
            simpa using this
          refine c_skip ?_
          refine x_then ?_
          refine c_seq ?_
          refine c_region ?_
          refine o_yield rfl rfl rfl (y_val tok rfl) ?_
          refine o_yield rfl rfl rfl (y_val tok rfl) ?_
          refine o_step rfl rfl rfl rfl rfl (s_bs tok 1 rfl rfl rfl) (fun _ _ => ?_)
          refine o_step rfl rfl rfl rfl rfl (s_app tok ([decS c].flatMap encS) rfl (fun E w hm => ownsRow_src (hm.row 1 _ _ _ _ rfl)) (fun _ _ _ => str_ones _) (by dsimp only; omega)) (fun _ _ => ?_)
          refine o_yield rfl rfl rfl (y_val tok rfl) ?_
          refine o_end [0, 1, 5, 6] rfl ?_
          refine x_then ?_
          refine c_seq ?_
          refine c_region ?_
          refine o_yield rfl rfl rfl (y_val tok rfl) ?_
          rw [← List.flatMap_append, show ((L.take i).map decS).length + 1 = ((L.take i).map decS ++ [decS c]).length by simp, show (L.take i).map decS ++ [decS c] = (L.take (i + 1)).map decS by rw [htk, List.map_append]; rfl]
          refine o_step rfl rfl rfl rfl rfl (s_row ((L.take (i + 1)).map decS) (L.take (i + 1), 0) (row_all _ hall2) rfl hmx (by rw [List.length_map]; omega) (fun E w hm => ⟨E.κ 2, rfl, hm.rowOf 2 rfl (fun _ => rfl)⟩)) (fun _ _ => ?_)
          refine o_yield rfl rfl rfl (y_val tok rfl) ?_
          refine o_yield rfl rfl rfl (y_val tok rfl) ?_
          refine o_yield rfl rfl rfl (y_val tok rfl) ?_
          refine o_yield rfl rfl rfl (y_val tok rfl) ?_
          refine o_yield rfl rfl rfl (y_val tok rfl) ?_
          refine o_end [0, 1, 5, 6, 8, 10] rfl ?_
          refine x_then ?_
          refine c_seq ?_
          refine c_region ?_
          refine o_yield rfl rfl rfl (y_val tok rfl) ?_
          refine o_yield rfl rfl rfl (y_val tok rfl) ?_
          refine o_yield rfl rfl rfl (y_val tok rfl) ?_
          refine o_yield rfl rfl rfl (y_val tok rfl) ?_
          refine o_yield rfl rfl rfl (y_val tok rfl) ?_
          refine o_yield rfl rfl rfl (y_val tok rfl) ?_
          refine o_yield rfl rfl rfl (y_val tok rfl) ?_
          rw [wrapI (n := (i : Int) + 1) (by omega) (by omega)]
          refine o_yield rfl rfl rfl (y_sl tok rfl (fun hg => hs.sl) (fun hg => by dsimp only [Option.getD]; omega)) ?_
          rw [show ((none : Option Int).getD 0).toNat = 0 from rfl, show ((some ((i : Int) + 1)).getD (L.length : Int)).toNat = i + 1 by simp only [Option.getD]; omega]
          refine o_call (.a (.v _)) rfl rfl fnok46 rfl rfl rfl (fun hg E w1 hm => by exact same_eq _ _ _ (L.take (i + 1)) _ (Vw.le.refl _) (hm.rowOf 3 rfl (fun _ => rfl)) (hsc.mono hm.leV) (by omega)) ?_
          refine o_yield rfl rfl rfl (y_val tok rfl) ?_
          refine o_yield rfl rfl rfl (y_val tok rfl) ?_
          refine o_end [0, 1, 5, 6, 67] rfl ?_
          refine x_then ?_
          refine c_cond rfl (fun h => ?_) (fun h => ?_)
          · exfalso
            simp at h
          ·
            refine c_skip ?_
            refine x_block ?_
            refine x_then ?_
            refine c_region ?_
            refine o_yield rfl rfl rfl (y_val tok rfl) ?_
            refine o_yield rfl rfl rfl (y_val tok rfl) ?_
            refine o_yield rfl rfl rfl (y_val tok rfl) ?_
            refine o_end [0, 1, 5, 6] rfl ?_
            refine x_then ?_
            refine k_swap 0 2 rfl ?_
            rw [wrapI (n := (i : Int) + 1) (by omega) (by omega)]
            refine x_round (i + 1) (⟨by omega, hall2⟩) (by first | omega | (dsimp only; omega)) (by repeat (first | exact SubF.nil | refine SubF.cons rfl ?_)) (by repeat (first | exact SubO.nil | refine SubO.cons rfl ?_)) rfl (Vw.le.refl _)
    ·
      simp only [Bool.and_eq_true, Bool.or_eq_true, Bool.not_eq_true', Bool.or_eq_false_iff, Bool.and_eq_false_iff, decide_eq_true_eq, decide_eq_false_iff_not, beq_iff_eq, bne_iff_ne, Bool.not_eq_false', beq_eq_false_iff_ne, bne_eq_false_iff_eq, ne_eq, Decidable.not_not, Int.not_lt, Int.not_le] at h
      refine c_exit ?_
      refine x_then_exit ?_
      refine x_then_exit ?_
      refine x_block_hit ?_
      refine x_then ?_
      refine c_seq ?_
      refine c_region ?_
      refine o_yield rfl rfl rfl (y_val tok rfl) ?_
      have hiL : i = L.length := by omega
      subst hiL
      rw [List.take_length] at hall ⊢
      have hmx : ∀ s ∈ (L.map decS ++ [ByteArray.empty]) ++ T, s.size ≤ maxLen := by
        intro s hs
        rw [List.mem_append, List.mem_append, List.mem_singleton] at hs
        rcases hs with (hs | hs) | hs
        · obtain ⟨d, _, rfl⟩ := List.mem_map.1 hs
          exact decS_max d
        · rw [hs]; exact Nat.zero_le _
        · exact hTok s hs
      obtain ⟨hmost, h16⟩ := lasts_all L
      obtain ⟨ls, hls⟩ : ∃ ls, lastsV L zeros16 = ls := ⟨_, rfl⟩
      have hml : (L.map decS).length ≤ 60 := by rw [List.length_map]; omega
      refine o_step rfl rfl rfl rfl rfl (s_bs tok 1 rfl rfl rfl) (fun _ _ => ?_)
      refine o_step rfl rfl rfl rfl rfl (s_app tok ([ByteArray.empty].flatMap encS) rfl (fun E w hm => ownsRow_src (hm.row 1 _ _ _ _ rfl)) (fun _ _ _ => str_ones _) (by dsimp only; omega)) (fun _ _ => ?_)
      refine o_yield rfl rfl rfl (y_val tok rfl) ?_
      rw [← List.flatMap_append, show (L.map decS).length + 1 = (L.map decS ++ [ByteArray.empty]).length by simp]
      have hml2 : (L.map decS ++ [ByteArray.empty]).length ≤ 61 := by rw [List.length_append, List.length_singleton]; omega
      refine o_step rfl rfl rfl rfl rfl (s_app tok (T.flatMap encS) rfl (fun E w hm => ht.sl.src hm.get) (fun _ _ _ => str_ones _) (by dsimp only; omega)) (fun _ _ => ?_)
      refine o_yield rfl rfl rfl (y_val tok rfl) ?_
      refine o_end [0, 5] rfl ?_
      refine x_then ?_
      refine c_seq ?_
      refine c_region ?_
      refine o_yield rfl rfl rfl (y_val tok rfl) ?_
      rw [← List.flatMap_append, ← List.length_append]
      refine o_step rfl rfl rfl rfl rfl (s_row ((L.map decS ++ [ByteArray.empty]) ++ T) (L, 0) (row_front L T hall) rfl hmx (by rw [List.length_append]; omega) (fun E w hm => ⟨E.κ 3, rfl, hm.rowOf 3 rfl (fun _ => rfl)⟩)) (fun _ _ => ?_)
      refine o_yield rfl rfl rfl (y_val tok rfl) ?_
      refine o_yield rfl rfl rfl (y_val tok rfl) ?_
      refine o_yield rfl rfl rfl (y_val tok rfl) ?_
      refine o_yield rfl rfl rfl (y_val tok rfl) ?_
      refine o_yield rfl rfl rfl (y_val tok rfl) ?_
      refine o_end [0, 11, 12] rfl ?_
      refine x_then ?_
      refine c_seq ?_
      refine c_region ?_
      refine o_yield rfl rfl rfl (y_val tok rfl) ?_
      refine o_step rfl rfl rfl rfl rfl (s_lasts L rfl (by omega) (fun E w hm => ⟨v0, rfl, hs.mono hm.leV⟩)) (fun _ _ => ?_)
      refine o_yield rfl rfl rfl (y_val tok rfl) ?_
      refine o_end [0, 11, 12, 13] rfl ?_
      refine x_then ?_
      refine c_seq ?_
      refine c_seq ?_
      refine c_region ?_
      refine o_yield rfl rfl rfl (y_val tok rfl) ?_
      refine o_yield rfl rfl rfl (y_val tok rfl) ?_
      refine o_yield rfl rfl rfl (y_val tok rfl) ?_
      refine o_yield rfl rfl rfl (y_val tok rfl) ?_
      refine o_yield rfl rfl rfl (y_val tok rfl) ?_
      rw [hls] at hmost h16
      rw [hls]
      refine o_call (.a (.v _)) rfl rfl fnok46 rfl rfl rfl (fun hg E w1 hm => by exact same_eq _ _ _ L _ (Vw.le.refl _) (hm.rowOf 4 rfl (fun _ => rfl)) (hs.mono hm.leV) (by omega)) ?_
      refine o_yield rfl rfl rfl (y_val tok rfl) ?_
      refine o_yield rfl rfl rfl (y_val tok rfl) ?_
      refine o_yield rfl rfl rfl (y_val tok rfl) ?_
      refine o_yield rfl rfl rfl (y_val tok rfl) ?_
      refine o_yield rfl rfl rfl (y_val tok rfl) ?_
      refine o_yield rfl rfl rfl (y_val tok rfl) ?_
      refine o_yield rfl rfl rfl (y_val tok rfl) ?_
      refine o_end [0, 13, 92] rfl ?_
      refine x_then ?_
      refine c_cond rfl (fun h => ?_) (fun h => ?_)
      · exfalso
        simp [h16] at h
      ·
        refine c_skip ?_
        refine x_then ?_
        refine c_seq ?_
        refine c_seq ?_
        refine c_region ?_
        refine o_yield rfl rfl rfl (y_val tok rfl) ?_
        refine o_end [0, 13, 14] rfl ?_
        refine x_then ?_
        refine c_block ?_
        clear h
        refine c_loopK [0, 13] [] rfl rfl (σ := Nat) (fun j => [(14, .a (.v (I j)))]) (fun j => []) (fun j => j ≤ L.length) (fun j => L.length - j) (0) (by omega) (by repeat (first | exact SubF.nil | refine SubF.cons rfl ?_)) (by repeat (first | exact SubO.nil | refine SubO.cons rfl ?_)) rfl ?_
        rintro j hj
        refine c_seq ?_
        refine c_seq ?_
        refine c_region ?_
        refine o_yield rfl rfl rfl (y_val tok rfl) ?_
        refine o_yield rfl rfl rfl (y_val tok rfl) ?_
        refine o_yield rfl rfl rfl (y_len tok rfl (fun hg => hs.sl)) ?_
        refine o_yield rfl rfl rfl (y_val tok rfl) ?_
        refine o_end [0, 13, 14, 96] rfl ?_
        refine x_then ?_
        refine c_cond rfl (fun h => ?_) (fun h => ?_)
        ·
          simp only [Bool.and_eq_true, Bool.or_eq_true, Bool.not_eq_true', Bool.or_eq_false_iff, Bool.and_eq_false_iff, decide_eq_true_eq, decide_eq_false_iff_not, beq_iff_eq, bne_iff_ne, Bool.not_eq_false', beq_eq_false_iff_ne, bne_eq_false_iff_eq, ne_eq, Decidable.not_not, Int.not_lt, Int.not_le] at h
          refine c_skip ?_
          refine x_then ?_
          refine c_seq ?_
          refine c_block ?_
          refine c_seq ?_
          refine c_draw mixed (by kernel_rfl) ?_
          refine d_yield rfl rfl rfl (y_val tok rfl) rfl ?_
          refine d_yield rfl rfl rfl (y_val tok rfl) rfl ?_
          refine d_yield rfl rfl rfl (y_val tok rfl) rfl ?_
          obtain ⟨c, h_c⟩ := hs.at (k := j) (by omega)
          have hlt_c := lt_of_at h_c
          refine d_yield rfl rfl rfl (y_idx tok rfl (fun hg => hs.sl) (fun hg => ⟨by omega, by omega⟩)) rfl ?_
          refine d_yield rfl rfl rfl (y_fel tok rfl (fun hg => hs.sl) (fun hg => by omega)) rfl ?_
          refine d_yield rfl rfl rfl (y_lel tok (j) 1 (c) rfl (fun hg => hs) (fun hg => h_c) rfl rfl) rfl ?_
          have hcb := hall c (List.mem_of_getElem? h_c)
          have hby := (cmdOk hcb).by_
          have hkb : keyB c.by_ = true := by rw [keyB, decide_eq_true hby.1, decide_eq_true hby.2]; rfl
          obtain ⟨q, hq, hq16⟩ := key_seat hkb
          obtain ⟨x, hx, hle⟩ := hmost c (List.mem_of_getElem? h_c) hkb
          rw [hq, Int.toNat_natCast] at hx
          refine d_call (.a (.v _)) rfl rfl fnok50 rfl rfl rfl (fun hg E w1 hm => by exact refCof_c c.by_ _) ?_
          rw [hq]
          refine d_yield rfl rfl rfl (y_own (s := .a (.rel 5 q)) 5 rfl rfl (fun v V' hv => y_idxK tok q rfl (by simp) (fun hg => hv) (fun hg => by omega))) rfl ?_
          refine d_yield rfl rfl rfl (y_own (s := .a (.v (I x))) 5 rfl rfl (fun v V' hv => y_lel (enc := encI64) (l := ls) tok q 0 x rfl (fun hg => ⟨hv, fun _ => rfl⟩) (fun hg => hx) (by simp) rfl)) rfl ?_
          refine d_yield rfl rfl rfl (y_val tok rfl) rfl ?_
          refine d_yield rfl rfl rfl (y_val tok rfl) rfl ?_
          have hlt_c := lt_of_at h_c
          refine d_yield rfl rfl rfl (y_idx tok rfl (fun hg => hs.sl) (fun hg => ⟨by omega, by omega⟩)) rfl ?_
          refine d_yield rfl rfl rfl (y_fel tok rfl (fun hg => hs.sl) (fun hg => by omega)) rfl ?_
          refine d_yield rfl rfl rfl (y_lel tok (j) 1 (c) rfl (fun hg => hs) (fun hg => h_c) rfl rfl) rfl ?_
          refine d_yield rfl rfl rfl (y_val tok rfl) rfl ?_
          refine d_end [0, 13, 14, 113] rfl ?_
          refine x_then ?_
          refine c_cond rfl (fun h => ?_) (fun h => ?_)
          · exfalso
            simp at h
            omega
          ·
            refine c_skip ?_
            refine x_block ?_
            refine x_then ?_
            refine c_region ?_
            refine o_yield rfl rfl rfl (y_val tok rfl) ?_
            refine o_yield rfl rfl rfl (y_val tok rfl) ?_
            refine o_yield rfl rfl rfl (y_val tok rfl) ?_
            refine o_end [0, 13, 14] rfl ?_
            refine x_then ?_
            rw [wrapI (n := (j : Int) + 1) (by omega) (by omega)]
            refine x_round (j + 1) (by omega) (by first | omega | (dsimp only; omega)) (by repeat (first | exact SubF.nil | refine SubF.cons rfl ?_)) (by repeat (first | exact SubO.nil | refine SubO.cons rfl ?_)) rfl (Vw.le.refl _)
        ·
          simp only [Bool.and_eq_true, Bool.or_eq_true, Bool.not_eq_true', Bool.or_eq_false_iff, Bool.and_eq_false_iff, decide_eq_true_eq, decide_eq_false_iff_not, beq_iff_eq, bne_iff_ne, Bool.not_eq_false', beq_eq_false_iff_ne, bne_eq_false_iff_eq, ne_eq, Decidable.not_not, Int.not_lt, Int.not_le] at h
          refine c_exit ?_
          refine x_then_exit ?_
          refine x_then_exit ?_
          refine x_block_hit ?_
          refine x_then ?_
          refine c_seq ?_
          refine c_region ?_
          refine o_call (.a (.v _)) rfl rfl fnok38 rfl rfl rfl (fun hg E w1 hm => by exact wakes12_c _) ?_
          refine o_yield rfl rfl rfl (y_val tok rfl) ?_
          refine o_end [4] rfl ?_
          refine x_then ?_
          refine c_ret ?_
          refine b_ret tok rfl ?_
          intro E w' hm _
          refine ⟨?_, hm.below (Vw.le.refl _)⟩
          rfl
end Go.Proofs.Ytlcpfhjbhogdiaa
