import Derived.Test.YtifgmaeileiebaaMPPut
/- What the twelfth document says of some sectors. -/
set_option linter.unusedVariables false
set_option linter.unusedSimpArgs false
set_option maxRecDepth 100000
namespace Go.Proofs.Ytifgmaeileiebaa
open Go Go.Eng Go.RowKit

/-- decided.Row, its commands as ones that nobody writes. -/
def RowVal (r : List Cmd × Int) (x : Value) (V' : Vw) : Prop := ∃ v, x = .tuple #[v, I r.2] ∧ SlOf V' Cmd.cells 8 v r.1

theorem row_cV (V : Vw) (sv : Value) (L : List ByteArray) (r : List Cmd × Int) (hr : rowV L [] = r) (w : World) (hV : V.le (vw w)) (hs0 : SlOf V encS 1 sv L) (hL : ∀ s ∈ L, s.size ≤ maxLen) (hln : L.length ≤ 1000000) :
    Calls Try.prog 8 #[sv] w fun e w' => ∃ x V', e = .returned x ∧ Below w.heap.size w w' ∧ Vext w.heap.size V V' w' ∧ RowVal r x V' := by
  refine (row_c V sv L w hV hs0 hL hln).mono ?_
  rintro e w' ⟨⟨v, rfl, hown⟩, hb⟩
  rw [hr] at hown
  obtain ⟨V', hx, hsl⟩ := ownsRow_vext hV hb hown
  exact ⟨_, V', by rw [hr], hb, hx, v, rfl, hsl, fun _ => rfl⟩

abbrev ordC (n : Int) : Cmd := ⟨0, n, 1, 0, 0, 0, 0, 0⟩

theorem ordC_may {n : Int} (h : keyB n = true) : cmdB (ordC n) = true := by
  simp [cmdB, ordC, h, onlyB]

theorem cbV_pos {c : Cmd} (h : cmdB c = true) : cbV c = strOf (cmdL c) ∧ cbE c = 0 := by
  rw [cbV, cbE, if_pos h, if_pos h]; exact ⟨rfl, rfl⟩

theorem cmdL_max (c : Cmd) : (strOf (cmdL c)).size ≤ maxLen := by
  have := cmdL_len c
  rw [strOf_size]; simp only [maxLen]; omega

theorem sector_c (n : Int) (h : keyB n = true) (w : World) : Calls Try.prog 9 #[I n] w fun e w' => e = .returned (S (decS (ordC n))) ∧ Below w.heap.size w w' := by
  have hb := ordC_may h
  obtain ⟨h1, h2⟩ := cbV_pos hb
  obtain ⟨h3, h4, _⟩ := dec_back hb
  have hmx := cmdL_max (ordC n)
  refine enter (E := E0) (O := []) (nl := 0) (V := vw w) [.a (.v (I n))] Try.func9 rfl rfl (mem0 E0 0 w) rfl rfl ?_
  refine c_seq ?_
  refine c_region ?_
  refine o_yield rfl rfl rfl (y_val tok rfl) ?_
  refine o_end [0] rfl ?_
  refine x_then ?_
  refine c_seq ?_
  refine c_region ?_
  refine o_yield rfl rfl rfl (y_val tok rfl) ?_
  refine o_yield rfl rfl rfl (y_val tok rfl) ?_
  refine o_call (.a (.v _)) rfl rfl fnok22 rfl rfl rfl (fun hg E w1 hm => by exact cmdBytes_c (ordC n) _) ?_
  refine o_yield rfl rfl rfl (y_val tok rfl) ?_
  refine o_yield rfl rfl rfl (y_val tok rfl) ?_
  refine o_yield rfl rfl rfl (y_val tok rfl) ?_
  refine o_yield rfl rfl rfl (y_val tok rfl) ?_
  refine o_yield rfl rfl rfl (y_val tok rfl) ?_
  refine o_end [3] rfl ?_
  refine x_then ?_
  refine c_seq ?_
  refine c_region ?_
  refine o_yield rfl rfl rfl (y_val tok rfl) ?_
  rw [h1]
  refine o_call (.a (.v _)) rfl rfl fnok23 rfl rfl rfl (fun hg E w1 hm => by exact decBytes_c (strOf (cmdL (ordC n))) hmx _) ?_
  refine o_yield rfl rfl rfl (y_val tok rfl) ?_
  refine o_yield rfl rfl rfl (y_val tok rfl) ?_
  refine o_yield rfl rfl rfl (y_val tok rfl) ?_
  refine o_yield rfl rfl rfl (y_val tok rfl) ?_
  refine o_yield rfl rfl rfl (y_val tok rfl) ?_
  refine o_end [5] rfl ?_
  refine x_then ?_
  refine c_seq ?_
  refine c_region ?_
  refine o_yield rfl rfl rfl (y_val tok rfl) ?_
  refine o_yield rfl rfl rfl (y_val tok rfl) ?_
  refine o_end [2] rfl ?_
  refine x_then ?_
  refine c_ret ?_
  refine b_ret tok rfl ?_
  rw [h3]
  intro E w' hm _
  refine ⟨?_, hm.below (Vw.le.refl _)⟩
  rfl

theorem drE_empty : drE ByteArray.empty = 0 := by rw [drE, if_pos (.inl (by rw [empty_beq]; rfl))]
theorem drB_empty : drB ByteArray.empty = false := by rw [drB, empty_beq]; rfl

abbrev xS : ByteArray := ⟨#[120]⟩
theorem drE_x : drE xS = 50 := by
  have ho : openB xS = false := by rw [openB, decide_eq_false (show ¬ 7 ≤ xS.size by decide)]; rfl
  have hof : ofE 5 xS = 30 := by rw [ofE, if_neg (by simp [ofB, ho])]
  have hB : drB xS = false := by rw [drB, hof]; simp
  rw [drE, empty_beq, decide_eq_false (show ¬ xS.size = 0 by decide), hB]; rfl

theorem row1 : rowV [decS (ordC 17), ByteArray.empty, decS (ordC 18)] [] = ([ordC 17], 0) := by
  obtain ⟨_, _, h3, h4, _, h6, _⟩ := dec_back (ordC_may (n := 17) (by decide))
  rw [rowV, h6, if_neg (by decide), h3, if_neg (by decide), rowV, drE_empty, if_neg (by decide), if_pos drB_empty, h4]; rfl

theorem row2 : rowV [decS (ordC 17), xS] [] = ([], 50) := by
  obtain ⟨_, _, h3, h4, _, h6, _⟩ := dec_back (ordC_may (n := 17) (by decide))
  rw [rowV, h6, if_neg (by decide), h3, if_neg (by decide), rowV, drE_x, if_pos (by decide)]

theorem decS_max (c : Cmd) : (decS c).size ≤ maxLen := by
  have := cmdL_len c
  rw [decS, strOf_size, sealL_len]; simp only [maxLen]; omega

theorem wakes12_c (w : World) : Calls Try.prog 4 #[] w fun e w' => e = .returned (.bool true) ∧ Below w.heap.size w w' := by
  have m17 := decS_max (ordC 17)
  have m18 := decS_max (ordC 18)
  have a1 : ∀ s ∈ [decS (ordC 17), ByteArray.empty, decS (ordC 18)], s.size ≤ maxLen := by
    intro s hs
    simp only [List.mem_cons, List.not_mem_nil, or_false] at hs
    rcases hs with h | h | h
    · rw [h]; exact m17
    · rw [h]; exact Nat.zero_le _
    · rw [h]; exact m18
  have a2 : ∀ s ∈ [decS (ordC 17), xS], s.size ≤ maxLen := by
    intro s hs
    simp only [List.mem_cons, List.not_mem_nil, or_false] at hs
    rcases hs with h | h
    · rw [h]; exact m17
    · rw [h]; decide
  refine enter (E := E0) (O := []) (nl := 0) (V := vw w) [] Try.func4 rfl rfl (mem0 E0 0 w) rfl rfl ?_
  refine c_seq ?_
  refine c_region ?_
  refine o_yield rfl rfl rfl (y_val tok rfl) ?_
  refine o_end [] rfl ?_
  refine x_then ?_
  refine c_seq ?_
  refine c_region ?_
  refine o_call (.a (.v _)) rfl rfl fnok9 rfl rfl rfl (fun hg E w1 hm => by exact sector_c 17 (by decide) _) ?_
  refine o_call (.a (.v _)) rfl rfl fnok9 rfl rfl rfl (fun hg E w1 hm => by exact sector_c 18 (by decide) _) ?_
  refine o_bs tok rfl rfl rfl rfl (fun b1 V1 hle1 hb1 => ?_)
  refine o_callV (RowVal ([ordC 17], 0)) rfl rfl fnok8 rfl rfl (fun hg E w1 hm => by exact row_cV V1 _ [decS (ordC 17), ByteArray.empty, decS (ordC 18)] _ row1 _ hm.leV (SlOf.ofBlock (enc := encS) (sz := 1) (l := [decS (ordC 17), ByteArray.empty, decS (ordC 18)]) (hb1 rfl) rfl (fun _ => rfl) (Nat.le_refl _)) a1 (by decide)) ?_
  rintro x V2 hle2 hx
  obtain ⟨v, rfl, hsl⟩ := hx rfl
  refine o_yield rfl rfl rfl (y_val tok rfl) ?_
  refine o_yield rfl rfl rfl (y_val tok rfl) ?_
  refine o_yield rfl rfl rfl (y_val tok rfl) ?_
  refine o_yield rfl rfl rfl (y_val tok rfl) ?_
  refine o_yield rfl rfl rfl (y_val tok rfl) ?_
  refine o_end [1, 2] rfl ?_
  refine x_then ?_
  refine c_seq ?_
  refine c_region ?_
  refine o_call (.a (.v _)) rfl rfl fnok9 rfl rfl rfl (fun hg E w1 hm => by exact sector_c 17 (by decide) _) ?_
  refine o_bs tok rfl rfl rfl rfl (fun b3 V3 hle3 hb3 => ?_)
  refine o_callV (RowVal ([], 50)) rfl rfl fnok8 rfl rfl (fun hg E w1 hm => by exact row_cV V3 _ [decS (ordC 17), xS] _ row2 _ hm.leV (SlOf.ofBlock (enc := encS) (sz := 1) (l := [decS (ordC 17), xS]) (hb3 rfl) rfl (fun _ => rfl) (Nat.le_refl _)) a2 (by decide)) ?_
  rintro x V4 hle4 hx
  obtain ⟨v4, rfl, hsl4⟩ := hx rfl
  refine o_yield rfl rfl rfl (y_val tok rfl) ?_
  refine o_yield rfl rfl rfl (y_val tok rfl) ?_
  refine o_yield rfl rfl rfl (y_val tok rfl) ?_
  refine o_yield rfl rfl rfl (y_val tok rfl) ?_
  refine o_yield rfl rfl rfl (y_val tok rfl) ?_
  refine o_end [1, 2, 4] rfl ?_
  refine x_then ?_
  refine c_seq ?_
  refine c_region ?_
  refine o_call (.a (.v _)) rfl rfl fnok10 rfl rfl rfl (fun hg E w1 hm => by exact decRead_c ByteArray.empty (Nat.zero_le _) _) ?_
  refine o_yield rfl rfl rfl (y_val tok rfl) ?_
  refine o_yield rfl rfl rfl (y_val tok rfl) ?_
  refine o_yield rfl rfl rfl (y_val tok rfl) ?_
  refine o_yield rfl rfl rfl (y_val tok rfl) ?_
  refine o_yield rfl rfl rfl (y_val tok rfl) ?_
  refine o_new tok rfl rfl rfl rfl ?_
  refine o_store tok rfl rfl rfl (by first | exact ⟨trivial, trivial⟩ | (repeat' first | exact trivial | exact rfl | apply And.intro); done | simp [onesP, oneP, lk, Value.oneCell']) ?_
  refine o_yield rfl rfl rfl (y_val tok rfl) ?_
  refine o_yield rfl rfl rfl (y_val tok rfl) ?_
  refine o_yield rfl rfl rfl (y_val tok rfl) ?_
  refine o_end [1, 2, 4, 7, 8] rfl ?_
  refine x_then ?_
  refine c_seq ?_
  refine c_region ?_
  refine o_yield rfl rfl rfl (y_val tok rfl) ?_
  refine o_yield rfl rfl rfl (y_val tok rfl) ?_
  refine o_yield rfl rfl rfl (y_val tok rfl) ?_
  refine o_yield rfl rfl rfl (y_val tok rfl) ?_
  have hsl' := hsl.mono (hle3.trans hle4)
  refine o_yield rfl rfl rfl (y_len tok rfl (fun hg => hsl'.sl)) ?_
  refine o_yield rfl rfl rfl (y_val tok rfl) ?_
  refine o_yield rfl rfl rfl (y_val tok rfl) ?_
  refine o_yield rfl rfl rfl (y_val tok rfl) ?_
  refine o_yield rfl rfl rfl (y_val tok rfl) ?_
  refine o_yield rfl rfl rfl (y_idx tok rfl (fun hg => hsl'.sl) (fun hg => ⟨by decide, by decide⟩)) ?_
  refine o_yield rfl rfl rfl (y_fel tok rfl (fun hg => hsl'.sl) (fun hg => by decide)) ?_
  refine o_yield rfl rfl rfl (y_lel tok (0) 1 (_) rfl (fun hg => hsl') (fun hg => rfl) rfl rfl) ?_
  refine o_yield rfl rfl rfl (y_val tok rfl) ?_
  refine o_yield rfl rfl rfl (y_val tok rfl) ?_
  refine o_yield rfl rfl rfl (y_val tok rfl) ?_
  refine o_yield rfl rfl rfl (y_val tok rfl) ?_
  refine o_yield rfl rfl rfl (y_val tok rfl) ?_
  refine o_yield rfl rfl rfl (y_val tok rfl) ?_
  refine o_yield rfl rfl rfl (y_val tok rfl) ?_
  refine o_yield rfl rfl rfl (y_val tok rfl) ?_
  refine o_yield rfl rfl rfl (y_val tok rfl) ?_
  refine o_yield rfl rfl rfl (y_val tok rfl) ?_
  refine o_yield rfl rfl rfl (y_val tok rfl) ?_
  refine o_yield rfl rfl rfl (y_val tok rfl) ?_
  refine o_yield rfl rfl rfl (y_val tok rfl) ?_
  refine o_yield rfl rfl rfl (y_val tok rfl) ?_
  refine o_yield rfl rfl rfl (y_val tok rfl) ?_
  refine o_end [0] rfl ?_
  refine x_then ?_
  refine c_ret ?_
  refine b_ret tok rfl ?_
  intro E w' hm _
  refine ⟨?_, hm.below ((((hle1.trans hle2).trans hle3)).trans hle4)⟩
  rw [drB_empty, drE_empty]
  rfl
end Go.Proofs.Ytifgmaeileiebaa

/- The law DecidedBack from what comes in. -/
set_option linter.unusedVariables false
set_option linter.unusedSimpArgs false
set_option maxRecDepth 100000
namespace Go.Proofs.Ytifgmaeileiebaa
open Go Go.Eng Go.RowKit

theorem cbV_max (c : Cmd) : (cbV c).size ≤ maxLen := by
  rw [cbV]; split
  · exact cmdL_max c
  · exact Nat.zero_le _

end Go.Proofs.Ytifgmaeileiebaa

/- Rows of commands compared; the last key of each seat. -/
set_option linter.unusedVariables false
set_option linter.unusedSimpArgs false
set_option maxRecDepth 100000
namespace Go.Proofs.Ytifgmaeileiebaa
open Go Go.Eng Go.RowKit

def seatOf (n : Int) : Int := if keyB n = true then n.tmod 16 else -1

theorem key_seat {n : Int} (h : keyB n = true) : ∃ j : Nat, seatOf n = j ∧ j < 16 := by
  have hk := h
  simp only [keyB, Bool.and_eq_true, decide_eq_true_eq] at hk
  have h1 := Int.tmod_nonneg 16 (show 0 ≤ n by omega)
  have h2 := Int.tmod_lt_of_pos n (show (0 : Int) < 16 by omega)
  exact ⟨(n.tmod 16).toNat, by rw [seatOf, if_pos h]; omega, by omega⟩

theorem same_c (V : Vw) (av bv : Value) (A B : List Cmd) (w : World) (hV : V.le (vw w)) (ha0 : SlOf V Cmd.cells 8 av A) (hb0 : SlOf V Cmd.cells 8 bv B) (hA : A.length ≤ 1000000) (hB : B.length ≤ 1000000) :
    Calls Try.prog 7 #[av, bv] w fun e w' => (∃ r : Bool, e = .returned (.bool r) ∧ (r = true ↔ A = B)) ∧ Below w.heap.size w w' := by
  have ha := ha0.mono hV
  have hb := hb0.mono hV
  refine enter (E := E0) (O := []) (nl := 0) (V := vw w) [.a (.v av), .a (.v bv)] Try.func7 rfl rfl (mem0 E0 0 w) rfl rfl ?_
  refine c_seq ?_
  refine c_region ?_
  refine o_yield rfl rfl rfl (y_val tok rfl) ?_
  refine o_end [0, 1] rfl ?_
  refine x_then ?_
  refine c_seq ?_
  refine c_seq ?_
  refine c_region ?_
  refine o_yield rfl rfl rfl (y_val tok rfl) ?_
  refine o_yield rfl rfl rfl (y_len tok rfl (fun hg => ha.sl)) ?_
  refine o_yield rfl rfl rfl (y_val tok rfl) ?_
  refine o_yield rfl rfl rfl (y_len tok rfl (fun hg => hb.sl)) ?_
  refine o_yield rfl rfl rfl (y_val tok rfl) ?_
  refine o_end [0, 1, 10] rfl ?_
  refine x_then ?_
  refine c_cond rfl (fun h => ?_) (fun h => ?_)
  ·
    refine c_seq ?_
    refine c_region ?_
    refine o_yield rfl rfl rfl (y_val tok rfl) ?_
    refine o_end [4] rfl ?_
    refine x_then ?_
    refine c_ret ?_
    refine x_then_ret ?_
    refine b_ret tok rfl ?_
    intro E w' hm _
    refine ⟨?_, hm.below (Vw.le.refl _)⟩
    refine ⟨false, rfl, ?_⟩
    constructor
    · intro h'; cases h'
    · intro h'; subst h'; simp at h
  ·
    have hl : A.length = B.length := by simp at h; omega
    clear h
    refine c_skip ?_
    refine x_then ?_
    refine c_seq ?_
    refine c_seq ?_
    refine c_region ?_
    refine o_yield rfl rfl rfl (y_val tok rfl) ?_
    refine o_end [0, 1, 5] rfl ?_
    refine x_then ?_
    refine c_block ?_
    refine c_loopK [0, 1] [] rfl rfl (σ := Nat) (fun k => [(5, .a (.v (I k)))]) (fun k => []) (fun k => k ≤ A.length ∧ A.take k = B.take k) (fun k => A.length - k) (0) (⟨by omega, rfl⟩) (by repeat (first | exact SubF.nil | refine SubF.cons rfl ?_)) (by repeat (first | exact SubO.nil | refine SubO.cons rfl ?_)) rfl ?_
    rintro k ⟨hk, heq⟩
    refine c_seq ?_
    refine c_seq ?_
    refine c_region ?_
    refine o_yield rfl rfl rfl (y_val tok rfl) ?_
    refine o_yield rfl rfl rfl (y_val tok rfl) ?_
    refine o_yield rfl rfl rfl (y_len tok rfl (fun hg => ha.sl)) ?_
    refine o_yield rfl rfl rfl (y_val tok rfl) ?_
    refine o_end [0, 1, 5, 14] rfl ?_
    refine x_then ?_
    refine c_cond rfl (fun h => ?_) (fun h => ?_)
    ·
      simp only [Bool.and_eq_true, Bool.or_eq_true, Bool.not_eq_true', Bool.or_eq_false_iff, Bool.and_eq_false_iff, decide_eq_true_eq, decide_eq_false_iff_not, beq_iff_eq, bne_iff_ne, Bool.not_eq_false', beq_eq_false_iff_ne, bne_eq_false_iff_eq, ne_eq, Decidable.not_not, Int.not_lt, Int.not_le] at h
      refine c_skip ?_
      refine x_then ?_
      refine c_seq ?_
      refine c_block ?_
      refine c_seq ?_
      refine c_draw mixed (by kernel_rfl) ?_
      refine d_yield rfl rfl rfl (y_val tok rfl) rfl ?_
      refine d_yield rfl rfl rfl (y_val tok rfl) rfl ?_
      obtain ⟨x, h_x⟩ := ha.at (k := k) (by omega)
      have hlt_x := lt_of_at h_x
      refine d_yield rfl rfl rfl (y_idx tok rfl (fun hg => ha.sl) (fun hg => ⟨by omega, by omega⟩)) rfl ?_
      refine d_yield rfl rfl rfl (y_lel tok (k) 0 (x) rfl (fun hg => ha) (fun hg => h_x) rfl rfl) rfl ?_
      refine d_yield rfl rfl rfl (y_val tok rfl) rfl ?_
      refine d_yield rfl rfl rfl (y_val tok rfl) rfl ?_
      obtain ⟨y, h_y⟩ := hb.at (k := k) (by omega)
      have hlt_y := lt_of_at h_y
      refine d_yield rfl rfl rfl (y_idx tok rfl (fun hg => hb.sl) (fun hg => ⟨by omega, by omega⟩)) rfl ?_
      refine d_yield rfl rfl rfl (y_lel tok (k) 0 (y) rfl (fun hg => hb) (fun hg => h_y) rfl rfl) rfl ?_
      refine d_yield rfl rfl rfl (y_seq (.bool (!(x.eqB y))) rfl (fun E w => cmdEq x y w (.inr rfl))) rfl ?_
      refine d_end [0, 1, 5, 25] rfl ?_
      refine x_then ?_
      refine c_cond rfl (fun h => ?_) (fun h => ?_)
      ·
        refine c_seq ?_
        refine c_region ?_
        refine o_yield rfl rfl rfl (y_val tok rfl) ?_
        refine o_end [4] rfl ?_
        refine x_then ?_
        refine c_ret ?_
        refine x_block_ret ?_
        refine x_then_ret ?_
        refine x_then_ret ?_
        refine x_block_ret ?_
        refine x_then_ret ?_
        refine b_ret tok rfl ?_
        intro E w' hm _
        refine ⟨?_, hm.below (Vw.le.refl _)⟩
        refine ⟨false, rfl, ?_⟩
        constructor
        · intro h'; cases h'
        · intro h'
          subst h'
          have e : x = y := Option.some.inj (h_x.symm.trans h_y)
          rw [(Cmd.eqB_iff x y).2 e] at h
          cases h
      ·
        have e : x = y := (Cmd.eqB_iff x y).1 (by simpa using h)
        clear h
        refine c_skip ?_
        refine x_block ?_
        refine x_then ?_
        refine c_region ?_
        refine o_yield rfl rfl rfl (y_val tok rfl) ?_
        refine o_yield rfl rfl rfl (y_val tok rfl) ?_
        refine o_yield rfl rfl rfl (y_val tok rfl) ?_
        refine o_end [0, 1, 5] rfl ?_
        refine x_then ?_
        rw [wrapI (n := (k : Int) + 1) (by omega) (by omega)]
        refine x_round (k + 1) (⟨by omega, by rw [take_succ_at h_x, take_succ_at h_y, heq, e]⟩) (by first | omega | (dsimp only; omega)) (by repeat (first | exact SubF.nil | refine SubF.cons rfl ?_)) (by repeat (first | exact SubO.nil | refine SubO.cons rfl ?_)) rfl (Vw.le.refl _)
    ·
      simp only [Bool.and_eq_true, Bool.or_eq_true, Bool.not_eq_true', Bool.or_eq_false_iff, Bool.and_eq_false_iff, decide_eq_true_eq, decide_eq_false_iff_not, beq_iff_eq, bne_iff_ne, Bool.not_eq_false', beq_eq_false_iff_ne, bne_eq_false_iff_eq, ne_eq, Decidable.not_not, Int.not_lt, Int.not_le] at h
      refine c_exit ?_
      refine x_then_exit ?_
      refine x_then_exit ?_
      refine x_block_hit ?_
      refine x_then ?_
      refine c_seq ?_
      refine c_region ?_
      refine o_yield rfl rfl rfl (y_val tok rfl) ?_
      refine o_end [4] rfl ?_
      refine x_then ?_
      refine c_ret ?_
      refine b_ret tok rfl ?_
      have hkL : k = A.length := by omega
      subst hkL
      intro E w' hm _
      refine ⟨?_, hm.below (Vw.le.refl _)⟩
      refine ⟨true, rfl, fun _ => ?_, fun _ => rfl⟩
      rw [List.take_length, hl, List.take_length] at heq
      exact heq
end Go.Proofs.Ytifgmaeileiebaa

/- Commands, the document's: which may be. -/
set_option linter.unusedVariables false
set_option linter.unusedSimpArgs false
set_option maxRecDepth 100000
namespace Go.Proofs.Ytifgmaeileiebaa
open Go Go.Eng Go.RowKit

theorem cmdB_pre {c : Cmd} (h : ((keyB c.by_ && decide (1 ≤ c.serial)) && decide (c.serial ≤ 2147483648)) = false) : cmdB c = false := by rw [cmdB, h]; rfl

theorem only0 (c : Cmd) : c.eqB ⟨c.kind, c.by_, c.serial, 0, 0, 0, 0, 0⟩ = onlyB c false false false false := by
  rw [Bool.eq_iff_iff]
  simp [Cmd.eqB, onlyB, and_assoc, and_comm, and_left_comm]
theorem only2 (c : Cmd) : ((c.eqB ⟨c.kind, c.by_, c.serial, 0, 0, c.lo, c.hi, c.mode⟩ && spanB c.lo c.hi) && (c.mode == 1 || c.mode == 2)) = onlyB c true true false false := by
  rw [Bool.eq_iff_iff]
  simp [Cmd.eqB, onlyB, spanB]
  try omega
theorem only3 (c : Cmd) : (c.eqB ⟨c.kind, c.by_, c.serial, 0, 0, c.lo, c.hi, 0⟩ && spanB c.lo c.hi) = onlyB c true false false false := by
  rw [Bool.eq_iff_iff]
  simp [Cmd.eqB, onlyB, spanB]
  try omega
theorem only4 (c : Cmd) : ((c.eqB ⟨c.kind, c.by_, c.serial, c.dead, c.was, 0, 0, 0⟩ && keyB c.dead) && (c.was == 0 || keyB c.was)) = onlyB c false false true true := by
  rw [Bool.eq_iff_iff]
  simp [Cmd.eqB, onlyB, keyB]
  try omega
theorem only5 (c : Cmd) : (c.eqB ⟨c.kind, c.by_, c.serial, c.dead, 0, 0, 0, 0⟩ && keyB c.dead) = onlyB c false false true false := by
  rw [Bool.eq_iff_iff]
  simp [Cmd.eqB, onlyB, keyB]
  try omega

theorem refCmdMay_c (c : Cmd) (w : World) : Calls Try.prog 69 #[c.val] w fun e w' => e = .returned (.bool (cmdB c)) ∧ Below w.heap.size w w' := by
  refine enter (E := E0) (O := []) (nl := 0) (V := vw w) [.a (.v c.val)] Try.func69 rfl rfl (mem0 E0 0 w) rfl rfl ?_
  refine c_seq ?_
  refine c_region ?_
  refine o_new tok rfl rfl rfl rfl ?_
  refine o_yield rfl rfl rfl (y_val tok rfl) ?_
  refine o_end [1] rfl ?_
  refine x_then ?_
  refine c_seq ?_
  refine c_seq ?_
  refine c_region ?_
  refine o_yield rfl rfl rfl (y_val tok rfl) ?_
  refine o_yield rfl rfl rfl (y_val tok rfl) ?_
  refine o_call (.a (.v _)) rfl rfl fnok74 rfl rfl rfl (fun hg E w1 hm => by exact refKey_c c.by_ _) ?_
  refine o_yield rfl rfl rfl (y_val tok rfl) ?_
  refine o_yield rfl rfl rfl (y_val tok rfl) ?_
  refine o_yield rfl rfl rfl (y_val tok rfl) ?_
  refine o_yield rfl rfl rfl (y_val tok rfl) ?_
  refine o_yield rfl rfl rfl (y_val tok rfl) ?_
  refine o_yield rfl rfl rfl (y_val tok rfl) ?_
  refine o_yield rfl rfl rfl (y_val tok rfl) ?_
  refine o_yield rfl rfl rfl (y_val tok rfl) ?_
  refine o_yield rfl rfl rfl (y_val tok rfl) ?_
  refine o_yield rfl rfl rfl (y_val tok rfl) ?_
  refine o_yield rfl rfl rfl (y_val tok rfl) ?_
  refine o_end [1, 18] rfl ?_
  refine x_then ?_
  refine c_cond rfl (fun h => ?_) (fun h => ?_)
  ·
    simp only [Bool.and_eq_true, Bool.or_eq_true, Bool.not_eq_true', Bool.or_eq_false_iff, Bool.and_eq_false_iff, decide_eq_true_eq, decide_eq_false_iff_not, beq_iff_eq, bne_iff_ne, Bool.not_eq_false', beq_eq_false_iff_ne, bne_eq_false_iff_eq, ne_eq, Decidable.not_not, Int.not_lt, Int.not_le] at h
    refine c_seq ?_
    refine c_region ?_
    refine o_yield rfl rfl rfl (y_val tok rfl) ?_
    refine o_end [2] rfl ?_
    refine x_then ?_
    refine c_ret ?_
    refine x_then_ret ?_
    refine b_ret tok rfl ?_
    intro E w' hm _
    refine ⟨?_, hm.below (Vw.le.refl _)⟩
    rw [cmdB_pre]
    · rfl
    · rcases h with (h | h) | h
      · rw [h]; rfl
      · rw [decide_eq_false (show ¬ 1 ≤ c.serial by omega), Bool.and_false]; rfl
      · rw [decide_eq_false (show ¬ c.serial ≤ 2147483648 by omega), Bool.and_false]
  ·
    simp only [Bool.and_eq_true, Bool.or_eq_true, Bool.not_eq_true', Bool.or_eq_false_iff, Bool.and_eq_false_iff, decide_eq_true_eq, decide_eq_false_iff_not, beq_iff_eq, bne_iff_ne, Bool.not_eq_false', beq_eq_false_iff_ne, bne_eq_false_iff_eq, ne_eq, Decidable.not_not, Int.not_lt, Int.not_le] at h
    obtain ⟨⟨g1, g2⟩, g3⟩ := h
    have hpre : ((keyB c.by_ && decide (1 ≤ c.serial)) && decide (c.serial ≤ 2147483648)) = true := by
      rw [g1, decide_eq_true (show 1 ≤ c.serial by omega), decide_eq_true (show c.serial ≤ 2147483648 by omega)]; rfl
    refine c_skip ?_
    refine x_then ?_
    refine c_seq ?_
    refine c_region ?_
    refine o_yield rfl rfl rfl (y_val tok rfl) ?_
    refine o_yield rfl rfl rfl (y_val tok rfl) ?_
    refine o_yield rfl rfl rfl (y_val tok rfl) ?_
    refine o_yield rfl rfl rfl (y_val tok rfl) ?_
    refine o_yield rfl rfl rfl (y_val tok rfl) ?_
    refine o_yield rfl rfl rfl (y_val tok rfl) ?_
    refine o_yield rfl rfl rfl (y_val tok rfl) ?_
    refine o_new tok rfl rfl rfl rfl ?_
    refine o_store tok rfl rfl rfl (by first | exact ⟨trivial, trivial⟩ | (repeat' first | exact trivial | exact rfl | apply And.intro); done | simp [onesP, oneP, lk, Value.oneCell']) ?_
    refine o_end [1, 3] rfl ?_
    refine x_then ?_
    refine c_seq ?_
    refine c_region ?_
    refine o_yield rfl rfl rfl (y_val tok rfl) ?_
    refine o_yield rfl rfl rfl (y_val tok rfl) ?_
    refine o_yield rfl rfl rfl (y_val tok rfl) ?_
    refine o_yield rfl rfl rfl (y_val tok rfl) ?_
    refine o_yield rfl rfl rfl (y_val tok rfl) ?_
    refine o_yield rfl rfl rfl (y_val tok rfl) ?_
    refine o_yield rfl rfl rfl (y_val tok rfl) ?_
    refine o_yield rfl rfl rfl (y_val tok rfl) ?_
    refine o_yield rfl rfl rfl (y_val tok rfl) ?_
    refine o_yield rfl rfl rfl (y_val tok rfl) ?_
    refine o_yield rfl rfl rfl (y_val tok rfl) ?_
    refine o_yield rfl rfl rfl (y_val tok rfl) ?_
    refine o_yield rfl rfl rfl (y_val tok rfl) ?_
    refine o_yield rfl rfl rfl (y_val tok rfl) ?_
    refine o_yield rfl rfl rfl (y_val tok rfl) ?_
    refine o_yield rfl rfl rfl (y_val tok rfl) ?_
    refine o_yield rfl rfl rfl (y_val tok rfl) ?_
    refine o_yield rfl rfl rfl (y_val tok rfl) ?_
    refine o_yield rfl rfl rfl (y_val tok rfl) ?_
    refine o_yield rfl rfl rfl (y_val tok rfl) ?_
    refine o_end [1, 3, 4] rfl ?_
    refine x_then ?_
    refine c_seq ?_
    refine c_seq ?_
    refine c_region ?_
    refine o_yield rfl rfl rfl (y_val tok rfl) ?_
    refine o_yield rfl rfl rfl (y_val tok rfl) ?_
    refine o_end [1, 3, 4, 46] rfl ?_
    refine x_then ?_
    refine c_block ?_
    refine c_seq ?_
    refine c_seq ?_
    refine c_region ?_
    refine o_yield rfl rfl rfl (y_val tok rfl) ?_
    refine o_yield rfl rfl rfl (y_val tok rfl) ?_
    refine o_end [1, 3, 4, 46, 47] rfl ?_
    refine x_then ?_
    refine c_cond rfl (fun h => ?_) (fun h => ?_)
    ·
      refine c_skip ?_
      refine x_then ?_
      refine c_cond rfl (fun h2 => ?_) (fun h2 => ?_)
      ·
        refine c_seq ?_
        refine c_region ?_
        refine o_yield rfl rfl rfl (y_val tok rfl) ?_
        refine o_yield rfl rfl rfl (y_val tok rfl) ?_
        have e : c.kind = 0 := by simpa using h
        refine o_yield rfl rfl rfl (y_seq (.bool (c.eqB ⟨c.kind, c.by_, c.serial, 0, 0, 0, 0, 0⟩)) rfl (fun E w => cmdEq c ⟨c.kind, c.by_, c.serial, 0, 0, 0, 0, 0⟩ w (.inl rfl))) ?_
        refine o_yield rfl rfl rfl (y_val tok rfl) ?_
        refine o_end [2] rfl ?_
        refine x_then ?_
        refine c_ret ?_
        refine x_block_ret ?_
        refine x_then_ret ?_
        refine b_ret tok rfl ?_
        intro E w' hm _
        refine ⟨?_, hm.below (Vw.le.refl _)⟩
        rw [cmdB, hpre, Bool.true_and, if_pos (.inl e), ← only0]
        rfl
      ·
        exact absurd (h.symm.trans h2) (by decide)
    ·
      refine c_region ?_
      refine o_yield rfl rfl rfl (y_val tok rfl) ?_
      refine o_yield rfl rfl rfl (y_val tok rfl) ?_
      refine o_end [1, 3, 4, 46, 47] rfl ?_
      refine x_then ?_
      refine c_cond rfl (fun h2 => ?_) (fun h2 => ?_)
      ·
        refine c_seq ?_
        refine c_region ?_
        refine o_yield rfl rfl rfl (y_val tok rfl) ?_
        refine o_yield rfl rfl rfl (y_val tok rfl) ?_
        have e : c.kind = 1 := by simpa using h2
        refine o_yield rfl rfl rfl (y_seq (.bool (c.eqB ⟨c.kind, c.by_, c.serial, 0, 0, 0, 0, 0⟩)) rfl (fun E w => cmdEq c ⟨c.kind, c.by_, c.serial, 0, 0, 0, 0, 0⟩ w (.inl rfl))) ?_
        refine o_yield rfl rfl rfl (y_val tok rfl) ?_
        refine o_end [2] rfl ?_
        refine x_then ?_
        refine c_ret ?_
        refine x_block_ret ?_
        refine x_then_ret ?_
        refine b_ret tok rfl ?_
        intro E w' hm _
        refine ⟨?_, hm.below (Vw.le.refl _)⟩
        rw [cmdB, hpre, Bool.true_and, if_pos (.inr e), ← only0]
        rfl
      ·
        refine c_seq ?_
        refine c_region ?_
        refine o_yield rfl rfl rfl (y_val tok rfl) ?_
        refine o_yield rfl rfl rfl (y_val tok rfl) ?_
        refine o_end [1, 3, 4, 46, 53] rfl ?_
        refine x_then ?_
        refine c_cond rfl (fun h3 => ?_) (fun h3 => ?_)
        ·
          refine c_seq ?_
          refine c_region ?_
          refine o_yield rfl rfl rfl (y_val tok rfl) ?_
          refine o_yield rfl rfl rfl (y_val tok rfl) ?_
          refine o_yield rfl rfl rfl (y_val tok rfl) ?_
          refine o_store tok rfl rfl rfl (by first | exact ⟨trivial, trivial⟩ | (repeat' first | exact trivial | exact rfl | apply And.intro); done | simp [onesP, oneP, lk, Value.oneCell']) ?_
          refine o_end [1, 3, 4] rfl ?_
          refine x_then ?_
          refine c_seq ?_
          refine c_region ?_
          refine o_yield rfl rfl rfl (y_val tok rfl) ?_
          refine o_yield rfl rfl rfl (y_val tok rfl) ?_
          refine o_yield rfl rfl rfl (y_val tok rfl) ?_
          refine o_store tok rfl rfl rfl (by first | exact ⟨trivial, trivial⟩ | (repeat' first | exact trivial | exact rfl | apply And.intro); done | simp [onesP, oneP, lk, Value.oneCell']) ?_
          refine o_end [1, 3, 4] rfl ?_
          refine x_then ?_
          refine c_seq ?_
          refine c_region ?_
          refine o_yield rfl rfl rfl (y_val tok rfl) ?_
          refine o_yield rfl rfl rfl (y_val tok rfl) ?_
          have e : c.kind = 2 := by simpa using h3
          have f : ¬ (c.kind = 0 ∨ c.kind = 1) := by omega
          refine o_yield rfl rfl rfl (y_seq (.bool (c.eqB ⟨c.kind, c.by_, c.serial, 0, 0, c.lo, c.hi, c.mode⟩)) rfl (fun E w => cmdEq c ⟨c.kind, c.by_, c.serial, 0, 0, c.lo, c.hi, c.mode⟩ w (.inl rfl))) ?_
          refine o_yield rfl rfl rfl (y_val tok rfl) ?_
          refine o_yield rfl rfl rfl (y_val tok rfl) ?_
          refine o_yield rfl rfl rfl (y_val tok rfl) ?_
          refine o_yield rfl rfl rfl (y_val tok rfl) ?_
          refine o_yield rfl rfl rfl (y_val tok rfl) ?_
          refine o_yield rfl rfl rfl (y_val tok rfl) ?_
          refine o_yield rfl rfl rfl (y_val tok rfl) ?_
          refine o_yield rfl rfl rfl (y_val tok rfl) ?_
          refine o_yield rfl rfl rfl (y_val tok rfl) ?_
          refine o_yield rfl rfl rfl (y_val tok rfl) ?_
          refine o_yield rfl rfl rfl (y_val tok rfl) ?_
          refine o_yield rfl rfl rfl (y_val tok rfl) ?_
          refine o_yield rfl rfl rfl (y_val tok rfl) ?_
          refine o_yield rfl rfl rfl (y_val tok rfl) ?_
          refine o_end [2] rfl ?_
          refine x_then ?_
          refine c_ret ?_
          refine x_block_ret ?_
          refine x_then_ret ?_
          refine b_ret tok rfl ?_
          intro E w' hm _
          refine ⟨?_, hm.below (Vw.le.refl _)⟩
          rw [cmdB, hpre, Bool.true_and, if_neg f, if_pos e, ← only2]
          rfl
        ·
          refine c_seq ?_
          refine c_region ?_
          refine o_yield rfl rfl rfl (y_val tok rfl) ?_
          refine o_yield rfl rfl rfl (y_val tok rfl) ?_
          refine o_end [1, 3, 4, 46, 77] rfl ?_
          refine x_then ?_
          refine c_cond rfl (fun h4 => ?_) (fun h4 => ?_)
          ·
            refine c_seq ?_
            refine c_region ?_
            refine o_yield rfl rfl rfl (y_val tok rfl) ?_
            refine o_yield rfl rfl rfl (y_val tok rfl) ?_
            refine o_yield rfl rfl rfl (y_val tok rfl) ?_
            refine o_store tok rfl rfl rfl (by first | exact ⟨trivial, trivial⟩ | (repeat' first | exact trivial | exact rfl | apply And.intro); done | simp [onesP, oneP, lk, Value.oneCell']) ?_
            refine o_end [1, 3, 4] rfl ?_
            refine x_then ?_
            refine c_seq ?_
            refine c_region ?_
            refine o_yield rfl rfl rfl (y_val tok rfl) ?_
            refine o_yield rfl rfl rfl (y_val tok rfl) ?_
            have e : c.kind = 3 := by simpa using h4
            have f : ¬ (c.kind = 0 ∨ c.kind = 1) := by omega
            refine o_yield rfl rfl rfl (y_seq (.bool (c.eqB ⟨c.kind, c.by_, c.serial, 0, 0, c.lo, c.hi, 0⟩)) rfl (fun E w => cmdEq c ⟨c.kind, c.by_, c.serial, 0, 0, c.lo, c.hi, 0⟩ w (.inl rfl))) ?_
            refine o_yield rfl rfl rfl (y_val tok rfl) ?_
            refine o_yield rfl rfl rfl (y_val tok rfl) ?_
            refine o_yield rfl rfl rfl (y_val tok rfl) ?_
            refine o_yield rfl rfl rfl (y_val tok rfl) ?_
            refine o_end [2] rfl ?_
            refine x_then ?_
            refine c_ret ?_
            refine x_block_ret ?_
            refine x_then_ret ?_
            refine b_ret tok rfl ?_
            intro E w' hm _
            refine ⟨?_, hm.below (Vw.le.refl _)⟩
            rw [cmdB, hpre, Bool.true_and, if_neg f, if_neg (by omega), if_pos e, ← only3]
            rfl
          ·
            refine c_seq ?_
            refine c_region ?_
            refine o_yield rfl rfl rfl (y_val tok rfl) ?_
            refine o_yield rfl rfl rfl (y_val tok rfl) ?_
            refine o_end [1, 3, 46, 88] rfl ?_
            refine x_then ?_
            refine c_cond rfl (fun h5 => ?_) (fun h5 => ?_)
            ·
              refine c_seq ?_
              refine c_region ?_
              refine o_yield rfl rfl rfl (y_val tok rfl) ?_
              refine o_yield rfl rfl rfl (y_val tok rfl) ?_
              refine o_yield rfl rfl rfl (y_val tok rfl) ?_
              refine o_store tok rfl rfl rfl (by first | exact ⟨trivial, trivial⟩ | (repeat' first | exact trivial | exact rfl | apply And.intro); done | simp [onesP, oneP, lk, Value.oneCell']) ?_
              refine o_end [1, 3] rfl ?_
              refine x_then ?_
              refine c_seq ?_
              refine c_region ?_
              refine o_yield rfl rfl rfl (y_val tok rfl) ?_
              refine o_yield rfl rfl rfl (y_val tok rfl) ?_
              refine o_yield rfl rfl rfl (y_val tok rfl) ?_
              refine o_store tok rfl rfl rfl (by first | exact ⟨trivial, trivial⟩ | (repeat' first | exact trivial | exact rfl | apply And.intro); done | simp [onesP, oneP, lk, Value.oneCell']) ?_
              refine o_end [1, 3] rfl ?_
              refine x_then ?_
              refine c_seq ?_
              refine c_region ?_
              refine o_yield rfl rfl rfl (y_val tok rfl) ?_
              refine o_yield rfl rfl rfl (y_val tok rfl) ?_
              have e : c.kind = 4 := by simpa using h5
              have f : ¬ (c.kind = 0 ∨ c.kind = 1) := by omega
              refine o_yield rfl rfl rfl (y_seq (.bool (c.eqB ⟨c.kind, c.by_, c.serial, c.dead, c.was, 0, 0, 0⟩)) rfl (fun E w => cmdEq c ⟨c.kind, c.by_, c.serial, c.dead, c.was, 0, 0, 0⟩ w (.inl rfl))) ?_
              refine o_yield rfl rfl rfl (y_val tok rfl) ?_
              refine o_yield rfl rfl rfl (y_val tok rfl) ?_
              refine o_yield rfl rfl rfl (y_val tok rfl) ?_
              refine o_call (.a (.v _)) rfl rfl fnok74 rfl rfl rfl (fun hg E w1 hm => by exact refKey_c c.dead _) ?_
              refine o_yield rfl rfl rfl (y_val tok rfl) ?_
              refine o_yield rfl rfl rfl (y_val tok rfl) ?_
              refine o_yield rfl rfl rfl (y_val tok rfl) ?_
              refine o_yield rfl rfl rfl (y_val tok rfl) ?_
              refine o_yield rfl rfl rfl (y_val tok rfl) ?_
              refine o_yield rfl rfl rfl (y_val tok rfl) ?_
              refine o_yield rfl rfl rfl (y_val tok rfl) ?_
              refine o_yield rfl rfl rfl (y_val tok rfl) ?_
              refine o_call (.a (.v _)) rfl rfl fnok74 rfl rfl rfl (fun hg E w1 hm => by exact refKey_c c.was _) ?_
              refine o_yield rfl rfl rfl (y_val tok rfl) ?_
              refine o_yield rfl rfl rfl (y_val tok rfl) ?_
              refine o_yield rfl rfl rfl (y_val tok rfl) ?_
              refine o_end [2] rfl ?_
              refine x_then ?_
              refine c_ret ?_
              refine x_block_ret ?_
              refine x_then_ret ?_
              refine b_ret tok rfl ?_
              intro E w' hm _
              refine ⟨?_, hm.below (Vw.le.refl _)⟩
              rw [cmdB, hpre, Bool.true_and, if_neg f, if_neg (by omega), if_neg (by omega), if_pos e, ← only4]
              rfl
            ·
              refine c_seq ?_
              refine c_region ?_
              refine o_yield rfl rfl rfl (y_val tok rfl) ?_
              refine o_yield rfl rfl rfl (y_val tok rfl) ?_
              refine o_end [1, 3, 114] rfl ?_
              refine x_then ?_
              refine c_cond rfl (fun h6 => ?_) (fun h6 => ?_)
              ·
                refine c_seq ?_
                refine c_region ?_
                refine o_yield rfl rfl rfl (y_val tok rfl) ?_
                refine o_yield rfl rfl rfl (y_val tok rfl) ?_
                refine o_yield rfl rfl rfl (y_val tok rfl) ?_
                refine o_store tok rfl rfl rfl (by first | exact ⟨trivial, trivial⟩ | (repeat' first | exact trivial | exact rfl | apply And.intro); done | simp [onesP, oneP, lk, Value.oneCell']) ?_
                refine o_end [1, 3] rfl ?_
                refine x_then ?_
                refine c_seq ?_
                refine c_region ?_
                refine o_yield rfl rfl rfl (y_val tok rfl) ?_
                refine o_yield rfl rfl rfl (y_val tok rfl) ?_
                have e : c.kind = 5 := by simpa using h6
                have f : ¬ (c.kind = 0 ∨ c.kind = 1) := by omega
                refine o_yield rfl rfl rfl (y_seq (.bool (c.eqB ⟨c.kind, c.by_, c.serial, c.dead, 0, 0, 0, 0⟩)) rfl (fun E w => cmdEq c ⟨c.kind, c.by_, c.serial, c.dead, 0, 0, 0, 0⟩ w (.inl rfl))) ?_
                refine o_yield rfl rfl rfl (y_val tok rfl) ?_
                refine o_yield rfl rfl rfl (y_val tok rfl) ?_
                refine o_yield rfl rfl rfl (y_val tok rfl) ?_
                refine o_call (.a (.v _)) rfl rfl fnok74 rfl rfl rfl (fun hg E w1 hm => by exact refKey_c c.dead _) ?_
                refine o_yield rfl rfl rfl (y_val tok rfl) ?_
                refine o_yield rfl rfl rfl (y_val tok rfl) ?_
                refine o_end [2] rfl ?_
                refine x_then ?_
                refine c_ret ?_
                refine x_block_ret ?_
                refine x_then_ret ?_
                refine b_ret tok rfl ?_
                intro E w' hm _
                refine ⟨?_, hm.below (Vw.le.refl _)⟩
                rw [cmdB, hpre, Bool.true_and, if_neg f, if_neg (by omega), if_neg (by omega), if_neg (by omega), if_pos e, ← only5]
                rfl
              ·
                refine c_skip ?_
                refine x_block ?_
                refine x_then ?_
                refine c_seq ?_
                refine c_region ?_
                refine o_yield rfl rfl rfl (y_val tok rfl) ?_
                refine o_end [2] rfl ?_
                refine x_then ?_
                refine c_ret ?_
                refine b_ret tok rfl ?_
                intro E w' hm _
                refine ⟨?_, hm.below (Vw.le.refl _)⟩
                rw [cmdB, hpre, Bool.true_and]
                simp at h h2 h3 h4 h5 h6
                rw [if_neg (by omega), if_neg (by omega), if_neg (by omega), if_neg (by omega), if_neg (by omega)]
                rfl
end Go.Proofs.Ytifgmaeileiebaa

/- Commands, the document's: their bytes. -/
set_option linter.unusedVariables false
set_option linter.unusedSimpArgs false
set_option maxRecDepth 100000
namespace Go.Proofs.Ytifgmaeileiebaa
open Go Go.Eng Go.RowKit

theorem leB_one {n : Int} (h0 : 0 ≤ n) (h1 : n ≤ 255) : leB 1 n = [kindOf8 n] ∧ IntKind.u8.wrap n = (((kindOf8 n).toNat : Nat) : Int) := by
  have hk : (kindOf8 n).toNat = n.toNat := by
    rw [kindOf8, UInt8.toNat_ofNat']; omega
  refine ⟨?_, by rw [hk, IntKind.wrap_u8']; omega⟩
  have e : leB 1 n = [UInt8.ofNat (n.toNat / pw 0 % 256)] := rfl
  rw [e, kindOf8]
  congr 1
  apply UInt8.toNat.inj
  rw [UInt8.toNat_ofNat', UInt8.toNat_ofNat', show pw 0 = 1 from rfl]
  omega

theorem refCmdBytes_c (c : Cmd) (w : World) : Calls Try.prog 59 #[c.val] w fun e w' => e = .returned (.tuple #[S (cbV c), I (cbE c)]) ∧ Below w.heap.size w w' := by
  refine enter (E := E0) (O := []) (nl := 0) (V := vw w) [.a (.v c.val)] Try.func59 rfl rfl (mem0 E0 0 w) rfl rfl ?_
  refine c_seq ?_
  refine c_region ?_
  refine o_new tok rfl rfl rfl rfl ?_
  refine o_yield rfl rfl rfl (y_val tok rfl) ?_
  refine o_yield rfl rfl rfl (y_val tok rfl) ?_
  refine o_end [1] rfl ?_
  refine x_then ?_
  refine c_seq ?_
  refine c_seq ?_
  refine c_region ?_
  refine o_yield rfl rfl rfl (y_val tok rfl) ?_
  refine o_call (.a (.v _)) rfl rfl fnok69 rfl rfl rfl (fun hg E w1 hm => by exact refCmdMay_c c _) ?_
  refine o_yield rfl rfl rfl (y_val tok rfl) ?_
  refine o_end [1, 8] rfl ?_
  refine x_then ?_
  refine c_cond rfl (fun h => ?_) (fun h => ?_)
  ·
    simp only [Bool.and_eq_true, Bool.or_eq_true, Bool.not_eq_true', Bool.or_eq_false_iff, Bool.and_eq_false_iff, decide_eq_true_eq, decide_eq_false_iff_not, beq_iff_eq, bne_iff_ne, Bool.not_eq_false', beq_eq_false_iff_ne, bne_eq_false_iff_eq, ne_eq, Decidable.not_not, Int.not_lt, Int.not_le] at h
    refine c_seq ?_
    refine c_region ?_
    refine o_yield rfl rfl rfl (y_val tok rfl) ?_
    refine o_yield rfl rfl rfl (y_val tok rfl) ?_
    refine o_end [2, 3] rfl ?_
    refine x_then ?_
    refine c_ret ?_
    refine x_then_ret ?_
    refine b_ret tok rfl ?_
    intro E w' hm _
    refine ⟨?_, hm.below (Vw.le.refl _)⟩
    rw [cbV, cbE, if_neg (by simp [h]), if_neg (by simp [h])]
    rfl
  ·
    simp only [Bool.and_eq_true, Bool.or_eq_true, Bool.not_eq_true', Bool.or_eq_false_iff, Bool.and_eq_false_iff, decide_eq_true_eq, decide_eq_false_iff_not, beq_iff_eq, bne_iff_ne, Bool.not_eq_false', beq_eq_false_iff_ne, bne_eq_false_iff_eq, ne_eq, Decidable.not_not, Int.not_lt, Int.not_le] at h
    refine c_skip ?_
    refine x_then ?_
    refine c_seq ?_
    refine c_region ?_
    refine o_yield rfl rfl rfl (y_val tok rfl) ?_
    refine o_yield rfl rfl rfl (y_val tok rfl) ?_
    refine o_yield rfl rfl rfl (y_val tok rfl) ?_
    have hc := h
    clear h
    have ok := cmdOk hc
    have okk := ok.kind
    have oky := ok.by_
    have oks := ok.serial
    have okl := ok.lo
    have okh := ok.hi
    have okm := ok.mode
    have okd := ok.dead
    have okw := ok.was
    have m6 : mostN (6 : Int).toNat = 1099511627776 := by decide
    have m4 : mostN (4 : Int).toNat = 4294967295 := by decide
    have q6 : ∀ n : Int, 0 ≤ n → n ≤ 1099511627776 → fitsB n 6 = true := fun n h1 h2 => by rw [fitsB, m6]; simp [widthB]; omega
    have p2 : putOk 6 [c.by_] = true := putOk_of (q6 _ (by omega) (by omega))
    have p3 : putOk 4 [c.serial] = true := putOk_of (by rw [fitsB, m4]; simp [widthB]; omega)
    have w6 : widthB 6 = true := rfl
    obtain ⟨k1, k2⟩ := leB_one (n := c.kind) (by omega) (by omega)
    obtain ⟨B, hB⟩ : ∃ B, (putL (putL [kindOf8 c.kind] 6 [c.by_]) 4 [c.serial]) = B := ⟨_, rfl⟩
    have base : putL (putL (putL [] 1 [c.kind]) 6 [c.by_]) 4 [c.serial] = B := by rw [← hB]; simp [putL, k1]
    have lB : B.length = 11 := by rw [← hB]; simp [putL, leB, leTake_len]
    obtain ⟨lo1, lo2⟩ := leB_one (n := c.lo) (by omega) (by omega)
    obtain ⟨hi1, hi2⟩ := leB_one (n := c.hi) (by omega) (by omega)
    obtain ⟨mode1, mode2⟩ := leB_one (n := c.mode) (by omega) (by omega)
    rw [k2]
    refine o_step rfl rfl rfl rfl rfl (s_bs tok 1 rfl rfl rfl) (fun _ _ => ?_)
    refine o_yield rfl rfl rfl (y_val tok rfl) ?_
    refine o_yield rfl rfl rfl (y_val tok rfl) ?_
    refine o_step rfl rfl rfl rfl rfl (s_bs tok 1 rfl rfl rfl) (fun _ _ => ?_)
    refine o_step rfl rfl rfl rfl rfl (s_refPut [kindOf8 c.kind] 6 [c.by_] rfl p2 (by simp) (by simp) (fun E w hm => ⟨E.κ 1, E.κ 2, rfl, hm.rowOf 1 rfl (fun _ => rfl), hm.rowOf (enc := encI64) (L := [c.by_]) 2 rfl (fun _ => rfl)⟩)) (fun _ _ => ?_)
    refine o_yield rfl rfl rfl (y_val tok rfl) ?_
    refine o_yield rfl rfl rfl (y_val tok rfl) ?_
    refine o_yield rfl rfl rfl (y_val tok rfl) ?_
    refine o_yield rfl rfl rfl (y_val tok rfl) ?_
    refine o_yield rfl rfl rfl (y_val tok rfl) ?_
    refine o_end [1, 4] rfl ?_
    refine x_then ?_
    refine c_seq ?_
    refine c_region ?_
    refine o_yield rfl rfl rfl (y_val tok rfl) ?_
    refine o_yield rfl rfl rfl (y_val tok rfl) ?_
    refine o_yield rfl rfl rfl (y_val tok rfl) ?_
    refine o_step rfl rfl rfl rfl rfl (s_bs tok 1 rfl rfl rfl) (fun _ _ => ?_)
    have l2 : (putL [kindOf8 c.kind] 6 [c.by_]).length = 7 := by simp [putL, leB, leTake_len]
    refine o_step rfl rfl rfl rfl rfl (s_refPut (putL [kindOf8 c.kind] 6 [c.by_]) 4 [c.serial] rfl p3 (by rw [l2]; omega) (by simp) (fun E w hm => ⟨E.κ 3, E.κ 4, rfl, hm.rowOf 3 rfl (fun _ => rfl), hm.rowOf (enc := encI64) (L := [c.serial]) 4 rfl (fun _ => rfl)⟩)) (fun _ _ => ?_)
    refine o_yield rfl rfl rfl (y_val tok rfl) ?_
    refine o_yield rfl rfl rfl (y_val tok rfl) ?_
    refine o_yield rfl rfl rfl (y_val tok rfl) ?_
    refine o_yield rfl rfl rfl (y_val tok rfl) ?_
    refine o_end [1, 4] rfl ?_
    refine x_then ?_
    refine c_seq ?_
    refine c_seq ?_
    refine c_region ?_
    refine o_yield rfl rfl rfl (y_val tok rfl) ?_
    refine o_yield rfl rfl rfl (y_val tok rfl) ?_
    refine o_end [1, 4, 29] rfl ?_
    refine x_then ?_
    refine c_block ?_
    refine c_seq ?_
    refine c_region ?_
    refine o_yield rfl rfl rfl (y_val tok rfl) ?_
    refine o_yield rfl rfl rfl (y_val tok rfl) ?_
    refine o_end [1, 4, 29, 30] rfl ?_
    refine x_then ?_
    refine c_cond rfl (fun h => ?_) (fun h => ?_)
    ·
      have e2 : c.kind = 2 := by simpa using h
      rw [hB]
      refine c_region ?_
      refine o_yield rfl rfl rfl (y_val tok rfl) ?_
      refine o_yield rfl rfl rfl (y_val tok rfl) ?_
      refine o_yield rfl rfl rfl (y_val tok rfl) ?_
      refine o_yield rfl rfl rfl (y_val tok rfl) ?_
      refine o_yield rfl rfl rfl (y_val tok rfl) ?_
      refine o_yield rfl rfl rfl (y_val tok rfl) ?_
      refine o_yield rfl rfl rfl (y_val tok rfl) ?_
      refine o_yield rfl rfl rfl (y_val tok rfl) ?_
      refine o_yield rfl rfl rfl (y_val tok rfl) ?_
      refine o_yield rfl rfl rfl (y_val tok rfl) ?_
      refine o_yield rfl rfl rfl (y_val tok rfl) ?_
      refine o_yield rfl rfl rfl (y_val tok rfl) ?_
      rw [lo2, hi2, mode2]
      refine o_step rfl rfl rfl rfl rfl (s_bs tok 1 rfl rfl rfl) (fun _ _ => ?_)
      refine o_step rfl rfl rfl rfl rfl (s_app tok ([kindOf8 c.lo, kindOf8 c.hi, kindOf8 c.mode].flatMap encByte) rfl (fun E w hm => ownsRow_src (hm.row 6 _ _ _ _ rfl)) (fun _ _ _ => bytes_ones _) (by dsimp only; omega)) (fun _ _ => ?_)
      refine o_yield rfl rfl rfl (y_val tok rfl) ?_
      refine o_end [4] rfl ?_
      refine x_block ?_
      refine x_then ?_
      refine c_seq ?_
      refine c_region ?_
      refine o_yield rfl rfl rfl (y_val tok rfl) ?_
      rw [← List.flatMap_append, show B.length + 3 = (B ++ [kindOf8 c.lo, kindOf8 c.hi, kindOf8 c.mode]).length by simp, show B ++ [kindOf8 c.lo, kindOf8 c.hi, kindOf8 c.mode] = putL B 1 [c.lo, c.hi, c.mode] by simp [putL, lo1, hi1, mode1]]
      refine o_yield rfl rfl rfl (y_own (s := .a (.v (.string (strOf (cmdL c))))) 7 rfl rfl (fun v V' hs => y_b2s tok _ rfl (fun hg => by rw [cmdL, if_pos e2, base]; exact hs))) ?_
      refine o_yield rfl rfl rfl (y_val tok rfl) ?_
      refine o_yield rfl rfl rfl (y_val tok rfl) ?_
      refine o_end [2, 3] rfl ?_
      refine x_then ?_
      refine c_ret ?_
      refine b_ret tok rfl ?_
      intro E w' hm _
      refine ⟨?_, hm.below (Vw.le.refl _)⟩
      rw [cbV, cbE, if_pos hc, if_pos hc]
      rfl
    ·
      have f2 : ¬ c.kind = 2 := by simpa using h
      rw [hB]
      refine c_seq ?_
      refine c_region ?_
      refine o_yield rfl rfl rfl (y_val tok rfl) ?_
      refine o_yield rfl rfl rfl (y_val tok rfl) ?_
      refine o_end [1, 4, 29, 46] rfl ?_
      refine x_then ?_
      refine c_cond rfl (fun h => ?_) (fun h => ?_)
      ·
        refine c_region ?_
        refine o_yield rfl rfl rfl (y_val tok rfl) ?_
        refine o_yield rfl rfl rfl (y_val tok rfl) ?_
        refine o_yield rfl rfl rfl (y_val tok rfl) ?_
        refine o_yield rfl rfl rfl (y_val tok rfl) ?_
        refine o_yield rfl rfl rfl (y_val tok rfl) ?_
        refine o_yield rfl rfl rfl (y_val tok rfl) ?_
        refine o_yield rfl rfl rfl (y_val tok rfl) ?_
        refine o_yield rfl rfl rfl (y_val tok rfl) ?_
        refine o_yield rfl rfl rfl (y_val tok rfl) ?_
        have e3 : c.kind = 3 := by simpa using h
        rw [lo2, hi2]
        refine o_step rfl rfl rfl rfl rfl (s_bs tok 1 rfl rfl rfl) (fun _ _ => ?_)
        refine o_step rfl rfl rfl rfl rfl (s_app tok ([kindOf8 c.lo, kindOf8 c.hi].flatMap encByte) rfl (fun E w hm => ownsRow_src (hm.row 6 _ _ _ _ rfl)) (fun _ _ _ => bytes_ones _) (by dsimp only; omega)) (fun _ _ => ?_)
        refine o_yield rfl rfl rfl (y_val tok rfl) ?_
        refine o_end [4] rfl ?_
        refine x_block ?_
        refine x_then ?_
        refine c_seq ?_
        refine c_region ?_
        refine o_yield rfl rfl rfl (y_val tok rfl) ?_
        rw [← List.flatMap_append, show B.length + 2 = (B ++ [kindOf8 c.lo, kindOf8 c.hi]).length by simp, show B ++ [kindOf8 c.lo, kindOf8 c.hi] = putL B 1 [c.lo, c.hi] by simp [putL, lo1, hi1]]
        refine o_yield rfl rfl rfl (y_own (s := .a (.v (.string (strOf (cmdL c))))) 7 rfl rfl (fun v V' hs => y_b2s tok _ rfl (fun hg => by rw [cmdL, if_neg f2, if_pos e3, base]; exact hs))) ?_
        refine o_yield rfl rfl rfl (y_val tok rfl) ?_
        refine o_yield rfl rfl rfl (y_val tok rfl) ?_
        refine o_end [2, 3] rfl ?_
        refine x_then ?_
        refine c_ret ?_
        refine b_ret tok rfl ?_
        intro E w' hm _
        refine ⟨?_, hm.below (Vw.le.refl _)⟩
        rw [cbV, cbE, if_pos hc, if_pos hc]
        rfl
      ·
        have f3 : ¬ c.kind = 3 := by simpa using h
        refine c_seq ?_
        refine c_region ?_
        refine o_yield rfl rfl rfl (y_val tok rfl) ?_
        refine o_yield rfl rfl rfl (y_val tok rfl) ?_
        refine o_end [1, 4, 29, 59] rfl ?_
        refine x_then ?_
        refine c_cond rfl (fun h => ?_) (fun h => ?_)
        ·
          refine c_region ?_
          refine o_yield rfl rfl rfl (y_val tok rfl) ?_
          refine o_yield rfl rfl rfl (y_val tok rfl) ?_
          refine o_yield rfl rfl rfl (y_val tok rfl) ?_
          refine o_yield rfl rfl rfl (y_val tok rfl) ?_
          refine o_yield rfl rfl rfl (y_val tok rfl) ?_
          have e4 : c.kind = 4 := by simpa using h
          have p4 : putOk 6 [c.dead, c.was] = true := by simp only [putOk, List.all_cons, List.all_nil, Bool.and_true, Bool.and_eq_true]; exact ⟨w6, ⟨q6 _ (by omega) (by omega), q6 _ (by omega) (by omega)⟩⟩
          refine o_step rfl rfl rfl rfl rfl (s_bs tok 1 rfl rfl rfl) (fun _ _ => ?_)
          refine o_step rfl rfl rfl rfl rfl (s_refPut B 6 [c.dead, c.was] rfl p4 (by omega) (by simp) (fun E w hm => ⟨E.κ 5, E.κ 6, rfl, hm.rowOf 5 rfl (fun _ => rfl), hm.rowOf (enc := encI64) (L := [c.dead, c.was]) 6 rfl (fun _ => rfl)⟩)) (fun _ _ => ?_)
          refine o_yield rfl rfl rfl (y_val tok rfl) ?_
          refine o_yield rfl rfl rfl (y_val tok rfl) ?_
          refine o_yield rfl rfl rfl (y_val tok rfl) ?_
          refine o_yield rfl rfl rfl (y_val tok rfl) ?_
          refine o_end [4] rfl ?_
          refine x_block ?_
          refine x_then ?_
          refine c_seq ?_
          refine c_region ?_
          refine o_yield rfl rfl rfl (y_val tok rfl) ?_
          refine o_yield rfl rfl rfl (y_own (s := .a (.v (.string (strOf (cmdL c))))) 7 rfl rfl (fun v V' hs => y_b2s tok _ rfl (fun hg => by rw [cmdL, if_neg f2, if_neg f3, if_pos e4, base]; exact hs))) ?_
          refine o_yield rfl rfl rfl (y_val tok rfl) ?_
          refine o_yield rfl rfl rfl (y_val tok rfl) ?_
          refine o_end [2, 3] rfl ?_
          refine x_then ?_
          refine c_ret ?_
          refine b_ret tok rfl ?_
          intro E w' hm _
          refine ⟨?_, hm.below (Vw.le.refl _)⟩
          rw [cbV, cbE, if_pos hc, if_pos hc]
          rfl
        ·
          have f4 : ¬ c.kind = 4 := by simpa using h
          refine c_seq ?_
          refine c_region ?_
          refine o_yield rfl rfl rfl (y_val tok rfl) ?_
          refine o_yield rfl rfl rfl (y_val tok rfl) ?_
          refine o_end [1, 4, 71] rfl ?_
          refine x_then ?_
          refine c_cond rfl (fun h => ?_) (fun h => ?_)
          ·
            refine c_region ?_
            refine o_yield rfl rfl rfl (y_val tok rfl) ?_
            refine o_yield rfl rfl rfl (y_val tok rfl) ?_
            refine o_yield rfl rfl rfl (y_val tok rfl) ?_
            have e5 : c.kind = 5 := by simpa using h
            have p4 : putOk 6 [c.dead] = true := by simp only [putOk, List.all_cons, List.all_nil, Bool.and_true, Bool.and_eq_true]; exact ⟨w6, q6 _ (by omega) (by omega)⟩
            refine o_step rfl rfl rfl rfl rfl (s_bs tok 1 rfl rfl rfl) (fun _ _ => ?_)
            refine o_step rfl rfl rfl rfl rfl (s_refPut B 6 [c.dead] rfl p4 (by omega) (by simp) (fun E w hm => ⟨E.κ 5, E.κ 6, rfl, hm.rowOf 5 rfl (fun _ => rfl), hm.rowOf (enc := encI64) (L := [c.dead]) 6 rfl (fun _ => rfl)⟩)) (fun _ _ => ?_)
            refine o_yield rfl rfl rfl (y_val tok rfl) ?_
            refine o_yield rfl rfl rfl (y_val tok rfl) ?_
            refine o_yield rfl rfl rfl (y_val tok rfl) ?_
            refine o_yield rfl rfl rfl (y_val tok rfl) ?_
            refine o_end [4] rfl ?_
            refine x_block ?_
            refine x_then ?_
            refine c_seq ?_
            refine c_region ?_
            refine o_yield rfl rfl rfl (y_val tok rfl) ?_
            refine o_yield rfl rfl rfl (y_own (s := .a (.v (.string (strOf (cmdL c))))) 7 rfl rfl (fun v V' hs => y_b2s tok _ rfl (fun hg => by rw [cmdL, if_neg f2, if_neg f3, if_neg f4, if_pos e5, base]; exact hs))) ?_
            refine o_yield rfl rfl rfl (y_val tok rfl) ?_
            refine o_yield rfl rfl rfl (y_val tok rfl) ?_
            refine o_end [2, 3] rfl ?_
            refine x_then ?_
            refine c_ret ?_
            refine b_ret tok rfl ?_
            intro E w' hm _
            refine ⟨?_, hm.below (Vw.le.refl _)⟩
            rw [cbV, cbE, if_pos hc, if_pos hc]
            rfl
          ·
            refine c_skip ?_
            refine x_block ?_
            refine x_then ?_
            refine c_seq ?_
            refine c_region ?_
            refine o_yield rfl rfl rfl (y_val tok rfl) ?_
            have f5 : ¬ c.kind = 5 := by simpa using h
            refine o_yield rfl rfl rfl (y_own (s := .a (.v (.string (strOf (cmdL c))))) 5 rfl rfl (fun v V' hs => y_b2s tok _ rfl (fun hg => by rw [cmdL, if_neg f2, if_neg f3, if_neg f4, if_neg f5, base]; exact hs))) ?_
            refine o_yield rfl rfl rfl (y_val tok rfl) ?_
            refine o_yield rfl rfl rfl (y_val tok rfl) ?_
            refine o_end [2, 3] rfl ?_
            refine x_then ?_
            refine c_ret ?_
            refine b_ret tok rfl ?_
            intro E w' hm _
            refine ⟨?_, hm.below (Vw.le.refl _)⟩
            rw [cbV, cbE, if_pos hc, if_pos hc]
            rfl
end Go.Proofs.Ytifgmaeileiebaa

/- What is read of bytes was put there: the plain law. -/
set_option linter.unusedVariables false
set_option linter.unusedSimpArgs false
set_option maxRecDepth 100000
namespace Go.Proofs.Ytifgmaeileiebaa
open Go Go.Eng Go.RowKit

theorem pw_add (a b : Nat) : pw (a + b) = pw a * pw b := by rw [pw, pw, pw, Nat.pow_add]

theorem leTo_digit {f : Nat → Nat} (hf : ∀ j, f j < 256) : ∀ (k j : Nat), j < k → leTo f k / pw j % 256 = f j
  | k + 1, j, h => by
    have hlt := leTo_lt hf k
    have hfk := hf k
    rw [leTo]
    by_cases hjk : j = k
    · subst hjk
      rw [Nat.add_mul_div_right _ _ (pw_pos j), Nat.div_eq_of_lt hlt, Nat.zero_add, Nat.mod_eq_of_lt hfk]
    · have ih := leTo_digit hf k j (by omega)
      obtain ⟨d, rfl⟩ : ∃ d, k = (j + 1) + d := ⟨k - (j + 1), by omega⟩
      have e : f (j + 1 + d) * pw (j + 1 + d) = (f (j + 1 + d) * pw d * 256) * pw j := by
        rw [pw_add, pw_succ]
        simp only [Nat.mul_assoc, Nat.mul_comm, Nat.mul_left_comm]
      rw [e, Nat.add_mul_div_right _ _ (pw_pos j), Nat.add_mul_mod_self_right, ih]

theorem getSpec_val {s : ByteArray} {k : Nat} (h : (getSpec s 0 k).2 = 0) : (getSpec s 0 k).1 = ((leTo (digit s 0) k : Nat) : Int) := by
  unfold getSpec at h ⊢
  split at h
  · simp at h
  · rename_i h1
    rw [if_neg h1]
    split at h
    · simp at h
    · rename_i h2
      rw [if_neg h2]
      split at h
      · simp at h
      · rename_i h3
        rw [if_neg h3]
        rfl

theorem getSpec_inv {s : ByteArray} {k : Nat} (h : (getSpec s 0 k).2 = 0) : s = strOf (leB k (getSpec s 0 k).1 ++ (restOf s k).data.toList) := by
  obtain ⟨hw, _, hle⟩ := getSpec_ok h
  have hsz := size_list s
  have hke : k ≤ s.data.toList.length := by omega
  apply str_ext
  rw [strOf_list, restOf_list, getSpec_val h]
  conv => lhs; rw [← List.take_append_drop k s.data.toList]
  congr 1
  apply List.ext_getElem
  · rw [List.length_take, leB, leTake_len, Int.toNat_natCast]; omega
  · intro i h1 h2
    have hik : i < k := by rw [List.length_take] at h1; omega
    rw [List.getElem_take]
    simp only [leB, leTake, Int.toNat_natCast, List.getElem_map, List.getElem_range]
    rw [leTo_digit (digit_lt s 0) k i hik, digit, byteAt_list, Nat.zero_add, UInt8.ofNat_toNat]
    rw [List.getD_eq_getElem?_getD, List.getElem?_eq_getElem (by omega)]
    rfl

end Go.Proofs.Ytifgmaeileiebaa

/- What is read as a command was put as it: the plain law. -/
set_option linter.unusedVariables false
set_option linter.unusedSimpArgs false
set_option maxRecDepth 100000
namespace Go.Proofs.Ytifgmaeileiebaa
open Go Go.Eng Go.RowKit

theorem tk_good {t : ByteArray × Bool} {k : Nat} (K : Int) (hK : (k : Int) = K) (h : (tkS t k).2 = false) : t.2 = false ∧ t.1.data.toList = leB K (getSpec t.1 0 K).1 ++ (tkS t k).1.data.toList := by
  subst hK
  rw [tkS] at h ⊢
  split at h
  · simp at h
  · rename_i hg
    rw [if_neg hg]
    refine ⟨h, ?_⟩
    have := congrArg (fun x : ByteArray => x.data.toList) (getSpec_inv (s := t.1) (k := k) (by simpa using hg))

    rw [strOf_list] at this
    exact this

theorem empty_list {t : ByteArray} (h : t = ByteArray.empty) : t.data.toList = [] := by rw [h]; rfl
theorem low127 {n : Int} (h : min n 127 ≤ 5) : min n 127 = n := by omega

theorem rd_inv2 {s : ByteArray} (e2 : min (getSpec s 0 1).1 127 = 2) (h1 : (rdPre s).2.2 = false) (h4 : (rdPre s).2.1 = ByteArray.empty) (ok : CmdOk (rdPre s).1) : s = strOf (cmdL (rdPre s).1) := by
  rw [cmd_shape]
  unfold rdPre at h1 h4 ok ⊢
  rw [if_pos e2] at h1 h4 ok ⊢
  obtain ⟨a6, b6⟩ := tk_good 1 rfl h1
  obtain ⟨a5, b5⟩ := tk_good 1 rfl a6
  obtain ⟨a4, b4⟩ := tk_good 1 rfl a5
  obtain ⟨a3, b3⟩ := tk_good 4 rfl a4
  obtain ⟨a2, b2⟩ := tk_good 6 rfl a3
  obtain ⟨a1, b1⟩ := tk_good 1 rfl a2
  have ok1 := ok.kind
  have ok2 := ok.mode
  clear ok h1
  dsimp only at h4 ok1 ok2 b1 b2 b3 b4 b5 b6
  apply str_ext
  rw [strOf_list, b1, b2, b3, b4, b5, b6, empty_list h4, cmdR]
  dsimp only
  rw [if_pos e2, low127 (n := (getSpec s 0 1).1) (by omega), low127 (n := (getSpec (tkS (tkS (tkS (tkS (tkS (s, false) 1) 6) 4) 1) 1).1 0 1).1) (by omega)]

theorem rd_inv3 {s : ByteArray} (e2 : ¬ min (getSpec s 0 1).1 127 = 2) (e3 : min (getSpec s 0 1).1 127 = 3) (h1 : (rdPre s).2.2 = false) (h4 : (rdPre s).2.1 = ByteArray.empty) (ok : CmdOk (rdPre s).1) : s = strOf (cmdL (rdPre s).1) := by
  rw [cmd_shape]
  unfold rdPre at h1 h4 ok ⊢
  rw [if_neg e2, if_pos e3] at h1 h4 ok ⊢
  obtain ⟨a5, b5⟩ := tk_good 1 rfl h1
  obtain ⟨a4, b4⟩ := tk_good 1 rfl a5
  obtain ⟨a3, b3⟩ := tk_good 4 rfl a4
  obtain ⟨a2, b2⟩ := tk_good 6 rfl a3
  obtain ⟨a1, b1⟩ := tk_good 1 rfl a2
  have ok1 := ok.kind
  have ok2 := ok.mode
  clear ok h1
  dsimp only at h4 ok1 ok2 b1 b2 b3 b4 b5
  apply str_ext
  rw [strOf_list, b1, b2, b3, b4, b5, empty_list h4, cmdR]
  dsimp only
  rw [if_neg e2, if_pos e3, low127 (n := (getSpec s 0 1).1) (by omega)]

theorem rd_inv4 {s : ByteArray} (e2 : ¬ min (getSpec s 0 1).1 127 = 2) (e3 : ¬ min (getSpec s 0 1).1 127 = 3) (e4 : min (getSpec s 0 1).1 127 = 4) (h1 : (rdPre s).2.2 = false) (h4 : (rdPre s).2.1 = ByteArray.empty) (ok : CmdOk (rdPre s).1) : s = strOf (cmdL (rdPre s).1) := by
  rw [cmd_shape]
  unfold rdPre at h1 h4 ok ⊢
  rw [if_neg e2, if_neg e3, if_pos e4] at h1 h4 ok ⊢
  obtain ⟨a5, b5⟩ := tk_good 6 rfl h1
  obtain ⟨a4, b4⟩ := tk_good 6 rfl a5
  obtain ⟨a3, b3⟩ := tk_good 4 rfl a4
  obtain ⟨a2, b2⟩ := tk_good 6 rfl a3
  obtain ⟨a1, b1⟩ := tk_good 1 rfl a2
  have ok1 := ok.kind
  have ok2 := ok.mode
  clear ok h1
  dsimp only at h4 ok1 ok2 b1 b2 b3 b4 b5
  apply str_ext
  rw [strOf_list, b1, b2, b3, b4, b5, empty_list h4, cmdR]
  dsimp only
  rw [if_neg e2, if_neg e3, if_pos e4, low127 (n := (getSpec s 0 1).1) (by omega)]

theorem rd_inv5 {s : ByteArray} (e2 : ¬ min (getSpec s 0 1).1 127 = 2) (e3 : ¬ min (getSpec s 0 1).1 127 = 3) (e4 : ¬ min (getSpec s 0 1).1 127 = 4) (e5 : min (getSpec s 0 1).1 127 = 5) (h1 : (rdPre s).2.2 = false) (h4 : (rdPre s).2.1 = ByteArray.empty) (ok : CmdOk (rdPre s).1) : s = strOf (cmdL (rdPre s).1) := by
  rw [cmd_shape]
  unfold rdPre at h1 h4 ok ⊢
  rw [if_neg e2, if_neg e3, if_neg e4, if_pos e5] at h1 h4 ok ⊢
  obtain ⟨a4, b4⟩ := tk_good 6 rfl h1
  obtain ⟨a3, b3⟩ := tk_good 4 rfl a4
  obtain ⟨a2, b2⟩ := tk_good 6 rfl a3
  obtain ⟨a1, b1⟩ := tk_good 1 rfl a2
  have ok1 := ok.kind
  have ok2 := ok.mode
  clear ok h1
  dsimp only at h4 ok1 ok2 b1 b2 b3 b4
  apply str_ext
  rw [strOf_list, b1, b2, b3, b4, empty_list h4, cmdR]
  dsimp only
  rw [if_neg e2, if_neg e3, if_neg e4, if_pos e5, low127 (n := (getSpec s 0 1).1) (by omega)]

theorem rd_inv0 {s : ByteArray} (e2 : ¬ min (getSpec s 0 1).1 127 = 2) (e3 : ¬ min (getSpec s 0 1).1 127 = 3) (e4 : ¬ min (getSpec s 0 1).1 127 = 4) (e5 : ¬ min (getSpec s 0 1).1 127 = 5) (h1 : (rdPre s).2.2 = false) (h4 : (rdPre s).2.1 = ByteArray.empty) (ok : CmdOk (rdPre s).1) : s = strOf (cmdL (rdPre s).1) := by
  rw [cmd_shape]
  unfold rdPre at h1 h4 ok ⊢
  rw [if_neg e2, if_neg e3, if_neg e4, if_neg e5] at h1 h4 ok ⊢
  obtain ⟨a3, b3⟩ := tk_good 4 rfl h1
  obtain ⟨a2, b2⟩ := tk_good 6 rfl a3
  obtain ⟨a1, b1⟩ := tk_good 1 rfl a2
  have ok1 := ok.kind
  have ok2 := ok.mode
  clear ok h1
  dsimp only at h4 ok1 ok2 b1 b2 b3
  apply str_ext
  rw [strOf_list, b1, b2, b3, empty_list h4, cmdR]
  dsimp only
  rw [if_neg e2, if_neg e3, if_neg e4, if_neg e5, low127 (n := (getSpec s 0 1).1) (by omega)]

theorem rd_inv {s : ByteArray} (h : rdB (rdPre s) = true) : cmdB (rdPre s).1 = true ∧ s = strOf (cmdL (rdPre s).1) := by
  simp only [rdB, Bool.not_eq_true', Bool.or_eq_false_iff, Bool.not_eq_false'] at h
  obtain ⟨⟨h1, h2⟩, h3⟩ := h
  refine ⟨h3, ?_⟩
  have h4 : (rdPre s).2.1 = ByteArray.empty := by
    rw [empty_beq, decide_eq_true_eq] at h2
    exact size_zero h2
  have ok := cmdOk h3
  by_cases e2 : min (getSpec s 0 1).1 127 = 2
  · exact rd_inv2 e2 h1 h4 ok
  · by_cases e3 : min (getSpec s 0 1).1 127 = 3
    · exact rd_inv3 e2 e3 h1 h4 ok
    · by_cases e4 : min (getSpec s 0 1).1 127 = 4
      · exact rd_inv4 e2 e3 e4 h1 h4 ok
      · by_cases e5 : min (getSpec s 0 1).1 127 = 5
        · exact rd_inv5 e2 e3 e4 e5 h1 h4 ok
        · exact rd_inv0 e2 e3 e4 e5 h1 h4 ok

/-- A string is read as a command if it is what one was put as, and no other. -/
theorem crd_iff (s : ByteArray) : (∃ c, cmdB c = true ∧ s = strOf (cmdL c) ∧ crdV s = c ∧ crdE s = 0) ∨ ((∀ c, cmdB c = true → s ≠ strOf (cmdL c)) ∧ crdV s = cmd0 ∧ crdE s = 100) := by
  cases hr : rdB (rdPre s) with
  | true =>
    obtain ⟨h1, h2⟩ := rd_inv hr
    exact .inl ⟨(rdPre s).1, h1, h2, by rw [crdV, if_pos hr], by rw [crdE, if_pos hr]⟩
  | false =>
    refine .inr ⟨fun c hc he => ?_, by rw [crdV, if_neg (by simp [hr])], by rw [crdE, if_neg (by simp [hr])]⟩
    have h2 := (crd_cmd hc).2
    rw [← he, crdE, if_neg (by simp [hr])] at h2
    exact absurd h2 (by decide)
end Go.Proofs.Ytifgmaeileiebaa

/- A row of numbers, the document's. -/
set_option linter.unusedVariables false
set_option linter.unusedSimpArgs false
set_option maxRecDepth 100000
namespace Go.Proofs.Ytifgmaeileiebaa
open Go Go.Eng Go.RowKit

/-- The numbers of six bytes each that make up a string. -/
def rowR : Nat → ByteArray → List Int → List Int × Int
  | 0, _, acc => (acc, 0)
  | f + 1, r, acc => if r.size = 0 then (acc, 0) else if (getSpec r 0 6).2 ≠ 0 then ([], (getSpec r 0 6).2) else rowR f (restOf r 6) (acc ++ [(getSpec r 0 6).1])

theorem int_ones2 (l : List Int) : ∀ u ∈ l.flatMap encI64, u.oneCell' = true := by
  intro u hu
  obtain ⟨x, _, hx⟩ := List.mem_flatMap.1 hu
  simp only [encI64, List.mem_singleton] at hx
  subst hx; rfl

def RowPostI (r : List Int × Int) (w : World) (e : Ending) (w' : World) : Prop :=
  (∃ v, e = .returned (.tuple #[v, I r.2]) ∧ w'.ownsRow w.heap.size 3 1 v r.1.length (r.1.flatMap encI64)) ∧ Below w.heap.size w w'

theorem refRow_c (s : ByteArray) (hs : s.size ≤ 1000) (w : World) : Calls Try.prog 58 #[S s, I 6] w (RowPostI (rowR (s.size + 1) s []) w) := by
  have hm : mostI 6 = 1099511627776 := by decide
  have hmx : s.size ≤ maxLen := by simp only [maxLen]; omega
  obtain ⟨R, hR⟩ : ∃ r, rowR (s.size + 1) s [] = r := ⟨_, rfl⟩
  rw [hR]
  refine enter (E := E0) (O := []) (nl := 0) (V := vw w) [.a (.v (S s)), .a (.v (I 6))] Try.func58 rfl rfl (mem0 E0 0 w) rfl rfl ?_
  refine c_seq ?_
  refine c_region ?_
  refine o_yield rfl rfl rfl (y_val tok rfl) ?_
  refine o_yield rfl rfl rfl (y_val tok rfl) ?_
  refine o_end [0, 1] rfl ?_
  refine x_then ?_
  refine c_seq ?_
  refine c_seq ?_
  refine c_region ?_
  refine o_yield rfl rfl rfl (y_val tok rfl) ?_
  refine o_call (.a (.v _)) rfl rfl fnok68 rfl rfl rfl (fun hg E w1 hm => by exact refMost_c 6 _) ?_
  refine o_yield rfl rfl rfl (y_val tok rfl) ?_
  refine o_end [0, 1, 12] rfl ?_
  refine x_then ?_
  refine c_cond rfl (fun h => ?_) (fun h => ?_)
  ·
    exfalso
    rw [hm] at h
    exact absurd h (by decide)
  ·
    refine c_skip ?_
    refine x_then ?_
    refine c_seq ?_
    refine c_region ?_
    refine o_yield rfl rfl rfl (y_val tok rfl) ?_
    refine o_end [0, 1, 6] rfl ?_
    refine x_then ?_
    refine c_seq ?_
    refine c_seq ?_
    refine c_region ?_
    refine o_yield rfl rfl rfl (y_val tok rfl) ?_
    refine o_end [0, 1, 6, 7] rfl ?_
    refine x_then ?_
    refine c_block ?_
    refine k_nil 6 3 1 rfl rfl ?_
    refine c_loopK [0, 1] [0] rfl rfl (σ := Nat × Nat × List Int) (fun (a, f, acc) => [(6, .a (.row 0)), (7, .a (.v (I a)))]) (fun (a, f, acc) => [(0, .row 3 1 acc.length (acc.flatMap encI64))]) (fun (a, f, acc) => a ≤ s.size ∧ s.size + 1 ≤ a + f ∧ R = rowR f (restOf s a) acc ∧ acc.length ≤ a) (fun (a, f, acc) => s.size - a) ((0, s.size + 1, [])) (⟨by omega, by omega, by rw [restOf_zero]; exact hR.symm, by simp⟩) (by repeat (first | exact SubF.nil | refine SubF.cons rfl ?_)) (by repeat (first | exact SubO.nil | refine SubO.cons rfl ?_)) rfl ?_
    rintro ⟨a, f, acc⟩ ⟨ha, hf, heq, hal⟩
    have hrs := restOf_size s a
    obtain ⟨f, rfl⟩ : ∃ g, f = g + 1 := ⟨f - 1, by omega⟩
    rw [rowR] at heq
    refine c_seq ?_
    refine c_seq ?_
    refine c_region ?_
    refine o_yield rfl rfl rfl (y_val tok rfl) ?_
    refine o_yield rfl rfl rfl (y_val tok rfl) ?_
    refine o_yield rfl rfl rfl (y_val tok rfl) ?_
    refine o_yield rfl rfl rfl (y_val tok rfl) ?_
    refine o_end [0, 1, 6, 7, 16] rfl ?_
    refine x_then ?_
    refine c_cond rfl (fun h => ?_) (fun h => ?_)
    ·
      simp only [Bool.and_eq_true, Bool.or_eq_true, Bool.not_eq_true', Bool.or_eq_false_iff, Bool.and_eq_false_iff, decide_eq_true_eq, decide_eq_false_iff_not, beq_iff_eq, bne_iff_ne, Bool.not_eq_false', beq_eq_false_iff_ne, bne_eq_false_iff_eq, ne_eq, Decidable.not_not, Int.not_lt, Int.not_le] at h
      refine c_skip ?_
      refine x_then ?_
      refine c_seq ?_
      refine c_block ?_
      refine c_seq ?_
      refine c_region ?_
      refine o_yield rfl rfl rfl (y_val tok rfl) ?_
      refine o_yield rfl rfl rfl (y_val tok rfl) ?_
      refine o_yield rfl rfl rfl (y_val tok rfl) ?_
      rw [if_neg (by omega)] at heq
      rw [getSpec_rest s ha] at heq
      refine o_call (.a (.v _)) rfl rfl fnok57 rfl rfl rfl (fun hg E w1 hm => by exact refGet_c s a 6 hmx _) ?_
      refine o_yield rfl rfl rfl (y_val tok rfl) ?_
      refine o_yield rfl rfl rfl (y_val tok rfl) ?_
      refine o_yield rfl rfl rfl (y_val tok rfl) ?_
      refine o_yield rfl rfl rfl (y_val tok rfl) ?_
      refine o_yield rfl rfl rfl (y_val tok rfl) ?_
      refine o_end [0, 1, 6, 7, 8, 9] rfl ?_
      refine x_then ?_
      refine c_seq ?_
      refine c_seq ?_
      refine c_region ?_
      refine o_yield rfl rfl rfl (y_val tok rfl) ?_
      refine o_yield rfl rfl rfl (y_val tok rfl) ?_
      refine o_end [0, 1, 6, 7, 8, 9, 28] rfl ?_
      refine x_then ?_
      refine c_cond rfl (fun h => ?_) (fun h => ?_)
      ·
        simp only [Bool.and_eq_true, Bool.or_eq_true, Bool.not_eq_true', Bool.or_eq_false_iff, Bool.and_eq_false_iff, decide_eq_true_eq, decide_eq_false_iff_not, beq_iff_eq, bne_iff_ne, Bool.not_eq_false', beq_eq_false_iff_ne, bne_eq_false_iff_eq, ne_eq, Decidable.not_not, Int.not_lt, Int.not_le] at h
        refine c_seq ?_
        refine c_region ?_
        refine o_yield rfl rfl rfl (y_val tok rfl) ?_
        refine o_yield rfl rfl rfl (y_val tok rfl) ?_
        refine o_yield rfl rfl rfl (y_val tok rfl) ?_
        refine o_end [4, 5] rfl ?_
        refine x_then ?_
        refine c_ret ?_
        refine x_then_ret ?_
        refine x_block_ret ?_
        refine x_then_ret ?_
        refine x_then_ret ?_
        refine x_block_ret ?_
        refine x_then_ret ?_
        refine b_ret tok rfl ?_
        rw [if_pos h] at heq
        intro E w' hm _
        refine ⟨⟨_, by rw [heq]; rfl, ?_⟩, hm.below (Vw.le.refl _)⟩
        rw [heq]
        exact World.ownsRow_nil _ _ _ _
      ·
        simp only [Bool.and_eq_true, Bool.or_eq_true, Bool.not_eq_true', Bool.or_eq_false_iff, Bool.and_eq_false_iff, decide_eq_true_eq, decide_eq_false_iff_not, beq_iff_eq, bne_iff_ne, Bool.not_eq_false', beq_eq_false_iff_ne, bne_eq_false_iff_eq, ne_eq, Decidable.not_not, Int.not_lt, Int.not_le] at h
        rw [if_neg (by simp [h])] at heq
        obtain ⟨_, _, hle⟩ := getSpec_ok h
        rw [restOf_add] at heq
        clear h
        refine c_skip ?_
        refine x_then ?_
        refine c_region ?_
        refine o_yield rfl rfl rfl (y_val tok rfl) ?_
        refine o_yield rfl rfl rfl (y_val tok rfl) ?_
        refine o_step rfl rfl rfl rfl rfl (s_bs tok 1 rfl rfl rfl) (fun _ _ => ?_)
        refine o_step rfl rfl rfl rfl rfl (s_app tok ([(getSpec s a 6).1].flatMap encI64) rfl (fun E w hm => ownsRow_src (hm.row 1 _ _ _ _ rfl)) (fun _ _ _ => int_ones2 _) (by dsimp only; omega)) (fun _ _ => ?_)
        refine o_yield rfl rfl rfl (y_val tok rfl) ?_
        refine o_end [0, 1, 6, 7] rfl ?_
        refine x_block ?_
        refine x_then ?_
        refine c_region ?_
        refine o_yield rfl rfl rfl (y_val tok rfl) ?_
        refine o_yield rfl rfl rfl (y_val tok rfl) ?_
        refine o_yield rfl rfl rfl (y_val tok rfl) ?_
        refine o_yield rfl rfl rfl (y_val tok rfl) ?_
        refine o_end [0, 1, 6, 7] rfl ?_
        refine x_then ?_
        rw [← List.flatMap_append, show acc.length + 1 = (acc ++ [(getSpec s a 6).1]).length by simp, wrapI (n := (a : Int) + 6) (by omega) (by omega), show (a : Int) + 6 = ((a + 6 : Nat) : Int) by omega]
        refine k_swap 0 2 rfl ?_
        refine x_round ((a + 6, f, acc ++ [(getSpec s a 6).1])) (⟨by omega, by omega, heq, by simp; omega⟩) (by first | omega | (dsimp only; omega)) (by repeat (first | exact SubF.nil | refine SubF.cons rfl ?_)) (by repeat (first | exact SubO.nil | refine SubO.cons rfl ?_)) rfl (Vw.le.refl _)
    ·
      simp only [Bool.and_eq_true, Bool.or_eq_true, Bool.not_eq_true', Bool.or_eq_false_iff, Bool.and_eq_false_iff, decide_eq_true_eq, decide_eq_false_iff_not, beq_iff_eq, bne_iff_ne, Bool.not_eq_false', beq_eq_false_iff_ne, bne_eq_false_iff_eq, ne_eq, Decidable.not_not, Int.not_lt, Int.not_le] at h
      refine c_exit ?_
      refine x_then_exit ?_
      refine x_then_exit ?_
      refine x_block_hit ?_
      refine x_then ?_
      refine c_seq ?_
      refine c_region ?_
      refine o_yield rfl rfl rfl (y_val tok rfl) ?_
      refine o_yield rfl rfl rfl (y_val tok rfl) ?_
      refine o_yield rfl rfl rfl (y_val tok rfl) ?_
      refine o_end [4, 5] rfl ?_
      refine x_then ?_
      refine c_ret ?_
      refine b_ret tok rfl ?_
      rw [if_pos (by omega)] at heq
      intro E w' hm _
      refine ⟨⟨_, by rw [heq]; rfl, ?_⟩, hm.below (Vw.le.refl _)⟩
      rw [heq]
      exact hm.rowFresh (Vw.le.refl _) (l := 0) rfl
end Go.Proofs.Ytifgmaeileiebaa

/- Commands read back, the document's: what is none. -/
set_option linter.unusedVariables false
set_option linter.unusedSimpArgs false
set_option maxRecDepth 100000
namespace Go.Proofs.Ytifgmaeileiebaa
open Go Go.Eng Go.RowKit

section
variable {o : Oper} {n : Nat} {F : Frame0} {C : List Nat} {O : Own} {nl : Nat} {V : Vw}

theorem y_ssR {P : Program} {tt : List (Nat × TI)} (htt : TTok P tt) {p : List (Nat × Bool)} {g : Bool} {s : ByteArray} {lo hi : Option Int} (r : ByteArray)
    (hv : evalSs tt F p o.op = some (s, lo, hi)) (hb : g = true → 0 ≤ lo.getD 0 ∧ lo.getD 0 ≤ hi.getD s.size ∧ hi.getD s.size ≤ s.size) (hr : s.extract (lo.getD 0).toNat (hi.getD s.size).toNat = r) :
    Yld P o n F C O nl V p g (.a (.v (.string r))) := hr ▸ y_ss htt hv hb

theorem s_refRow {p : List (Nat × Bool)} (s : ByteArray) (r : List Int × Int) (hr : rowR (s.size + 1) s [] = r) {ss : List SV} (hv : evalC F p o.op = some (58, ss)) (hs : s.size ≤ 1000)
    (hss : ∀ E, ss.map (SV.den E) = [S s, I 6]) :
    StepTo Try.prog o p n F C O nl V (σ := Unit) (fun _ => True) (fun _ => .tup [.row nl, .v (I r.2)]) (fun _ => (nl, .row 3 1 r.1.length (r.1.flatMap encI64)) :: O) (nl + 1) (fun _ => V) := by
  refine s_callR (fun _ => True) (fun _ => .tup [.row nl, .v (I r.2)]) 3 1 (fun _ => r.1.length) (fun _ => r.1.flatMap encI64) hv fnok58 (fun _ => by simp [SV.ok, allOk, A.ok, blt_iff]) ?_
  intro E w hm
  rw [hss E]
  refine (refRow_c s hs w).mono ?_
  rintro e w' ⟨⟨v, rfl, hown⟩, hbl⟩
  rw [hr] at hown
  exact ⟨(), v, by rw [hr]; simp [SV.den, A.den, Env.setκ], hown, hbl, trivial⟩
end

theorem cb_no {s : ByteArray} (hbad : ∀ c, cmdB c = true → s ≠ strOf (cmdL c)) (c : Cmd) : ((cbE c != 0) || !(cbV c).toList == s.toList) = true := by
  cases hc : cmdB c with
  | false => rw [cbE, if_neg (by simp [hc])]; rfl
  | true =>
    rw [(cbV_pos hc).1, (cbV_pos hc).2, str_beq]
    have := hbad c hc
    simp only [bne_self_eq_false, Bool.false_or, Bool.not_eq_true', decide_eq_false_iff_not]
    intro he
    exact this (str_ext he.symm)

theorem refCmdRead_bad (s : ByteArray) (hs : s.size ≤ 1000) (hbad : ∀ c, cmdB c = true → s ≠ strOf (cmdL c)) (w : World) :
    Calls Try.prog 45 #[S s] w fun e w' => e = .returned (.tuple #[cmd0.val, I 100]) ∧ Below w.heap.size w w' := by
  have hmx : s.size ≤ maxLen := by simp only [maxLen]; omega
  refine enter (E := E0) (O := []) (nl := 0) (V := vw w) [.a (.v (S s))] Try.func45 rfl rfl (mem0 E0 0 w) rfl rfl ?_
  refine c_seq ?_
  refine c_region ?_
  refine o_new tok rfl rfl rfl rfl ?_
  refine o_yield rfl rfl rfl (y_val tok rfl) ?_
  refine o_end [0, 2] rfl ?_
  refine x_then ?_
  refine c_seq ?_
  refine c_seq ?_
  refine c_region ?_
  refine o_yield rfl rfl rfl (y_val tok rfl) ?_
  refine o_yield rfl rfl rfl (y_val tok rfl) ?_
  refine o_yield rfl rfl rfl (y_val tok rfl) ?_
  refine o_end [0, 2, 16] rfl ?_
  refine x_then ?_
  refine c_cond rfl (fun h => ?_) (fun h => ?_)
  ·
    simp only [Bool.and_eq_true, Bool.or_eq_true, Bool.not_eq_true', Bool.or_eq_false_iff, Bool.and_eq_false_iff, decide_eq_true_eq, decide_eq_false_iff_not, beq_iff_eq, bne_iff_ne, Bool.not_eq_false', beq_eq_false_iff_ne, bne_eq_false_iff_eq, ne_eq, Decidable.not_not, Int.not_lt, Int.not_le] at h
    refine c_seq ?_
    refine c_region ?_
    refine o_yield rfl rfl rfl (y_val tok rfl) ?_
    refine o_store tok rfl rfl rfl (by first | exact ⟨trivial, trivial⟩ | (repeat' first | exact trivial | exact rfl | apply And.intro); done | simp [onesP, oneP, lk, Value.oneCell']) ?_
    refine o_yield rfl rfl rfl (y_val tok rfl) ?_
    refine o_end [2, 3] rfl ?_
    refine x_then ?_
    refine c_ret ?_
    refine x_then_ret ?_
    refine b_ret tok rfl ?_
    intro E w' hm _
    refine ⟨?_, hm.below (Vw.le.refl _)⟩
    rfl
  ·
    simp only [Bool.and_eq_true, Bool.or_eq_true, Bool.not_eq_true', Bool.or_eq_false_iff, Bool.and_eq_false_iff, decide_eq_true_eq, decide_eq_false_iff_not, beq_iff_eq, bne_iff_ne, Bool.not_eq_false', beq_eq_false_iff_ne, bne_eq_false_iff_eq, ne_eq, Decidable.not_not, Int.not_lt, Int.not_le] at h
    refine c_skip ?_
    refine x_then ?_
    refine c_seq ?_
    refine c_region ?_
    refine o_yield rfl rfl rfl (y_val tok rfl) ?_
    have h11 := h
    clear h
    refine o_call (.a (.v _)) rfl rfl fnok57 rfl rfl rfl (fun hg E w1 hm => by exact refGet_c s 1 6 hmx _) ?_
    refine o_yield rfl rfl rfl (y_val tok rfl) ?_
    refine o_yield rfl rfl rfl (y_val tok rfl) ?_
    refine o_yield rfl rfl rfl (y_val tok rfl) ?_
    refine o_yield rfl rfl rfl (y_val tok rfl) ?_
    refine o_yield rfl rfl rfl (y_val tok rfl) ?_
    refine o_end [0, 2, 4, 5] rfl ?_
    refine x_then ?_
    refine c_seq ?_
    refine c_region ?_
    refine o_yield rfl rfl rfl (y_val tok rfl) ?_
    refine o_call (.a (.v _)) rfl rfl fnok57 rfl rfl rfl (fun hg E w1 hm => by exact refGet_c s 7 4 hmx _) ?_
    refine o_yield rfl rfl rfl (y_val tok rfl) ?_
    refine o_yield rfl rfl rfl (y_val tok rfl) ?_
    refine o_yield rfl rfl rfl (y_val tok rfl) ?_
    refine o_yield rfl rfl rfl (y_val tok rfl) ?_
    refine o_yield rfl rfl rfl (y_val tok rfl) ?_
    refine o_end [0, 2, 4, 5, 6, 7] rfl ?_
    refine x_then ?_
    refine c_seq ?_
    refine c_seq ?_
    refine c_region ?_
    refine o_yield rfl rfl rfl (y_val tok rfl) ?_
    refine o_yield rfl rfl rfl (y_val tok rfl) ?_
    refine o_yield rfl rfl rfl (y_val tok rfl) ?_
    refine o_yield rfl rfl rfl (y_val tok rfl) ?_
    refine o_yield rfl rfl rfl (y_val tok rfl) ?_
    refine o_yield rfl rfl rfl (y_val tok rfl) ?_
    refine o_yield rfl rfl rfl (y_val tok rfl) ?_
    refine o_yield rfl rfl rfl (y_val tok rfl) ?_
    refine o_yield rfl rfl rfl (y_si tok rfl (fun hg => by omega)) ?_
    refine o_yield rfl rfl rfl (y_val tok rfl) ?_
    refine o_yield rfl rfl rfl (y_val tok rfl) ?_
    refine o_end [0, 2, 4, 6, 38] rfl ?_
    refine x_then ?_
    refine c_cond rfl (fun h => ?_) (fun h => ?_)
    ·
      simp only [Bool.and_eq_true, Bool.or_eq_true, Bool.not_eq_true', Bool.or_eq_false_iff, Bool.and_eq_false_iff, decide_eq_true_eq, decide_eq_false_iff_not, beq_iff_eq, bne_iff_ne, Bool.not_eq_false', beq_eq_false_iff_ne, bne_eq_false_iff_eq, ne_eq, Decidable.not_not, Int.not_lt, Int.not_le] at h
      refine c_seq ?_
      refine c_region ?_
      refine o_yield rfl rfl rfl (y_val tok rfl) ?_
      refine o_store tok rfl rfl rfl (by first | exact ⟨trivial, trivial⟩ | (repeat' first | exact trivial | exact rfl | apply And.intro); done | simp [onesP, oneP, lk, Value.oneCell']) ?_
      refine o_yield rfl rfl rfl (y_val tok rfl) ?_
      refine o_end [2, 3] rfl ?_
      refine x_then ?_
      refine c_ret ?_
      refine x_then_ret ?_
      refine b_ret tok rfl ?_
      intro E w' hm _
      refine ⟨?_, hm.below (Vw.le.refl _)⟩
      rfl
    ·
      simp only [Bool.and_eq_true, Bool.or_eq_true, Bool.not_eq_true', Bool.or_eq_false_iff, Bool.and_eq_false_iff, decide_eq_true_eq, decide_eq_false_iff_not, beq_iff_eq, bne_iff_ne, Bool.not_eq_false', beq_eq_false_iff_ne, bne_eq_false_iff_eq, ne_eq, Decidable.not_not, Int.not_lt, Int.not_le] at h
      refine c_skip ?_
      refine x_then ?_
      refine c_seq ?_
      refine c_region ?_
      refine o_yield rfl rfl rfl (y_val tok rfl) ?_
      clear h
      obtain ⟨r, hr⟩ : ∃ r, restOf s 11 = r := ⟨_, rfl⟩
      have hrs := restOf_size s 11
      rw [hr] at hrs
      obtain ⟨R, hR⟩ : ∃ R, rowR (r.size + 1) r [] = R := ⟨_, rfl⟩
      obtain ⟨K, hK⟩ : ∃ K, IntKind.i8.wrap (((byteAt s (0 : Int).toNat).toNat : Nat) : Int) = K := ⟨_, rfl⟩
      obtain ⟨y, hy⟩ : ∃ y, (getSpec s 1 6).1 = y := ⟨_, rfl⟩
      obtain ⟨z, hz⟩ : ∃ z, (getSpec s 7 4).1 = z := ⟨_, rfl⟩
      refine o_yield rfl rfl rfl (y_si tok rfl (fun hg => by omega)) ?_
      refine o_yield rfl rfl rfl (y_val tok rfl) ?_
      refine o_yield rfl rfl rfl (y_val tok rfl) ?_
      refine o_yield rfl rfl rfl (y_val tok rfl) ?_
      refine o_yield rfl rfl rfl (y_val tok rfl) ?_
      refine o_new tok rfl rfl rfl rfl ?_
      refine o_store tok rfl rfl rfl (by first | exact ⟨trivial, trivial⟩ | (repeat' first | exact trivial | exact rfl | apply And.intro); done | simp [onesP, oneP, lk, Value.oneCell']) ?_
      refine o_end [0, 2, 8] rfl ?_
      refine x_then ?_
      refine c_seq ?_
      refine c_region ?_
      refine o_yield rfl rfl rfl (y_val tok rfl) ?_
      rw [hK, hy, hz]
      refine o_yield rfl rfl rfl (y_ssR tok r rfl (fun hg => by simp only [Option.getD]; omega) hr) ?_
      refine o_yield rfl rfl rfl (y_val tok rfl) ?_
      refine o_end [0, 2, 8, 9] rfl ?_
      refine x_then ?_
      refine c_seq ?_
      refine c_seq ?_
      refine c_region ?_
      refine o_yield rfl rfl rfl (y_val tok rfl) ?_
      refine o_yield rfl rfl rfl (y_val tok rfl) ?_
      refine o_end [0, 2, 8, 9, 49] rfl ?_
      refine x_then ?_
      refine c_block ?_
      refine c_seq ?_
      refine c_seq ?_
      refine c_region ?_
      refine o_yield rfl rfl rfl (y_val tok rfl) ?_
      refine o_yield rfl rfl rfl (y_val tok rfl) ?_
      refine o_end [0, 2, 8, 9, 49, 50] rfl ?_
      refine x_then ?_
      refine c_cond rfl (fun h => ?_) (fun h => ?_)
      ·
        refine c_skip ?_
        refine x_then ?_
        refine c_cond rfl (fun h2 => ?_) (fun h2 => ?_)
        ·
          refine c_seq ?_
          refine c_seq ?_
          refine c_region ?_
          refine o_yield rfl rfl rfl (y_val tok rfl) ?_
          refine o_yield rfl rfl rfl (y_val tok rfl) ?_
          refine o_yield rfl rfl rfl (y_val tok rfl) ?_
          refine o_end [0, 2, 8, 9, 55] rfl ?_
          refine x_then ?_
          refine c_cond rfl (fun h => ?_) (fun h => ?_)
          ·
            simp only [Bool.and_eq_true, Bool.or_eq_true, Bool.not_eq_true', Bool.or_eq_false_iff, Bool.and_eq_false_iff, decide_eq_true_eq, decide_eq_false_iff_not, beq_iff_eq, bne_iff_ne, Bool.not_eq_false', beq_eq_false_iff_ne, bne_eq_false_iff_eq, ne_eq, Decidable.not_not, Int.not_lt, Int.not_le] at h
            refine c_seq ?_
            refine c_region ?_
            refine o_yield rfl rfl rfl (y_val tok rfl) ?_
            refine o_store tok rfl rfl rfl (by first | exact ⟨trivial, trivial⟩ | (repeat' first | exact trivial | exact rfl | apply And.intro); done | simp [onesP, oneP, lk, Value.oneCell']) ?_
            refine o_yield rfl rfl rfl (y_val tok rfl) ?_
            refine o_end [2, 3] rfl ?_
            refine x_then ?_
            refine c_ret ?_
            refine x_then_ret ?_
            refine x_block_ret ?_
            refine x_then_ret ?_
            refine b_ret tok rfl ?_
            intro E w' hm _
            refine ⟨?_, hm.below (Vw.le.refl _)⟩
            rfl
          ·
            simp only [Bool.and_eq_true, Bool.or_eq_true, Bool.not_eq_true', Bool.or_eq_false_iff, Bool.and_eq_false_iff, decide_eq_true_eq, decide_eq_false_iff_not, beq_iff_eq, bne_iff_ne, Bool.not_eq_false', beq_eq_false_iff_ne, bne_eq_false_iff_eq, ne_eq, Decidable.not_not, Int.not_lt, Int.not_le] at h
            refine c_skip ?_
            refine x_then ?_
            refine c_seq ?_
            refine c_heldS [8] mixed rfl (by repeat (first | exact SubO.nil | refine SubO.cons rfl ?_)) (by first | rfl | simp [okCels, allOk_plain]) ?_
            refine t_takeD 0 rfl (by kernel_rfl) rfl rfl rfl (y_val tok rfl) rfl ?_
            have h2r := h
            clear h
            refine t_takeD 1 rfl (by kernel_rfl) rfl rfl rfl (y_si tok rfl (fun hg => by omega)) rfl ?_
            refine t_takeD 2 rfl (by kernel_rfl) rfl rfl rfl (y_val tok rfl) rfl ?_
            refine t_takeD 3 rfl (by kernel_rfl) rfl rfl rfl (y_val tok rfl) rfl ?_
            refine t_takeD 4 rfl (by kernel_rfl) rfl rfl rfl (y_si tok rfl (fun hg => by omega)) rfl ?_
            refine t_takeD 5 rfl (by kernel_rfl) rfl rfl rfl (y_val tok rfl) rfl ?_
            refine t_takeD 6 rfl (by kernel_rfl) rfl rfl rfl (y_val tok rfl) rfl ?_
            refine t_takeD 7 rfl (by kernel_rfl) rfl rfl rfl (y_val tok rfl) rfl ?_
            refine t_go ?_
            refine h_one 8 (by kernel_rfl) ?_
            refine h_store 8 tok rfl rfl rfl rfl (by first | exact ⟨trivial, trivial⟩ | (repeat' first | exact trivial | exact rfl | apply And.intro); done | simp [onesP, oneP, lk, Value.oneCell']) (.inl rfl) ?_
            refine h_done [0, 2, 8, 9] (by kernel_rfl) rfl ?_
            refine x_then ?_
            refine c_seq ?_
            refine c_region ?_
            refine o_yield rfl rfl rfl (y_val tok rfl) ?_
            refine o_yield rfl rfl rfl (y_val tok rfl) ?_
            refine o_yield rfl rfl rfl (y_val tok rfl) ?_
            refine o_yield rfl rfl rfl (y_val tok rfl) ?_
            refine o_yield rfl rfl rfl (y_val tok rfl) ?_
            refine o_yield rfl rfl rfl (y_val tok rfl) ?_
            refine o_yield rfl rfl rfl (y_val tok rfl) ?_
            refine o_yield rfl rfl rfl (y_val tok rfl) ?_
            refine o_end [0, 2, 8, 9, 72] rfl ?_
            refine x_then ?_
            refine c_cond rfl (fun h => ?_) (fun h => ?_)
            ·
              refine c_region ?_
              refine o_yield rfl rfl rfl (y_val tok rfl) ?_
              refine o_yield rfl rfl rfl (y_si tok rfl (fun hg => by simp at h; omega)) ?_
              refine o_yield rfl rfl rfl (y_val tok rfl) ?_
              refine o_yield rfl rfl rfl (y_val tok rfl) ?_
              refine o_yield rfl rfl rfl (y_val tok rfl) ?_
              refine o_store tok rfl rfl rfl (by first | exact ⟨trivial, trivial⟩ | (repeat' first | exact trivial | exact rfl | apply And.intro); done | simp [onesP, oneP, lk, Value.oneCell']) ?_
              refine o_end [0, 2, 8] rfl ?_
              refine x_block ?_
              refine x_then ?_
              refine c_seq ?_
              refine c_region ?_
              refine o_yield rfl rfl rfl (y_val tok rfl) ?_
              refine o_call (.a (.v _)) rfl rfl fnok59 rfl rfl rfl (fun hg E w1 hm => by exact refCmdBytes_c ⟨_, _, _, _, _, _, _, _⟩ _) ?_
              refine o_yield rfl rfl rfl (y_val tok rfl) ?_
              refine o_yield rfl rfl rfl (y_val tok rfl) ?_
              refine o_yield rfl rfl rfl (y_val tok rfl) ?_
              refine o_yield rfl rfl rfl (y_val tok rfl) ?_
              refine o_yield rfl rfl rfl (y_val tok rfl) ?_
              refine o_end [0, 2, 8, 12, 13] rfl ?_
              refine x_then ?_
              refine c_seq ?_
              refine c_seq ?_
              refine c_region ?_
              refine o_yield rfl rfl rfl (y_val tok rfl) ?_
              refine o_yield rfl rfl rfl (y_val tok rfl) ?_
              refine o_yield rfl rfl rfl (y_val tok rfl) ?_
              refine o_yield rfl rfl rfl (y_val tok rfl) ?_
              refine o_yield rfl rfl rfl (y_val tok rfl) ?_
              refine o_yield rfl rfl rfl (y_val tok rfl) ?_
              refine o_yield rfl rfl rfl (y_val tok rfl) ?_
              refine o_end [2, 8, 121] rfl ?_
              refine x_then ?_
              refine c_cond rfl (fun h => ?_) (fun h => ?_)
              ·
                refine c_seq ?_
                refine c_region ?_
                refine o_yield rfl rfl rfl (y_val tok rfl) ?_
                refine o_store tok rfl rfl rfl (by first | exact ⟨trivial, trivial⟩ | (repeat' first | exact trivial | exact rfl | apply And.intro); done | simp [onesP, oneP, lk, Value.oneCell']) ?_
                refine o_yield rfl rfl rfl (y_val tok rfl) ?_
                refine o_end [2, 3] rfl ?_
                refine x_then ?_
                refine c_ret ?_
                refine x_then_ret ?_
                refine b_ret tok rfl ?_
                intro E w' hm _
                refine ⟨?_, hm.below (Vw.le.refl _)⟩
                rfl
              ·
                exact absurd (h.symm.trans (cb_no hbad _)) (by decide)
            ·
              refine c_skip ?_
              refine x_block ?_
              refine x_then ?_
              refine c_seq ?_
              refine c_region ?_
              refine o_yield rfl rfl rfl (y_val tok rfl) ?_
              refine o_call (.a (.v _)) rfl rfl fnok59 rfl rfl rfl (fun hg E w1 hm => by exact refCmdBytes_c ⟨_, _, _, _, _, _, _, _⟩ _) ?_
              refine o_yield rfl rfl rfl (y_val tok rfl) ?_
              refine o_yield rfl rfl rfl (y_val tok rfl) ?_
              refine o_yield rfl rfl rfl (y_val tok rfl) ?_
              refine o_yield rfl rfl rfl (y_val tok rfl) ?_
              refine o_yield rfl rfl rfl (y_val tok rfl) ?_
              refine o_end [0, 2, 8, 12, 13] rfl ?_
              refine x_then ?_
              refine c_seq ?_
              refine c_seq ?_
              refine c_region ?_
              refine o_yield rfl rfl rfl (y_val tok rfl) ?_
              refine o_yield rfl rfl rfl (y_val tok rfl) ?_
              refine o_yield rfl rfl rfl (y_val tok rfl) ?_
              refine o_yield rfl rfl rfl (y_val tok rfl) ?_
              refine o_yield rfl rfl rfl (y_val tok rfl) ?_
              refine o_yield rfl rfl rfl (y_val tok rfl) ?_
              refine o_yield rfl rfl rfl (y_val tok rfl) ?_
              refine o_end [2, 8, 121] rfl ?_
              refine x_then ?_
              refine c_cond rfl (fun h => ?_) (fun h => ?_)
              ·
                refine c_seq ?_
                refine c_region ?_
                refine o_yield rfl rfl rfl (y_val tok rfl) ?_
                refine o_store tok rfl rfl rfl (by first | exact ⟨trivial, trivial⟩ | (repeat' first | exact trivial | exact rfl | apply And.intro); done | simp [onesP, oneP, lk, Value.oneCell']) ?_
                refine o_yield rfl rfl rfl (y_val tok rfl) ?_
                refine o_end [2, 3] rfl ?_
                refine x_then ?_
                refine c_ret ?_
                refine x_then_ret ?_
                refine b_ret tok rfl ?_
                intro E w' hm _
                refine ⟨?_, hm.below (Vw.le.refl _)⟩
                rfl
              ·
                exact absurd (h.symm.trans (cb_no hbad _)) (by decide)
        ·
          exact absurd (h.symm.trans h2) (by decide)
      ·
        refine c_region ?_
        refine o_yield rfl rfl rfl (y_val tok rfl) ?_
        refine o_yield rfl rfl rfl (y_val tok rfl) ?_
        refine o_end [0, 2, 8, 9, 49, 50] rfl ?_
        refine x_then ?_
        refine c_cond rfl (fun h2 => ?_) (fun h2 => ?_)
        ·
          refine c_seq ?_
          refine c_seq ?_
          refine c_region ?_
          refine o_yield rfl rfl rfl (y_val tok rfl) ?_
          refine o_yield rfl rfl rfl (y_val tok rfl) ?_
          refine o_yield rfl rfl rfl (y_val tok rfl) ?_
          refine o_end [0, 2, 8, 9, 55] rfl ?_
          refine x_then ?_
          refine c_cond rfl (fun h => ?_) (fun h => ?_)
          ·
            simp only [Bool.and_eq_true, Bool.or_eq_true, Bool.not_eq_true', Bool.or_eq_false_iff, Bool.and_eq_false_iff, decide_eq_true_eq, decide_eq_false_iff_not, beq_iff_eq, bne_iff_ne, Bool.not_eq_false', beq_eq_false_iff_ne, bne_eq_false_iff_eq, ne_eq, Decidable.not_not, Int.not_lt, Int.not_le] at h
            refine c_seq ?_
            refine c_region ?_
            refine o_yield rfl rfl rfl (y_val tok rfl) ?_
            refine o_store tok rfl rfl rfl (by first | exact ⟨trivial, trivial⟩ | (repeat' first | exact trivial | exact rfl | apply And.intro); done | simp [onesP, oneP, lk, Value.oneCell']) ?_
            refine o_yield rfl rfl rfl (y_val tok rfl) ?_
            refine o_end [2, 3] rfl ?_
            refine x_then ?_
            refine c_ret ?_
            refine x_then_ret ?_
            refine x_block_ret ?_
            refine x_then_ret ?_
            refine b_ret tok rfl ?_
            intro E w' hm _
            refine ⟨?_, hm.below (Vw.le.refl _)⟩
            rfl
          ·
            simp only [Bool.and_eq_true, Bool.or_eq_true, Bool.not_eq_true', Bool.or_eq_false_iff, Bool.and_eq_false_iff, decide_eq_true_eq, decide_eq_false_iff_not, beq_iff_eq, bne_iff_ne, Bool.not_eq_false', beq_eq_false_iff_ne, bne_eq_false_iff_eq, ne_eq, Decidable.not_not, Int.not_lt, Int.not_le] at h
            refine c_skip ?_
            refine x_then ?_
            refine c_seq ?_
            refine c_heldS [8] mixed rfl (by repeat (first | exact SubO.nil | refine SubO.cons rfl ?_)) (by first | rfl | simp [okCels, allOk_plain]) ?_
            refine t_takeD 0 rfl (by kernel_rfl) rfl rfl rfl (y_val tok rfl) rfl ?_
            have h2r := h
            clear h
            refine t_takeD 1 rfl (by kernel_rfl) rfl rfl rfl (y_si tok rfl (fun hg => by omega)) rfl ?_
            refine t_takeD 2 rfl (by kernel_rfl) rfl rfl rfl (y_val tok rfl) rfl ?_
            refine t_takeD 3 rfl (by kernel_rfl) rfl rfl rfl (y_val tok rfl) rfl ?_
            refine t_takeD 4 rfl (by kernel_rfl) rfl rfl rfl (y_si tok rfl (fun hg => by omega)) rfl ?_
            refine t_takeD 5 rfl (by kernel_rfl) rfl rfl rfl (y_val tok rfl) rfl ?_
            refine t_takeD 6 rfl (by kernel_rfl) rfl rfl rfl (y_val tok rfl) rfl ?_
            refine t_takeD 7 rfl (by kernel_rfl) rfl rfl rfl (y_val tok rfl) rfl ?_
            refine t_go ?_
            refine h_one 8 (by kernel_rfl) ?_
            refine h_store 8 tok rfl rfl rfl rfl (by first | exact ⟨trivial, trivial⟩ | (repeat' first | exact trivial | exact rfl | apply And.intro); done | simp [onesP, oneP, lk, Value.oneCell']) (.inl rfl) ?_
            refine h_done [0, 2, 8, 9] (by kernel_rfl) rfl ?_
            refine x_then ?_
            refine c_seq ?_
            refine c_region ?_
            refine o_yield rfl rfl rfl (y_val tok rfl) ?_
            refine o_yield rfl rfl rfl (y_val tok rfl) ?_
            refine o_yield rfl rfl rfl (y_val tok rfl) ?_
            refine o_yield rfl rfl rfl (y_val tok rfl) ?_
            refine o_yield rfl rfl rfl (y_val tok rfl) ?_
            refine o_yield rfl rfl rfl (y_val tok rfl) ?_
            refine o_yield rfl rfl rfl (y_val tok rfl) ?_
            refine o_yield rfl rfl rfl (y_val tok rfl) ?_
            refine o_end [0, 2, 8, 9, 72] rfl ?_
            refine x_then ?_
            refine c_cond rfl (fun h => ?_) (fun h => ?_)
            ·
              refine c_region ?_
              refine o_yield rfl rfl rfl (y_val tok rfl) ?_
              refine o_yield rfl rfl rfl (y_si tok rfl (fun hg => by simp at h; omega)) ?_
              refine o_yield rfl rfl rfl (y_val tok rfl) ?_
              refine o_yield rfl rfl rfl (y_val tok rfl) ?_
              refine o_yield rfl rfl rfl (y_val tok rfl) ?_
              refine o_store tok rfl rfl rfl (by first | exact ⟨trivial, trivial⟩ | (repeat' first | exact trivial | exact rfl | apply And.intro); done | simp [onesP, oneP, lk, Value.oneCell']) ?_
              refine o_end [0, 2, 8] rfl ?_
              refine x_block ?_
              refine x_then ?_
              refine c_seq ?_
              refine c_region ?_
              refine o_yield rfl rfl rfl (y_val tok rfl) ?_
              refine o_call (.a (.v _)) rfl rfl fnok59 rfl rfl rfl (fun hg E w1 hm => by exact refCmdBytes_c ⟨_, _, _, _, _, _, _, _⟩ _) ?_
              refine o_yield rfl rfl rfl (y_val tok rfl) ?_
              refine o_yield rfl rfl rfl (y_val tok rfl) ?_
              refine o_yield rfl rfl rfl (y_val tok rfl) ?_
              refine o_yield rfl rfl rfl (y_val tok rfl) ?_
              refine o_yield rfl rfl rfl (y_val tok rfl) ?_
              refine o_end [0, 2, 8, 12, 13] rfl ?_
              refine x_then ?_
              refine c_seq ?_
              refine c_seq ?_
              refine c_region ?_
              refine o_yield rfl rfl rfl (y_val tok rfl) ?_
              refine o_yield rfl rfl rfl (y_val tok rfl) ?_
              refine o_yield rfl rfl rfl (y_val tok rfl) ?_
              refine o_yield rfl rfl rfl (y_val tok rfl) ?_
              refine o_yield rfl rfl rfl (y_val tok rfl) ?_
              refine o_yield rfl rfl rfl (y_val tok rfl) ?_
              refine o_yield rfl rfl rfl (y_val tok rfl) ?_
              refine o_end [2, 8, 121] rfl ?_
              refine x_then ?_
              refine c_cond rfl (fun h => ?_) (fun h => ?_)
              ·
                refine c_seq ?_
                refine c_region ?_
                refine o_yield rfl rfl rfl (y_val tok rfl) ?_
                refine o_store tok rfl rfl rfl (by first | exact ⟨trivial, trivial⟩ | (repeat' first | exact trivial | exact rfl | apply And.intro); done | simp [onesP, oneP, lk, Value.oneCell']) ?_
                refine o_yield rfl rfl rfl (y_val tok rfl) ?_
                refine o_end [2, 3] rfl ?_
                refine x_then ?_
                refine c_ret ?_
                refine x_then_ret ?_
                refine b_ret tok rfl ?_
                intro E w' hm _
                refine ⟨?_, hm.below (Vw.le.refl _)⟩
                rfl
              ·
                exact absurd (h.symm.trans (cb_no hbad _)) (by decide)
            ·
              refine c_skip ?_
              refine x_block ?_
              refine x_then ?_
              refine c_seq ?_
              refine c_region ?_
              refine o_yield rfl rfl rfl (y_val tok rfl) ?_
              refine o_call (.a (.v _)) rfl rfl fnok59 rfl rfl rfl (fun hg E w1 hm => by exact refCmdBytes_c ⟨_, _, _, _, _, _, _, _⟩ _) ?_
              refine o_yield rfl rfl rfl (y_val tok rfl) ?_
              refine o_yield rfl rfl rfl (y_val tok rfl) ?_
              refine o_yield rfl rfl rfl (y_val tok rfl) ?_
              refine o_yield rfl rfl rfl (y_val tok rfl) ?_
              refine o_yield rfl rfl rfl (y_val tok rfl) ?_
              refine o_end [0, 2, 8, 12, 13] rfl ?_
              refine x_then ?_
              refine c_seq ?_
              refine c_seq ?_
              refine c_region ?_
              refine o_yield rfl rfl rfl (y_val tok rfl) ?_
              refine o_yield rfl rfl rfl (y_val tok rfl) ?_
              refine o_yield rfl rfl rfl (y_val tok rfl) ?_
              refine o_yield rfl rfl rfl (y_val tok rfl) ?_
              refine o_yield rfl rfl rfl (y_val tok rfl) ?_
              refine o_yield rfl rfl rfl (y_val tok rfl) ?_
              refine o_yield rfl rfl rfl (y_val tok rfl) ?_
              refine o_end [2, 8, 121] rfl ?_
              refine x_then ?_
              refine c_cond rfl (fun h => ?_) (fun h => ?_)
              ·
                refine c_seq ?_
                refine c_region ?_
                refine o_yield rfl rfl rfl (y_val tok rfl) ?_
                refine o_store tok rfl rfl rfl (by first | exact ⟨trivial, trivial⟩ | (repeat' first | exact trivial | exact rfl | apply And.intro); done | simp [onesP, oneP, lk, Value.oneCell']) ?_
                refine o_yield rfl rfl rfl (y_val tok rfl) ?_
                refine o_end [2, 3] rfl ?_
                refine x_then ?_
                refine c_ret ?_
                refine x_then_ret ?_
                refine b_ret tok rfl ?_
                intro E w' hm _
                refine ⟨?_, hm.below (Vw.le.refl _)⟩
                rfl
              ·
                exact absurd (h.symm.trans (cb_no hbad _)) (by decide)
        ·
          refine c_seq ?_
          refine c_seq ?_
          refine c_region ?_
          refine o_yield rfl rfl rfl (y_val tok rfl) ?_
          refine o_yield rfl rfl rfl (y_val tok rfl) ?_
          refine o_end [0, 2, 8, 9, 49, 78] rfl ?_
          refine x_then ?_
          refine c_cond rfl (fun h4 => ?_) (fun h4 => ?_)
          ·
            refine c_skip ?_
            refine x_then ?_
            refine c_cond rfl (fun h5 => ?_) (fun h5 => ?_)
            ·
              refine c_seq ?_
              refine c_region ?_
              refine o_yield rfl rfl rfl (y_val tok rfl) ?_
              refine o_step rfl rfl rfl rfl rfl (s_refRow r R hR rfl (by omega) (fun E => rfl)) (fun _ _ => ?_)
              refine o_yield rfl rfl rfl (y_val tok rfl) ?_
              refine o_yield rfl rfl rfl (y_val tok rfl) ?_
              refine o_yield rfl rfl rfl (y_val tok rfl) ?_
              refine o_yield rfl rfl rfl (y_val tok rfl) ?_
              refine o_yield rfl rfl rfl (y_val tok rfl) ?_
              refine o_end [0, 2, 8, 10, 11] rfl ?_
              refine x_then ?_
              refine c_seq ?_
              refine c_seq ?_
              refine c_region ?_
              refine o_yield rfl rfl rfl (y_val tok rfl) ?_
              refine o_yield rfl rfl rfl (y_val tok rfl) ?_
              refine o_yield rfl rfl rfl (y_val tok rfl) ?_
              refine o_yield rfl rfl rfl (y_val tok rfl) ?_
              refine o_yield rfl rfl rfl (y_val tok rfl) ?_
              refine o_yield rfl rfl rfl (y_val tok rfl) ?_
              refine o_yield rfl rfl rfl (y_val tok rfl) ?_
              refine o_end [0, 2, 8, 10, 92] rfl ?_
              refine x_then ?_
              refine c_cond rfl (fun h => ?_) (fun h => ?_)
              ·
                simp only [Bool.and_eq_true, Bool.or_eq_true, Bool.not_eq_true', Bool.or_eq_false_iff, Bool.and_eq_false_iff, decide_eq_true_eq, decide_eq_false_iff_not, beq_iff_eq, bne_iff_ne, Bool.not_eq_false', beq_eq_false_iff_ne, bne_eq_false_iff_eq, ne_eq, Decidable.not_not, Int.not_lt, Int.not_le] at h
                refine c_seq ?_
                refine c_region ?_
                refine o_yield rfl rfl rfl (y_val tok rfl) ?_
                refine o_store tok rfl rfl rfl (by first | exact ⟨trivial, trivial⟩ | (repeat' first | exact trivial | exact rfl | apply And.intro); done | simp [onesP, oneP, lk, Value.oneCell']) ?_
                refine o_yield rfl rfl rfl (y_val tok rfl) ?_
                refine o_end [2, 3] rfl ?_
                refine x_then ?_
                refine c_ret ?_
                refine x_then_ret ?_
                refine x_block_ret ?_
                refine x_then_ret ?_
                refine b_ret tok rfl ?_
                intro E w' hm _
                refine ⟨?_, hm.below (Vw.le.refl _)⟩
                rfl
              ·
                simp only [Bool.and_eq_true, Bool.or_eq_true, Bool.not_eq_true', Bool.or_eq_false_iff, Bool.and_eq_false_iff, decide_eq_true_eq, decide_eq_false_iff_not, beq_iff_eq, bne_iff_ne, Bool.not_eq_false', beq_eq_false_iff_ne, bne_eq_false_iff_eq, ne_eq, Decidable.not_not, Int.not_lt, Int.not_le] at h
                obtain ⟨g1, g2⟩ := h
                obtain ⟨x, hx⟩ : ∃ x, R.1[0]? = some x := ⟨_, List.getElem?_eq_getElem (by omega)⟩
                refine c_skip ?_
                refine x_then ?_
                refine c_seq ?_
                refine c_region ?_
                refine o_yield rfl rfl rfl (y_val tok rfl) ?_
                refine o_yield rfl rfl rfl (y_own (s := .a (.rel 2 0)) 2 rfl rfl (fun v V' hv => y_idxK tok 0 rfl (by simp) (fun hg => hv) (fun hg => by omega))) ?_
                refine o_yield rfl rfl rfl (y_own (s := .a (.v (I x))) 2 rfl rfl (fun v V' hv => y_lel (enc := encI64) (l := R.1) tok 0 0 x rfl (fun hg => ⟨hv, fun _ => rfl⟩) (fun hg => hx) (by simp) rfl)) ?_
                refine o_yield rfl rfl rfl (y_val tok rfl) ?_
                refine o_store tok rfl rfl rfl (by first | exact ⟨trivial, trivial⟩ | (repeat' first | exact trivial | exact rfl | apply And.intro); done | simp [onesP, oneP, lk, Value.oneCell']) ?_
                refine o_end [0, 2, 8, 10] rfl ?_
                refine x_then ?_
                refine c_seq ?_
                refine c_region ?_
                refine o_yield rfl rfl rfl (y_val tok rfl) ?_
                refine o_yield rfl rfl rfl (y_val tok rfl) ?_
                refine o_yield rfl rfl rfl (y_val tok rfl) ?_
                refine o_yield rfl rfl rfl (y_val tok rfl) ?_
                refine o_yield rfl rfl rfl (y_val tok rfl) ?_
                refine o_yield rfl rfl rfl (y_val tok rfl) ?_
                refine o_yield rfl rfl rfl (y_val tok rfl) ?_
                refine o_yield rfl rfl rfl (y_val tok rfl) ?_
                refine o_end [0, 2, 8, 10, 105] rfl ?_
                refine x_then ?_
                refine c_cond rfl (fun h => ?_) (fun h => ?_)
                ·
                  obtain ⟨x2, hx2⟩ : ∃ x, R.1[1]? = some x := ⟨_, List.getElem?_eq_getElem (by simp at h; omega)⟩
                  refine c_region ?_
                  refine o_yield rfl rfl rfl (y_val tok rfl) ?_
                  refine o_yield rfl rfl rfl (y_own (s := .a (.rel 2 1)) 2 rfl rfl (fun v V' hv => y_idxK tok 1 rfl (by simp) (fun hg => hv) (fun hg => by simp at h; omega))) ?_
                  refine o_yield rfl rfl rfl (y_own (s := .a (.v (I x2))) 2 rfl rfl (fun v V' hv => y_lel (enc := encI64) (l := R.1) tok 1 0 x2 rfl (fun hg => ⟨hv, fun _ => rfl⟩) (fun hg => hx2) (by simp) rfl)) ?_
                  refine o_yield rfl rfl rfl (y_val tok rfl) ?_
                  refine o_store tok rfl rfl rfl (by first | exact ⟨trivial, trivial⟩ | (repeat' first | exact trivial | exact rfl | apply And.intro); done | simp [onesP, oneP, lk, Value.oneCell']) ?_
                  refine o_end [0, 2, 8] rfl ?_
                  refine x_block ?_
                  refine x_then ?_
                  refine c_seq ?_
                  refine c_region ?_
                  refine o_yield rfl rfl rfl (y_val tok rfl) ?_
                  refine o_call (.a (.v _)) rfl rfl fnok59 rfl rfl rfl (fun hg E w1 hm => by exact refCmdBytes_c ⟨_, _, _, _, _, _, _, _⟩ _) ?_
                  refine o_yield rfl rfl rfl (y_val tok rfl) ?_
                  refine o_yield rfl rfl rfl (y_val tok rfl) ?_
                  refine o_yield rfl rfl rfl (y_val tok rfl) ?_
                  refine o_yield rfl rfl rfl (y_val tok rfl) ?_
                  refine o_yield rfl rfl rfl (y_val tok rfl) ?_
                  refine o_end [0, 2, 8, 12, 13] rfl ?_
                  refine x_then ?_
                  refine c_seq ?_
                  refine c_seq ?_
                  refine c_region ?_
                  refine o_yield rfl rfl rfl (y_val tok rfl) ?_
                  refine o_yield rfl rfl rfl (y_val tok rfl) ?_
                  refine o_yield rfl rfl rfl (y_val tok rfl) ?_
                  refine o_yield rfl rfl rfl (y_val tok rfl) ?_
                  refine o_yield rfl rfl rfl (y_val tok rfl) ?_
                  refine o_yield rfl rfl rfl (y_val tok rfl) ?_
                  refine o_yield rfl rfl rfl (y_val tok rfl) ?_
                  refine o_end [2, 8, 121] rfl ?_
                  refine x_then ?_
                  refine c_cond rfl (fun h => ?_) (fun h => ?_)
                  ·
                    refine c_seq ?_
                    refine c_region ?_
                    refine o_yield rfl rfl rfl (y_val tok rfl) ?_
                    refine o_store tok rfl rfl rfl (by first | exact ⟨trivial, trivial⟩ | (repeat' first | exact trivial | exact rfl | apply And.intro); done | simp [onesP, oneP, lk, Value.oneCell']) ?_
                    refine o_yield rfl rfl rfl (y_val tok rfl) ?_
                    refine o_end [2, 3] rfl ?_
                    refine x_then ?_
                    refine c_ret ?_
                    refine x_then_ret ?_
                    refine b_ret tok rfl ?_
                    intro E w' hm _
                    refine ⟨?_, hm.below (Vw.le.refl _)⟩
                    rfl
                  ·
                    exact absurd (h.symm.trans (cb_no hbad _)) (by decide)
                ·
                  refine c_skip ?_
                  refine x_block ?_
                  refine x_then ?_
                  refine c_seq ?_
                  refine c_region ?_
                  refine o_yield rfl rfl rfl (y_val tok rfl) ?_
                  refine o_call (.a (.v _)) rfl rfl fnok59 rfl rfl rfl (fun hg E w1 hm => by exact refCmdBytes_c ⟨_, _, _, _, _, _, _, _⟩ _) ?_
                  refine o_yield rfl rfl rfl (y_val tok rfl) ?_
                  refine o_yield rfl rfl rfl (y_val tok rfl) ?_
                  refine o_yield rfl rfl rfl (y_val tok rfl) ?_
                  refine o_yield rfl rfl rfl (y_val tok rfl) ?_
                  refine o_yield rfl rfl rfl (y_val tok rfl) ?_
                  refine o_end [0, 2, 8, 12, 13] rfl ?_
                  refine x_then ?_
                  refine c_seq ?_
                  refine c_seq ?_
                  refine c_region ?_
                  refine o_yield rfl rfl rfl (y_val tok rfl) ?_
                  refine o_yield rfl rfl rfl (y_val tok rfl) ?_
                  refine o_yield rfl rfl rfl (y_val tok rfl) ?_
                  refine o_yield rfl rfl rfl (y_val tok rfl) ?_
                  refine o_yield rfl rfl rfl (y_val tok rfl) ?_
                  refine o_yield rfl rfl rfl (y_val tok rfl) ?_
                  refine o_yield rfl rfl rfl (y_val tok rfl) ?_
                  refine o_end [2, 8, 121] rfl ?_
                  refine x_then ?_
                  refine c_cond rfl (fun h => ?_) (fun h => ?_)
                  ·
                    refine c_seq ?_
                    refine c_region ?_
                    refine o_yield rfl rfl rfl (y_val tok rfl) ?_
                    refine o_store tok rfl rfl rfl (by first | exact ⟨trivial, trivial⟩ | (repeat' first | exact trivial | exact rfl | apply And.intro); done | simp [onesP, oneP, lk, Value.oneCell']) ?_
                    refine o_yield rfl rfl rfl (y_val tok rfl) ?_
                    refine o_end [2, 3] rfl ?_
                    refine x_then ?_
                    refine c_ret ?_
                    refine x_then_ret ?_
                    refine b_ret tok rfl ?_
                    intro E w' hm _
                    refine ⟨?_, hm.below (Vw.le.refl _)⟩
                    rfl
                  ·
                    exact absurd (h.symm.trans (cb_no hbad _)) (by decide)
            ·
              exact absurd (h5.symm.trans h4) (by decide)
          ·
            refine c_region ?_
            refine o_yield rfl rfl rfl (y_val tok rfl) ?_
            refine o_yield rfl rfl rfl (y_val tok rfl) ?_
            refine o_end [0, 2, 8, 9, 78] rfl ?_
            refine x_then ?_
            refine c_cond rfl (fun h5 => ?_) (fun h5 => ?_)
            ·
              refine c_seq ?_
              refine c_region ?_
              refine o_yield rfl rfl rfl (y_val tok rfl) ?_
              refine o_step rfl rfl rfl rfl rfl (s_refRow r R hR rfl (by omega) (fun E => rfl)) (fun _ _ => ?_)
              refine o_yield rfl rfl rfl (y_val tok rfl) ?_
              refine o_yield rfl rfl rfl (y_val tok rfl) ?_
              refine o_yield rfl rfl rfl (y_val tok rfl) ?_
              refine o_yield rfl rfl rfl (y_val tok rfl) ?_
              refine o_yield rfl rfl rfl (y_val tok rfl) ?_
              refine o_end [0, 2, 8, 10, 11] rfl ?_
              refine x_then ?_
              refine c_seq ?_
              refine c_seq ?_
              refine c_region ?_
              refine o_yield rfl rfl rfl (y_val tok rfl) ?_
              refine o_yield rfl rfl rfl (y_val tok rfl) ?_
              refine o_yield rfl rfl rfl (y_val tok rfl) ?_
              refine o_yield rfl rfl rfl (y_val tok rfl) ?_
              refine o_yield rfl rfl rfl (y_val tok rfl) ?_
              refine o_yield rfl rfl rfl (y_val tok rfl) ?_
              refine o_yield rfl rfl rfl (y_val tok rfl) ?_
              refine o_end [0, 2, 8, 10, 92] rfl ?_
              refine x_then ?_
              refine c_cond rfl (fun h => ?_) (fun h => ?_)
              ·
                simp only [Bool.and_eq_true, Bool.or_eq_true, Bool.not_eq_true', Bool.or_eq_false_iff, Bool.and_eq_false_iff, decide_eq_true_eq, decide_eq_false_iff_not, beq_iff_eq, bne_iff_ne, Bool.not_eq_false', beq_eq_false_iff_ne, bne_eq_false_iff_eq, ne_eq, Decidable.not_not, Int.not_lt, Int.not_le] at h
                refine c_seq ?_
                refine c_region ?_
                refine o_yield rfl rfl rfl (y_val tok rfl) ?_
                refine o_store tok rfl rfl rfl (by first | exact ⟨trivial, trivial⟩ | (repeat' first | exact trivial | exact rfl | apply And.intro); done | simp [onesP, oneP, lk, Value.oneCell']) ?_
                refine o_yield rfl rfl rfl (y_val tok rfl) ?_
                refine o_end [2, 3] rfl ?_
                refine x_then ?_
                refine c_ret ?_
                refine x_then_ret ?_
                refine x_block_ret ?_
                refine x_then_ret ?_
                refine b_ret tok rfl ?_
                intro E w' hm _
                refine ⟨?_, hm.below (Vw.le.refl _)⟩
                rfl
              ·
                simp only [Bool.and_eq_true, Bool.or_eq_true, Bool.not_eq_true', Bool.or_eq_false_iff, Bool.and_eq_false_iff, decide_eq_true_eq, decide_eq_false_iff_not, beq_iff_eq, bne_iff_ne, Bool.not_eq_false', beq_eq_false_iff_ne, bne_eq_false_iff_eq, ne_eq, Decidable.not_not, Int.not_lt, Int.not_le] at h
                obtain ⟨g1, g2⟩ := h
                obtain ⟨x, hx⟩ : ∃ x, R.1[0]? = some x := ⟨_, List.getElem?_eq_getElem (by omega)⟩
                refine c_skip ?_
                refine x_then ?_
                refine c_seq ?_
                refine c_region ?_
                refine o_yield rfl rfl rfl (y_val tok rfl) ?_
                refine o_yield rfl rfl rfl (y_own (s := .a (.rel 2 0)) 2 rfl rfl (fun v V' hv => y_idxK tok 0 rfl (by simp) (fun hg => hv) (fun hg => by omega))) ?_
                refine o_yield rfl rfl rfl (y_own (s := .a (.v (I x))) 2 rfl rfl (fun v V' hv => y_lel (enc := encI64) (l := R.1) tok 0 0 x rfl (fun hg => ⟨hv, fun _ => rfl⟩) (fun hg => hx) (by simp) rfl)) ?_
                refine o_yield rfl rfl rfl (y_val tok rfl) ?_
                refine o_store tok rfl rfl rfl (by first | exact ⟨trivial, trivial⟩ | (repeat' first | exact trivial | exact rfl | apply And.intro); done | simp [onesP, oneP, lk, Value.oneCell']) ?_
                refine o_end [0, 2, 8, 10] rfl ?_
                refine x_then ?_
                refine c_seq ?_
                refine c_region ?_
                refine o_yield rfl rfl rfl (y_val tok rfl) ?_
                refine o_yield rfl rfl rfl (y_val tok rfl) ?_
                refine o_yield rfl rfl rfl (y_val tok rfl) ?_
                refine o_yield rfl rfl rfl (y_val tok rfl) ?_
                refine o_yield rfl rfl rfl (y_val tok rfl) ?_
                refine o_yield rfl rfl rfl (y_val tok rfl) ?_
                refine o_yield rfl rfl rfl (y_val tok rfl) ?_
                refine o_yield rfl rfl rfl (y_val tok rfl) ?_
                refine o_end [0, 2, 8, 10, 105] rfl ?_
                refine x_then ?_
                refine c_cond rfl (fun h => ?_) (fun h => ?_)
                ·
                  obtain ⟨x2, hx2⟩ : ∃ x, R.1[1]? = some x := ⟨_, List.getElem?_eq_getElem (by simp at h; omega)⟩
                  refine c_region ?_
                  refine o_yield rfl rfl rfl (y_val tok rfl) ?_
                  refine o_yield rfl rfl rfl (y_own (s := .a (.rel 2 1)) 2 rfl rfl (fun v V' hv => y_idxK tok 1 rfl (by simp) (fun hg => hv) (fun hg => by simp at h; omega))) ?_
                  refine o_yield rfl rfl rfl (y_own (s := .a (.v (I x2))) 2 rfl rfl (fun v V' hv => y_lel (enc := encI64) (l := R.1) tok 1 0 x2 rfl (fun hg => ⟨hv, fun _ => rfl⟩) (fun hg => hx2) (by simp) rfl)) ?_
                  refine o_yield rfl rfl rfl (y_val tok rfl) ?_
                  refine o_store tok rfl rfl rfl (by first | exact ⟨trivial, trivial⟩ | (repeat' first | exact trivial | exact rfl | apply And.intro); done | simp [onesP, oneP, lk, Value.oneCell']) ?_
                  refine o_end [0, 2, 8] rfl ?_
                  refine x_block ?_
                  refine x_then ?_
                  refine c_seq ?_
                  refine c_region ?_
                  refine o_yield rfl rfl rfl (y_val tok rfl) ?_
                  refine o_call (.a (.v _)) rfl rfl fnok59 rfl rfl rfl (fun hg E w1 hm => by exact refCmdBytes_c ⟨_, _, _, _, _, _, _, _⟩ _) ?_
                  refine o_yield rfl rfl rfl (y_val tok rfl) ?_
                  refine o_yield rfl rfl rfl (y_val tok rfl) ?_
                  refine o_yield rfl rfl rfl (y_val tok rfl) ?_
                  refine o_yield rfl rfl rfl (y_val tok rfl) ?_
                  refine o_yield rfl rfl rfl (y_val tok rfl) ?_
                  refine o_end [0, 2, 8, 12, 13] rfl ?_
                  refine x_then ?_
                  refine c_seq ?_
                  refine c_seq ?_
                  refine c_region ?_
                  refine o_yield rfl rfl rfl (y_val tok rfl) ?_
                  refine o_yield rfl rfl rfl (y_val tok rfl) ?_
                  refine o_yield rfl rfl rfl (y_val tok rfl) ?_
                  refine o_yield rfl rfl rfl (y_val tok rfl) ?_
                  refine o_yield rfl rfl rfl (y_val tok rfl) ?_
                  refine o_yield rfl rfl rfl (y_val tok rfl) ?_
                  refine o_yield rfl rfl rfl (y_val tok rfl) ?_
                  refine o_end [2, 8, 121] rfl ?_
                  refine x_then ?_
                  refine c_cond rfl (fun h => ?_) (fun h => ?_)
                  ·
                    refine c_seq ?_
                    refine c_region ?_
                    refine o_yield rfl rfl rfl (y_val tok rfl) ?_
                    refine o_store tok rfl rfl rfl (by first | exact ⟨trivial, trivial⟩ | (repeat' first | exact trivial | exact rfl | apply And.intro); done | simp [onesP, oneP, lk, Value.oneCell']) ?_
                    refine o_yield rfl rfl rfl (y_val tok rfl) ?_
                    refine o_end [2, 3] rfl ?_
                    refine x_then ?_
                    refine c_ret ?_
                    refine x_then_ret ?_
                    refine b_ret tok rfl ?_
                    intro E w' hm _
                    refine ⟨?_, hm.below (Vw.le.refl _)⟩
                    rfl
                  ·
                    exact absurd (h.symm.trans (cb_no hbad _)) (by decide)
                ·
                  refine c_skip ?_
                  refine x_block ?_
                  refine x_then ?_
                  refine c_seq ?_
                  refine c_region ?_
                  refine o_yield rfl rfl rfl (y_val tok rfl) ?_
                  refine o_call (.a (.v _)) rfl rfl fnok59 rfl rfl rfl (fun hg E w1 hm => by exact refCmdBytes_c ⟨_, _, _, _, _, _, _, _⟩ _) ?_
                  refine o_yield rfl rfl rfl (y_val tok rfl) ?_
                  refine o_yield rfl rfl rfl (y_val tok rfl) ?_
                  refine o_yield rfl rfl rfl (y_val tok rfl) ?_
                  refine o_yield rfl rfl rfl (y_val tok rfl) ?_
                  refine o_yield rfl rfl rfl (y_val tok rfl) ?_
                  refine o_end [0, 2, 8, 12, 13] rfl ?_
                  refine x_then ?_
                  refine c_seq ?_
                  refine c_seq ?_
                  refine c_region ?_
                  refine o_yield rfl rfl rfl (y_val tok rfl) ?_
                  refine o_yield rfl rfl rfl (y_val tok rfl) ?_
                  refine o_yield rfl rfl rfl (y_val tok rfl) ?_
                  refine o_yield rfl rfl rfl (y_val tok rfl) ?_
                  refine o_yield rfl rfl rfl (y_val tok rfl) ?_
                  refine o_yield rfl rfl rfl (y_val tok rfl) ?_
                  refine o_yield rfl rfl rfl (y_val tok rfl) ?_
                  refine o_end [2, 8, 121] rfl ?_
                  refine x_then ?_
                  refine c_cond rfl (fun h => ?_) (fun h => ?_)
                  ·
                    refine c_seq ?_
                    refine c_region ?_
                    refine o_yield rfl rfl rfl (y_val tok rfl) ?_
                    refine o_store tok rfl rfl rfl (by first | exact ⟨trivial, trivial⟩ | (repeat' first | exact trivial | exact rfl | apply And.intro); done | simp [onesP, oneP, lk, Value.oneCell']) ?_
                    refine o_yield rfl rfl rfl (y_val tok rfl) ?_
                    refine o_end [2, 3] rfl ?_
                    refine x_then ?_
                    refine c_ret ?_
                    refine x_then_ret ?_
                    refine b_ret tok rfl ?_
                    intro E w' hm _
                    refine ⟨?_, hm.below (Vw.le.refl _)⟩
                    rfl
                  ·
                    exact absurd (h.symm.trans (cb_no hbad _)) (by decide)
            ·
              refine c_skip ?_
              refine x_block ?_
              refine x_then ?_
              refine c_seq ?_
              refine c_region ?_
              refine o_yield rfl rfl rfl (y_val tok rfl) ?_
              refine o_call (.a (.v _)) rfl rfl fnok59 rfl rfl rfl (fun hg E w1 hm => by exact refCmdBytes_c ⟨_, _, _, _, _, _, _, _⟩ _) ?_
              refine o_yield rfl rfl rfl (y_val tok rfl) ?_
              refine o_yield rfl rfl rfl (y_val tok rfl) ?_
              refine o_yield rfl rfl rfl (y_val tok rfl) ?_
              refine o_yield rfl rfl rfl (y_val tok rfl) ?_
              refine o_yield rfl rfl rfl (y_val tok rfl) ?_
              refine o_end [0, 2, 8, 12, 13] rfl ?_
              refine x_then ?_
              refine c_seq ?_
              refine c_seq ?_
              refine c_region ?_
              refine o_yield rfl rfl rfl (y_val tok rfl) ?_
              refine o_yield rfl rfl rfl (y_val tok rfl) ?_
              refine o_yield rfl rfl rfl (y_val tok rfl) ?_
              refine o_yield rfl rfl rfl (y_val tok rfl) ?_
              refine o_yield rfl rfl rfl (y_val tok rfl) ?_
              refine o_yield rfl rfl rfl (y_val tok rfl) ?_
              refine o_yield rfl rfl rfl (y_val tok rfl) ?_
              refine o_end [2, 8, 121] rfl ?_
              refine x_then ?_
              refine c_cond rfl (fun h => ?_) (fun h => ?_)
              ·
                refine c_seq ?_
                refine c_region ?_
                refine o_yield rfl rfl rfl (y_val tok rfl) ?_
                refine o_store tok rfl rfl rfl (by first | exact ⟨trivial, trivial⟩ | (repeat' first | exact trivial | exact rfl | apply And.intro); done | simp [onesP, oneP, lk, Value.oneCell']) ?_
                refine o_yield rfl rfl rfl (y_val tok rfl) ?_
                refine o_end [2, 3] rfl ?_
                refine x_then ?_
                refine c_ret ?_
                refine x_then_ret ?_
                refine b_ret tok rfl ?_
                intro E w' hm _
                refine ⟨?_, hm.below (Vw.le.refl _)⟩
                rfl
              ·
                exact absurd (h.symm.trans (cb_no hbad _)) (by decide)
end Go.Proofs.Ytifgmaeileiebaa

/- Commands read back, the document's. -/
set_option linter.unusedVariables false
set_option linter.unusedSimpArgs false
set_option maxRecDepth 100000
namespace Go.Proofs.Ytifgmaeileiebaa
open Go Go.Eng Go.RowKit

theorem rest_add (a b : List UInt8) : restOf (strOf (a ++ b)) a.length = strOf b := by
  apply str_ext
  rw [restOf_list, strOf_list, strOf_list, List.drop_left]

theorem leB_len (k n : Int) : (leB k n).length = k.toNat := by rw [leB, leTake_len]

theorem byte0 {n : Int} (h0 : 0 ≤ n) (h1 : n ≤ 255) (R : List UInt8) : (byteAt (strOf (leB 1 n ++ R)) 0).toNat = n.toNat := by
  rw [byteAt_list, strOf_list, (leB_one h0 h1).1, List.singleton_append]
  show (kindOf8 n).toNat = _
  rw [kindOf8, UInt8.toNat_ofNat']; omega

theorem byte_rest (s : ByteArray) (i : Nat) : byteAt s (i + 1) = byteAt (restOf s 1) i := by
  rw [byteAt_list, byteAt_list, restOf_list]
  simp [List.getD, List.getElem?_drop, Nat.add_comm]

structure Facts (c : Cmd) (s r : ByteArray) : Prop where
  size : s.size = 11 + (cmdR c).length
  g1 : getSpec s 1 6 = (c.by_, 0)
  g2 : getSpec s 7 4 = (c.serial, 0)
  k0 : (byteAt s 0).toNat = c.kind.toNat
  rest : restOf s 11 = r

theorem facts {c : Cmd} (hc : cmdB c = true) : Facts c (strOf (cmdL c)) (strOf (cmdR c)) := by
  have ok := cmdOk hc
  have okk := ok.kind
  have oky := ok.by_
  have oks := ok.serial
  have m6 : mostN (6 : Int).toNat = 1099511627776 := by decide
  have m4 : mostN (4 : Int).toNat = 4294967295 := by decide
  have f6 : fitsB c.by_ 6 = true := by rw [fitsB, m6]; simp [widthB]; omega
  have f4 : fitsB c.serial 4 = true := by rw [fitsB, m4]; simp [widthB]; omega
  have e := cmd_shape c
  have l := cmdL_len c
  have r1 : restOf (strOf (cmdL c)) 1 = strOf (leB 6 c.by_ ++ (leB 4 c.serial ++ cmdR c)) := by
    rw [e]; exact rest_add (leB 1 c.kind) _
  have r7 : restOf (strOf (cmdL c)) 7 = strOf (leB 4 c.serial ++ cmdR c) := by
    rw [show 7 = 1 + 6 from rfl, ← restOf_add, r1]; exact rest_add (leB 6 c.by_) _
  have r11 : restOf (strOf (cmdL c)) 11 = strOf (cmdR c) := by
    rw [show 11 = 7 + 4 from rfl, ← restOf_add, r7]; exact rest_add (leB 4 c.serial) _
  have hs : (strOf (cmdL c)).size = 11 + (cmdR c).length := by
    rw [strOf_size, e]
    simp only [List.length_append, leB_len]
    omega
  refine ⟨hs, ?_, ?_, ?_, r11⟩
  · have := getSpec_rest (strOf (cmdL c)) (a := 1) (by omega) 6
    rw [r1, getSpec_pack f6] at this
    exact this.symm
  · have := getSpec_rest (strOf (cmdL c)) (a := 7) (by omega) 4
    rw [r7, getSpec_pack f4] at this
    exact this.symm
  · rw [e]; exact byte0 (by omega) (by omega) _

theorem rowR_two {a b : Int} (ha : 0 ≤ a ∧ a ≤ 1099511627776) (hb : 0 ≤ b ∧ b ≤ 1099511627776) : rowR ((strOf (leB 6 a ++ (leB 6 b ++ []))).size + 1) (strOf (leB 6 a ++ (leB 6 b ++ []))) [] = ([a, b], 0) := by
  have m6 : mostN (6 : Int).toNat = 1099511627776 := by decide
  have f6 : ∀ n : Int, 0 ≤ n ∧ n ≤ 1099511627776 → fitsB n 6 = true := fun n h => by rw [fitsB, m6]; simp [widthB]; omega
  have l : (strOf (leB 6 a ++ (leB 6 b ++ []))).size = 12 := by rw [strOf_size]; simp only [List.length_append, leB_len, List.length_nil]; rfl
  have l2 : (strOf (leB 6 b ++ [])).size = 6 := by rw [strOf_size]; simp only [List.length_append, leB_len, List.length_nil]; rfl
  rw [l, rowR, l, if_neg (by decide), getSpec_pack (f6 a ha), if_neg (by simp), show restOf (strOf (leB 6 a ++ (leB 6 b ++ []))) 6 = strOf (leB 6 b ++ []) from rest_add (leB 6 a) _,
    rowR, l2, if_neg (by decide), getSpec_pack (f6 b hb), if_neg (by simp), show restOf (strOf (leB 6 b ++ [])) 6 = strOf [] from rest_add (leB 6 b) _, rowR, if_pos (by rw [strOf_size]; rfl)]
  rfl

theorem rowR_one {b : Int} (hb : 0 ≤ b ∧ b ≤ 1099511627776) : rowR ((strOf (leB 6 b ++ [])).size + 1) (strOf (leB 6 b ++ [])) [] = ([b], 0) := by
  have m6 : mostN (6 : Int).toNat = 1099511627776 := by decide
  have f6 : ∀ n : Int, 0 ≤ n ∧ n ≤ 1099511627776 → fitsB n 6 = true := fun n h => by rw [fitsB, m6]; simp [widthB]; omega
  have l2 : (strOf (leB 6 b ++ [])).size = 6 := by rw [strOf_size]; simp only [List.length_append, leB_len, List.length_nil]; rfl
  rw [l2, rowR, l2, if_neg (by decide), getSpec_pack (f6 b hb), if_neg (by simp), show restOf (strOf (leB 6 b ++ [])) 6 = strOf [] from rest_add (leB 6 b) _, rowR, if_pos (by rw [strOf_size]; rfl)]
  rfl
end Go.Proofs.Ytifgmaeileiebaa

/- Commands read back, the document's: what is one. -/
set_option linter.unusedVariables false
set_option linter.unusedSimpArgs false
set_option maxRecDepth 100000
namespace Go.Proofs.Ytifgmaeileiebaa
open Go Go.Eng Go.RowKit

theorem refBytes_as {s : ByteArray} {c : Cmd} (hc : cmdB c = true) (hs : strOf (cmdL c) = s) (c' : Cmd) (h : c' = c) (w : World) : Calls Try.prog 59 #[c'.val] w fun e w' => e = .returned (.tuple #[S s, I 0]) ∧ Below w.heap.size w w' := by
  subst h
  obtain ⟨h1, h2⟩ := cbV_pos hc
  have := refCmdBytes_c c' w
  rw [h1, h2, hs] at this
  exact this

theorem conv0 {b : UInt8} {n : Int} (h0 : 0 ≤ n) (h1 : n ≤ 127) (h : b.toNat = n.toNat) : IntKind.i64.wrap ((b.toNat : Nat) : Int) = n ∧ IntKind.i8.wrap ((b.toNat : Nat) : Int) = n := by
  rw [h, show ((n.toNat : Nat) : Int) = n by omega]
  exact ⟨wrapI (by omega) (by omega), wrapI8 h0 h1⟩

theorem mode_and {b : UInt8} {n : Int} (h0 : 0 ≤ n) (h1 : n ≤ 2) (h : b.toNat = n.toNat) : IntKind.i8.wrap (bits .and .u8 ((b.toNat : Nat) : Int) 127) = n := by
  rw [h]
  have : n = 0 ∨ n = 1 ∨ n = 2 := by omega
  rcases this with rfl | rfl | rfl <;> decide

theorem refCmdRead_good (c : Cmd) (hc : cmdB c = true) (w : World) : Calls Try.prog 45 #[S (strOf (cmdL c))] w fun e w' => e = .returned (.tuple #[c.val, I 0]) ∧ Below w.heap.size w w' := by
  have ok := cmdOk hc
  have okk := ok.kind
  have okl := ok.lo
  have okh := ok.hi
  have okm := ok.mode
  have okd := ok.dead
  have okw := ok.was
  obtain ⟨fz, g1, g2, k0, hr⟩ := facts hc
  have hR : c.kind ≠ 2 → c.kind ≠ 3 → c.kind = 4 ∨ c.kind = 5 → rowR ((strOf (cmdR c)).size + 1) (strOf (cmdR c)) [] = (if c.kind = 4 then [c.dead, c.was] else [c.dead], 0) := by
    intro n2 n3 h
    rw [cmdR, if_neg n2, if_neg n3]
    rcases h with h | h
    · rw [if_pos h, if_pos h]; exact rowR_two okd okw
    · rw [if_neg (by omega), if_pos h, if_neg (by omega)]; exact rowR_one okd
  have hl := cmdR_len c
  have hrz : (strOf (cmdR c)).size = (cmdR c).length := strOf_size _
  have hb := refBytes_as hc (s := strOf (cmdL c)) rfl
  obtain ⟨y1, y2⟩ := conv0 (b := byteAt (strOf (cmdL c)) (0 : Int).toNat) okk.1 (by omega) k0
  have r2 : c.kind = 2 → (strOf (cmdR c)).size = 3 ∧ (byteAt (strOf (cmdR c)) 0).toNat = c.lo.toNat ∧ (byteAt (strOf (cmdR c)) 1).toNat = c.hi.toNat ∧ (byteAt (strOf (cmdR c)) 2).toNat = c.mode.toNat := by
    intro h
    have e : cmdR c = leB 1 c.lo ++ (leB 1 c.hi ++ (leB 1 c.mode ++ [])) := by rw [cmdR, if_pos h]
    rw [hrz, e]
    have x1 : restOf (strOf (leB 1 c.lo ++ (leB 1 c.hi ++ (leB 1 c.mode ++ [])))) 1 = strOf (leB 1 c.hi ++ (leB 1 c.mode ++ [])) := rest_add (leB 1 c.lo) _
    have x2 : restOf (strOf (leB 1 c.hi ++ (leB 1 c.mode ++ []))) 1 = strOf (leB 1 c.mode ++ []) := rest_add (leB 1 c.hi) _
    refine ⟨by simp only [List.length_append, leB_len, List.length_nil]; rfl, byte0 (by omega) (by omega) _, ?_, ?_⟩
    · rw [byte_rest _ 0, x1]; exact byte0 (by omega) (by omega) _
    · rw [byte_rest _ 1, x1, byte_rest _ 0, x2]; exact byte0 (by omega) (by omega) _
  have r3 : c.kind = 3 → (strOf (cmdR c)).size = 2 ∧ (byteAt (strOf (cmdR c)) 0).toNat = c.lo.toNat ∧ (byteAt (strOf (cmdR c)) 1).toNat = c.hi.toNat := by
    intro h
    have e : cmdR c = leB 1 c.lo ++ (leB 1 c.hi ++ []) := by rw [cmdR, if_neg (by omega), if_pos h]
    rw [hrz, e]
    have x1 : restOf (strOf (leB 1 c.lo ++ (leB 1 c.hi ++ []))) 1 = strOf (leB 1 c.hi ++ []) := rest_add (leB 1 c.lo) _
    refine ⟨by simp only [List.length_append, leB_len, List.length_nil]; rfl, byte0 (by omega) (by omega) _, ?_⟩
    rw [byte_rest _ 0, x1]; exact byte0 (by omega) (by omega) _
  obtain ⟨s, hs⟩ : ∃ s, strOf (cmdL c) = s := ⟨_, rfl⟩
  obtain ⟨r, hrr⟩ : ∃ r, strOf (cmdR c) = r := ⟨_, rfl⟩
  rw [hs] at fz g1 g2 k0 hr hb y1 y2 ⊢
  rw [hrr] at hr hR r2 r3 hrz
  have hmx : s.size ≤ maxLen := by simp only [maxLen]; omega
  refine enter (E := E0) (O := []) (nl := 0) (V := vw w) [.a (.v (S s))] Try.func45 rfl rfl (mem0 E0 0 w) rfl rfl ?_
  refine c_seq ?_
  refine c_region ?_
  refine o_new tok rfl rfl rfl rfl ?_
  refine o_yield rfl rfl rfl (y_val tok rfl) ?_
  refine o_end [0, 2] rfl ?_
  refine x_then ?_
  refine c_seq ?_
  refine c_seq ?_
  refine c_region ?_
  refine o_yield rfl rfl rfl (y_val tok rfl) ?_
  refine o_yield rfl rfl rfl (y_val tok rfl) ?_
  refine o_yield rfl rfl rfl (y_val tok rfl) ?_
  refine o_end [0, 2, 16] rfl ?_
  refine x_then ?_
  refine c_cond rfl (fun h => ?_) (fun h => ?_)
  ·
    simp only [Bool.and_eq_true, Bool.or_eq_true, Bool.not_eq_true', Bool.or_eq_false_iff, Bool.and_eq_false_iff, decide_eq_true_eq, decide_eq_false_iff_not, beq_iff_eq, bne_iff_ne, Bool.not_eq_false', beq_eq_false_iff_ne, bne_eq_false_iff_eq, ne_eq, Decidable.not_not, Int.not_lt, Int.not_le] at h
    refine c_seq ?_
    refine c_region ?_
    refine o_yield rfl rfl rfl (y_val tok rfl) ?_
    refine o_store tok rfl rfl rfl (by first | exact ⟨trivial, trivial⟩ | (repeat' first | exact trivial | exact rfl | apply And.intro); done | simp [onesP, oneP, lk, Value.oneCell']) ?_
    refine o_yield rfl rfl rfl (y_val tok rfl) ?_
    refine o_end [2, 3] rfl ?_
    refine x_then ?_
    refine c_ret ?_
    refine x_then_ret ?_
    refine b_ret tok rfl ?_
    omega
  ·
    simp only [Bool.and_eq_true, Bool.or_eq_true, Bool.not_eq_true', Bool.or_eq_false_iff, Bool.and_eq_false_iff, decide_eq_true_eq, decide_eq_false_iff_not, beq_iff_eq, bne_iff_ne, Bool.not_eq_false', beq_eq_false_iff_ne, bne_eq_false_iff_eq, ne_eq, Decidable.not_not, Int.not_lt, Int.not_le] at h
    refine c_skip ?_
    refine x_then ?_
    refine c_seq ?_
    refine c_region ?_
    refine o_yield rfl rfl rfl (y_val tok rfl) ?_
    clear h
    refine o_call (.a (.v _)) rfl rfl fnok57 rfl rfl rfl (fun hg E w1 hm => by exact refGet_c s 1 6 hmx _) ?_
    refine o_yield rfl rfl rfl (y_val tok rfl) ?_
    refine o_yield rfl rfl rfl (y_val tok rfl) ?_
    refine o_yield rfl rfl rfl (y_val tok rfl) ?_
    refine o_yield rfl rfl rfl (y_val tok rfl) ?_
    refine o_yield rfl rfl rfl (y_val tok rfl) ?_
    refine o_end [0, 2, 4, 5] rfl ?_
    refine x_then ?_
    refine c_seq ?_
    refine c_region ?_
    refine o_yield rfl rfl rfl (y_val tok rfl) ?_
    refine o_call (.a (.v _)) rfl rfl fnok57 rfl rfl rfl (fun hg E w1 hm => by exact refGet_c s 7 4 hmx _) ?_
    refine o_yield rfl rfl rfl (y_val tok rfl) ?_
    refine o_yield rfl rfl rfl (y_val tok rfl) ?_
    refine o_yield rfl rfl rfl (y_val tok rfl) ?_
    refine o_yield rfl rfl rfl (y_val tok rfl) ?_
    refine o_yield rfl rfl rfl (y_val tok rfl) ?_
    refine o_end [0, 2, 4, 5, 6, 7] rfl ?_
    refine x_then ?_
    refine c_seq ?_
    refine c_seq ?_
    refine c_region ?_
    refine o_yield rfl rfl rfl (y_val tok rfl) ?_
    refine o_yield rfl rfl rfl (y_val tok rfl) ?_
    refine o_yield rfl rfl rfl (y_val tok rfl) ?_
    refine o_yield rfl rfl rfl (y_val tok rfl) ?_
    refine o_yield rfl rfl rfl (y_val tok rfl) ?_
    refine o_yield rfl rfl rfl (y_val tok rfl) ?_
    refine o_yield rfl rfl rfl (y_val tok rfl) ?_
    refine o_yield rfl rfl rfl (y_val tok rfl) ?_
    refine o_yield rfl rfl rfl (y_si tok rfl (fun hg => by omega)) ?_
    refine o_yield rfl rfl rfl (y_val tok rfl) ?_
    refine o_yield rfl rfl rfl (y_val tok rfl) ?_
    refine o_end [0, 2, 4, 6, 38] rfl ?_
    refine x_then ?_
    refine c_cond rfl (fun h => ?_) (fun h => ?_)
    ·
      exfalso
      rw [g1, g2] at h
      have : ((byteAt s (0 : Int).toNat).toNat : Int) ≤ 5 := by rw [show byteAt s (0 : Int).toNat = byteAt s 0 from rfl, k0]; omega
      simp at h
      omega
    ·
      refine c_skip ?_
      refine x_then ?_
      refine c_seq ?_
      refine c_region ?_
      refine o_yield rfl rfl rfl (y_val tok rfl) ?_
      clear h
      refine o_yield rfl rfl rfl (y_si tok rfl (fun hg => by omega)) ?_
      refine o_yield rfl rfl rfl (y_val tok rfl) ?_
      refine o_yield rfl rfl rfl (y_val tok rfl) ?_
      refine o_yield rfl rfl rfl (y_val tok rfl) ?_
      refine o_yield rfl rfl rfl (y_val tok rfl) ?_
      refine o_new tok rfl rfl rfl rfl ?_
      refine o_store tok rfl rfl rfl (by first | exact ⟨trivial, trivial⟩ | (repeat' first | exact trivial | exact rfl | apply And.intro); done | simp [onesP, oneP, lk, Value.oneCell']) ?_
      refine o_end [0, 2, 8] rfl ?_
      refine x_then ?_
      refine c_seq ?_
      refine c_region ?_
      refine o_yield rfl rfl rfl (y_val tok rfl) ?_
      rw [y2, g1, g2]
      refine o_yield rfl rfl rfl (y_ssR tok r rfl (fun hg => by simp only [Option.getD]; omega) hr) ?_
      refine o_yield rfl rfl rfl (y_val tok rfl) ?_
      refine o_end [0, 2, 8, 9] rfl ?_
      refine x_then ?_
      refine c_seq ?_
      refine c_seq ?_
      refine c_region ?_
      refine o_yield rfl rfl rfl (y_val tok rfl) ?_
      refine o_yield rfl rfl rfl (y_val tok rfl) ?_
      refine o_end [0, 2, 8, 9, 49] rfl ?_
      refine x_then ?_
      refine c_block ?_
      refine c_seq ?_
      refine c_seq ?_
      refine c_region ?_
      refine o_yield rfl rfl rfl (y_val tok rfl) ?_
      refine o_yield rfl rfl rfl (y_val tok rfl) ?_
      refine o_end [0, 2, 8, 9, 49, 50] rfl ?_
      refine x_then ?_
      refine c_cond rfl (fun h => ?_) (fun h => ?_)
      ·
        refine c_skip ?_
        refine x_then ?_
        refine c_cond rfl (fun h2 => ?_) (fun h2 => ?_)
        ·
          have e : c.kind = 2 := by simpa using h2
          have hcc : (⟨c.kind, c.by_, c.serial, 0, 0, c.lo, c.hi, c.mode⟩ : Cmd) = c := (Cmd.eqB_iff _ _).1 (by
            simp [Cmd.eqB, ok.dead0 (by omega) (by omega), ok.was0 (by omega)])
          obtain ⟨q0, q1, q2, q3⟩ := r2 e
          obtain ⟨u0, _⟩ := conv0 (b := byteAt r (0 : Int).toNat) okl.1 (by omega) q1
          obtain ⟨u1, _⟩ := conv0 (b := byteAt r (1 : Int).toNat) okh.1 (by omega) q2
          have u2 := mode_and (b := byteAt r (2 : Int).toNat) okm.1 okm.2 q3
          refine c_seq ?_
          refine c_seq ?_
          refine c_region ?_
          refine o_yield rfl rfl rfl (y_val tok rfl) ?_
          refine o_yield rfl rfl rfl (y_val tok rfl) ?_
          refine o_yield rfl rfl rfl (y_val tok rfl) ?_
          refine o_end [0, 2, 8, 9, 55] rfl ?_
          refine x_then ?_
          refine c_cond rfl (fun h => ?_) (fun h => ?_)
          ·
            simp only [Bool.and_eq_true, Bool.or_eq_true, Bool.not_eq_true', Bool.or_eq_false_iff, Bool.and_eq_false_iff, decide_eq_true_eq, decide_eq_false_iff_not, beq_iff_eq, bne_iff_ne, Bool.not_eq_false', beq_eq_false_iff_ne, bne_eq_false_iff_eq, ne_eq, Decidable.not_not, Int.not_lt, Int.not_le] at h
            refine c_seq ?_
            refine c_region ?_
            refine o_yield rfl rfl rfl (y_val tok rfl) ?_
            refine o_store tok rfl rfl rfl (by first | exact ⟨trivial, trivial⟩ | (repeat' first | exact trivial | exact rfl | apply And.intro); done | simp [onesP, oneP, lk, Value.oneCell']) ?_
            refine o_yield rfl rfl rfl (y_val tok rfl) ?_
            refine o_end [2, 3] rfl ?_
            refine x_then ?_
            refine c_ret ?_
            refine x_then_ret ?_
            refine x_block_ret ?_
            refine x_then_ret ?_
            refine b_ret tok rfl ?_
            omega
          ·
            simp only [Bool.and_eq_true, Bool.or_eq_true, Bool.not_eq_true', Bool.or_eq_false_iff, Bool.and_eq_false_iff, decide_eq_true_eq, decide_eq_false_iff_not, beq_iff_eq, bne_iff_ne, Bool.not_eq_false', beq_eq_false_iff_ne, bne_eq_false_iff_eq, ne_eq, Decidable.not_not, Int.not_lt, Int.not_le] at h
            refine c_skip ?_
            refine x_then ?_
            refine c_seq ?_
            refine c_heldS [8] mixed rfl (by repeat (first | exact SubO.nil | refine SubO.cons rfl ?_)) (by first | rfl | simp [okCels, allOk_plain]) ?_
            refine t_takeD 0 rfl (by kernel_rfl) rfl rfl rfl (y_val tok rfl) rfl ?_
            clear h
            refine t_takeD 1 rfl (by kernel_rfl) rfl rfl rfl (y_si tok rfl (fun hg => by omega)) rfl ?_
            refine t_takeD 2 rfl (by kernel_rfl) rfl rfl rfl (y_val tok rfl) rfl ?_
            refine t_takeD 3 rfl (by kernel_rfl) rfl rfl rfl (y_val tok rfl) rfl ?_
            refine t_takeD 4 rfl (by kernel_rfl) rfl rfl rfl (y_si tok rfl (fun hg => by omega)) rfl ?_
            refine t_takeD 5 rfl (by kernel_rfl) rfl rfl rfl (y_val tok rfl) rfl ?_
            refine t_takeD 6 rfl (by kernel_rfl) rfl rfl rfl (y_val tok rfl) rfl ?_
            refine t_takeD 7 rfl (by kernel_rfl) rfl rfl rfl (y_val tok rfl) rfl ?_
            refine t_go ?_
            refine h_one 8 (by kernel_rfl) ?_
            refine h_store 8 tok rfl rfl rfl rfl (by first | exact ⟨trivial, trivial⟩ | (repeat' first | exact trivial | exact rfl | apply And.intro); done | simp [onesP, oneP, lk, Value.oneCell']) (.inl rfl) ?_
            refine h_done [0, 2, 8, 9] (by kernel_rfl) rfl ?_
            refine x_then ?_
            refine c_seq ?_
            refine c_region ?_
            refine o_yield rfl rfl rfl (y_val tok rfl) ?_
            refine o_yield rfl rfl rfl (y_val tok rfl) ?_
            refine o_yield rfl rfl rfl (y_val tok rfl) ?_
            refine o_yield rfl rfl rfl (y_val tok rfl) ?_
            refine o_yield rfl rfl rfl (y_val tok rfl) ?_
            refine o_yield rfl rfl rfl (y_val tok rfl) ?_
            refine o_yield rfl rfl rfl (y_val tok rfl) ?_
            refine o_yield rfl rfl rfl (y_val tok rfl) ?_
            refine o_end [0, 2, 8, 9, 72] rfl ?_
            refine x_then ?_
            refine c_cond rfl (fun h => ?_) (fun h => ?_)
            ·
              refine c_region ?_
              refine o_yield rfl rfl rfl (y_val tok rfl) ?_
              refine o_yield rfl rfl rfl (y_si tok rfl (fun hg => by omega)) ?_
              refine o_yield rfl rfl rfl (y_val tok rfl) ?_
              refine o_yield rfl rfl rfl (y_val tok rfl) ?_
              refine o_yield rfl rfl rfl (y_val tok rfl) ?_
              refine o_store tok rfl rfl rfl (by first | exact ⟨trivial, trivial⟩ | (repeat' first | exact trivial | exact rfl | apply And.intro); done | simp [onesP, oneP, lk, Value.oneCell']) ?_
              refine o_end [0, 2, 8] rfl ?_
              refine x_block ?_
              refine x_then ?_
              refine c_seq ?_
              refine c_region ?_
              refine o_yield rfl rfl rfl (y_val tok rfl) ?_
              rw [u0, u1, u2]
              refine o_call (.a (.v _)) rfl rfl fnok59 rfl rfl rfl (fun hg E w1 hm => by exact hb ⟨c.kind, c.by_, c.serial, 0, 0, c.lo, c.hi, c.mode⟩ hcc _) ?_
              refine o_yield rfl rfl rfl (y_val tok rfl) ?_
              refine o_yield rfl rfl rfl (y_val tok rfl) ?_
              refine o_yield rfl rfl rfl (y_val tok rfl) ?_
              refine o_yield rfl rfl rfl (y_val tok rfl) ?_
              refine o_yield rfl rfl rfl (y_val tok rfl) ?_
              refine o_end [0, 2, 8, 12, 13] rfl ?_
              refine x_then ?_
              refine c_seq ?_
              refine c_seq ?_
              refine c_region ?_
              refine o_yield rfl rfl rfl (y_val tok rfl) ?_
              refine o_yield rfl rfl rfl (y_val tok rfl) ?_
              refine o_yield rfl rfl rfl (y_val tok rfl) ?_
              refine o_yield rfl rfl rfl (y_val tok rfl) ?_
              refine o_yield rfl rfl rfl (y_val tok rfl) ?_
              refine o_yield rfl rfl rfl (y_val tok rfl) ?_
              refine o_yield rfl rfl rfl (y_val tok rfl) ?_
              refine o_end [2, 8, 121] rfl ?_
              refine x_then ?_
              refine c_cond rfl (fun h => ?_) (fun h => ?_)
              ·
                exfalso
                simp at h
              ·
                refine c_skip ?_
                refine x_then ?_
                refine c_seq ?_
                refine c_region ?_
                refine o_yield rfl rfl rfl (y_val tok rfl) ?_
                refine o_store tok rfl rfl rfl (by first | exact ⟨trivial, trivial⟩ | (repeat' first | exact trivial | exact rfl | apply And.intro); done | simp [onesP, oneP, lk, Value.oneCell']) ?_
                refine o_yield rfl rfl rfl (y_val tok rfl) ?_
                refine o_end [2, 3] rfl ?_
                refine x_then ?_
                refine c_ret ?_
                refine b_ret tok rfl ?_
                intro E w' hm _
                refine ⟨?_, hm.below (Vw.le.refl _)⟩
                show Ending.returned (.tuple #[(⟨c.kind, c.by_, c.serial, 0, 0, c.lo, c.hi, c.mode⟩ : Cmd).val, I 0]) = _
                rw [hcc]
            ·
              exfalso
              simp [e, q0] at h
        ·
          exact absurd (h.symm.trans h2) (by decide)
      ·
        refine c_region ?_
        refine o_yield rfl rfl rfl (y_val tok rfl) ?_
        refine o_yield rfl rfl rfl (y_val tok rfl) ?_
        refine o_end [0, 2, 8, 9, 49, 50] rfl ?_
        refine x_then ?_
        refine c_cond rfl (fun h2 => ?_) (fun h2 => ?_)
        ·
          have e : c.kind = 3 := by simpa using h2
          have hcc : (⟨c.kind, c.by_, c.serial, 0, 0, c.lo, c.hi, 0⟩ : Cmd) = c := (Cmd.eqB_iff _ _).1 (by
            simp [Cmd.eqB, ok.mode0 (by omega), ok.dead0 (by omega) (by omega), ok.was0 (by omega)])
          obtain ⟨q0, q1, q2⟩ := r3 e
          obtain ⟨u0, _⟩ := conv0 (b := byteAt r (0 : Int).toNat) okl.1 (by omega) q1
          obtain ⟨u1, _⟩ := conv0 (b := byteAt r (1 : Int).toNat) okh.1 (by omega) q2
          refine c_seq ?_
          refine c_seq ?_
          refine c_region ?_
          refine o_yield rfl rfl rfl (y_val tok rfl) ?_
          refine o_yield rfl rfl rfl (y_val tok rfl) ?_
          refine o_yield rfl rfl rfl (y_val tok rfl) ?_
          refine o_end [0, 2, 8, 9, 55] rfl ?_
          refine x_then ?_
          refine c_cond rfl (fun h => ?_) (fun h => ?_)
          ·
            simp only [Bool.and_eq_true, Bool.or_eq_true, Bool.not_eq_true', Bool.or_eq_false_iff, Bool.and_eq_false_iff, decide_eq_true_eq, decide_eq_false_iff_not, beq_iff_eq, bne_iff_ne, Bool.not_eq_false', beq_eq_false_iff_ne, bne_eq_false_iff_eq, ne_eq, Decidable.not_not, Int.not_lt, Int.not_le] at h
            refine c_seq ?_
            refine c_region ?_
            refine o_yield rfl rfl rfl (y_val tok rfl) ?_
            refine o_store tok rfl rfl rfl (by first | exact ⟨trivial, trivial⟩ | (repeat' first | exact trivial | exact rfl | apply And.intro); done | simp [onesP, oneP, lk, Value.oneCell']) ?_
            refine o_yield rfl rfl rfl (y_val tok rfl) ?_
            refine o_end [2, 3] rfl ?_
            refine x_then ?_
            refine c_ret ?_
            refine x_then_ret ?_
            refine x_block_ret ?_
            refine x_then_ret ?_
            refine b_ret tok rfl ?_
            omega
          ·
            simp only [Bool.and_eq_true, Bool.or_eq_true, Bool.not_eq_true', Bool.or_eq_false_iff, Bool.and_eq_false_iff, decide_eq_true_eq, decide_eq_false_iff_not, beq_iff_eq, bne_iff_ne, Bool.not_eq_false', beq_eq_false_iff_ne, bne_eq_false_iff_eq, ne_eq, Decidable.not_not, Int.not_lt, Int.not_le] at h
            refine c_skip ?_
            refine x_then ?_
            refine c_seq ?_
            refine c_heldS [8] mixed rfl (by repeat (first | exact SubO.nil | refine SubO.cons rfl ?_)) (by first | rfl | simp [okCels, allOk_plain]) ?_
            refine t_takeD 0 rfl (by kernel_rfl) rfl rfl rfl (y_val tok rfl) rfl ?_
            clear h
            refine t_takeD 1 rfl (by kernel_rfl) rfl rfl rfl (y_si tok rfl (fun hg => by omega)) rfl ?_
            refine t_takeD 2 rfl (by kernel_rfl) rfl rfl rfl (y_val tok rfl) rfl ?_
            refine t_takeD 3 rfl (by kernel_rfl) rfl rfl rfl (y_val tok rfl) rfl ?_
            refine t_takeD 4 rfl (by kernel_rfl) rfl rfl rfl (y_si tok rfl (fun hg => by omega)) rfl ?_
            refine t_takeD 5 rfl (by kernel_rfl) rfl rfl rfl (y_val tok rfl) rfl ?_
            refine t_takeD 6 rfl (by kernel_rfl) rfl rfl rfl (y_val tok rfl) rfl ?_
            refine t_takeD 7 rfl (by kernel_rfl) rfl rfl rfl (y_val tok rfl) rfl ?_
            refine t_go ?_
            refine h_one 8 (by kernel_rfl) ?_
            refine h_store 8 tok rfl rfl rfl rfl (by first | exact ⟨trivial, trivial⟩ | (repeat' first | exact trivial | exact rfl | apply And.intro); done | simp [onesP, oneP, lk, Value.oneCell']) (.inl rfl) ?_
            refine h_done [0, 2, 8, 9] (by kernel_rfl) rfl ?_
            refine x_then ?_
            refine c_seq ?_
            refine c_region ?_
            refine o_yield rfl rfl rfl (y_val tok rfl) ?_
            refine o_yield rfl rfl rfl (y_val tok rfl) ?_
            refine o_yield rfl rfl rfl (y_val tok rfl) ?_
            refine o_yield rfl rfl rfl (y_val tok rfl) ?_
            refine o_yield rfl rfl rfl (y_val tok rfl) ?_
            refine o_yield rfl rfl rfl (y_val tok rfl) ?_
            refine o_yield rfl rfl rfl (y_val tok rfl) ?_
            refine o_yield rfl rfl rfl (y_val tok rfl) ?_
            refine o_end [0, 2, 8, 9, 72] rfl ?_
            refine x_then ?_
            refine c_cond rfl (fun h => ?_) (fun h => ?_)
            ·
              exfalso
              simp [e] at h
            ·
              refine c_skip ?_
              refine x_block ?_
              refine x_then ?_
              refine c_seq ?_
              refine c_region ?_
              refine o_yield rfl rfl rfl (y_val tok rfl) ?_
              rw [u0, u1]
              refine o_call (.a (.v _)) rfl rfl fnok59 rfl rfl rfl (fun hg E w1 hm => by exact hb ⟨c.kind, c.by_, c.serial, 0, 0, c.lo, c.hi, 0⟩ hcc _) ?_
              refine o_yield rfl rfl rfl (y_val tok rfl) ?_
              refine o_yield rfl rfl rfl (y_val tok rfl) ?_
              refine o_yield rfl rfl rfl (y_val tok rfl) ?_
              refine o_yield rfl rfl rfl (y_val tok rfl) ?_
              refine o_yield rfl rfl rfl (y_val tok rfl) ?_
              refine o_end [0, 2, 8, 12, 13] rfl ?_
              refine x_then ?_
              refine c_seq ?_
              refine c_seq ?_
              refine c_region ?_
              refine o_yield rfl rfl rfl (y_val tok rfl) ?_
              refine o_yield rfl rfl rfl (y_val tok rfl) ?_
              refine o_yield rfl rfl rfl (y_val tok rfl) ?_
              refine o_yield rfl rfl rfl (y_val tok rfl) ?_
              refine o_yield rfl rfl rfl (y_val tok rfl) ?_
              refine o_yield rfl rfl rfl (y_val tok rfl) ?_
              refine o_yield rfl rfl rfl (y_val tok rfl) ?_
              refine o_end [2, 8, 121] rfl ?_
              refine x_then ?_
              refine c_cond rfl (fun h => ?_) (fun h => ?_)
              ·
                exfalso
                simp at h
              ·
                refine c_skip ?_
                refine x_then ?_
                refine c_seq ?_
                refine c_region ?_
                refine o_yield rfl rfl rfl (y_val tok rfl) ?_
                refine o_store tok rfl rfl rfl (by first | exact ⟨trivial, trivial⟩ | (repeat' first | exact trivial | exact rfl | apply And.intro); done | simp [onesP, oneP, lk, Value.oneCell']) ?_
                refine o_yield rfl rfl rfl (y_val tok rfl) ?_
                refine o_end [2, 3] rfl ?_
                refine x_then ?_
                refine c_ret ?_
                refine b_ret tok rfl ?_
                intro E w' hm _
                refine ⟨?_, hm.below (Vw.le.refl _)⟩
                show Ending.returned (.tuple #[(⟨c.kind, c.by_, c.serial, 0, 0, c.lo, c.hi, 0⟩ : Cmd).val, I 0]) = _
                rw [hcc]
        ·
          refine c_seq ?_
          refine c_seq ?_
          refine c_region ?_
          refine o_yield rfl rfl rfl (y_val tok rfl) ?_
          refine o_yield rfl rfl rfl (y_val tok rfl) ?_
          refine o_end [0, 2, 8, 9, 49, 78] rfl ?_
          refine x_then ?_
          refine c_cond rfl (fun h4 => ?_) (fun h4 => ?_)
          ·
            refine c_skip ?_
            refine x_then ?_
            refine c_cond rfl (fun h5 => ?_) (fun h5 => ?_)
            ·
              refine c_seq ?_
              refine c_region ?_
              refine o_yield rfl rfl rfl (y_val tok rfl) ?_
              have e : c.kind = 4 := by simpa using h4
              have hR4 := hR (by omega) (by omega) (.inl e)
              rw [if_pos e] at hR4
              have hcc : (⟨c.kind, c.by_, c.serial, c.dead, c.was, 0, 0, 0⟩ : Cmd) = c := (Cmd.eqB_iff _ _).1 (by
                obtain ⟨z1, z2⟩ := ok.span (by omega) (by omega)
                simp [Cmd.eqB, z1, z2, ok.mode0 (by omega)])
              refine o_step rfl rfl rfl rfl rfl (s_refRow r ([c.dead, c.was], 0) hR4 rfl (by omega) (fun E => rfl)) (fun _ _ => ?_)
              refine o_yield rfl rfl rfl (y_val tok rfl) ?_
              refine o_yield rfl rfl rfl (y_val tok rfl) ?_
              refine o_yield rfl rfl rfl (y_val tok rfl) ?_
              refine o_yield rfl rfl rfl (y_val tok rfl) ?_
              refine o_yield rfl rfl rfl (y_val tok rfl) ?_
              refine o_end [0, 2, 8, 10, 11] rfl ?_
              refine x_then ?_
              refine c_seq ?_
              refine c_seq ?_
              refine c_region ?_
              refine o_yield rfl rfl rfl (y_val tok rfl) ?_
              refine o_yield rfl rfl rfl (y_val tok rfl) ?_
              refine o_yield rfl rfl rfl (y_val tok rfl) ?_
              refine o_yield rfl rfl rfl (y_val tok rfl) ?_
              refine o_yield rfl rfl rfl (y_val tok rfl) ?_
              refine o_yield rfl rfl rfl (y_val tok rfl) ?_
              refine o_yield rfl rfl rfl (y_val tok rfl) ?_
              refine o_end [0, 2, 8, 10, 92] rfl ?_
              refine x_then ?_
              refine c_cond rfl (fun h => ?_) (fun h => ?_)
              ·
                exfalso
                simp at h
              ·
                refine c_skip ?_
                refine x_then ?_
                refine c_seq ?_
                refine c_region ?_
                refine o_yield rfl rfl rfl (y_val tok rfl) ?_
                clear h
                refine o_yield rfl rfl rfl (y_own (s := .a (.rel 2 0)) 2 rfl rfl (fun v V' hv => y_idxK tok 0 rfl (by simp) (fun hg => hv) (fun hg => by simp))) ?_
                refine o_yield rfl rfl rfl (y_own (s := .a (.v (I c.dead))) 2 rfl rfl (fun v V' hv => y_lel (enc := encI64) (l := [c.dead, c.was]) tok 0 0 c.dead rfl (fun hg => ⟨hv, fun _ => rfl⟩) (fun hg => rfl) (by simp) rfl)) ?_
                refine o_yield rfl rfl rfl (y_val tok rfl) ?_
                refine o_store tok rfl rfl rfl (by first | exact ⟨trivial, trivial⟩ | (repeat' first | exact trivial | exact rfl | apply And.intro); done | simp [onesP, oneP, lk, Value.oneCell']) ?_
                refine o_end [0, 2, 8, 10] rfl ?_
                refine x_then ?_
                refine c_seq ?_
                refine c_region ?_
                refine o_yield rfl rfl rfl (y_val tok rfl) ?_
                refine o_yield rfl rfl rfl (y_val tok rfl) ?_
                refine o_yield rfl rfl rfl (y_val tok rfl) ?_
                refine o_yield rfl rfl rfl (y_val tok rfl) ?_
                refine o_yield rfl rfl rfl (y_val tok rfl) ?_
                refine o_yield rfl rfl rfl (y_val tok rfl) ?_
                refine o_yield rfl rfl rfl (y_val tok rfl) ?_
                refine o_yield rfl rfl rfl (y_val tok rfl) ?_
                refine o_end [0, 2, 8, 10, 105] rfl ?_
                refine x_then ?_
                refine c_cond rfl (fun h => ?_) (fun h => ?_)
                ·
                  refine c_region ?_
                  refine o_yield rfl rfl rfl (y_val tok rfl) ?_
                  refine o_yield rfl rfl rfl (y_own (s := .a (.rel 2 1)) 2 rfl rfl (fun v V' hv => y_idxK tok 1 rfl (by simp) (fun hg => hv) (fun hg => by simp))) ?_
                  refine o_yield rfl rfl rfl (y_own (s := .a (.v (I c.was))) 2 rfl rfl (fun v V' hv => y_lel (enc := encI64) (l := [c.dead, c.was]) tok 1 0 c.was rfl (fun hg => ⟨hv, fun _ => rfl⟩) (fun hg => rfl) (by simp) rfl)) ?_
                  refine o_yield rfl rfl rfl (y_val tok rfl) ?_
                  refine o_store tok rfl rfl rfl (by first | exact ⟨trivial, trivial⟩ | (repeat' first | exact trivial | exact rfl | apply And.intro); done | simp [onesP, oneP, lk, Value.oneCell']) ?_
                  refine o_end [0, 2, 8] rfl ?_
                  refine x_block ?_
                  refine x_then ?_
                  refine c_seq ?_
                  refine c_region ?_
                  refine o_yield rfl rfl rfl (y_val tok rfl) ?_
                  refine o_call (.a (.v _)) rfl rfl fnok59 rfl rfl rfl (fun hg E w1 hm => by exact hb ⟨c.kind, c.by_, c.serial, c.dead, c.was, 0, 0, 0⟩ hcc _) ?_
                  refine o_yield rfl rfl rfl (y_val tok rfl) ?_
                  refine o_yield rfl rfl rfl (y_val tok rfl) ?_
                  refine o_yield rfl rfl rfl (y_val tok rfl) ?_
                  refine o_yield rfl rfl rfl (y_val tok rfl) ?_
                  refine o_yield rfl rfl rfl (y_val tok rfl) ?_
                  refine o_end [0, 2, 8, 12, 13] rfl ?_
                  refine x_then ?_
                  refine c_seq ?_
                  refine c_seq ?_
                  refine c_region ?_
                  refine o_yield rfl rfl rfl (y_val tok rfl) ?_
                  refine o_yield rfl rfl rfl (y_val tok rfl) ?_
                  refine o_yield rfl rfl rfl (y_val tok rfl) ?_
                  refine o_yield rfl rfl rfl (y_val tok rfl) ?_
                  refine o_yield rfl rfl rfl (y_val tok rfl) ?_
                  refine o_yield rfl rfl rfl (y_val tok rfl) ?_
                  refine o_yield rfl rfl rfl (y_val tok rfl) ?_
                  refine o_end [2, 8, 121] rfl ?_
                  refine x_then ?_
                  refine c_cond rfl (fun h => ?_) (fun h => ?_)
                  ·
                    exfalso
                    simp at h
                  ·
                    refine c_skip ?_
                    refine x_then ?_
                    refine c_seq ?_
                    refine c_region ?_
                    refine o_yield rfl rfl rfl (y_val tok rfl) ?_
                    refine o_store tok rfl rfl rfl (by first | exact ⟨trivial, trivial⟩ | (repeat' first | exact trivial | exact rfl | apply And.intro); done | simp [onesP, oneP, lk, Value.oneCell']) ?_
                    refine o_yield rfl rfl rfl (y_val tok rfl) ?_
                    refine o_end [2, 3] rfl ?_
                    refine x_then ?_
                    refine c_ret ?_
                    refine b_ret tok rfl ?_
                    intro E w' hm _
                    refine ⟨?_, hm.below (Vw.le.refl _)⟩
                    show Ending.returned (.tuple #[(⟨c.kind, c.by_, c.serial, c.dead, c.was, 0, 0, 0⟩ : Cmd).val, I 0]) = _
                    rw [hcc]
                ·
                  exfalso
                  simp [e] at h
            ·
              exact absurd (h5.symm.trans h4) (by decide)
          ·
            refine c_region ?_
            refine o_yield rfl rfl rfl (y_val tok rfl) ?_
            refine o_yield rfl rfl rfl (y_val tok rfl) ?_
            refine o_end [0, 2, 8, 9, 78] rfl ?_
            refine x_then ?_
            refine c_cond rfl (fun h5 => ?_) (fun h5 => ?_)
            ·
              refine c_seq ?_
              refine c_region ?_
              refine o_yield rfl rfl rfl (y_val tok rfl) ?_
              have e : c.kind = 5 := by simpa using h5
              have hR4 := hR (by omega) (by omega) (.inr e)
              rw [if_neg (by omega)] at hR4
              have hcc : (⟨c.kind, c.by_, c.serial, c.dead, 0, 0, 0, 0⟩ : Cmd) = c := (Cmd.eqB_iff _ _).1 (by
                obtain ⟨z1, z2⟩ := ok.span (by omega) (by omega)
                simp [Cmd.eqB, z1, z2, ok.mode0 (by omega), ok.was0 (by omega)])
              refine o_step rfl rfl rfl rfl rfl (s_refRow r ([c.dead], 0) hR4 rfl (by omega) (fun E => rfl)) (fun _ _ => ?_)
              refine o_yield rfl rfl rfl (y_val tok rfl) ?_
              refine o_yield rfl rfl rfl (y_val tok rfl) ?_
              refine o_yield rfl rfl rfl (y_val tok rfl) ?_
              refine o_yield rfl rfl rfl (y_val tok rfl) ?_
              refine o_yield rfl rfl rfl (y_val tok rfl) ?_
              refine o_end [0, 2, 8, 10, 11] rfl ?_
              refine x_then ?_
              refine c_seq ?_
              refine c_seq ?_
              refine c_region ?_
              refine o_yield rfl rfl rfl (y_val tok rfl) ?_
              refine o_yield rfl rfl rfl (y_val tok rfl) ?_
              refine o_yield rfl rfl rfl (y_val tok rfl) ?_
              refine o_yield rfl rfl rfl (y_val tok rfl) ?_
              refine o_yield rfl rfl rfl (y_val tok rfl) ?_
              refine o_yield rfl rfl rfl (y_val tok rfl) ?_
              refine o_yield rfl rfl rfl (y_val tok rfl) ?_
              refine o_end [0, 2, 8, 10, 92] rfl ?_
              refine x_then ?_
              refine c_cond rfl (fun h => ?_) (fun h => ?_)
              ·
                exfalso
                simp at h
              ·
                refine c_skip ?_
                refine x_then ?_
                refine c_seq ?_
                refine c_region ?_
                refine o_yield rfl rfl rfl (y_val tok rfl) ?_
                clear h
                refine o_yield rfl rfl rfl (y_own (s := .a (.rel 2 0)) 2 rfl rfl (fun v V' hv => y_idxK tok 0 rfl (by simp) (fun hg => hv) (fun hg => by simp))) ?_
                refine o_yield rfl rfl rfl (y_own (s := .a (.v (I c.dead))) 2 rfl rfl (fun v V' hv => y_lel (enc := encI64) (l := [c.dead]) tok 0 0 c.dead rfl (fun hg => ⟨hv, fun _ => rfl⟩) (fun hg => rfl) (by simp) rfl)) ?_
                refine o_yield rfl rfl rfl (y_val tok rfl) ?_
                refine o_store tok rfl rfl rfl (by first | exact ⟨trivial, trivial⟩ | (repeat' first | exact trivial | exact rfl | apply And.intro); done | simp [onesP, oneP, lk, Value.oneCell']) ?_
                refine o_end [0, 2, 8, 10] rfl ?_
                refine x_then ?_
                refine c_seq ?_
                refine c_region ?_
                refine o_yield rfl rfl rfl (y_val tok rfl) ?_
                refine o_yield rfl rfl rfl (y_val tok rfl) ?_
                refine o_yield rfl rfl rfl (y_val tok rfl) ?_
                refine o_yield rfl rfl rfl (y_val tok rfl) ?_
                refine o_yield rfl rfl rfl (y_val tok rfl) ?_
                refine o_yield rfl rfl rfl (y_val tok rfl) ?_
                refine o_yield rfl rfl rfl (y_val tok rfl) ?_
                refine o_yield rfl rfl rfl (y_val tok rfl) ?_
                refine o_end [0, 2, 8, 10, 105] rfl ?_
                refine x_then ?_
                refine c_cond rfl (fun h => ?_) (fun h => ?_)
                ·
                  exfalso
                  simp [e] at h
                ·
                  refine c_skip ?_
                  refine x_block ?_
                  refine x_then ?_
                  refine c_seq ?_
                  refine c_region ?_
                  refine o_yield rfl rfl rfl (y_val tok rfl) ?_
                  refine o_call (.a (.v _)) rfl rfl fnok59 rfl rfl rfl (fun hg E w1 hm => by exact hb ⟨c.kind, c.by_, c.serial, c.dead, 0, 0, 0, 0⟩ hcc _) ?_
                  refine o_yield rfl rfl rfl (y_val tok rfl) ?_
                  refine o_yield rfl rfl rfl (y_val tok rfl) ?_
                  refine o_yield rfl rfl rfl (y_val tok rfl) ?_
                  refine o_yield rfl rfl rfl (y_val tok rfl) ?_
                  refine o_yield rfl rfl rfl (y_val tok rfl) ?_
                  refine o_end [0, 2, 8, 12, 13] rfl ?_
                  refine x_then ?_
                  refine c_seq ?_
                  refine c_seq ?_
                  refine c_region ?_
                  refine o_yield rfl rfl rfl (y_val tok rfl) ?_
                  refine o_yield rfl rfl rfl (y_val tok rfl) ?_
                  refine o_yield rfl rfl rfl (y_val tok rfl) ?_
                  refine o_yield rfl rfl rfl (y_val tok rfl) ?_
                  refine o_yield rfl rfl rfl (y_val tok rfl) ?_
                  refine o_yield rfl rfl rfl (y_val tok rfl) ?_
                  refine o_yield rfl rfl rfl (y_val tok rfl) ?_
                  refine o_end [2, 8, 121] rfl ?_
                  refine x_then ?_
                  refine c_cond rfl (fun h => ?_) (fun h => ?_)
                  ·
                    exfalso
                    simp at h
                  ·
                    refine c_skip ?_
                    refine x_then ?_
                    refine c_seq ?_
                    refine c_region ?_
                    refine o_yield rfl rfl rfl (y_val tok rfl) ?_
                    refine o_store tok rfl rfl rfl (by first | exact ⟨trivial, trivial⟩ | (repeat' first | exact trivial | exact rfl | apply And.intro); done | simp [onesP, oneP, lk, Value.oneCell']) ?_
                    refine o_yield rfl rfl rfl (y_val tok rfl) ?_
                    refine o_end [2, 3] rfl ?_
                    refine x_then ?_
                    refine c_ret ?_
                    refine b_ret tok rfl ?_
                    intro E w' hm _
                    refine ⟨?_, hm.below (Vw.le.refl _)⟩
                    show Ending.returned (.tuple #[(⟨c.kind, c.by_, c.serial, c.dead, 0, 0, 0, 0⟩ : Cmd).val, I 0]) = _
                    rw [hcc]
            ·
              refine c_skip ?_
              refine x_block ?_
              refine x_then ?_
              refine c_seq ?_
              refine c_region ?_
              refine o_yield rfl rfl rfl (y_val tok rfl) ?_
              have f2 : ¬ c.kind = 2 := by simpa using h
              have f3 : ¬ c.kind = 3 := by simpa using h2
              have f4 : ¬ c.kind = 4 := by simpa using h4
              have f5 : ¬ c.kind = 5 := by simpa using h5
              have hcc : (⟨c.kind, c.by_, c.serial, 0, 0, 0, 0, 0⟩ : Cmd) = c := (Cmd.eqB_iff _ _).1 (by
                obtain ⟨z1, z2⟩ := ok.span f2 f3
                simp [Cmd.eqB, z1, z2, ok.mode0 f2, ok.dead0 f4 f5, ok.was0 f4])
              refine o_call (.a (.v _)) rfl rfl fnok59 rfl rfl rfl (fun hg E w1 hm => by exact hb ⟨c.kind, c.by_, c.serial, 0, 0, 0, 0, 0⟩ hcc _) ?_
              refine o_yield rfl rfl rfl (y_val tok rfl) ?_
              refine o_yield rfl rfl rfl (y_val tok rfl) ?_
              refine o_yield rfl rfl rfl (y_val tok rfl) ?_
              refine o_yield rfl rfl rfl (y_val tok rfl) ?_
              refine o_yield rfl rfl rfl (y_val tok rfl) ?_
              refine o_end [0, 2, 8, 12, 13] rfl ?_
              refine x_then ?_
              refine c_seq ?_
              refine c_seq ?_
              refine c_region ?_
              refine o_yield rfl rfl rfl (y_val tok rfl) ?_
              refine o_yield rfl rfl rfl (y_val tok rfl) ?_
              refine o_yield rfl rfl rfl (y_val tok rfl) ?_
              refine o_yield rfl rfl rfl (y_val tok rfl) ?_
              refine o_yield rfl rfl rfl (y_val tok rfl) ?_
              refine o_yield rfl rfl rfl (y_val tok rfl) ?_
              refine o_yield rfl rfl rfl (y_val tok rfl) ?_
              refine o_end [2, 8, 121] rfl ?_
              refine x_then ?_
              refine c_cond rfl (fun h => ?_) (fun h => ?_)
              ·
                exfalso
                simp at h
              ·
                refine c_skip ?_
                refine x_then ?_
                refine c_seq ?_
                refine c_region ?_
                refine o_yield rfl rfl rfl (y_val tok rfl) ?_
                refine o_store tok rfl rfl rfl (by first | exact ⟨trivial, trivial⟩ | (repeat' first | exact trivial | exact rfl | apply And.intro); done | simp [onesP, oneP, lk, Value.oneCell']) ?_
                refine o_yield rfl rfl rfl (y_val tok rfl) ?_
                refine o_end [2, 3] rfl ?_
                refine x_then ?_
                refine c_ret ?_
                refine b_ret tok rfl ?_
                intro E w' hm _
                refine ⟨?_, hm.below (Vw.le.refl _)⟩
                show Ending.returned (.tuple #[(⟨c.kind, c.by_, c.serial, 0, 0, 0, 0, 0⟩ : Cmd).val, I 0]) = _
                rw [hcc]
end Go.Proofs.Ytifgmaeileiebaa
