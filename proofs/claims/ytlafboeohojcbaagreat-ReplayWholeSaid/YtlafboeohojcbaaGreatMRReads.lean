import Derived.Test.YtlafboeohojcbaaGreatMGeo
/- Records that are read: the program and the document agree; the law RecordReads. -/
set_option linter.unusedVariables false
set_option linter.unusedSimpArgs false
set_option maxRecDepth 100000
namespace Go.Proofs.YtlafboeohojcbaaGreat
open Go Go.Eng Go.RowKit
theorem refKey_c (n : Int) (w : World) : Calls Tryz.prog 35 #[I n] w fun e w' => e = .returned (.bool (keyB n)) ∧ Below w.heap.size w w' := by
 refine enter (E := E0) (O := []) (nl := 0) (V := vw w) [.a (.v (I n))] Tryz.func35 rfl rfl (mem0 E0 0 w) rfl rfl ?_
 refine c_seq (c_region ?_)
 refine yO rfl rfl rfl rfl ?_
 refine o_end [0] rfl ?_
 refine x_then (c_seq (c_region ?_))
 iterate 7 refine yO rfl rfl rfl rfl ?_
 refine o_end [2] rfl ?_
 refine x_then (c_ret ?_)
 refine b_ret tok rfl ?_
 intro E w' hm _
 exact ⟨rfl, hm.below (Vw.le.refl _)⟩
theorem empty_beq (s : ByteArray) : (s.toList == ByteArray.empty.toList) = decide (s.size = 0) := by
 rw [str_beq, Bool.eq_iff_iff, decide_eq_true_eq, decide_eq_true_eq]
 constructor
 · intro h; rw [← size_list, h]; rfl
 · intro h; rw [size_zero h]
theorem refRecMay_c (r : Record) (w : World) : Calls Tryz.prog 67 #[r.val] w fun e w' => e = .returned (.bool (recB r)) ∧ Below w.heap.size w w' := by
 refine enter (E := E0) (O := []) (nl := 0) (V := vw w) [.a (.v r.val)] Tryz.func67 rfl rfl (mem0 E0 0 w) rfl rfl ?_
 refine c_seq (c_region ?_)
 refine o_new tok rfl rfl rfl rfl ?_
 refine yO rfl rfl rfl rfl ?_
 refine o_end [1] rfl ?_
 refine x_then (c_seq (c_seq (c_region ?_)))
 iterate 2 refine yO rfl rfl rfl rfl ?_
 refine o_call (.a (.v _)) rfl rfl fnok35 rfl rfl rfl (fun hg E w1 hm => by exact refKey_c _ _) ?_
 iterate 21 refine yO rfl rfl rfl rfl ?_
 refine o_end [1, 26] rfl ?_
 refine x_then ?_
 refine c_cond rfl (fun h => ?_) (fun h => ?_)
 ·
  simp only [Xa, Xb, Xc, Xd, Xe, Xf, Xg, Xh, Xi, Xj, Xk, Xl, Xm, Xn, Xo, Xp] at h
  refine c_seq (c_region ?_)
  refine yO rfl rfl rfl rfl ?_
  refine o_end [2] rfl ?_
  refine x_then (c_ret (x_then_ret ?_))
  refine b_ret tok rfl ?_
  intro E w' hm _
  refine ⟨?_, hm.below (Vw.le.refl _)⟩
  rw [show recB r = false by
   rw [Bool.eq_false_iff]
   intro hc
   simp only [recB, Bool.and_eq_true, decide_eq_true_eq, belowB] at hc
   rcases h with (((h | h) | h) | h) | h
   · rw [h] at hc; simp at hc
   all_goals omega]
  rfl
 ·
  simp only [Xa, Xb, Xc, Xd, Xe, Xf, Xg, Xh, Xi, Xj, Xk, Xl, Xm, Xn, Xo, Xp] at h
  obtain ⟨⟨⟨⟨h1, h2⟩, h3⟩, h4⟩, h5⟩ := h
  have hpre : (keyB r.key && belowB r.lsn 1099511627777 && belowB r.count 64) = true := by
   simp [belowB, h1]; omega
  refine c_skip (x_then (c_seq (c_seq (c_region ?_))))
  iterate 3 refine yO rfl rfl rfl rfl ?_
  refine o_end [1, 29] rfl ?_
  refine x_then ?_
  refine c_cond rfl (fun h => ?_) (fun h => ?_)
  ·
   simp only [Xa, Xb, Xc, Xd, Xe, Xf, Xg, Xh, Xi, Xj, Xk, Xl, Xm, Xn, Xo, Xp] at h
   refine c_seq (c_region ?_)
   iterate 14 refine yO rfl rfl rfl rfl ?_
   refine o_end [2] rfl ?_
   refine x_then (c_ret (x_then_ret ?_))
   refine b_ret tok rfl ?_
   intro E w' hm _
   refine ⟨?_, hm.below (Vw.le.refl _)⟩
   show Ending.returned (.bool ((r.block == 0 && r.k == 0) && (r.text.toList == ByteArray.empty.toList))) = _
   rw [recB, hpre, if_pos h, empty_beq, Bool.true_and]
   congr 2
  ·
   simp only [Xa, Xb, Xc, Xd, Xe, Xf, Xg, Xh, Xi, Xj, Xk, Xl, Xm, Xn, Xo, Xp] at h
   refine c_skip (x_then (c_seq (c_region ?_)))
   iterate 25 refine yO rfl rfl rfl rfl ?_
   refine o_end [2] rfl ?_
   refine x_then (c_ret ?_)
   refine b_ret tok rfl ?_
   intro E w' hm _
   refine ⟨?_, hm.below (Vw.le.refl _)⟩
   show Ending.returned (.bool ((((decide (0 ≤ r.block) && decide (r.block < 64)) && decide (0 ≤ r.k)) && decide (r.k < 8)) && decide ((r.text.size : Int) ≤ 256))) = _
   rw [recB, hpre, if_neg (by omega), Bool.true_and]
   congr 2
   rw [Bool.eq_iff_iff]
   simp only [belowB, Bool.and_eq_true, decide_eq_true_eq]
   omega
theorem fldA_len : ∀ (ks acc : List Int) (r : ByteArray) {l : List Int} {q : ByteArray}, fldA acc r ks = some (l, q) → l.length = acc.length + ks.length
 | [], acc, r, l, q, h => by
  simp only [fldA, Option.some.injEq, Prod.mk.injEq] at h
  rw [← h.1]; rfl
 | k :: ks, acc, r, l, q, h => by
  rw [fldA] at h
  split at h
  · cases h
  ·
   have := fldA_len ks _ _ h
   rw [this, List.length_append, List.length_singleton, List.length_cons] <;> omega
def rWidths : List Int := [6, 6, 2, 1, 2]
abbrev recNo : Record := ⟨0, 0, 0, 0, ByteArray.empty, 0⟩
def recOfL : List Int → ByteArray → Record
 | [a, b, c, d, e], t => ⟨a, b, c, d, t, e⟩
 | _, _ => recNo
def readB (s : ByteArray) : Bool := match fieldsR 6 s rWidths with
 | some (l, t) => recB (recOfL l t)
 | none => false
def readV (s : ByteArray) : Record := if readB s = true then (match fieldsR 6 s rWidths with
 | some (l, t) => recOfL l t
 | none => recNo) else recNo
def readE (s : ByteArray) : Int := if readB s = true then 0 else 50
theorem five {l : List Int} (h : l.length = 5) : ∃ a b c d e, l = [a, b, c, d, e] := by
 match l, h with
 | [a, b, c, d, e], _ => exact ⟨a, b, c, d, e, rfl⟩
theorem fields_len {kind : Int} {s : ByteArray} {ks l : List Int} {q : ByteArray} (h : fieldsR kind s ks = some (l, q)) : l.length = ks.length := by
 rw [fieldsR] at h
 split at h
 · rw [fldA_len ks [] _ h]; simp
 · cases h
theorem widths_cR (b : Nat) (w : World) : Calls Tryz.prog 93 #[.pointer (some ⟨b, 0, none⟩)] w fun e w' => ∃ v, e = .returned v ∧ w'.ownsRow w.heap.size 3 1 v rWidths.length (rWidths.flatMap encI64) ∧ Below w.heap.size w w' := by
 refine enter (E := E0) (O := []) (nl := 0) (V := vw w) [.a (.v (.pointer (some ⟨b, 0, none⟩)))] Tryz.func93 rfl rfl (mem0 E0 0 w) rfl rfl ?_
 refine c_seq (c_region ?_)
 refine yO rfl rfl rfl rfl ?_
 refine o_end [] rfl ?_
 refine x_then (c_seq (c_region ?_))
 refine o_step rfl rfl rfl rfl rfl (s_bs tok 1 rfl rfl rfl) (fun _ _ => ?_)
 refine yO rfl rfl rfl rfl ?_
 refine o_end [2] rfl ?_
 refine x_then (c_ret ?_)
 refine b_ret tok rfl ?_
 intro E w' hm _
 exact ⟨_, rfl, hm.rowFresh (Vw.le.refl _) (l := 0) rfl, hm.below (Vw.le.refl _)⟩
theorem widths_cV (V : Vw) (b : Nat) (w : World) (hV : V.le (vw w)) : Calls Tryz.prog 93 #[.pointer (some ⟨b, 0, none⟩)] w fun e w' => ∃ x V', e = .returned x ∧ Below w.heap.size w w' ∧ Vext w.heap.size V V' w' ∧ SlOf V' encI64 1 x rWidths := by
 refine (widths_cR b w).mono ?_
 rintro e w' ⟨v, rfl, hown, hb⟩
 obtain ⟨V', hx, hsl⟩ := ownsRow_vext hV hb hown
 exact ⟨_, V', rfl, hb, hx, ⟨hsl, fun _ => rfl⟩⟩
theorem recRead_c (s : ByteArray) (hs : s.size ≤ maxLen) (w : World) : Calls Tryz.prog 83 #[S s] w fun e w' => e = .returned (.tuple #[(readV s).val, I (readE s)]) ∧ Below w.heap.size w w' := by
 refine enter (E := E0) (O := []) (nl := 0) (V := vw w) [.a (.v (S s))] Tryz.func83 rfl rfl (mem0 E0 0 w) rfl rfl ?_
 refine c_seq (c_region ?_)
 refine o_new tok rfl rfl rfl rfl ?_
 refine yO rfl rfl rfl rfl ?_
 refine o_end [0, 2] rfl ?_
 refine x_then (c_seq (c_region ?_))
 refine yO rfl rfl rfl rfl ?_
 refine o_new tok rfl rfl rfl rfl ?_
 refine yO rfl rfl rfl rfl ?_
 refine o_end [0, 2, 4] rfl ?_
 refine x_then (c_seq (c_region ?_))
 iterate 2 refine yO rfl rfl rfl rfl ?_
 refine o_callV ((fun x V' => SlOf V' encI64 1 x rWidths)) rfl rfl fnok93 rfl rfl (fun hg E w1 hm => by exact widths_cV (vw w) _ _ hm.leV) ?_
 rintro x V1 hle1 hx
 have hx1 := hx rfl
 refine o_callV (FVal 6 s rWidths) rfl rfl fnok82 rfl rfl (fun hg E w1 hm => by exact fval_of hm.leV (fields_c 6 s V1 x rWidths _ hs hm.leV hx1 (by decide))) ?_
 rintro y V2 hle2 hy
 have hle := hle1.trans hle2
 rcases hy rfl with ⟨l, t, v, hR, rfl, hsl⟩ | ⟨hR, rfl⟩
 rotate_left
 ·
  iterate 7 refine yO rfl rfl rfl rfl ?_
  refine o_end [2, 4, 5, 6, 7] rfl ?_
  refine x_then (c_seq (c_seq (c_region ?_)))
  iterate 2 refine yO rfl rfl rfl rfl ?_
  refine o_end [2, 4, 5, 6, 19] rfl ?_
  refine x_then ?_
  refine c_cond rfl (fun h => ?_) (fun h => ?_)
  ·
   refine c_seq (c_region ?_)
   refine yO rfl rfl rfl rfl ?_
   refine o_store tok rfl rfl rfl (by first | (repeat' first | exact trivial | exact rfl | apply And.intro); done | simp [onesP, oneP, lk, Value.oneCell']) ?_
   refine yO rfl rfl rfl rfl ?_
   refine o_end [2, 3] rfl ?_
   refine x_then (c_ret (x_then_ret ?_))
   refine b_ret tok rfl ?_
   intro E w' hm _
   refine ⟨?_, hm.below (hle)⟩
   have h1 : readB s = false := by rw [readB, hR]
   rw [readV, readE, if_neg (by simp [h1]), if_neg (by simp [h1])]
   rfl
  ·
   refine c_skip (x_then (c_seq ?_))
   refine c_held [] ([]) mixed (by repeat (first | exact oN | refine oC rfl ?_)) (by first | rfl | simp [okCels, allOk_plain]) ?_
   refine t_take 0 rfl (by kernel_rfl) rfl rfl rfl (yV rfl) rfl ?_
   refine t_take 1 rfl (by kernel_rfl) rfl rfl rfl (yV rfl) rfl ?_
   refine t_take 2 rfl (by kernel_rfl) rfl rfl rfl (yV rfl) rfl ?_
   refine t_take 3 rfl (by kernel_rfl) rfl rfl rfl (yV rfl) rfl ?_
   refine t_take 4 rfl (by kernel_rfl) rfl rfl rfl (yV rfl) rfl ?_
   refine t_take 5 rfl (by kernel_rfl) rfl rfl rfl (yV rfl) rfl ?_
   refine t_take 6 rfl (by kernel_rfl) rfl rfl rfl (yV rfl) rfl ?_
   exact absurd h (by decide)
 iterate 7 refine yO rfl rfl rfl rfl ?_
 refine o_end [2, 4, 5, 6, 7] rfl ?_
 refine x_then (c_seq (c_seq (c_region ?_)))
 iterate 2 refine yO rfl rfl rfl rfl ?_
 refine o_end [2, 4, 5, 6, 19] rfl ?_
 refine x_then ?_
 refine c_cond rfl (fun h => ?_) (fun h => ?_)
 ·
  refine c_seq (c_region ?_)
  refine yO rfl rfl rfl rfl ?_
  refine o_store tok rfl rfl rfl (by first | (repeat' first | exact trivial | exact rfl | apply And.intro); done | simp [onesP, oneP, lk, Value.oneCell']) ?_
  refine yO rfl rfl rfl rfl ?_
  refine o_end [2, 3] rfl ?_
  refine x_then (c_ret (x_then_ret ?_))
  refine b_ret tok rfl ?_
  exact absurd h (by decide)
 ·
  refine c_skip (x_then (c_seq ?_))
  refine c_held [] ([]) mixed (by repeat (first | exact oN | refine oC rfl ?_)) (by first | rfl | simp [okCels, allOk_plain]) ?_
  refine t_take 0 rfl (by kernel_rfl) rfl rfl rfl (yV rfl) rfl ?_
  refine t_take 1 rfl (by kernel_rfl) rfl rfl rfl (yV rfl) rfl ?_
  refine t_take 2 rfl (by kernel_rfl) rfl rfl rfl (yV rfl) rfl ?_
  refine t_take 3 rfl (by kernel_rfl) rfl rfl rfl (yV rfl) rfl ?_
  refine t_take 4 rfl (by kernel_rfl) rfl rfl rfl (yV rfl) rfl ?_
  refine t_take 5 rfl (by kernel_rfl) rfl rfl rfl (yV rfl) rfl ?_
  refine t_take 6 rfl (by kernel_rfl) rfl rfl rfl (yV rfl) rfl ?_
  clear h
  obtain ⟨a, b, c, d, e, rfl⟩ := five (fields_len hR)
  have hlt_a := lt_of_at (show [a, b, c, d, e][0]? = some a from rfl)
  refine t_take 7 rfl (by kernel_rfl) rfl rfl rfl (y_idx tok rfl (fun hg => hsl.sl) (fun hg => ⟨by omega, by omega⟩)) rfl ?_
  refine t_take 8 rfl (by kernel_rfl) rfl rfl rfl (y_lel tok (0) 0 (a) rfl (fun hg => hsl) (fun hg => (show [a, b, c, d, e][0]? = some a from rfl)) rfl rfl) rfl ?_
  refine t_take 9 rfl (by kernel_rfl) rfl rfl rfl (yV rfl) rfl ?_
  have hlt_b := lt_of_at (show [a, b, c, d, e][1]? = some b from rfl)
  refine t_take 10 rfl (by kernel_rfl) rfl rfl rfl (y_idx tok rfl (fun hg => hsl.sl) (fun hg => ⟨by omega, by omega⟩)) rfl ?_
  refine t_take 11 rfl (by kernel_rfl) rfl rfl rfl (y_lel tok (1) 0 (b) rfl (fun hg => hsl) (fun hg => (show [a, b, c, d, e][1]? = some b from rfl)) rfl rfl) rfl ?_
  refine t_take 12 rfl (by kernel_rfl) rfl rfl rfl (yV rfl) rfl ?_
  have hlt_c := lt_of_at (show [a, b, c, d, e][2]? = some c from rfl)
  refine t_take 13 rfl (by kernel_rfl) rfl rfl rfl (y_idx tok rfl (fun hg => hsl.sl) (fun hg => ⟨by omega, by omega⟩)) rfl ?_
  refine t_take 14 rfl (by kernel_rfl) rfl rfl rfl (y_lel tok (2) 0 (c) rfl (fun hg => hsl) (fun hg => (show [a, b, c, d, e][2]? = some c from rfl)) rfl rfl) rfl ?_
  refine t_take 15 rfl (by kernel_rfl) rfl rfl rfl (yV rfl) rfl ?_
  have hlt_d := lt_of_at (show [a, b, c, d, e][3]? = some d from rfl)
  refine t_take 16 rfl (by kernel_rfl) rfl rfl rfl (y_idx tok rfl (fun hg => hsl.sl) (fun hg => ⟨by omega, by omega⟩)) rfl ?_
  refine t_take 17 rfl (by kernel_rfl) rfl rfl rfl (y_lel tok (3) 0 (d) rfl (fun hg => hsl) (fun hg => (show [a, b, c, d, e][3]? = some d from rfl)) rfl rfl) rfl ?_
  refine t_take 18 rfl (by kernel_rfl) rfl rfl rfl (yV rfl) rfl ?_
  have hlt_e := lt_of_at (show [a, b, c, d, e][4]? = some e from rfl)
  refine t_take 19 rfl (by kernel_rfl) rfl rfl rfl (y_idx tok rfl (fun hg => hsl.sl) (fun hg => ⟨by omega, by omega⟩)) rfl ?_
  refine t_take 20 rfl (by kernel_rfl) rfl rfl rfl (y_lel tok (4) 0 (e) rfl (fun hg => hsl) (fun hg => (show [a, b, c, d, e][4]? = some e from rfl)) rfl rfl) rfl ?_
  refine t_take 21 rfl (by kernel_rfl) rfl rfl rfl (yV rfl) rfl ?_
  refine t_take 22 rfl (by kernel_rfl) rfl rfl rfl (yV rfl) rfl ?_
  refine t_take 23 rfl (by kernel_rfl) rfl rfl rfl (yV rfl) rfl ?_
  refine t_take 24 rfl (by kernel_rfl) rfl rfl rfl (yV rfl) rfl ?_
  refine t_go ?_
  refine h_one 25 (by kernel_rfl) ?_
  refine h_store 25 tok rfl rfl rfl rfl (by repeat' first | exact trivial | exact rfl | apply And.intro) (.inr ⟨(by repeat (first | exact oN | refine oC rfl ?_)), rfl, (by first | exact Vw.le.refl _ | assumption)⟩) ?_
  refine h_one 26 (by kernel_rfl) ?_
  refine yH 26 rfl rfl rfl rfl rfl ?_
  refine h_one 27 (by kernel_rfl) ?_
  refine yH 27 rfl rfl rfl rfl rfl ?_
  refine h_one 28 (by kernel_rfl) ?_
  refine yH 28 rfl rfl rfl rfl rfl ?_
  refine h_one 29 (by kernel_rfl) ?_
  refine h_store 29 tok rfl rfl rfl rfl (by repeat' first | exact trivial | exact rfl | apply And.intro) (.inr ⟨(by repeat (first | exact oN | refine oC rfl ?_)), rfl, (by first | exact Vw.le.refl _ | assumption)⟩) ?_
  refine h_one 30 (by kernel_rfl) ?_
  refine yH 30 rfl rfl rfl rfl rfl ?_
  refine h_one 31 (by kernel_rfl) ?_
  refine yH 31 rfl rfl rfl rfl rfl ?_
  refine h_one 32 (by kernel_rfl) ?_
  refine yH 32 rfl rfl rfl rfl rfl ?_
  refine h_one 33 (by kernel_rfl) ?_
  refine h_store 33 tok rfl rfl rfl rfl (by repeat' first | exact trivial | exact rfl | apply And.intro) (.inr ⟨(by repeat (first | exact oN | refine oC rfl ?_)), rfl, (by first | exact Vw.le.refl _ | assumption)⟩) ?_
  refine h_one 34 (by kernel_rfl) ?_
  refine yH 34 rfl rfl rfl rfl rfl ?_
  refine h_one 35 (by kernel_rfl) ?_
  refine yH 35 rfl rfl rfl rfl rfl ?_
  refine h_one 36 (by kernel_rfl) ?_
  refine yH 36 rfl rfl rfl rfl rfl ?_
  refine h_one 37 (by kernel_rfl) ?_
  refine h_store 37 tok rfl rfl rfl rfl (by repeat' first | exact trivial | exact rfl | apply And.intro) (.inr ⟨(by repeat (first | exact oN | refine oC rfl ?_)), rfl, (by first | exact Vw.le.refl _ | assumption)⟩) ?_
  refine h_one 38 (by kernel_rfl) ?_
  refine yH 38 rfl rfl rfl rfl rfl ?_
  refine h_one 39 (by kernel_rfl) ?_
  refine yH 39 rfl rfl rfl rfl rfl ?_
  refine h_one 40 (by kernel_rfl) ?_
  refine yH 40 rfl rfl rfl rfl rfl ?_
  refine h_one 41 (by kernel_rfl) ?_
  refine h_store 41 tok rfl rfl rfl rfl (by repeat' first | exact trivial | exact rfl | apply And.intro) (.inr ⟨(by repeat (first | exact oN | refine oC rfl ?_)), rfl, (by first | exact Vw.le.refl _ | assumption)⟩) ?_
  refine h_one 42 (by kernel_rfl) ?_
  refine yH 42 rfl rfl rfl rfl rfl ?_
  refine h_one 43 (by kernel_rfl) ?_
  refine yH 43 rfl rfl rfl rfl rfl ?_
  refine h_one 44 (by kernel_rfl) ?_
  refine yH 44 rfl rfl rfl rfl rfl ?_
  refine h_one 45 (by kernel_rfl) ?_
  refine h_store 45 tok rfl rfl rfl rfl (by repeat' first | exact trivial | exact rfl | apply And.intro) (.inr ⟨(by repeat (first | exact oN | refine oC rfl ?_)), rfl, (by first | exact Vw.le.refl _ | assumption)⟩) ?_
  refine h_done [2, 4] (by kernel_rfl) rfl ?_
  refine x_then (c_seq (c_seq (c_region ?_)))
  refine yO rfl rfl rfl rfl ?_
  have h0 : fieldsR 6 s rWidths = some ([a, b, c, d, e], t) := hR
  have hr : readB s = recB ⟨a, b, c, d, t, e⟩ := by rw [readB, h0]; rfl
  refine o_call (.a (.v _)) rfl rfl fnok94 rfl rfl rfl (fun hg E w1 hm => by exact entryMay_c ⟨a, b, c, d, t, e⟩ _ _ (hm.lit 1 _ _ rfl)) ?_
  refine yO rfl rfl rfl rfl ?_
  refine o_end [2, 4, 63] rfl ?_
  refine x_then ?_
  refine c_cond rfl (fun h => ?_) (fun h => ?_)
  ·
   simp only [Xa, Xb, Xc, Xd, Xe, Xf, Xg, Xh, Xi, Xj, Xk, Xl, Xm, Xn, Xo, Xp] at h
   refine c_seq (c_region ?_)
   refine yO rfl rfl rfl rfl ?_
   refine o_store tok rfl rfl rfl (by first | (repeat' first | exact trivial | exact rfl | apply And.intro); done | simp [onesP, oneP, lk, Value.oneCell']) ?_
   refine yO rfl rfl rfl rfl ?_
   refine o_end [2, 3] rfl ?_
   refine x_then (c_ret (x_then_ret ?_))
   refine b_ret tok rfl ?_
   intro E w' hm _
   refine ⟨?_, hm.below (hle)⟩
   rw [readV, readE, if_neg (by simp [hr, h]), if_neg (by simp [hr, h])]
   rfl
  ·
   simp only [Xa, Xb, Xc, Xd, Xe, Xf, Xg, Xh, Xi, Xj, Xk, Xl, Xm, Xn, Xo, Xp] at h
   refine c_skip (x_then (c_seq (c_region ?_)))
   iterate 4 refine yO rfl rfl rfl rfl ?_
   refine o_store tok rfl rfl rfl (by first | (repeat' first | exact trivial | exact rfl | apply And.intro); done | simp [onesP, oneP, lk, Value.oneCell']) ?_
   refine yO rfl rfl rfl rfl ?_
   refine o_end [2, 3] rfl ?_
   refine x_then (c_ret ?_)
   refine b_ret tok rfl ?_
   intro E w' hm _
   refine ⟨?_, hm.below (hle)⟩
   rw [readV, readE, if_pos (by rw [hr, h]), if_pos (by rw [hr, h]), h0]
   rfl
theorem refRead_c (s : ByteArray) (hs : s.size ≤ maxLen) (w : World) : Calls Tryz.prog 51 #[S s] w fun e w' => e = .returned (.tuple #[(readV s).val, I (readE s)]) ∧ Below w.heap.size w w' := by
 refine enter (E := E0) (O := []) (nl := 0) (V := vw w) [.a (.v (S s))] Tryz.func51 rfl rfl (mem0 E0 0 w) rfl rfl ?_
 refine c_seq (c_region ?_)
 refine o_new tok rfl rfl rfl rfl ?_
 refine yO rfl rfl rfl rfl ?_
 refine o_end [0, 2] rfl ?_
 refine x_then (c_seq (c_region ?_))
 refine yO rfl rfl rfl rfl ?_
 refine o_bs tok rfl rfl rfl rfl (fun b1 V1 hle1 hb1 => ?_)
 refine o_callV (FVal 6 s rWidths) rfl rfl fnok50 rfl rfl (fun hg E w1 hm => by exact fval_of hm.leV (refFields_c 6 s V1 _ rWidths _ hs hm.leV (SlOf.ofBlock (enc := encI64) (sz := 1) (l := rWidths) (hb1 rfl) rfl (fun _ => rfl) (Nat.le_refl _)) (by decide))) ?_
 rintro y V2 hle2 hy
 have hle := hle1.trans hle2
 rcases hy rfl with ⟨l, t, v, hR, rfl, hsl⟩ | ⟨hR, rfl⟩
 rotate_left
 ·
  iterate 7 refine yO rfl rfl rfl rfl ?_
  refine o_end [2, 4, 5, 6] rfl ?_
  refine x_then (c_seq (c_seq (c_region ?_)))
  iterate 2 refine yO rfl rfl rfl rfl ?_
  refine o_end [2, 4, 5, 16] rfl ?_
  refine x_then ?_
  refine c_cond rfl (fun h => ?_) (fun h => ?_)
  ·
   refine c_seq (c_region ?_)
   refine yO rfl rfl rfl rfl ?_
   refine o_store tok rfl rfl rfl (by first | (repeat' first | exact trivial | exact rfl | apply And.intro); done | simp [onesP, oneP, lk, Value.oneCell']) ?_
   refine yO rfl rfl rfl rfl ?_
   refine o_end [2, 3] rfl ?_
   refine x_then (c_ret (x_then_ret ?_))
   refine b_ret tok rfl ?_
   intro E w' hm _
   refine ⟨?_, hm.below (hle)⟩
   have h1 : readB s = false := by rw [readB, hR]
   rw [readV, readE, if_neg (by simp [h1]), if_neg (by simp [h1])]
   rfl
  ·
   refine c_skip (x_then (c_seq ?_))
   refine c_heldR mixed rfl (by repeat (first | exact oN | refine oC rfl ?_)) (by first | rfl | simp [okCels, allOk_plain]) ?_
   refine t_take 0 rfl (by kernel_rfl) rfl rfl rfl (yV rfl) rfl ?_
   exact absurd h (by decide)
 iterate 7 refine yO rfl rfl rfl rfl ?_
 refine o_end [2, 4, 5, 6] rfl ?_
 refine x_then (c_seq (c_seq (c_region ?_)))
 iterate 2 refine yO rfl rfl rfl rfl ?_
 refine o_end [2, 4, 5, 16] rfl ?_
 refine x_then ?_
 refine c_cond rfl (fun h => ?_) (fun h => ?_)
 ·
  refine c_seq (c_region ?_)
  refine yO rfl rfl rfl rfl ?_
  refine o_store tok rfl rfl rfl (by first | (repeat' first | exact trivial | exact rfl | apply And.intro); done | simp [onesP, oneP, lk, Value.oneCell']) ?_
  refine yO rfl rfl rfl rfl ?_
  refine o_end [2, 3] rfl ?_
  refine x_then (c_ret (x_then_ret ?_))
  refine b_ret tok rfl ?_
  exact absurd h (by decide)
 ·
  refine c_skip (x_then (c_seq ?_))
  refine c_heldR mixed rfl (by repeat (first | exact oN | refine oC rfl ?_)) (by first | rfl | simp [okCels, allOk_plain]) ?_
  refine t_take 0 rfl (by kernel_rfl) rfl rfl rfl (yV rfl) rfl ?_
  clear h
  obtain ⟨a, b, c, d, e, rfl⟩ := five (fields_len hR)
  have hlt_a := lt_of_at (show [a, b, c, d, e][0]? = some a from rfl)
  refine t_take 1 rfl (by kernel_rfl) rfl rfl rfl (y_idx tok rfl (fun hg => hsl.sl) (fun hg => ⟨by omega, by omega⟩)) rfl ?_
  refine t_take 2 rfl (by kernel_rfl) rfl rfl rfl (y_lel tok (0) 0 (a) rfl (fun hg => hsl) (fun hg => (show [a, b, c, d, e][0]? = some a from rfl)) rfl rfl) rfl ?_
  refine t_take 3 rfl (by kernel_rfl) rfl rfl rfl (yV rfl) rfl ?_
  have hlt_b := lt_of_at (show [a, b, c, d, e][1]? = some b from rfl)
  refine t_take 4 rfl (by kernel_rfl) rfl rfl rfl (y_idx tok rfl (fun hg => hsl.sl) (fun hg => ⟨by omega, by omega⟩)) rfl ?_
  refine t_take 5 rfl (by kernel_rfl) rfl rfl rfl (y_lel tok (1) 0 (b) rfl (fun hg => hsl) (fun hg => (show [a, b, c, d, e][1]? = some b from rfl)) rfl rfl) rfl ?_
  refine t_take 6 rfl (by kernel_rfl) rfl rfl rfl (yV rfl) rfl ?_
  have hlt_c := lt_of_at (show [a, b, c, d, e][2]? = some c from rfl)
  refine t_take 7 rfl (by kernel_rfl) rfl rfl rfl (y_idx tok rfl (fun hg => hsl.sl) (fun hg => ⟨by omega, by omega⟩)) rfl ?_
  refine t_take 8 rfl (by kernel_rfl) rfl rfl rfl (y_lel tok (2) 0 (c) rfl (fun hg => hsl) (fun hg => (show [a, b, c, d, e][2]? = some c from rfl)) rfl rfl) rfl ?_
  refine t_take 9 rfl (by kernel_rfl) rfl rfl rfl (yV rfl) rfl ?_
  have hlt_d := lt_of_at (show [a, b, c, d, e][3]? = some d from rfl)
  refine t_take 10 rfl (by kernel_rfl) rfl rfl rfl (y_idx tok rfl (fun hg => hsl.sl) (fun hg => ⟨by omega, by omega⟩)) rfl ?_
  refine t_take 11 rfl (by kernel_rfl) rfl rfl rfl (y_lel tok (3) 0 (d) rfl (fun hg => hsl) (fun hg => (show [a, b, c, d, e][3]? = some d from rfl)) rfl rfl) rfl ?_
  refine t_take 12 rfl (by kernel_rfl) rfl rfl rfl (yV rfl) rfl ?_
  have hlt_e := lt_of_at (show [a, b, c, d, e][4]? = some e from rfl)
  refine t_take 13 rfl (by kernel_rfl) rfl rfl rfl (y_idx tok rfl (fun hg => hsl.sl) (fun hg => ⟨by omega, by omega⟩)) rfl ?_
  refine t_take 14 rfl (by kernel_rfl) rfl rfl rfl (y_lel tok (4) 0 (e) rfl (fun hg => hsl) (fun hg => (show [a, b, c, d, e][4]? = some e from rfl)) rfl rfl) rfl ?_
  refine t_take 15 rfl (by kernel_rfl) rfl rfl rfl (yV rfl) rfl ?_
  refine t_take 16 rfl (by kernel_rfl) rfl rfl rfl (yV rfl) rfl ?_
  refine t_go ?_
  refine h_one 17 (by kernel_rfl) ?_
  refine h_new 17 tok rfl rfl rfl rfl rfl rfl ?_
  refine h_one 18 (by kernel_rfl) ?_
  refine h_store 18 tok rfl rfl rfl rfl (by repeat' first | exact trivial | exact rfl | apply And.intro) (.inr ⟨(by repeat (first | exact oN | refine oC rfl ?_)), rfl, (by first | exact Vw.le.refl _ | assumption)⟩) ?_
  refine h_done [2, 7] (by kernel_rfl) rfl ?_
  refine x_then (c_seq (c_seq (c_region ?_)))
  refine yO rfl rfl rfl rfl ?_
  have h0 : fieldsR 6 s rWidths = some ([a, b, c, d, e], t) := hR
  have hr : readB s = recB ⟨a, b, c, d, t, e⟩ := by rw [readB, h0]; rfl
  refine o_call (.a (.v _)) rfl rfl fnok67 rfl rfl rfl (fun hg E w1 hm => by exact refRecMay_c ⟨a, b, c, d, t, e⟩ _) ?_
  refine yO rfl rfl rfl rfl ?_
  refine o_end [2, 7, 37] rfl ?_
  refine x_then ?_
  refine c_cond rfl (fun h => ?_) (fun h => ?_)
  ·
   simp only [Xa, Xb, Xc, Xd, Xe, Xf, Xg, Xh, Xi, Xj, Xk, Xl, Xm, Xn, Xo, Xp] at h
   refine c_seq (c_region ?_)
   refine yO rfl rfl rfl rfl ?_
   refine o_store tok rfl rfl rfl (by first | (repeat' first | exact trivial | exact rfl | apply And.intro); done | simp [onesP, oneP, lk, Value.oneCell']) ?_
   refine yO rfl rfl rfl rfl ?_
   refine o_end [2, 3] rfl ?_
   refine x_then (c_ret (x_then_ret ?_))
   refine b_ret tok rfl ?_
   intro E w' hm _
   refine ⟨?_, hm.below (hle)⟩
   rw [readV, readE, if_neg (by simp [hr, h]), if_neg (by simp [hr, h])]
   rfl
  ·
   simp only [Xa, Xb, Xc, Xd, Xe, Xf, Xg, Xh, Xi, Xj, Xk, Xl, Xm, Xn, Xo, Xp] at h
   refine c_skip (x_then (c_seq (c_region ?_)))
   refine yO rfl rfl rfl rfl ?_
   refine o_store tok rfl rfl rfl (by first | (repeat' first | exact trivial | exact rfl | apply And.intro); done | simp [onesP, oneP, lk, Value.oneCell']) ?_
   refine yO rfl rfl rfl rfl ?_
   refine o_end [2, 3] rfl ?_
   refine x_then (c_ret ?_)
   refine b_ret tok rfl ?_
   intro E w' hm _
   refine ⟨?_, hm.below (hle)⟩
   rw [readV, readE, if_pos (by rw [hr, h]), if_pos (by rw [hr, h]), h0]
   rfl
def isB (s : ByteArray) (key lsn : Int) : Bool := readB s && decide ((readV s).key = key) && decide ((readV s).lsn = lsn)
def isV (s : ByteArray) (key lsn : Int) : Record := if isB s key lsn = true then readV s else recNo
theorem isB_iff (s : ByteArray) (key lsn : Int) : ((readE s != 0) || ((readV s).key != key) || ((readV s).lsn != lsn)) = !isB s key lsn := by
 unfold isB readE
 cases readB s with
 | true => rw [Bool.eq_iff_iff]; simp [or_assoc]
 | false => rfl
theorem recIs_c (s : ByteArray) (key lsn : Int) (hs : s.size ≤ maxLen) (w : World) : Calls Tryz.prog 73 #[S s, I key, I lsn] w fun e w' => e = .returned (.tuple #[(isV s key lsn).val, .bool (isB s key lsn)]) ∧ Below w.heap.size w w' := by
 refine enter (E := E0) (O := []) (nl := 0) (V := vw w) [.a (.v (S s)), .a (.v (I key)), .a (.v (I lsn))] Tryz.func73 rfl rfl (mem0 E0 0 w) rfl rfl ?_
 refine c_seq (c_region ?_)
 refine o_new tok rfl rfl rfl rfl ?_
 refine yO rfl rfl rfl rfl ?_
 refine o_end [0, 1, 2, 6] rfl ?_
 refine x_then (c_seq (c_region ?_))
 refine yO rfl rfl rfl rfl ?_
 refine o_call (.a (.v _)) rfl rfl fnok83 rfl rfl rfl (fun hg E w1 hm => by exact recRead_c s hs _) ?_
 iterate 3 refine yO rfl rfl rfl rfl ?_
 refine o_new tok rfl rfl rfl rfl ?_
 refine o_store tok rfl rfl rfl (by first | (repeat' first | exact trivial | exact rfl | apply And.intro); done | simp [onesP, oneP, lk, Value.oneCell']) ?_
 refine yO rfl rfl rfl rfl ?_
 refine o_end [1, 2, 6, 8, 9] rfl ?_
 refine x_then (c_seq (c_seq (c_region ?_)))
 iterate 14 refine yO rfl rfl rfl rfl ?_
 refine o_end [6, 8, 28] rfl ?_
 refine x_then ?_
 refine c_cond rfl (fun h => ?_) (fun h => ?_)
 ·
  refine c_seq (c_region ?_)
  refine yO rfl rfl rfl rfl ?_
  refine o_store tok rfl rfl rfl (by first | (repeat' first | exact trivial | exact rfl | apply And.intro); done | simp [onesP, oneP, lk, Value.oneCell']) ?_
  refine yO rfl rfl rfl rfl ?_
  refine o_end [6, 7] rfl ?_
  refine x_then (c_ret (x_then_ret ?_))
  refine b_ret tok rfl ?_
  rw [isB_iff] at h
  simp at h
  intro E w' hm _
  refine ⟨?_, hm.below (Vw.le.refl _)⟩
  rw [isV, h]
  rfl
 ·
  refine c_skip (x_then (c_seq (c_region ?_)))
  refine yO rfl rfl rfl rfl ?_
  refine o_store tok rfl rfl rfl (by first | (repeat' first | exact trivial | exact rfl | apply And.intro); done | simp [onesP, oneP, lk, Value.oneCell']) ?_
  refine yO rfl rfl rfl rfl ?_
  refine o_end [6, 7] rfl ?_
  refine x_then (c_ret ?_)
  refine b_ret tok rfl ?_
  rw [isB_iff] at h
  simp at h
  intro E w' hm _
  refine ⟨?_, hm.below (Vw.le.refl _)⟩
  rw [isV, h]
  rfl
theorem refIs_c (s : ByteArray) (key lsn : Int) (hs : s.size ≤ maxLen) (w : World) : Calls Tryz.prog 45 #[S s, I key, I lsn] w fun e w' => e = .returned (.tuple #[(isV s key lsn).val, .bool (isB s key lsn)]) ∧ Below w.heap.size w w' := by
 refine enter (E := E0) (O := []) (nl := 0) (V := vw w) [.a (.v (S s)), .a (.v (I key)), .a (.v (I lsn))] Tryz.func45 rfl rfl (mem0 E0 0 w) rfl rfl ?_
 refine c_seq (c_region ?_)
 refine o_new tok rfl rfl rfl rfl ?_
 refine yO rfl rfl rfl rfl ?_
 refine o_end [0, 1, 2, 6] rfl ?_
 refine x_then (c_seq (c_region ?_))
 refine yO rfl rfl rfl rfl ?_
 refine o_call (.a (.v _)) rfl rfl fnok51 rfl rfl rfl (fun hg E w1 hm => by exact refRead_c s hs _) ?_
 iterate 3 refine yO rfl rfl rfl rfl ?_
 refine o_new tok rfl rfl rfl rfl ?_
 refine o_store tok rfl rfl rfl (by first | (repeat' first | exact trivial | exact rfl | apply And.intro); done | simp [onesP, oneP, lk, Value.oneCell']) ?_
 refine yO rfl rfl rfl rfl ?_
 refine o_end [1, 2, 6, 8, 9] rfl ?_
 refine x_then (c_seq (c_seq (c_region ?_)))
 iterate 14 refine yO rfl rfl rfl rfl ?_
 refine o_end [6, 8, 28] rfl ?_
 refine x_then ?_
 refine c_cond rfl (fun h => ?_) (fun h => ?_)
 ·
  refine c_seq (c_region ?_)
  refine yO rfl rfl rfl rfl ?_
  refine o_store tok rfl rfl rfl (by first | (repeat' first | exact trivial | exact rfl | apply And.intro); done | simp [onesP, oneP, lk, Value.oneCell']) ?_
  refine yO rfl rfl rfl rfl ?_
  refine o_end [6, 7] rfl ?_
  refine x_then (c_ret (x_then_ret ?_))
  refine b_ret tok rfl ?_
  rw [isB_iff] at h
  simp at h
  intro E w' hm _
  refine ⟨?_, hm.below (Vw.le.refl _)⟩
  rw [isV, h]
  rfl
 ·
  refine c_skip (x_then (c_seq (c_region ?_)))
  refine yO rfl rfl rfl rfl ?_
  refine o_store tok rfl rfl rfl (by first | (repeat' first | exact trivial | exact rfl | apply And.intro); done | simp [onesP, oneP, lk, Value.oneCell']) ?_
  refine yO rfl rfl rfl rfl ?_
  refine o_end [6, 7] rfl ?_
  refine x_then (c_ret ?_)
  refine b_ret tok rfl ?_
  rw [isB_iff] at h
  simp at h
  intro E w' hm _
  refine ⟨?_, hm.below (Vw.le.refl _)⟩
  rw [isV, h]
  rfl
theorem overL_all {news xs : List Value} (h : news.length = xs.length) : overL 0 news xs = news := by
 simp [overL, h]
theorem and255 {x : Nat} (h : x < 9223372036854775808) : bits .and .i64 (x : Int) 255 = ((x % 256 : Nat) : Int) := by
 have := i64_and x 255 h (by omega)
 rw [nat_mask8] at this
 exact this
theorem numPut_c (V : Vw) (bv : Value) (bl : List UInt8) (k : Int) (lv : Value) (ls : List Int) (w : World) (hV : V.le (vw w)) (hb : SlOf V encByte 1 bv bl) (hl : SlOf V encI64 1 lv ls)
  (hbn : bl.length ≤ 1099511627776) (hln : ls.length ≤ 1099511627776) : Calls Tryz.prog 108 #[bv, I k, lv] w (PutPost bl k ls w) := by
 have hb' := hb.mono hV
 have hl' := hl.mono hV
 refine enter (E := E0) (O := []) (nl := 0) (V := vw w) [.a (.v bv), .a (.v (I k)), .a (.v lv)] Tryz.func108 rfl rfl (mem0 E0 0 w) rfl rfl ?_
 refine c_seq (c_region ?_)
 iterate 2 refine yO rfl rfl rfl rfl ?_
 refine o_end [0, 1, 2] rfl ?_
 refine x_then (c_seq (c_seq (c_region ?_)))
 refine yO rfl rfl rfl rfl ?_
 refine o_call (.a (.v _)) rfl rfl fnok104 rfl rfl rfl (fun hg E w1 hm => by exact widthMay_c _ _) ?_
 refine yO rfl rfl rfl rfl ?_
 refine o_end [0, 1, 2, 14] rfl ?_
 refine x_then ?_
 refine c_cond rfl (fun h => ?_) (fun h => ?_)
 ·
  simp only [Xa, Xb, Xc, Xd, Xe, Xf, Xg, Xh, Xi, Xj, Xk, Xl, Xm, Xn, Xo, Xp] at h
  refine c_seq (c_region ?_)
  iterate 2 refine yO rfl rfl rfl rfl ?_
  refine o_end [6, 7] rfl ?_
  refine x_then (c_ret (x_then_ret ?_))
  refine b_ret tok rfl ?_
  intro E w' hm _
  exact ⟨.inr ⟨by rw [putOk, h]; rfl, rfl⟩, hm.below (Vw.le.refl _)⟩
 ·
  simp only [Xa, Xb, Xc, Xd, Xe, Xf, Xg, Xh, Xi, Xj, Xk, Xl, Xm, Xn, Xo, Xp] at h
  refine c_skip (x_then (c_seq (c_region ?_)))
  refine yO rfl rfl rfl rfl ?_
  have hw := h
  have hk := hw
  simp only [widthB, Bool.and_eq_true, decide_eq_true_eq] at hk
  obtain ⟨m, rfl⟩ : ∃ m : Nat, k = m := ⟨k.toNat, by omega⟩
  clear h
  refine o_yield rfl rfl rfl (y_len tok rfl (fun hg => hb'.sl)) ?_
  refine yO rfl rfl rfl rfl ?_
  refine o_yield rfl rfl rfl (y_len tok rfl (fun hg => hb'.sl)) ?_
  iterate 2 refine yO rfl rfl rfl rfl ?_
  refine o_yield rfl rfl rfl (y_len tok rfl (fun hg => hl'.sl)) ?_
  iterate 2 refine yO rfl rfl rfl rfl ?_
  obtain ⟨cap, hcap⟩ : ∃ cap, bl.length + m * ls.length = cap := ⟨_, rfl⟩
  have hcap2 : m * ls.length ≤ 6 * ls.length := Nat.mul_le_mul_right _ (by omega)
  rw [show IntKind.i64.wrap ((bl.length : Int) + IntKind.i64.wrap ((m : Int) * (ls.length : Int))) = (cap : Int) by
   rw [← Int.natCast_mul, wrapI (n := ((m * ls.length : Nat) : Int)) (by omega) (by omega), wrapI (by omega) (by omega)]; omega]
  refine o_step rfl rfl rfl rfl rfl (s_mk tok bl.length cap rfl rfl rfl (by omega) (by dsimp only; omega) (by simp only [maxLen]; omega)) (fun _ _ => ?_)
  refine yO rfl rfl rfl rfl ?_
  refine o_end [0, 1, 2, 8] rfl ?_
  refine x_then (c_seq (c_region ?_))
  iterate 2 refine yO rfl rfl rfl rfl ?_
  refine o_step rfl rfl rfl rfl rfl (s_cp tok (bl.flatMap encByte) rfl (fun E w hm => hb'.sl.src hm.get) (bytes_ones _) (Nat.le_refl _)) (fun _ _ => ?_)
  refine o_end [1, 2, 8] rfl ?_
  refine x_then (c_seq (c_seq (c_region ?_)))
  refine yO rfl rfl rfl rfl ?_
  rw [overL_all (by rw [repZ_length, bytes_flat]; simp)]
  have e0 : putL bl m (ls.take 0) = bl := by simp [putL]
  refine o_yield rfl rfl rfl (y_len tok rfl (fun hg => hl'.sl)) ?_
  refine yO rfl rfl rfl rfl ?_
  refine o_end [1, 8, 28, 29, 30] rfl ?_
  refine x_then (c_block ?_)
  refine c_loopK [1, 28, 29] [0] rfl rfl (σ := Nat) (fun i => [(8, .a (.row 0)), (30, .a (.v (I i)))]) (fun i => [(0, .row 5 1 (putL bl m (ls.take i)).length ((putL bl m (ls.take i)).flatMap encByte))]) (fun i => i ≤ ls.length ∧ (∀ j n, j < i → ls[j]? = some n → fitsB n m = true) ∧ (putL bl m (ls.take i)).length ≤ bl.length + 6 * i) (fun i => ls.length - i) (0) (⟨by omega, by omega, by simp [putL]⟩) (by repeat (first | exact SubF.nil | refine SubF.cons rfl ?_ | refine SubF.cons (by simp only [e0]; first | done | rfl) ?_)) (by repeat (first | exact SubO.nil | refine SubO.cons rfl ?_ | refine SubO.cons (by simp only [e0]; first | done | rfl) ?_)) rfl ?_
  rintro i ⟨hi, hall, hsz⟩
  refine c_seq (c_region ?_)
  refine yO rfl rfl rfl rfl ?_
  refine o_end [1, 8, 28, 29, 30, 31] rfl ?_
  refine x_then (c_seq ?_)
  refine c_cond rfl (fun h => ?_) (fun h => ?_)
  ·
   simp only [Xa, Xb, Xc, Xd, Xe, Xf, Xg, Xh, Xi, Xj, Xk, Xl, Xm, Xn, Xo, Xp] at h
   refine c_skip (x_then (c_seq (c_block (c_seq (c_region ?_)))))
   obtain ⟨n, h_n⟩ := hl'.at (k := i) (by omega)
   have hlt_n := lt_of_at h_n
   refine o_yield rfl rfl rfl (y_idx tok rfl (fun hg => hl'.sl) (fun hg => ⟨by omega, by omega⟩)) ?_
   refine o_yield rfl rfl rfl (y_lel tok (i) 0 (n) rfl (fun hg => hl') (fun hg => h_n) rfl rfl) ?_
   refine yO rfl rfl rfl rfl ?_
   refine o_end [1, 8, 10, 28, 29, 30] rfl ?_
   refine x_then (c_seq (c_seq (c_region ?_)))
   iterate 2 refine yO rfl rfl rfl rfl ?_
   refine o_call (.a (.v _)) rfl rfl fnok110 rfl rfl rfl (fun hg E w1 hm => by exact numFits_c _ _ _) ?_
   refine yO rfl rfl rfl rfl ?_
   refine o_end [1, 8, 10, 28, 29, 30, 37] rfl ?_
   refine x_then ?_
   refine c_cond rfl (fun h => ?_) (fun h => ?_)
   ·
    simp only [Xa, Xb, Xc, Xd, Xe, Xf, Xg, Xh, Xi, Xj, Xk, Xl, Xm, Xn, Xo, Xp] at h
    refine c_seq (c_region ?_)
    iterate 2 refine yO rfl rfl rfl rfl ?_
    refine o_end [6, 7] rfl ?_
    refine x_then (c_ret (x_then_ret (x_block_ret (x_then_ret (x_then_ret ?_)))))
    refine x_block_ret (x_then_ret ?_)
    refine b_ret tok rfl ?_
    intro E w' hm _
    exact ⟨.inr ⟨putOk_no h_n h, rfl⟩, hm.below (Vw.le.refl _)⟩
   ·
    simp only [Xa, Xb, Xc, Xd, Xe, Xf, Xg, Xh, Xi, Xj, Xk, Xl, Xm, Xn, Xo, Xp] at h
    refine c_skip (x_then (c_seq (c_region ?_)))
    iterate 2 refine yO rfl rfl rfl rfl ?_
    refine o_end [1, 8, 10, 28, 29, 30, 38, 39] rfl ?_
    refine x_then (c_block ?_)
    have hf := h
    clear h
    have hf' := hf
    simp only [fitsB, Bool.and_eq_true, decide_eq_true_eq] at hf'
    obtain ⟨⟨_, hn0⟩, hn1⟩ := hf'
    obtain ⟨q, rfl⟩ : ∃ q : Nat, n = q := ⟨n.toNat, by omega⟩
    have hq : q ≤ 1099511627776 := by unfold mostN at hn1; omega
    have el : leTake q 0 = [] := rfl
    refine c_loopK [1, 10, 28, 29, 30, 38] [0] rfl rfl (σ := Nat) (fun j => [(8, .a (.row 0)), (39, .a (.v (I j)))]) (fun j => [(0, .row 5 1 (putL bl m (ls.take i) ++ leTake q j).length ((putL bl m (ls.take i) ++ leTake q j).flatMap encByte))]) (fun j => j ≤ m) (fun j => m - j) (0) (by omega) (by repeat (first | exact SubF.nil | refine SubF.cons rfl ?_ | refine SubF.cons (by simp only [el, List.append_nil]; first | done | rfl) ?_)) (by repeat (first | exact SubO.nil | refine SubO.cons rfl ?_ | refine SubO.cons (by simp only [el, List.append_nil]; first | done | rfl) ?_)) rfl ?_
    rintro j hj
    refine c_seq (c_region ?_)
    refine yO rfl rfl rfl rfl ?_
    refine o_end [1, 8, 10, 28, 29, 30, 38, 39, 40] rfl ?_
    refine x_then (c_seq ?_)
    refine c_cond rfl (fun h => ?_) (fun h => ?_)
    ·
     simp only [Xa, Xb, Xc, Xd, Xe, Xf, Xg, Xh, Xi, Xj, Xk, Xl, Xm, Xn, Xo, Xp] at h
     refine c_skip (x_then (c_seq (c_block (c_seq (c_region ?_)))))
     iterate 2 refine yO rfl rfl rfl rfl ?_
     refine o_end [1, 8, 10, 11, 28, 29, 30, 38, 39] rfl ?_
     refine x_then (c_region ?_)
     iterate 4 refine yO rfl rfl rfl rfl ?_
     have hqj : q / pw j ≤ q := Nat.div_le_self _ _
     have hlt := leTake_succ q j
     obtain ⟨r, hr⟩ : ∃ r, q / pw j = r := ⟨_, rfl⟩
     have hsh : (q : Int) / 2 ^ (8 * (j : Int)).toNat = (r : Int) := by
      rw [show (8 * (j : Int)).toNat = 8 * j by omega, ← hr, pw_two]
      norm_cast
     rw [hr] at hqj hlt
     rw [wrapI (n := 8 * (j : Int)) (by omega) (by omega)]
     refine o_yield rfl rfl rfl (y_shr rfl (fun hg => ⟨by omega, by show 8 * (j : Int) ≤ 64; omega⟩)) ?_
     iterate 2 refine yO rfl rfl rfl rfl ?_
     rw [hsh, and255 (x := r) (by omega), wrapU8 (n := r % 256) (by omega), ← ofNat_mod]
     refine o_step rfl rfl rfl rfl rfl (s_bs tok 1 rfl rfl rfl) (fun _ _ => ?_)
     refine o_step rfl rfl rfl rfl rfl (s_app tok [.int .u8 (UInt8.ofNat (r % 256)).toNat] rfl (fun E w hm => ownsRow_src (hm.row 1 _ _ _ _ rfl)) (fun _ _ _ => bytes_ones [_]) (by dsimp only; simp only [List.length_append, leTake_len]; omega)) (fun _ _ => ?_)
     refine yO rfl rfl rfl rfl ?_
     refine o_end [1, 8, 10, 28, 29, 30, 38, 39] rfl ?_
     refine x_block (x_then (c_region ?_))
     iterate 2 refine yO rfl rfl rfl rfl ?_
     refine o_end [1, 8, 10, 28, 29, 30, 38, 39] rfl ?_
     refine x_then ?_
     rw [flat_snoc, List.append_assoc, ← hlt, show (putL bl m (ls.take i) ++ leTake q j).length + 1 = (putL bl m (ls.take i) ++ leTake q (j + 1)).length by simp only [List.length_append, leTake_len]; omega]
     refine k_swap 0 2 rfl ?_
     rw [wrapI (n := (j : Int) + 1) (by omega) (by omega)]
     refine x_round (j + 1) (by omega) (by first | omega | (dsimp only; omega)) (by repeat (first | exact fN | refine fC rfl ?_)) (by repeat (first | exact oN | refine oC rfl ?_)) rfl (Vw.le.refl _)
    ·
     simp only [Xa, Xb, Xc, Xd, Xe, Xf, Xg, Xh, Xi, Xj, Xk, Xl, Xm, Xn, Xo, Xp] at h
     refine c_exit (x_then_exit (x_then_exit (x_block_hit (x_block (x_then ?_)))))
     refine c_region ?_
     iterate 2 refine yO rfl rfl rfl rfl ?_
     refine o_end [1, 8, 28, 29, 30] rfl ?_
     refine x_then ?_
     have hjm : j = m := by omega
     subst hjm
     have hnew : putL bl j (ls.take i) ++ leTake q j = putL bl j (ls.take (i + 1)) := by
      rw [take_succ_at h_n, putL, putL, List.flatMap_append, List.append_assoc]
      simp [leB]
     have hsz2 : (putL bl j (ls.take (i + 1))).length ≤ bl.length + 6 * (i + 1) := by rw [← hnew, List.length_append, leTake_len]; omega
     rw [hnew, wrapI (n := (i : Int) + 1) (by omega) (by omega)]
     refine x_round (i + 1) (⟨by omega, ahead_succ h_n hall hf, hsz2⟩) (by first | omega | (dsimp only; omega)) (by repeat (first | exact fN | refine fC rfl ?_)) (by repeat (first | exact oN | refine oC rfl ?_)) rfl (Vw.le.refl _)
  ·
   simp only [Xa, Xb, Xc, Xd, Xe, Xf, Xg, Xh, Xi, Xj, Xk, Xl, Xm, Xn, Xo, Xp] at h
   refine c_exit (x_then_exit (x_then_exit (x_block_hit (x_then (c_seq ?_)))))
   refine c_region ?_
   iterate 3 refine yO rfl rfl rfl rfl ?_
   refine o_end [6, 7] rfl ?_
   refine x_then (c_ret ?_)
   refine b_ret tok rfl ?_
   have hil : i = ls.length := by omega
   subst hil
   rw [List.take_length]
   intro E w' hm _
   have hok : putOk m ls = true := by
    rw [putOk, hw, Bool.true_and]
    exact all_of_ahead hall
   exact ⟨.inl ⟨hok, E.κ 0, rfl, hm.rowFresh (Vw.le.refl _) (l := 0) rfl⟩, hm.below (Vw.le.refl _)⟩
section
variable {o : Oper} {n : Nat} {F : Frame0} {C : List Nat} {O : Go.Eng.Own} {nl : Nat} {V : Vw}
theorem s_numPut {p : List (Nat × Bool)} (bl : List UInt8) (k : Int) (ls : List Int) {ss : List SV} (hv : evalC F p o.op = some (108, ss)) (hok : putOk k ls = true)
  (hbn : bl.length ≤ 1099511627776) (hln : ls.length ≤ 1099511627776)
  (hargs : ∀ E w, Mem E O nl V w → ∃ bv lv, ss.map (SV.den E) = [bv, I k, lv] ∧ SlOf (vw w) encByte 1 bv bl ∧ SlOf (vw w) encI64 1 lv ls) :
  StepTo Tryz.prog o p n F C O nl V (σ := Unit) (fun _ => True) (fun _ => .tup [.row nl, .v (I 0)]) (fun _ => (nl, .row 5 1 (putL bl k ls).length ((putL bl k ls).flatMap encByte)) :: O) (nl + 1) (fun _ => V) := by
 refine s_callR (fun _ => True) (fun _ => .tup [.row nl, .v (I 0)]) 5 1 (fun _ => (putL bl k ls).length) (fun _ => (putL bl k ls).flatMap encByte) hv fnok108 (fun _ => by simp [SV.ok, allOk, A.ok, blt_iff]) ?_
 intro E w hm
 obtain ⟨bv, lv, ha, hb, hl⟩ := hargs E w hm
 rw [ha]
 refine (numPut_c (vw w) bv bl k lv ls w (Vw.le.refl _) hb hl hbn hln).mono ?_
 rintro e w' ⟨⟨_, v, rfl, hown⟩ | ⟨hno, _⟩, hbl⟩
 · exact ⟨(), v, by simp [SV.den, A.den, Env.setκ], hown, hbl, trivial⟩
 · rw [hok] at hno; cases hno
end
theorem bput_c (k : Int) (bl : List UInt8) (bv : Value) (ls : List Int) (lv : Value) (b e0 : Nat) (tl : List Value) (w : World) (hb : w.heap[b]? = some (.cells (bv :: I 0 :: tl).toArray e0 (0, 0)))
  (hs : SlOf ((vw w).del b) encByte 1 bv bl) (hl : SlOf ((vw w).del b) encI64 1 lv ls) (hok : putOk k ls = true) (hbn : bl.length ≤ 1099511627776) (hln : ls.length ≤ 1099511627776) :
  Calls Tryz.prog 101 #[.pointer (some ⟨b, 0, none⟩), I k, lv] w fun e w' => e = .returned (.tuple #[]) ∧ ∃ v, Go.Eng.Touch (· = b) w w' ∧ w'.ownsRow w.heap.size 5 1 v (putL bl k ls).length ((putL bl k ls).flatMap encByte) ∧
   w'.heap[b]? = some (.cells (v :: I 0 :: tl).toArray e0 (0, 0)) := by
 refine enter1 [.a (.ptr 0 0), .a (.v (I k)), .a (.v lv)] hb Tryz.func101 rfl rfl rfl rfl ?_
 refine c_seq (c_region ?_)
 iterate 6 refine yO rfl rfl rfl rfl ?_
 refine o_step rfl rfl rfl rfl rfl (s_numPut bl k ls rfl hok hbn hln (fun E w1 hm => ⟨bv, lv, rfl, hs.mono hm.leV, hl.mono hm.leV⟩)) (fun _ _ => ?_)
 iterate 5 refine yO rfl rfl rfl rfl ?_
 refine o_end [0, 6, 7] rfl ?_
 refine x_then (c_seq (c_seq (c_region ?_)))
 iterate 2 refine yO rfl rfl rfl rfl ?_
 refine o_end [0, 6, 19] rfl ?_
 refine x_then ?_
 refine c_cond rfl (fun h => ?_) (fun h => ?_)
 · exact absurd h (by decide)
 ·
  refine c_skip (x_then (c_region ?_))
  iterate 4 refine yO rfl rfl rfl rfl ?_
  refine o_store tok rfl rfl rfl (by first | (repeat' first | exact trivial | exact rfl | apply And.intro); done | simp [onesP, oneP, lk, Value.oneCell']) ?_
  refine o_end [] rfl ?_
  refine b_end tok rfl ?_
  intro E w' hm _
  obtain ⟨h1, h2⟩ := back1 hm (Vw.le.refl _) rfl rfl rfl
  refine ⟨rfl, E.κ 3, h1, hm.rowFreshD (Vw.le.refl _) (l0 := 0) rfl (hm.pin 1 0 _ rfl).1 (l := 3) rfl, ?_⟩
  rw [h2]
  simp only [List.map_cons, (den_plain E tl).1]
  rfl
section
variable {o : Oper} {n : Nat} {F : Frame0} {C : List Nat} {O : Go.Eng.Own} {nl : Nat} {V : Vw}
theorem s_bput {p : List (Nat × Bool)} (l r e0 e1 : Nat) (bl : List UInt8) (k : Int) (ls : List Int) (tl : List Value) (ss : List SV) (hv : evalC F p o.op = some (101, ss)) (hss : ∀ E, ∃ lv, ss.map (SV.den E) = [.pointer (some ⟨E.ρ l, 0, none⟩), I k, lv] ∧ ∀ w, Mem E O nl V w → SlOf ((vw w).del (E.ρ l)) encI64 1 lv ls)
  (hl : lk O l = some (.lit (.row r :: .v (I 0) :: tl.map .v) e0)) (hr : lk O r = some (.row e1 1 bl.length (bl.flatMap encByte))) (hok : putOk k ls = true) (hbn : bl.length ≤ 1099511627776) (hln : ls.length ≤ 1099511627776) :
  StepTo Tryz.prog o p n F C O nl V (σ := Unit) (fun _ => True) (fun _ => .tup []) (fun _ => (l, .lit (.row nl :: .v (I 0) :: tl.map .v) e0) :: (nl, .row 5 1 (putL bl k ls).length ((putL bl k ls).flatMap encByte)) :: O) (nl + 1) (fun _ => V) := by
 refine s_callWR (fun _ => True) (fun _ => .tup []) l e0 5 1 (fun _ => (putL bl k ls).length) (fun _ => (putL bl k ls).flatMap encByte) (fun _ => .row nl :: .v (I 0) :: tl.map .v) hv fnok101 hl
  (fun _ => by simp only [allOk, A.ok, blt_iff, Bool.and_eq_true, Bool.true_and]; exact ⟨by omega, (den_plain E0 tl).2 _⟩) (fun _ => rfl) ?_
 intro E w hm hb
 obtain ⟨lv, ha, hlv⟩ := hss E
 rw [ha]
 refine (bput_c k bl (E.κ r) ls lv (E.ρ l) e0 tl w (by rw [hb]; simp only [List.map_cons, (den_plain E tl).1]; rfl) (hm.rowOfDel r hl hr (fun _ => rfl)) (hlv w hm) hok hbn hln).mono ?_
 rintro e w' ⟨rfl, v, ht, hown, hv'⟩
 refine ⟨(), v, rfl, ht, hown, ?_, trivial⟩
 rw [hv']
 simp only [List.map_cons, (den_plain _ tl).1]
 simp [A.den, Env.setκ]
end
theorem putOk_four {c : Nat} (h : c < 4294967296) : putOk 4 [(c : Int)] = true := by
 have : mostN (4 : Int).toNat = 4294967295 := by decide
 simp only [putOk, List.all_cons, List.all_nil, Bool.and_true, fitsB, this]
 simp [widthB]
 omega
theorem putL_one (bl : List UInt8) (k : Int) (n : Int) : putL bl k [n] = bl ++ leB k n := by simp [putL]
theorem sealed_c (kind : Int) (hk : R8 kind) (s : ByteArray) (hs : s.size ≤ maxLen) (bv : Value) (b : Nat) (w : World) (hb : w.heap[b]? = some (.cells [bv, I 0, I8 kind].toArray 151 (0, 0))) :
  Calls Tryz.prog 102 #[.pointer (some ⟨b, 0, none⟩), S s] w fun e w' => e = .returned (.tuple #[S (sealS kind s).1, I (sealS kind s).2]) ∧ ∃ vs : List Value, Go.Eng.Touch (· = b) w w' ∧ w'.heap[b]? = some (.cells vs.toArray 151 (0, 0)) := by
 unfold R8 at hk
 simp only [maxLen] at hs
 refine enter1 [.a (.ptr 0 0), .a (.v (S s))] hb Tryz.func102 rfl rfl rfl rfl ?_
 refine c_seq (c_region ?_)
 iterate 2 refine yO rfl rfl rfl rfl ?_
 refine o_end [0, 1] rfl ?_
 refine x_then (c_seq (c_seq (c_region ?_)))
 iterate 10 refine yO rfl rfl rfl rfl ?_
 refine o_end [0, 1, 15] rfl ?_
 refine x_then ?_
 refine c_cond rfl (fun h => ?_) (fun h => ?_)
 ·
  simp only [Xa, Xb, Xc, Xd, Xe, Xf, Xg, Xh, Xi, Xj, Xk, Xl, Xm, Xn, Xo, Xp] at h
  refine c_seq (c_region ?_)
  iterate 2 refine yO rfl rfl rfl rfl ?_
  refine o_end [4, 5] rfl ?_
  refine x_then (c_ret (x_then_ret ?_))
  refine b_ret tok rfl ?_
  intro E w' hm _
  obtain ⟨h1, h2⟩ := back1 hm (Vw.le.refl _) rfl rfl rfl
  refine ⟨?_, _, h1, h2⟩
  rw [sealS, if_pos (by omega)]
  rfl
 ·
  simp only [Xa, Xb, Xc, Xd, Xe, Xf, Xg, Xh, Xi, Xj, Xk, Xl, Xm, Xn, Xo, Xp] at h
  refine c_skip (x_then (c_seq (c_region ?_)))
  iterate 6 refine yO rfl rfl rfl rfl ?_
  obtain ⟨h1, h2⟩ := h
  have hsz := size_list s
  have hk8 : (kindOf8 kind).toNat = kind.toNat := by
   rw [kindOf8, UInt8.toNat_ofNat']; omega
  rw [show IntKind.u8.wrap kind = (((kindOf8 kind).toNat : Nat) : Int) by rw [hk8, IntKind.wrap_u8']; omega]
  refine o_step rfl rfl rfl rfl rfl (s_bs tok 1 rfl rfl rfl) (fun _ _ => ?_)
  iterate 3 refine yO rfl rfl rfl rfl ?_
  refine o_store tok rfl rfl rfl (by first | (repeat' first | exact trivial | exact rfl | apply And.intro); done | simp [onesP, oneP, lk, Value.oneCell']) ?_
  refine o_end [0, 1] rfl ?_
  refine x_then (c_seq (c_region ?_))
  iterate 5 refine yO rfl rfl rfl rfl ?_
  refine o_step rfl rfl rfl rfl rfl (s_bs tok 1 rfl rfl rfl) (fun _ _ => ?_)
  refine o_step rfl rfl rfl rfl rfl (s_bput 0 3 151 5 [kindOf8 kind] 2 [(s.size : Int)] [I8 kind] _ rfl (fun E => ⟨E.κ 4, rfl, fun w hm => hm.rowOfDel (enc := encI64) (L := [(s.size : Int)]) 4 rfl rfl (fun _ => rfl)⟩) rfl rfl (putOk_two (by omega)) (by simp) (by simp)) (fun _ _ => ?_)
  refine o_end [0, 1] rfl ?_
  refine x_then (c_seq (c_region ?_))
  iterate 7 refine yO rfl rfl rfl rfl ?_
  have hb3 : (putL [kindOf8 kind] 2 [(s.size : Int)]).length = 3 := by simp [putL, leB, leTake_len]
  refine o_step rfl rfl rfl rfl rfl (s_app tok (byteVs s) rfl (fun _ _ _ => Src.str s) (fun _ _ _ => by rw [byteVs_eq]; exact bytes_ones _) (by dsimp only; rw [hb3]; omega)) (fun _ _ => ?_)
  iterate 3 refine yO rfl rfl rfl rfl ?_
  refine o_store tok rfl rfl rfl (by first | (repeat' first | exact trivial | exact rfl | apply And.intro); done | simp [onesP, oneP, lk, Value.oneCell']) ?_
  refine o_end [0] rfl ?_
  refine x_then (c_seq ?_)
  refine c_held [] ([]) mixed (by repeat (first | exact oN | refine oC rfl ?_)) (by first | rfl | simp [okCels, allOk_plain]) ?_
  refine t_take 0 rfl (by kernel_rfl) rfl rfl rfl (yV rfl) rfl ?_
  refine t_take 1 rfl (by kernel_rfl) rfl rfl rfl (yV rfl) rfl ?_
  refine t_take 2 rfl (by kernel_rfl) rfl rfl rfl (yV rfl) rfl ?_
  refine t_take 3 rfl (by kernel_rfl) rfl rfl rfl (yV rfl) rfl ?_
  refine t_take 4 rfl (by kernel_rfl) rfl rfl rfl (yV rfl) rfl ?_
  refine t_take 5 rfl (by kernel_rfl) rfl rfl rfl (yV rfl) rfl ?_
  refine t_take 6 rfl (by kernel_rfl) rfl rfl rfl (yV rfl) rfl ?_
  refine t_go ?_
  refine h_one 7 (by kernel_rfl) ?_
  refine yH 7 rfl rfl rfl rfl rfl ?_
  refine h_one 8 (by kernel_rfl) ?_
  rw [byteVs_eq, ← List.flatMap_append, ← hsz, ← List.length_append, show putL [kindOf8 kind] 2 [(s.data.toList.length : Int)] ++ s.data.toList = body (kindOf8 kind) s.data.toList from rfl]
  have hbl := body_len (kindOf8 kind) s.data.toList
  obtain ⟨B, hB⟩ : ∃ B, body (kindOf8 kind) s.data.toList = B := ⟨_, rfl⟩
  rw [hB] at hbl ⊢
  have hc := crcOf_lt B
  refine h_call 8 (.a (.v _)) rfl rfl rfl fnok109 rfl rfl rfl (fun hg E w1 hm => by exact sum_crc _ _ B _ (Vw.le.refl _) (hm.rowOf 6 rfl (fun _ => rfl)) (by simp only [maxLen]; omega)) ?_
  refine h_one 9 (by kernel_rfl) ?_
  refine h_to 9 rfl rfl rfl rfl rfl rfl (s_bs tok 1 rfl rfl rfl) (.inr fun _ _ => ⟨(by repeat (first | exact oN | refine oC rfl ?_)), rfl, (by first | exact Vw.le.refl _ | assumption)⟩) (fun _ _ => ?_)
  refine h_one 10 (by kernel_rfl) ?_
  refine h_to 10 rfl rfl rfl rfl rfl rfl (s_bput 0 6 151 5 B 4 [(crcOf B : Int)] [I8 kind] _ rfl (fun E => ⟨E.κ 7, rfl, fun w hm => hm.rowOfDel (enc := encI64) (L := [(crcOf B : Int)]) 7 rfl rfl (fun _ => rfl)⟩) rfl rfl (putOk_four hc) (by omega) (by simp)) (.inr fun _ _ => ⟨(by repeat (first | exact oN | refine oC rfl ?_)), rfl, (by first | exact Vw.le.refl _ | assumption)⟩) (fun _ _ => ?_)
  refine h_done [0] (by kernel_rfl) rfl ?_
  refine x_then (c_seq ?_)
  refine c_draw mixed (by kernel_rfl) ?_
  iterate 5 refine d_yield rfl rfl rfl (yV rfl) rfl ?_
  refine d_yield rfl rfl rfl (y_own (s := .a (.v (.string (strOf (putL B 4 [(crcOf B : Int)]))))) 8 rfl rfl (fun v V' hs => y_b2s tok _ rfl (fun hg => hs))) rfl ?_
  iterate 7 refine d_yield rfl rfl rfl (yV rfl) rfl ?_
  refine d_end [4, 5] rfl ?_
  refine x_then (c_ret ?_)
  refine b_ret tok rfl ?_
  intro E w' hm _
  obtain ⟨h3, h4⟩ := back1 hm (Vw.le.refl _) rfl rfl rfl
  refine ⟨?_, _, h3, h4⟩
  rw [sealS, if_neg (by omega), sealL, hB]
  show Ending.returned (.tuple #[S (strOf (putL B 4 [(crcOf B : Int)])), I 0]) = _
  rw [putL_one, leB]
  rfl
def packL : List Int → List Int → List UInt8
 | k :: ks, n :: ns => leB k n ++ packL ks ns
 | _, _ => []
theorem packL_succ : ∀ {ks ns : List Int} {i : Nat} {k n : Int}, ks[i]? = some k → ns[i]? = some n → packL (ks.take (i + 1)) (ns.take (i + 1)) = packL (ks.take i) (ns.take i) ++ leB k n
 | k0 :: ks, n0 :: ns, 0, k, n, hk, hn => by
  simp at hk hn
  subst hk hn
  simp [packL]
 | k0 :: ks, n0 :: ns, i + 1, k, n, hk, hn => by
  simp only [List.getElem?_cons_succ] at hk hn
  have := packL_succ hk hn
  simp only [List.take_succ_cons, packL, this, List.append_assoc]
 | [], _, _, _, _, hk, _ => by simp at hk
 | _ :: _, [], _, _, _, _, hn => by simp at hn
theorem make_c (kind : Int) (hk : R8 kind) (t : ByteArray) (V : Vw) (kv nv : Value) (ks ns : List Int) (w : World) (ht : t.size ≤ 1099511627776) (hV : V.le (vw w)) (hks : SlOf V encI64 1 kv ks) (hns : SlOf V encI64 1 nv ns)
  (hlen : ks.length = ns.length) (hn : ns.length ≤ 1000) (hfit : ∀ (i : Nat) (k n : Int), ks[i]? = some k → ns[i]? = some n → putOk k [n] = true) (hsz : ∀ i : Nat, (packL (ks.take i) (ns.take i)).length ≤ 505) :
  Calls Tryz.prog 88 #[I8 kind, S t, kv, nv] w fun e w' => e = .returned (.tuple #[S (sealS kind (strOf (packL ks ns) ++ t)).1, I (sealS kind (strOf (packL ks ns) ++ t)).2]) ∧ Below w.heap.size w w' := by
 have hks' := hks.mono hV
 have hns' := hns.mono hV
 refine enter (E := E0) (O := []) (nl := 0) (V := vw w) [.a (.v (I8 kind)), .a (.v (S t)), .a (.v kv), .a (.v nv)] Tryz.func88 rfl rfl (mem0 E0 0 w) rfl rfl ?_
 refine c_seq (c_region ?_)
 iterate 2 refine yO rfl rfl rfl rfl ?_
 refine o_end [0, 1, 2, 3] rfl ?_
 refine x_then (c_seq (c_region ?_))
 iterate 2 refine yO rfl rfl rfl rfl ?_
 refine o_new tok rfl rfl rfl rfl ?_
 refine yO rfl rfl rfl rfl ?_
 refine o_end [1, 2, 3, 10] rfl ?_
 refine x_then (c_seq (c_seq (c_region ?_)))
 refine yO rfl rfl rfl rfl ?_
 refine o_yield rfl rfl rfl (y_len tok rfl (fun hg => hks'.sl)) ?_
 refine yO rfl rfl rfl rfl ?_
 refine o_yield rfl rfl rfl (y_len tok rfl (fun hg => hns'.sl)) ?_
 refine yO rfl rfl rfl rfl ?_
 refine o_end [1, 2, 3, 10, 20] rfl ?_
 refine x_then ?_
 refine c_cond rfl (fun h => ?_) (fun h => ?_)
 ·
  simp only [Xa, Xb, Xc, Xd, Xe, Xf, Xg, Xh, Xi, Xj, Xk, Xl, Xm, Xn, Xo, Xp] at h
  refine c_seq (c_region ?_)
  iterate 2 refine yO rfl rfl rfl rfl ?_
  refine o_end [8, 9] rfl ?_
  refine x_then (c_ret (x_then_ret ?_))
  refine b_ret tok rfl ?_
  omega
 ·
  simp only [Xa, Xb, Xc, Xd, Xe, Xf, Xg, Xh, Xi, Xj, Xk, Xl, Xm, Xn, Xo, Xp] at h
  refine c_skip (x_then (c_seq (c_seq (c_region ?_))))
  refine yO rfl rfl rfl rfl ?_
  refine o_yield rfl rfl rfl (y_len tok rfl (fun hg => hns'.sl)) ?_
  refine yO rfl rfl rfl rfl ?_
  refine o_end [1, 2, 10, 21, 22, 23] rfl ?_
  refine x_then (c_block ?_)
  refine k_nilO 0 0 5 1 rfl rfl ?_
  refine c_loopK [1, 2, 10, 21, 22] [0, 1] rfl rfl (σ := Nat) (fun i => [(23, .a (.v (I i)))]) (fun i => [(0, .lit (.row 1 :: .v (I 0) :: [I8 kind].map .v) 151), (1, .row 5 1 (packL (ks.take i) (ns.take i)).length ((packL (ks.take i) (ns.take i)).flatMap encByte))]) (fun i => i ≤ ns.length) (fun i => ns.length - i) (0) (by omega) (by repeat (first | exact fN | refine fC rfl ?_)) (by repeat (first | exact oN | refine oC rfl ?_)) rfl ?_
  rintro i hi
  refine c_seq (c_region ?_)
  refine yO rfl rfl rfl rfl ?_
  refine o_end [1, 2, 10, 21, 22, 23, 24] rfl ?_
  refine x_then (c_seq ?_)
  refine c_cond rfl (fun h => ?_) (fun h => ?_)
  ·
   simp only [Xa, Xb, Xc, Xd, Xe, Xf, Xg, Xh, Xi, Xj, Xk, Xl, Xm, Xn, Xo, Xp] at h
   refine c_skip (x_then (c_seq (c_block (c_seq (c_region ?_)))))
   refine yO rfl rfl rfl rfl ?_
   obtain ⟨n, h_n⟩ := hns'.at (k := i) (by omega)
   have hlt_n := lt_of_at h_n
   refine o_yield rfl rfl rfl (y_idx tok rfl (fun hg => hns'.sl) (fun hg => ⟨by omega, by omega⟩)) ?_
   refine o_yield rfl rfl rfl (y_lel tok (i) 0 (n) rfl (fun hg => hns') (fun hg => h_n) rfl rfl) ?_
   iterate 2 refine yO rfl rfl rfl rfl ?_
   refine o_end [1, 2, 10, 11, 12, 21, 22, 23] rfl ?_
   refine x_then (c_seq ?_)
   refine c_held [] ([]) mixed (by repeat (first | exact oN | refine oC rfl ?_)) (by first | rfl | simp [okCels, allOk_plain]) ?_
   refine t_take 0 rfl (by kernel_rfl) rfl rfl rfl (yV rfl) rfl ?_
   refine t_take 1 rfl (by kernel_rfl) rfl rfl rfl (yV rfl) rfl ?_
   refine t_take 2 rfl (by kernel_rfl) rfl rfl rfl (yV rfl) rfl ?_
   refine t_take 3 rfl (by kernel_rfl) rfl rfl rfl (yV rfl) rfl ?_
   refine t_take 4 rfl (by kernel_rfl) rfl rfl rfl (yV rfl) rfl ?_
   obtain ⟨k, h_k⟩ := hks'.at (k := i) (by omega)
   have hlt_k := lt_of_at h_k
   refine t_take 5 rfl (by kernel_rfl) rfl rfl rfl (y_idx tok rfl (fun hg => hks'.sl) (fun hg => ⟨by omega, by omega⟩)) rfl ?_
   refine t_take 6 rfl (by kernel_rfl) rfl rfl rfl (y_lel tok (i) 0 (k) rfl (fun hg => hks') (fun hg => h_k) rfl rfl) rfl ?_
   refine t_take 7 rfl (by kernel_rfl) rfl rfl rfl (yV rfl) rfl ?_
   refine t_go ?_
   refine h_one 8 (by kernel_rfl) ?_
   have hpi := hsz i
   have hps := hsz (i + 1)
   refine h_to 8 rfl rfl rfl rfl rfl rfl (s_bs tok 1 rfl rfl rfl) (.inr fun _ _ => ⟨(by repeat (first | exact oN | refine oC rfl ?_)), rfl, (by first | exact Vw.le.refl _ | assumption)⟩) (fun _ _ => ?_)
   refine h_one 9 (by kernel_rfl) ?_
   refine h_to 9 rfl rfl rfl rfl rfl rfl (s_bput 0 1 151 5 (packL (ks.take i) (ns.take i)) k [n] [I8 kind] _ rfl (fun E => ⟨E.κ 2, rfl, fun w hm => hm.rowOfDel (enc := encI64) (L := [n]) 2 rfl rfl (fun _ => rfl)⟩) rfl rfl (hfit i k n h_k h_n) (by omega) (by simp)) (.inr fun _ _ => ⟨(by repeat (first | exact oN | refine oC rfl ?_)), rfl, (by first | exact Vw.le.refl _ | assumption)⟩) (fun _ _ => ?_)
   refine h_done [1, 2, 10, 21, 22, 23] (by kernel_rfl) rfl ?_
   refine x_then (c_seq (c_region ?_))
   iterate 12 refine yO rfl rfl rfl rfl ?_
   rw [putL_one, ← packL_succ h_k h_n]
   iterate 3 refine yO rfl rfl rfl rfl ?_
   refine o_end [1, 2, 10, 21, 22, 23, 52] rfl ?_
   refine x_then ?_
   refine c_cond rfl (fun h => ?_) (fun h => ?_)
   ·
    simp only [Xa, Xb, Xc, Xd, Xe, Xf, Xg, Xh, Xi, Xj, Xk, Xl, Xm, Xn, Xo, Xp] at h
    refine c_seq (c_region ?_)
    iterate 2 refine yO rfl rfl rfl rfl ?_
    refine o_end [8, 9] rfl ?_
    refine x_then (c_ret (x_block_ret (x_then_ret (x_then_ret (x_block_ret ?_)))))
    refine x_then_ret ?_
    refine b_ret tok rfl ?_
    simp at h
    omega
   ·
    simp only [Xa, Xb, Xc, Xd, Xe, Xf, Xg, Xh, Xi, Xj, Xk, Xl, Xm, Xn, Xo, Xp] at h
    refine c_skip (x_block (x_then (c_region ?_)))
    iterate 2 refine yO rfl rfl rfl rfl ?_
    refine o_end [1, 2, 10, 21, 22, 23] rfl ?_
    refine x_then ?_
    rw [wrapI (n := (i : Int) + 1) (by omega) (by omega)]
    refine k_swap 1 3 rfl ?_
    refine x_round (i + 1) (by omega) (by first | omega | (dsimp only; omega)) (by repeat (first | exact fN | refine fC rfl ?_)) (by repeat (first | exact oN | refine oC rfl ?_)) rfl (Vw.le.refl _)
  ·
   simp only [Xa, Xb, Xc, Xd, Xe, Xf, Xg, Xh, Xi, Xj, Xk, Xl, Xm, Xn, Xo, Xp] at h
   refine c_exit (x_then_exit (x_then_exit (x_block_hit (x_then (c_seq ?_)))))
   refine c_region ?_
   iterate 6 refine yO rfl rfl rfl rfl ?_
   have hil : i = ns.length := by omega
   subst hil
   have hpi := hsz ns.length
   rw [List.take_length, show ks.take ns.length = ks by rw [← hlen, List.take_length]] at hpi ⊢
   refine o_yield rfl rfl rfl (y_own (s := .a (.v (.string (strOf (packL ks ns))))) 1 rfl rfl (fun v V' hs => y_b2s tok _ rfl (fun hg => hs))) ?_
   refine yO rfl rfl rfl rfl ?_
   have hst := strOf_size (packL ks ns)
   refine o_yield rfl rfl rfl (y_cat rfl (fun hg => by omega)) ?_
   have hcs : (strOf (packL ks ns) ++ t).size = (packL ks ns).length + t.size := by rw [ByteArray.size_append, hst]
   refine o_step rfl rfl rfl rfl rfl (s_callW (fun _ => True) (fun _ : List Value => .tup [.v (S (sealS kind (strOf (packL ks ns) ++ t)).1), .v (I (sealS kind (strOf (packL ks ns) ++ t)).2)]) 0 151 (fun vs => vs.map .v) rfl fnok102 rfl (fun vs => (den_plain E0 vs).2 _) (fun _ => rfl) (fun E w1 hm hb => (sealed_c kind hk (strOf (packL ks ns) ++ t) (by simp only [maxLen]; omega) _ (E.ρ 0) w1 hb).mono fun e w' h => ⟨h.2.choose, h.1, h.2.choose_spec.1, by rw [(den_plain E _).1]; exact h.2.choose_spec.2, trivial⟩)) (fun _ _ => ?_)
   iterate 4 refine yO rfl rfl rfl rfl ?_
   refine o_end [8, 9] rfl ?_
   refine x_then (c_ret ?_)
   refine b_ret tok rfl ?_
   intro E w' hm _
   refine ⟨?_, hm.below (Vw.le.refl _)⟩
   rfl
def rNums (r : Record) : List Int := [r.key, r.lsn, r.block, r.k, r.count]
def recBytes (r : Record) : ByteArray := strOf (sealL 6 (packL rWidths (rNums r) ++ r.text.data.toList))
def bytesV (r : Record) : ByteArray := if recB r = true then recBytes r else ByteArray.empty
def bytesE (r : Record) : Int := if recB r = true then 0 else 2
structure RecOk (r : Record) : Prop where
 key : 16 ≤ r.key ∧ r.key ≤ 1099511627776
 lsn : 0 ≤ r.lsn ∧ r.lsn ≤ 1099511627776
 block : 0 ≤ r.block ∧ r.block < 64
 k : 0 ≤ r.k ∧ r.k < 8
 count : 0 ≤ r.count ∧ r.count < 64
 text : r.text.size ≤ 256
theorem recOk {r : Record} (h : recB r = true) : RecOk r := by
 simp only [recB, keyB, belowB, Bool.and_eq_true, decide_eq_true_eq] at h
 obtain ⟨⟨⟨h1, h2⟩, h3⟩, h4⟩ := h
 split at h4
 ·
  simp only [Bool.and_eq_true, decide_eq_true_eq, beq_iff_eq] at h4
  exact ⟨h1, by omega, by omega, by omega, h3, by omega⟩
 ·
  simp only [Bool.and_eq_true, decide_eq_true_eq, belowB] at h4
  exact ⟨h1, by omega, h4.1.1, h4.1.2, h3, by omega⟩
theorem pack_len : ∀ (ks ns : List Int), (packL ks ns).length ≤ (ks.map Int.toNat).sum
 | k :: ks, n :: ns => by
  have := pack_len ks ns
  simp only [packL, leB, List.length_append, leTake_len, List.map_cons, List.sum_cons]; omega
 | [], _ => by simp [packL]
 | _ :: _, [] => by simp [packL]
def mkRec (r : Record) : ByteArray × Int := sealS 6 (strOf (packL rWidths (rNums r)) ++ r.text)
theorem leTo_congr_lt {f g : Nat → Nat} : ∀ {k : Nat}, (∀ j, j < k → f j = g j) → leTo f k = leTo g k
 | 0, _ => rfl
 | k + 1, h => by rw [leTo, leTo, leTo_congr_lt (fun j hj => h j (by omega)), h k (by omega)]
theorem leTo_digits (q : Nat) : ∀ k, leTo (fun j => q / pw j % 256) k = q % pw k
 | 0 => by simp [leTo, pw, Nat.mod_one]
 | k + 1 => by
  rw [leTo, leTo_digits q k, pw_succ, Nat.mod_mul, Nat.mul_comm (pw k)]
theorem fits_nat {n k : Int} (h : fitsB n k = true) : ∃ q m : Nat, n = q ∧ k = m ∧ 1 ≤ m ∧ m ≤ 6 ∧ q < pw m ∧ q ≤ 1099511627776 := by
 simp only [fitsB, widthB, Bool.and_eq_true, decide_eq_true_eq] at h
 obtain ⟨⟨⟨h1, h2⟩, h3⟩, h4⟩ := h
 refine ⟨n.toNat, k.toNat, by omega, by omega, by omega, by omega, ?_, ?_⟩
 ·
  have := pw_pos k.toNat
  unfold mostN at h4
  unfold pw
  unfold pw at this
  omega
 · unfold mostN at h4; omega
theorem getSpec_pack {n k : Int} (h : fitsB n k = true) (R : List UInt8) : getSpec (strOf (leB k n ++ R)) 0 k = (n, 0) := by
 have hw : widthB k = true := by
  simp only [fitsB, Bool.and_eq_true] at h; exact h.1.1
 obtain ⟨q, m, rfl, rfl, h1, h2, h3, h4⟩ := fits_nat h
 have hd : leTo (digit (strOf (leB m q ++ R)) (0 : Int).toNat) (m : Int).toNat = q := by
  rw [Int.toNat_natCast, leTo_congr_lt (g := fun j => q / pw j % 256) (fun j hj => ?_), leTo_digits, Nat.mod_eq_of_lt h3]
  rw [digit, byteAt_list, strOf_list]
  have hlen : j < (leB (m : Int) (q : Int)).length := by rw [leB, leTake_len]; exact hj
  rw [List.getD, List.getElem?_append_left (by simpa using hlen)]
  simp only [leB, leTake, Int.toNat_natCast, Int.toNat_zero, Nat.zero_add, List.getElem?_map, List.getElem?_range hj, Option.map_some, Option.getD_some]
  exact ofNat_mod _
 rw [getSpec, if_neg (by simp [hw]), hd, if_neg (by rw [strOf_size, List.length_append, leB, leTake_len]; omega), if_neg (by omega)]
theorem restOf_pack (n k : Int) (R : List UInt8) : restOf (strOf (leB k n ++ R)) k.toNat = strOf R := by
 apply str_ext
 rw [restOf_list, strOf_list, strOf_list, List.drop_left']
 rw [leB, leTake_len]
theorem fldA_pack : ∀ (ks ns acc : List Int) (R : List UInt8), ks.length = ns.length → (∀ (i : Nat) (k n : Int), ks[i]? = some k → ns[i]? = some n → fitsB n k = true) → fldA acc (strOf (packL ks ns ++ R)) ks = some (acc ++ ns, strOf R)
 | [], [], acc, R, _, _ => by simp [fldA, packL]
 | k :: ks, n :: ns, acc, R, hl, h => by
  have h0 := h 0 k n rfl rfl
  rw [packL, List.append_assoc, fldA, getSpec_pack h0, if_neg (by simp), restOf_pack, fldA_pack ks ns (acc ++ [n]) R (by simpa using hl) (fun i k n hk hn => h (i + 1) k n (by simpa using hk) (by simpa using hn))]
  simp
 | [], _ :: _, _, _, hl, _ => by simp at hl
 | _ :: _, [], _, _, hl, _ => by simp at hl
theorem seal_shape (k : UInt8) (load : List UInt8) : ∃ b1 b2 T, sealL k load = k :: b1 :: b2 :: (load ++ T) ∧ T.length = 4 := by
 refine ⟨UInt8.ofNat (load.length / pw 0 % 256), UInt8.ofNat (load.length / pw 1 % 256), leTake (crcOf (body k load)) 4, ?_, leTake_len _ _⟩
 obtain ⟨c, hc⟩ : ∃ c, leTake (crcOf (body k load)) 4 = c := ⟨_, rfl⟩
 rw [sealL, hc, body_eq]
 rfl
theorem loadOf_seal (k : UInt8) (load : List UInt8) : loadOf (strOf (sealL k load)) = strOf load := by
 obtain ⟨b1, b2, T, h1, h2⟩ := seal_shape k load
 have hsz : (strOf (sealL k load)).size = 7 + load.length := by rw [strOf_size, sealL_len]
 apply str_ext
 rw [loadOf, ByteArray.data_extract, Array.toList_extract, List.extract_eq_take_drop, hsz, strOf_list, strOf_list, h1, show 7 + load.length - 4 - 3 = load.length by omega]
 simp
theorem byteAt_seal (k : UInt8) (load : List UInt8) : byteAt (strOf (sealL k load)) 0 = k := by
 obtain ⟨b1, b2, T, h1, _⟩ := seal_shape k load
 rw [byteAt_list, strOf_list, h1]
 rfl
theorem openB_seal {k : UInt8} {load : List UInt8} (h1 : 1 ≤ k.toNat) (h2 : k.toNat ≤ 127) (h3 : load.length ≤ 505) : openB (strOf (sealL k load)) = true := by
 have hsz : (strOf (sealL k load)).size = 7 + load.length := by rw [strOf_size, sealL_len]
 simp only [openB, Bool.and_eq_true, decide_eq_true_eq]
 rw [byteAt_seal, loadOf_seal, strOf_list, strOf_list, hsz]
 exact ⟨⟨⟨⟨by omega, by omega⟩, h1⟩, h2⟩, rfl⟩
end Go.Proofs.YtlafboeohojcbaaGreat
